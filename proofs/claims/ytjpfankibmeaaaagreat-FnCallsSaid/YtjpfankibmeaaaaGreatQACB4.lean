/-
  Walks, one after the other (part 5).
-/
import Derived.Test.YtjpfankibmeaaaaGreatQACL1
import Derived.Test.YtjpfankibmeaaaaGreatQACB3
import Derived.Test.YtjpfankibmeaaaaGreatQACB1
set_option linter.unusedSimpArgs false
set_option linter.unusedVariables false
namespace Go.Proofs.YtjpfankibmeaaaaGreat
open Go X M Tryz

/- (impl.Front).isCall -/
set_option maxRecDepth 20000 in
theorem isCall_spec {F : FH} {L : List HP} {arv : Value} {ar : List Int} (har : IntsF F arv ar) {fsv : Value} {fs : List Int} (hfs : IntsF F fsv fs) {lsv : Value} {ls : List LineT} (hls : LinesF F lsv ls) {tv : Value} {t : List Int} (ht : IntsF F tv t) (hl1 : 1 ≤ t.length ∧ t.length ≤ 4000000) (hlf : fs.length ≤ 4000000) :
    Does prog 253 [.agg #[arv, fsv, lsv], tv] F (L) (fun v F' L' => (.bool ((decide (t.getD 0 0 ∈ fs) && freeB fs (t.drop 1))) : Value) = v ∧ F = F' ∧ L = L') := by
 refine qG func253 rfl rfl rfl ?_
 have htk : (t.drop 1).take (t.length - 1) = t.drop 1 := List.take_of_length_le (by simp)
 refine qd (qb (cX (jb [arv, fsv, lsv] rfl rfl ?_)))
 intro b1
 refine qh (.bool (false)) rfl (qc (qd ?_))
 by_cases h1 : (t.getD 0 0) ∈ fs
 ·refine jM [cellsH b1 [arv, fsv, lsv] 108] L 10 [] [[], [0], [], [2], [3], [1, 4], [5], [6], [6], [6, 8]] [] (phiG [pe (ptr b1 1), pe fsv, pe tv, pe (.pointer (some (elemA tv (0)))), pe (ii (t.getD 0 0)), pe (.bool (decide ((t.getD 0 0) ∈ fs))), pe (.bool (decide ((t.getD 0 0) ∈ fs))), pe (.agg #[arv, fsv, lsv]), pe tv, fun FF us v => (v : Value) = v ∧ (IntsF FF v ((t.drop 1).take (((t).length) - 1))) ∧ (isNil v = isNil tv)]) (ownL []) mixed rfl rfl (by kernel_rfl) (by kernel_rfl) (MonoG.get (m1 (m1 (m1 (m1 (m1 (m1 (m1 (m1 (m1 (mC (fun le h => ⟨h.1, h.2.1.mono le, h.2.2⟩) MonoG.nil))))))))))) ?_ ?_
  ·refine gD (fun W Fs R lF z9 => ?_) ?_
   ·refine qi (qk (1) qy rfl qA (by decide) rfl rfl ?_)
    exact ⟨rfl, rfl⟩
   refine gD (fun W Fs R lF z9 => ?_) ?_
   ·replace har := har.mono lF
    replace hfs := hfs.mono lF
    replace hls := hls.mono lF
    replace ht := ht.mono lF
    rw [zA 0 (z9 0 rfl)]
    refine qi (qj qU rfl (Rd.own [] rfl rfl) ?_)
    exact ⟨rfl, rfl⟩
   refine gD (fun W Fs R lF z9 => ?_) ?_
   ·refine qi (qm (tv) rfl ?_)
    exact ⟨rfl, rfl⟩
   refine gD (fun W Fs R lF z9 => ?_) ?_
   ·replace har := har.mono lF
    replace hfs := hfs.mono lF
    replace hls := hls.mono lF
    replace ht := ht.mono lF
    rw [zA 2 (z9 2 rfl)]
    refine qi (qt 0 qf qq rfl rfl rfl ht.slv (by omega) (Nat.mul_one _) ?_)
    exact ⟨rfl, rfl⟩
   refine gD (fun W Fs R lF z9 => ?_) ?_
   ·replace har := har.mono lF
    replace hfs := hfs.mono lF
    replace hls := hls.mono lF
    replace ht := ht.mono lF
    rw [zA 3 (z9 3 rfl)]
    refine qi (qj qP rfl (ht.rd (by omega)) ?_)
    exact ⟨rfl, rfl⟩
   refine gD (fun W Fs R lF z9 => ?_) ?_
   ·replace har := har.mono lF
    replace hfs := hfs.mono lF
    replace hls := hls.mono lF
    replace ht := ht.mono lF
    rw [zB 1 4 (z9 1 rfl) (z9 4 rfl)]
    refine qi (qn (args := [fsv, ii (t.getD 0 0)]) call218 rfl (Contains_spec (n := t.getD 0 0) hfs (hbd := (by first | assumption | rfl | omega | simp))) ?_)
    rintro _ _ _ _ ⟨rfl, rfl, rfl⟩
    exact ⟨rfl, rfl⟩
   refine gD (fun W Fs R lF z9 => ?_) ?_
   ·rw [zA 5 (z9 5 rfl)]
    refine qi (qm (.bool (decide ((t.getD 0 0) ∈ fs))) rfl ?_)
    exact ⟨rfl, rfl⟩
   refine gD (fun W Fs R lF z9 => ?_) ?_
   ·replace har := har.mono lF
    replace hfs := hfs.mono lF
    replace hls := hls.mono lF
    replace ht := ht.mono lF
    rw [zA 6 (z9 6 rfl)]
    refine qZ (t := 11) rfl (vT h1) (qu [arv, fsv, lsv] jj qT rfl rfl (Rd.ownN [] rfl rfl) ?_)
    exact ⟨rfl, rfl⟩
   refine gD (fun W Fs R lF z9 => ?_) ?_
   ·rw [zA 6 (z9 6 rfl)]
    refine qZ (t := 11) rfl (vT h1) (qm (tv) rfl ?_)
    exact ⟨rfl, rfl⟩
   refine gD (fun W Fs R lF z9 => ?_) ?_
   ·replace har := har.mono lF
    replace hfs := hfs.mono lF
    replace hls := hls.mono lF
    replace ht := ht.mono lF
    rw [zB 6 8 (z9 6 rfl) (z9 8 rfl)]
    refine qZ (t := 11) rfl (vT h1) (jV 1 ((t).length) qf qq rfl ht ⟨_, rfl⟩ rfl (by omega) (by omega) ?_)
    intro v2 hv2 hn2
    exact ⟨⟨rfl, hv2, hn2⟩, rfl⟩
   exact stepsG.nil
  intro W F1 le1 hphi
  obtain ⟨e9, f9_2hv, f9_2hn⟩ := hphi 9 (by decide)
  generalize hu1 : (W 9) = u1 at e9 f9_2hv f9_2hn
  rw [eS (l := [(6, _), (7, _), (9, u1)]) ⟨(hphi 6 (by decide)), (hphi 7 (by decide)), hu1, ⟨⟩⟩]
  replace har := har.mono le1
  replace hfs := hfs.mono le1
  replace hls := hls.mono le1
  replace ht := ht.mono le1
  show XL _ _ _ _ _ _ _ (cellsH b1 [arv, fsv, lsv] 108 :: L)
  refine qo (t := 11) rfl (vT h1) (qn (args := [.agg #[arv, fsv, lsv], u1]) call263 rfl (calls_spec har hfs hls f9_2hv (hlt := (by simp; omega)) (hlf := (hlf))) ?_)
  rintro _ _ _ _ ⟨rfl, rfl, rfl⟩
  refine qo (t := 11) rfl (vT h1) (jt rfl (cX (qO (.bool (!(!(freeB fs (((t.drop 1).take (((t).length) - 1))))))) (vT h1) rfl (qh (.bool (!(!(freeB fs (((t.drop 1).take (((t).length) - 1))))))) rfl (qc (qw (qr (L' := L) [.bool (!(!(freeB fs (((t.drop 1).take (((t).length) - 1))))))] (.bool (!(!(freeB fs (((t.drop 1).take (((t).length) - 1))))))) (.tmp rfl .nil) rfl rF le1 (sD sR) ?_)))))))
  exact ⟨(vB (by (try rw [htk]); simp_all)), rfl, rfl⟩
 refine jx [cellsH b1 [arv, fsv, lsv] 108] L 10 [] [[], [0], [], [2], [3], [1, 4], [5], [6], [6], [6, 8]] (phiL [qe (ptr b1 1), qe fsv, qe tv, qe (.pointer (some (elemA tv (0)))), qe (ii (t.getD 0 0)), qe (.bool (decide ((t.getD 0 0) ∈ fs))), qe (.bool (decide ((t.getD 0 0) ∈ fs))), qe undef, qe undef, qe undef]) (ownL []) mixed rfl rfl (by kernel_rfl) ?_ ?_
 ·refine pD (fun W R z9 => ?_) ?_
  ·refine qi (qk (1) qy rfl qA (by decide) rfl rfl ?_)
   exact ⟨rfl, rfl, rfl⟩
  refine pD (fun W R z9 => ?_) ?_
  ·rw [zA 0 (z9 0 rfl)]
   refine qi (qj qU rfl (Rd.own [] rfl rfl) ?_)
   exact ⟨rfl, rfl, rfl⟩
  refine pD (fun W R z9 => ?_) ?_
  ·refine qi (qm (tv) rfl ?_)
   exact ⟨rfl, rfl, rfl⟩
  refine pD (fun W R z9 => ?_) ?_
  ·rw [zA 2 (z9 2 rfl)]
   refine qi (qt 0 qf qq rfl rfl rfl ht.slv (by omega) (Nat.mul_one _) ?_)
   exact ⟨rfl, rfl, rfl⟩
  refine pD (fun W R z9 => ?_) ?_
  ·rw [zA 3 (z9 3 rfl)]
   refine qi (qj qP rfl (ht.rd (by omega)) ?_)
   exact ⟨rfl, rfl, rfl⟩
  refine pD (fun W R z9 => ?_) ?_
  ·rw [zB 1 4 (z9 1 rfl) (z9 4 rfl)]
   refine qi (qn (args := [fsv, ii (t.getD 0 0)]) call218 rfl (Contains_spec (n := t.getD 0 0) hfs (hbd := (by first | assumption | rfl | omega | simp))) ?_)
   rintro _ _ _ _ ⟨rfl, rfl, rfl⟩
   exact ⟨rfl, rfl, rfl⟩
  refine pD (fun W R z9 => ?_) ?_
  ·rw [zA 5 (z9 5 rfl)]
   refine qi (qm (.bool (decide ((t.getD 0 0) ∈ fs))) rfl ?_)
   exact ⟨rfl, rfl, rfl⟩
  refine pD (fun W R z9 => ?_) ?_
  ·rw [zA 6 (z9 6 rfl)]
   exact jh (t := 11) rfl (vF h1) ⟨rfl, rfl, rfl⟩
  refine pD (fun W R z9 => ?_) ?_
  ·rw [zA 6 (z9 6 rfl)]
   exact jh (t := 11) rfl (vF h1) ⟨rfl, rfl, rfl⟩
  refine pD (fun W R z9 => ?_) ?_
  ·rw [eS (l := [(6, _), (8, undef)]) ⟨z9 6 rfl, z9 8 rfl, ⟨⟩⟩]
   exact jh (t := 11) rfl (vF h1) ⟨rfl, rfl, rfl⟩
  exact stepsP.nil
 intro W hphi
 rw [eS (l := [(6, _), (7, undef), (9, undef)]) ⟨(hphi 6 (by decide)), (hphi 7 (by decide)), (hphi 9 (by decide)), ⟨⟩⟩]
 show XL _ _ _ _ _ _ _ (cellsH b1 [arv, fsv, lsv] 108 :: L)
 refine qp (t := 11) rfl (vF h1) (qp (t := 11) rfl (vF h1) (cX (qN (.bool (false)) (vF h1) rfl (qh (.bool (false)) rfl (qc (qw (qr (L' := L) [.bool (false)] (.bool (false)) (.tmp rfl .nil) rfl rF rF (sD sR) ?_)))))))
 exact ⟨(vB (by (try rw [htk]); simp_all)), rfl, rfl⟩

/- (impl.Front).firstCall -/
set_option maxRecDepth 20000 in
theorem firstCall_spec {F : FH} {L : List HP} {arv : Value} {ar : List Int} (har : IntsF F arv ar) {fsv : Value} {fs : List Int} (hfs : IntsF F fsv fs) {lsv : Value} {ls : List LineT} (hls : LinesF F lsv ls) {tv : Value} {t : List Int} (ht : IntsF F tv t) (hsig : sigOk ar = true) (ho : termOk ar t = true) (hlf : fs.length ≤ 4000000) :
    Does prog 141 [.agg #[arv, fsv, lsv], tv] F (L) (fun v F' L' => (ii (if firstC ar fs t = t.length then -1 else ((firstC ar fs t : Nat) : Int)) : Value) = v ∧ F = F' ∧ L = L') := by
 refine qG func141 rfl rfl rfl ?_
 have htl := termOk_len ho
 have hnn := notNil_of_pos ht (by omega)
 refine qd (qb (cX (jb [arv, fsv, lsv] rfl rfl ?_)))
 intro b1
 refine qh (ii (0)) rfl (qc (qd (qd (qb (qg (tv) rfl (cX (qE qf rfl ht.slv (qg (ii (0)) rfl (qc (qH (jn (α := Nat) (fun k => [(1, tv), (2, ptr b1 0), (7, ii ((t.length : Int))), (8, ii ((k : Int)))]) (fun k => cellsH b1 [arv, fsv, lsv] 108 :: L) (fun k F' => F = F' ∧ (k ≤ t.length) ∧ (∀ i, i < k → callAt ar fs t i = false)) (fun k => t.length - k) 0 ⟨rfl, rfl, rfl, rfl, ⟨⟩⟩ (sC sR) ⟨rfl, (by (try dsimp only) <;> omega), (fun i hi => absurd hi (by omega))⟩ ?_)))))))))))
 rintro k rE _ _ ⟨rfl, hk, hall⟩
 show X _ _ _ _ (envs [(1, tv), (2, ptr b1 0), (7, ii ((t.length : Int))), (8, ii ((k : Int)))] rE) _ (cellsH b1 [arv, fsv, lsv] 108 :: L)
 refine qd (qb (cX (qQ rfl rfl (qc (qd ?_)))))
 refine qC (p := (k : Int) < (t.length : Int)) rfl (fun h1 => ?_) (fun h1 => ?_)
 ·refine qz (qd (qH (qd (qb (qg (ii ((k : Int))) rfl (qh (ii ((k : Int))) rfl (qc (qd ?_))))))))
  refine jM [cellsH b1 [arv, fsv, lsv] 108] L 6 [] [[], [], [1], [], [], [2, 3, 4]] [] (phiG [pe (.agg #[arv, fsv, lsv]), pe (ptr b1 0), pe (.agg #[arv]), pe tv, pe (ii ((k : Int)) : Value), fun FF us v => ((v) : Value) = v ∧ (IntsF FF (v) (sub ar t k)) ∧ (isNil (v) = false)]) (ownL []) mixed rfl rfl (by kernel_rfl) (by kernel_rfl) (MonoG.get (m1 (m1 (m1 (m1 (m1 (mC (fun le h => ⟨h.1, h.2.1.mono le, h.2.2⟩) MonoG.nil))))))) ?_ ?_
  ·refine gD (fun W Fs R lF z9 => ?_) ?_
   ·replace har := har.mono lF
    replace hfs := hfs.mono lF
    replace hls := hls.mono lF
    replace ht := ht.mono lF
    refine qi (qu [arv, fsv, lsv] jj qT rfl rfl (Rd.ownN [] rfl rfl) ?_)
    exact ⟨rfl, rfl⟩
   refine gD (fun W Fs R lF z9 => ?_) ?_
   ·refine qi (qk (0) qy rfl qJ (by decide) rfl rfl ?_)
    exact ⟨rfl, rfl⟩
   refine gD (fun W Fs R lF z9 => ?_) ?_
   ·replace har := har.mono lF
    replace hfs := hfs.mono lF
    replace hls := hls.mono lF
    replace ht := ht.mono lF
    rw [zA 1 (z9 1 rfl)]
    refine qi (qu [arv] jf qJ rfl rfl (Rd.ownN [] rfl rfl) ?_)
    exact ⟨rfl, rfl⟩
   refine gD (fun W Fs R lF z9 => ?_) ?_
   ·refine qi (qm (tv) rfl ?_)
    exact ⟨rfl, rfl⟩
   refine gD (fun W Fs R lF z9 => ?_) ?_
   ·refine qi (qm (ii ((k : Int))) rfl ?_)
    exact ⟨rfl, rfl⟩
   refine gD (fun W Fs R lF z9 => ?_) ?_
   ·replace har := har.mono lF
    replace hfs := hfs.mono lF
    replace hls := hls.mono lF
    replace ht := ht.mono lF
    rw [eS (l := [(2, _), (3, _), (4, _)]) ⟨z9 2 rfl, z9 3 rfl, z9 4 rfl, ⟨⟩⟩]
    refine qi (qn (args := [.agg #[arv], tv, ii (k : Int)]) call142 rfl (subAtW_spec (p := k) har ht (ho := (termW_of ho)) (hp := (by omega)) (hnn := (hnn))) ?_)
    rintro v2 _ _ _ ⟨rfl, rfl, hv2, hn2⟩
    exact ⟨⟨rfl, hv2, hn2⟩, rfl⟩
   exact stepsG.nil
  intro W F1 le1 hphi
  obtain ⟨e5, f5_1ha, f5_1hn⟩ := hphi 5 (by decide)
  generalize hu1 : ((W 5)) = u1 at e5 f5_1ha f5_1hn
  rw [eS (l := [(0, _), (5, u1)]) ⟨(hphi 0 (by decide)), hu1, ⟨⟩⟩]
  replace har := har.mono le1
  replace hfs := hfs.mono le1
  replace hls := hls.mono le1
  show XL _ _ _ _ _ _ _ (cellsH b1 [arv, fsv, lsv] 108 :: L)
  refine cX (qn (args := [.agg #[arv, fsv, lsv], u1]) call253 rfl (isCall_spec har hfs hls f5_1ha (hl1 := (by have h9 := termOk_len (sub_ok ho (show k < t.length by omega)); omega)) (hlf := (hlf))) ?_)
  rintro _ _ _ _ ⟨rfl, rfl, rfl⟩
  refine qc ?_
  refine jF (t := (decide (((sub ar t k)).getD 0 0 ∈ fs) && freeB fs (((sub ar t k)).drop 1))) rfl (fun h2 => ?_) (fun h2 => ?_)
  ·have hca : callAt ar fs t k = true := by unfold callAt; rw [← sub_head ho (by omega)]; exact h2
   refine qd (qb (qg (ii ((k : Int))) rfl (qh (ii ((k : Int))) rfl (qc (qw (qD (ql (ql (qD (ql (qr (L' := L) [ii ((k : Int))] (ii ((k : Int))) (.tmp rfl .nil) rfl rF le1 (sD sR) ?_)))))))))))
   exact ⟨(vI (by rw [firstC_at (by omega) hca hall, if_neg (by omega)])), rfl, rfl⟩
  have hca : callAt ar fs t k = false := by unfold callAt; rw [← sub_head ho (by omega)]; exact h2
  refine qz (qb (cX (qK (((k + 1 : Nat) : Int)) rfl rfl (by omega) (by omega) (qg (ii (((k + 1 : Nat) : Int))) rfl (qc ?_)))))
  exact ⟨k + 1, _, FLe.refl _, le1, ⟨rfl, rfl, rfl, rfl, ⟨⟩⟩, (sC sR), ⟨rfl, (by (try dsimp only) <;> omega), (fun i hi => (Nat.lt_or_ge i k).elim (fun h => hall i h) (fun h => by obtain rfl : i = k := (by omega); exact hca))⟩, (by omega)⟩
 refine jg (qv (qv (qM (qd (qb (qh (ii (-1)) rfl (qc (qw (qr (L' := L) [ii (-1)] (ii (-1)) (.tmp rfl .nil) rfl rF rF (sD sR) ?_)))))))))
 exact ⟨(vI (by rw [if_pos (firstC_none (fun i hi => hall i (by omega)))])), rfl, rfl⟩

/- (impl.Front).firstLine$1 -/
theorem firstLine1_spec {F : FH} {L : List HP} {fn : Int} {psv : Value} {ps : List (List Int)} (hps : RowsF F psv ps) {bdv : Value} {bd : List Int} (hbd : IntsF F bdv bd) {arv : Value} {ar : List Int} (har : IntsF F arv ar) {fsv : Value} {fs : List Int} (hfs : IntsF F fsv fs) {lsv : Value} {ls : List LineT} (hls : LinesF F lsv ls) {b : Nat} (hzb : FzC F b [arv, fsv, lsv]) {tv : Value} {t : List Int} (ht : IntsF F tv t) {c : Nat} (hzc : FzC F c [tv]) (ho : termOk ar t = true) (hpo : termOk ar (leftL (fn, ps, bd)) = true) (hpn : ps.length ≤ 10) (hpb : ∀ i, i < ps.length → (ps.getD i []).length ≤ 4000000) :
    Does prog 255 [.agg #[ii (fn), psv, bdv], ptr b 0, ptr c 0] F (L) (fun v F' L' => (.bool ((matchB ar (leftL (fn, ps, bd)) t).isSome) : Value) = v ∧ F = F' ∧ L = L') := by
 refine qG func255 rfl rfl rfl (qd (qb (cX (jb [ii (fn), psv, bdv] rfl rfl ?_))))
 intro b1
 refine qh (.bool (false)) rfl (qc (qd ?_))
 refine jM [cellsH b1 [ii (fn), psv, bdv] 206] L 5 [] [[], [0], [], [2]] [] (phiG [pe (ptr b 0), pe (.agg #[arv]), pe (.agg #[ii (fn), psv, bdv]), fun FF us v => ((v) : Value) = v ∧ (IntsF FF (v) (leftL (fn, ps, bd))), pe tv]) (ownL []) mixed rfl rfl (by kernel_rfl) (by kernel_rfl) (MonoG.get (m1 (m1 (m1 (mC (fun le h => ⟨h.1, h.2.mono le⟩) (m1 MonoG.nil)))))) ?_ ?_
 ·refine gD (fun W Fs R lF z9 => ?_) ?_
  ·refine qi (qk (0) qy rfl qJ (by decide) rfl rfl ?_)
   exact ⟨rfl, rfl⟩
  refine gD (fun W Fs R lF z9 => ?_) ?_
  ·replace hps := hps.mono lF
   replace hbd := hbd.mono lF
   replace har := har.mono lF
   replace hzb := hzb.mono lF
   replace ht := ht.mono lF
   replace hzc := hzc.mono lF
   rw [zA 0 (z9 0 rfl)]
   refine qi (qu [arv] jf qJ rfl rfl (FzC.rdN (o := 0) hzb rfl) ?_)
   exact ⟨rfl, rfl⟩
  refine gD (fun W Fs R lF z9 => ?_) ?_
  ·replace hps := hps.mono lF
   replace hbd := hbd.mono lF
   replace har := har.mono lF
   replace ht := ht.mono lF
   replace hzc := hzc.mono lF
   refine qi (qu [ii (fn), psv, bdv] jW jl rfl rfl (Rd.ownN [] rfl rfl) ?_)
   exact ⟨rfl, rfl⟩
  refine gD (fun W Fs R lF z9 => ?_) ?_
  ·replace hps := hps.mono lF
   replace hbd := hbd.mono lF
   replace har := har.mono lF
   replace ht := ht.mono lF
   replace hzc := hzc.mono lF
   rw [zA 2 (z9 2 rfl)]
   refine qi (qn (args := [.agg #[ii (fn), psv, bdv]]) call145 rfl (left_spec hps hbd (hpn := (by first | assumption | rfl | omega | simp)) (hpb := (by first | assumption | rfl | omega | simp))) ?_)
   rintro _ F2 _ le2 ⟨x2, rfl, hr2, rfl⟩
   replace hps := hps.mono le2
   replace har := har.mono le2
   replace ht := ht.mono le2
   replace hzc := hzc.mono le2
   exact ⟨⟨rfl, hr2⟩, rfl⟩
  refine gD (fun W Fs R lF z9 => ?_) ?_
  ·replace hps := hps.mono lF
   replace har := har.mono lF
   replace ht := ht.mono lF
   replace hzc := hzc.mono lF
   refine qi (qj qU rfl (FzC.rd1 hzc rfl) ?_)
   exact ⟨rfl, rfl⟩
  exact stepsG.nil
 intro W F3 le3 hphi
 obtain ⟨e3, f3_1hr⟩ := hphi 3 (by decide)
 generalize hu1 : ((W 3)) = u1 at e3 f3_1hr
 rw [eS (l := [(1, _), (3, u1), (4, _)]) ⟨(hphi 1 (by decide)), hu1, (hphi 4 (by decide)), ⟨⟩⟩]
 replace har := har.mono le3
 replace ht := ht.mono le3
 show XL _ _ _ _ _ _ _ (cellsH b1 [ii (fn), psv, bdv] 206 :: L)
 refine cX (qn (args := [.agg #[arv], u1, tv]) call256 rfl (instance_spec har f3_1hr ht (ho := (ho)) (hpo := (hpo))) ?_)
 rintro _ _ _ _ ⟨rfl, rfl, rfl⟩
 refine qh (.bool ((matchB ar (leftL (fn, ps, bd)) t).isSome)) rfl (qc (qw (qr (L' := L) [.bool ((matchB ar (leftL (fn, ps, bd)) t).isSome)] (.bool ((matchB ar (leftL (fn, ps, bd)) t).isSome)) (.tmp rfl .nil) rfl rF le3 (sD sR) ?_)))
 exact ⟨rfl, rfl, rfl⟩

/- slices.IndexFunc[[]impl.Line,impl.Line] -/
theorem IndexFuncM_spec {F : FH} {L : List HP} {xsv : Value} {xs : List LineT} (hxs : LinesF F xsv xs) {arv : Value} {ar : List Int} (har : IntsF F arv ar) {fsv : Value} {fs : List Int} (hfs : IntsF F fsv fs) {lsv : Value} {ls : List LineT} (hls : LinesF F lsv ls) {b : Nat} (hzb : FzC F b [arv, fsv, lsv]) {tv : Value} {t : List Int} (ht : IntsF F tv t) {c : Nat} (hzc : FzC F c [tv]) (hlx : xs.length ≤ 4000000) (ho : termOk ar t = true) (hel : ∀ i, i < xs.length → termOk ar (leftL (xs.getD i (0, [], []))) = true ∧ (xs.getD i (0, [], [])).2.1.length ≤ 10 ∧ ∀ j, j < (xs.getD i (0, [], [])).2.1.length → ((xs.getD i (0, [], [])).2.1.getD j []).length ≤ 4000000) :
    Does prog 254 [xsv, .func (.func 255) #[] #[ptr b 0, ptr c 0]] F (L) (fun v F' L' => (ii (badG (fun x : LineT => !(matchB ar (leftL x) t).isSome) xs) : Value) = v ∧ F = F' ∧ L = L') := by
 refine qG func254 rfl rfl rfl (qd (qb (qh (ii (0)) rfl (qc (qd (qd (qb (qg (xsv) rfl (cX (qE qS rfl hxs.slv (qg (ii (0)) rfl (qc (qH (jn (α := Nat) (fun k => [(0, xsv), (1, .func (.func 255) #[] #[ptr b 0, ptr c 0]), (7, ii ((xs.length : Int))), (8, ii ((k : Int)))]) (fun k => L) (fun k F' => F = F' ∧ (k ≤ xs.length) ∧ (∀ i, i < k → (fun x : LineT => !(matchB ar (leftL x) t).isSome) (xs.getD i (0, [], [])) = true)) (fun k => xs.length - k) 0 ⟨rfl, rfl, rfl, rfl, ⟨⟩⟩ sR ⟨rfl, (by (try dsimp only) <;> omega), (fun i hi => absurd hi (by omega))⟩ ?_))))))))))))))
 rintro k rE _ _ ⟨rfl, hk, hall⟩
 show X _ _ _ _ (envs [(0, xsv), (1, .func (.func 255) #[] #[ptr b 0, ptr c 0]), (7, ii ((xs.length : Int))), (8, ii ((k : Int)))] rE) _ (L)
 refine qd (qb (cX (qQ rfl rfl (qc (qd ?_)))))
 refine qC (p := (k : Int) < (xs.length : Int)) rfl (fun h1 => ?_) (fun h1 => ?_)
 ·refine qz (qd (qH (qd (qb (qg (ii ((k : Int))) rfl (qh (ii ((k : Int))) rfl (qc (qd (qb (qg (.func (.func 255) #[] #[ptr b 0, ptr c 0]) rfl (qg (xsv) rfl (qg (ii ((k : Int))) rfl (cX (qt k qS jl rfl rfl rfl hxs.slv (by omega) rfl ?_))))))))))))))
  obtain ⟨a1, a2, ha1, ha2, hrg1, hq1⟩ := hxs.rd (i := k) (by omega)
  refine cX (qu [ii ((xs.getD k (0, [], [])).1), a1, a2] jW jl rfl rfl (Rd.all (hrg1 _)) (cX (XOp.callV (first := []) (captured := [ptr b 0, ptr c 0]) (args := [.agg #[ii ((xs.getD k (0, [], [])).1), a1, a2], ptr b 0, ptr c 0]) call255 rfl rfl (firstLine1_spec ha1 ha2 har hfs hls hzb ht hzc (ho := (ho)) (hpo := ((hel k (by omega)).1)) (hpn := ((hel k (by omega)).2.1)) (hpb := ((hel k (by omega)).2.2))) ?_)))
  rintro _ _ _ _ ⟨rfl, rfl, rfl⟩
  refine qc ?_
  refine jF (t := (matchB ar (leftL (((xs.getD k (0, [], [])).1), ((xs.getD k (0, [], [])).2.1), ((xs.getD k (0, [], [])).2.2))) t).isSome) rfl (fun h2 => ?_) (fun h2 => ?_)
  ·have hlk := h2
   refine qd (qb (qg (ii ((k : Int))) rfl (qh (ii ((k : Int))) rfl (qc (qw (qD (ql (ql (qD (ql (qr (L' := L) [ii ((k : Int))] (ii ((k : Int))) (.tmp rfl .nil) rfl rF rF sR ?_)))))))))))
   exact ⟨(vI (badG_at ((0, [], []) : LineT) (by omega) (congrArg (fun b : Bool => !b) hlk) hall)), rfl, rfl⟩
  have hlk := h2
  refine qz (qb (cX (qK (((k + 1 : Nat) : Int)) rfl rfl (by omega) (by omega) (qg (ii (((k + 1 : Nat) : Int))) rfl (qc ?_)))))
  exact ⟨k + 1, _, FLe.refl _, rF, ⟨rfl, rfl, rfl, rfl, ⟨⟩⟩, sR, ⟨rfl, (by (try dsimp only) <;> omega), (fun i hi => (Nat.lt_or_ge i k).elim (fun h => hall i h) (fun h => by obtain rfl : i = k := (by omega); exact congrArg (fun b : Bool => !b) hlk))⟩, (by omega)⟩
 refine jg (qv (qv (qM (qd (qb (qh (ii (-1)) rfl (qc (qw (qr (L' := L) [ii (-1)] (ii (-1)) (.tmp rfl .nil) rfl rF rF sR ?_)))))))))
 exact ⟨(vI (badG_none ((0, [], []) : LineT) (fun i hi => hall i (by omega)))), rfl, rfl⟩

/- (impl.Front).firstLine -/
theorem firstLine_spec {F : FH} {L : List HP} {arv : Value} {ar : List Int} (har : IntsF F arv ar) {fsv : Value} {fs : List Int} (hfs : IntsF F fsv fs) {lsv : Value} {ls : List LineT} (hls : LinesF F lsv ls) {tv : Value} {t : List Int} (ht : IntsF F tv t) (hfr : frontB ar fs ls = true) (ho : termOk ar t = true) :
    Does prog 143 [.agg #[arv, fsv, lsv], tv] F (L) (fun v F' L' => (ii (firstL ar ls t) : Value) = v ∧ F = F' ∧ L = L') := by
 refine qG func143 rfl rfl rfl ?_
 have hfi := front_iff.1 hfr
 have hsg := sigOk_spec hfi.1
 have hls8 := hfi.2.2.1
 have hln := fun (i : Nat) (hi : i < ls.length) => line_iff.1 ((all_getD_iff ((0, [], []) : LineT)).1 hfi.2.2.2 i hi)
 refine qd (qb (cX (jb [arv, fsv, lsv] rfl rfl ?_)))
 intro b1
 refine cX (jb [tv] rfl (cells_one (qB ht)) ?_)
 intro b2
 refine qh (ii (0)) rfl (qc (qd (qb (cX (qk (2) qy rfl jm (by decide) rfl rfl (cX (qj jE rfl (Rd.own [_] rfl rfl) (cX (XOp.makeFuncL [] [ptr b1 0, ptr b2 0] rfl rfl (XL.freeze [_] _ _ rfl (fun F1 le1 hz1 => ?_)))))))))))
 replace har := har.mono le1
 replace hfs := hfs.mono le1
 replace hls := hls.mono le1
 replace ht := ht.mono le1
 have hf1 : FzC F1 b1 [arv, fsv, lsv] := Fz.cells hz1
 refine XL.freeze [] _ _ rfl (fun F2 le2 hz2 => ?_)
 replace har := har.mono le2
 replace hfs := hfs.mono le2
 replace hls := hls.mono le2
 replace ht := ht.mono le2
 replace hf1 := hf1.mono le2
 have hf2 : FzC F2 b2 [tv] := Fz.cells hz2
 refine cX (qn (args := [lsv, .func (.func 255) #[] #[ptr b1 0, ptr b2 0]]) call254 rfl (IndexFuncM_spec hls har hfs hls hf1 ht hf2 (hlx := (by omega)) (ho := (ho)) (hel := (fun i hi => ⟨(ruleOk_iff.1 (hln i hi).2.2.2.1).left, by have h9 := (hln i hi).2.1; have h8 := set_mem hfi.2.1 (hln i hi).1; have h7 := (hsg.2.2 (ls.getD i (0, [], [])).1.toNat (by omega)).2; omega, fun j hj => by have h9 := termOk_len ((hln i hi).2.2.1 j hj).1; omega⟩))) ?_)
 rintro _ _ _ _ ⟨rfl, rfl, rfl⟩
 refine qh (ii (badG (fun x : LineT => !(matchB ar (leftL x) t).isSome) ls)) rfl (qc (qw (qr (L' := L) [ii (badG (fun x : LineT => !(matchB ar (leftL x) t).isSome) ls)] (ii (badG (fun x : LineT => !(matchB ar (leftL x) t).isSome) ls)) (.tmp rfl .nil) rfl rF (qa le1 le2) sR ?_)))
 exact ⟨rfl, rfl, rfl⟩

/- impl.CallBy -/
set_option maxHeartbeats 2000000 in
set_option maxRecDepth 20000 in
theorem CallBy_spec {F : FH} {L : List HP} {arv : Value} {ar : List Int} (har : IntsF F arv ar) {fsv : Value} {fs : List Int} (hfs : IntsF F fsv fs) {lsv : Value} {ls : List LineT} (hls : LinesF F lsv ls) {tv : Value} {t : List Int} (ht : IntsF F tv t) {n : Int} (hsa : ar.length ≤ 4000000) (hlf : fs.length ≤ 4000000) (hll : ls.length ≤ 4000000) (hlb : ∀ i, i < ls.length → (ls.getD i (0, [], [])).2.1.length ≤ 4000000 ∧ (∀ j, j < (ls.getD i (0, [], [])).2.1.length → ((ls.getD i (0, [], [])).2.1.getD j []).length ≤ 4000000) ∧ (ls.getD i (0, [], [])).2.2.length ≤ 4000000) (hlt : t.length ≤ 4000000) :
    Does prog 55 [.agg #[arv, fsv, lsv], tv, ii (n)] F (L) (fun v F' L' => ∃ (a : Value), (.tuple #[a, ii ((callL ar fs ls t n).2)] : Value) = v ∧ (IntsF F' a (callL ar fs ls t n).1) ∧ (Fresh F F' (star [intsH 2 a (callL ar fs ls t n).1])) ∧ L = L') := by
 refine qG func55 rfl rfl rfl (qd (qb (cX (jb [arv, fsv, lsv] rfl rfl ?_))))
 intro b1
 refine qh (sN) rfl (qh (ii (0)) rfl (qc (qd (qd (qb (cX (qu [arv, fsv, lsv] jj qT rfl rfl (Rd.ownN [] rfl rfl) (cX (qn (args := [.agg #[arv, fsv, lsv]]) call59 rfl (FrontOk_spec har hfs hls (hsa := (by first | assumption | rfl | omega | simp)) (hlf := (by first | assumption | rfl | omega | simp)) (hll := (by first | assumption | rfl | omega | simp)) (hlb := (by first | assumption | rfl | omega | simp))) ?_)))))))))
 rintro _ _ _ _ ⟨rfl, rfl, rfl⟩
 refine cX (jt rfl (qg (.bool (!(frontB ar fs ls))) rfl ?_))
 by_cases h1 : (!(frontB ar fs ls)) = true
 ·have hfr := Bool.not_inj (y := false) h1
  refine qp (t := 20) rfl (vB h1) (qp (t := 20) rfl (vB h1) (qp (t := 20) rfl (vB h1) (qp (t := 20) rfl (vB h1) (qp (t := 20) rfl (vB h1) (cX (qO (.bool (true)) (vB h1) rfl (qg (.bool (true)) rfl (qp (t := 27) rfl rfl (qp (t := 27) rfl rfl (cX (qO (.bool (true)) rfl rfl ?_)))))))))))
  refine qg (.bool (true)) rfl (qp (t := 31) rfl rfl (qp (t := 31) rfl rfl (cX (qO (.bool (true)) rfl rfl (qc (jA rfl (qd (qb (qh (sN) rfl (qh (ii (-1)) rfl (qc ?_)))))))))))
  refine qw (ql (qr (L' := L) [sN, ii (-1)] (.tuple #[sN, ii (-1)]) (.tmp rfl (.tmp rfl .nil)) rfl rF rF (sD sR) ?_))
  have e : callL ar fs ls t n = ([], -1) := callL_no (fun h9 => by first | exact absurd (h9.1.symm.trans hfr) (by decide) | exact absurd (h9.2.1.symm.trans hgr) (by decide) | omega)
  exact ⟨_, by rw [e] <;> rfl, by rw [e]; exact IntsF.nilV, by rw [e]; exact Fresh.one (Fresh.ofNil _), rfl⟩
 rw [Bool.not_eq_true] at h1
 have hfr := Bool.not_inj (y := true) h1
 have hfi := front_iff.1 hfr
 have hsg := sigOk_spec hfi.1
 have hls8 := hfi.2.2.1
 have hln := fun (i : Nat) (hi : i < ls.length) => line_iff.1 ((all_getD_iff ((0, [], []) : LineT)).1 hfi.2.2.2 i hi)
 refine qo (t := 20) rfl (vB h1) (qk (0) qy rfl qJ (by decide) rfl rfl (qo (t := 20) rfl (vB h1) (qu [arv] jf qJ rfl rfl (Rd.ownN [] rfl rfl) (qo (t := 20) rfl (vB h1) (qm (tv) rfl (qo (t := 20) rfl (vB h1) (qn (args := [.agg #[arv], tv]) call140 rfl (iGroundIn_spec har ht (hlt := (by first | assumption | rfl | omega | simp))) ?_)))))))
 rintro _ _ _ _ ⟨rfl, rfl, rfl⟩
 refine qo (t := 20) rfl (vB h1) (jt rfl (cX (qN (.bool (!(groundB ar t))) (vB h1) rfl (qg (.bool (!(groundB ar t))) rfl ?_))))
 by_cases h2 : (!(groundB ar t)) = true
 ·have hgr := Bool.not_inj (y := false) h2
  refine qp (t := 27) rfl (vB h2) (qp (t := 27) rfl (vB h2) (cX (qO (.bool (true)) (vB h2) rfl (qg (.bool (true)) rfl (qp (t := 31) rfl rfl (qp (t := 31) rfl rfl (cX (qO (.bool (true)) rfl rfl (qc (jA rfl (qd (qb ?_))))))))))))
  refine qh (sN) rfl (qh (ii (-1)) rfl (qc (qw (ql (qr (L' := L) [sN, ii (-1)] (.tuple #[sN, ii (-1)]) (.tmp rfl (.tmp rfl .nil)) rfl rF rF (sD sR) ?_)))))
  have e : callL ar fs ls t n = ([], -1) := callL_no (fun h9 => by first | exact absurd (h9.1.symm.trans hfr) (by decide) | exact absurd (h9.2.1.symm.trans hgr) (by decide) | omega)
  exact ⟨_, by rw [e] <;> rfl, by rw [e]; exact IntsF.nilV, by rw [e]; exact Fresh.one (Fresh.ofNil _), rfl⟩
 rw [Bool.not_eq_true] at h2
 have hgr := Bool.not_inj (y := true) h2
 have hot := (ground_iff.1 hgr).1
 have htl9 := termOk_len hot
 refine qo (t := 27) rfl (vB h2) (qm (ii (n)) rfl (qo (t := 27) rfl (vB h2) (qQ rfl rfl (cX (qN (.bool (decide ((n : Int) < 0))) (vB h2) rfl (qg (.bool (decide ((n : Int) < 0))) rfl ?_))))))
 by_cases h3 : (n : Int) < 0
 ·refine qp (t := 31) rfl (vT h3) (qp (t := 31) rfl (vT h3) (cX (qO (.bool (true)) (vT h3) rfl (qc (jA rfl (qd (qb (qh (sN) rfl (qh (ii (-1)) rfl (qc (qw (ql (qr (L' := L) [sN, ii (-1)] (.tuple #[sN, ii (-1)]) (.tmp rfl (.tmp rfl .nil)) rfl rF rF (sD sR) ?_)))))))))))))
  have e : callL ar fs ls t n = ([], -1) := callL_no (fun h9 => by first | exact absurd (h9.1.symm.trans hfr) (by decide) | exact absurd (h9.2.1.symm.trans hgr) (by decide) | omega)
  exact ⟨_, by rw [e] <;> rfl, by rw [e]; exact IntsF.nilV, by rw [e]; exact Fresh.one (Fresh.ofNil _), rfl⟩
 refine qo (t := 31) rfl (vF h3) (qm (ii (n)) rfl (qo (t := 31) rfl (vF h3) (jG rfl rfl (cX (qN (.bool (decide ((n : Int) > 60))) (vF h3) rfl (qc ?_))))))
 refine qC (p := (n : Int) > 60) rfl (fun h4 => ?_) (fun h4 => ?_)
 ·refine qd (qb (qh (sN) rfl (qh (ii (-1)) rfl (qc (qw (ql (qr (L' := L) [sN, ii (-1)] (.tuple #[sN, ii (-1)]) (.tmp rfl (.tmp rfl .nil)) rfl rF rF (sD sR) ?_)))))))
  have e : callL ar fs ls t n = ([], -1) := callL_no (fun h9 => by first | exact absurd (h9.1.symm.trans hfr) (by decide) | exact absurd (h9.2.1.symm.trans hgr) (by decide) | omega)
  exact ⟨_, by rw [e] <;> rfl, by rw [e]; exact IntsF.nilV, by rw [e]; exact Fresh.one (Fresh.ofNil _), rfl⟩
 refine qz (qd (qb (qg (tv) rfl (cX (jD <| qn (args := [tv]) call96 rfl (Clone_spec ht (hlt := (by omega))) ?_)))))
 rintro v1 _ _ _ ⟨rfl, hs1, rfl⟩
 refine ⟨_, _, rfl, fun F1 le1 hz1 => ?_⟩
 replace har := har.mono le1
 replace hfs := hfs.mono le1
 replace hls := hls.mono le1
 have hf1 : IntsF F1 v1 ((t)) := intsH.fz (xs := (t)) hz1.fz
 refine qh (v1) rfl (qc (qd (qb (qh (ii (0)) rfl (qc (qH (jn (α := Nat × Value × List Int × FH) (fun xQ => [(1, xQ.2.1), (2, ii (n)), (3, ptr b1 0), (8, ii (((xQ.1 : Nat) : Int)))]) (fun xQ => cellsH b1 [arv, fsv, lsv] 108 :: L) (fun xQ F' => xQ.2.2.2 = F' ∧ F1 ≤ xQ.2.2.2 ∧ (IntsF xQ.2.2.2 xQ.2.1 xQ.2.2.1) ∧ (Fresh F xQ.2.2.2 (intsH 2 xQ.2.1 xQ.2.2.1)) ∧ (termOk ar xQ.2.2.1 = true) ∧ ((xQ.1 : Int) ≤ n) ∧ (callL ar fs ls t n = callGo ar fs ls (n.toNat - xQ.1) xQ.2.2.1)) (fun xQ => n.toNat - xQ.1) (0, v1, (t), F1) ⟨rfl, rfl, rfl, rfl, ⟨⟩⟩ (sC sR) ⟨rfl, FLe.refl _, (hf1), (hz1), (hot), (by (try dsimp only); omega), (by (try dsimp only); rw [callL_yes hfr hgr (by omega)]; rfl)⟩ ?_)))))))
 rintro ⟨k, cv, cur, G1⟩ rE _ _ ⟨rfl, leG, hcv, hZ, hoc, hk, hgo⟩
 show X _ _ _ _ (envs [(1, cv), (2, ii (n)), (3, ptr b1 0), (8, ii ((k : Int)))] rE) _ (cellsH b1 [arv, fsv, lsv] 108 :: L)
 replace leG : F1 ≤ G1 := leG
 dsimp only at hcv hZ hoc hk hgo
 have hcl := termOk_len hoc
 have hnc := notNil_of_pos hcv (by omega)
 have leG1 := leG
 replace har := har.mono leG1
 replace hfs := hfs.mono leG1
 replace hls := hls.mono leG1
 refine qd (qH (qd (qb (cX (qu [arv, fsv, lsv] jj qT rfl rfl (Rd.ownN [] rfl rfl) (qg (cv) rfl (cX (qn (args := [.agg #[arv, fsv, lsv], cv]) call141 rfl (firstCall_spec har hfs hls hcv (hsig := (hfi.1)) (ho := (hoc)) (hlf := (by first | assumption | rfl | omega | simp))) ?_))))))))
 rintro _ _ _ _ ⟨rfl, rfl, rfl⟩
 refine qh (ii (if firstC ar fs cur = cur.length then -1 else ((firstC ar fs cur : Nat) : Int))) rfl (qc (qd (qd (qb (qg (ii (if firstC ar fs cur = cur.length then -1 else ((firstC ar fs cur : Nat) : Int))) rfl (cX (qQ rfl rfl (qc ?_))))))))
 refine qC (p := (if firstC ar fs cur = cur.length then -1 else ((firstC ar fs cur : Nat) : Int) : Int) < 0) rfl (fun h5 => ?_) (fun h5 => ?_)
 ·have hfc : firstC ar fs cur = cur.length := by
    by_cases h9 : firstC ar fs cur = cur.length
    · exact h9
    · have h8 := h5
      rw [if_neg h9] at h8; omega
  refine qd (qb (qg (cv) rfl (qh (cv) rfl (qh (ii (0)) rfl (qc (qw (ql (qD (ql (ql (qD (qr (L' := L) [cv, ii (0)] (.tuple #[cv, ii (0)]) (.tmp rfl (.tmp rfl .nil)) rfl (qa le1 leG1) rF (sD sR) ?_))))))))))))
  have e := hgo.trans (call_done hfc)
  exact ⟨_, by rw [e], by rw [e]; exact hcv, by rw [e]; exact Fresh.one hZ, rfl⟩
 have hfc : firstC ar fs cur ≠ cur.length := fun h9 => by
   have h8 := h5
   rw [if_pos h9] at h8; omega
 have hfp : firstC ar fs cur < cur.length := by have := firstC_le (ar := ar) (fs := fs) (t := cur); omega
 have hfe : (if firstC ar fs cur = cur.length then -1 else ((firstC ar fs cur : Nat) : Int)) = ((firstC ar fs cur : Nat) : Int) := if_neg hfc
 have hoq := sub_ok hoc hfp
 have hql := termOk_len hoq
 simp only [hfe]
 skip
 refine qz (qd (qb (cX (qk (0) qy rfl qJ (by decide) rfl rfl (cX (qu [arv] jf qJ rfl rfl (Rd.ownN [] rfl rfl) (qg (cv) rfl (qg (ii ((((firstC ar fs cur) : Nat) : Int))) rfl (cX (qn (args := [.agg #[arv], cv, ii (((firstC ar fs cur) : Nat) : Int)]) call142 rfl (subAtW_spec (p := (firstC ar fs cur)) har hcv (ho := (termW_of hoc)) (hp := (hfp)) (hnn := (hnc))) ?_))))))))))
 rintro v2 _ _ _ ⟨rfl, rfl, hv1, hn1⟩
 refine qh (v2) rfl (qc (qd (qb (cX (qu [arv, fsv, lsv] jj qT rfl rfl (Rd.ownN [] rfl rfl) (qg (v2) rfl (cX (qn (args := [.agg #[arv, fsv, lsv], v2]) call143 rfl (firstLine_spec har hfs hls hv1 (hfr := (hfr)) (ho := (hoq))) ?_))))))))
 rintro _ _ _ _ ⟨rfl, rfl, rfl⟩
 refine qh (ii (firstL ar ls ((sub ar cur ((firstC ar fs cur)))))) rfl (qc (qd (qd (qb (qg (ii (firstL ar ls ((sub ar cur ((firstC ar fs cur)))))) rfl (cX (qQ rfl rfl (qc ?_))))))))
 refine qC (p := (firstL ar ls ((sub ar cur ((firstC ar fs cur)))) : Int) < 0) rfl (fun h6 => ?_) (fun h6 => ?_)
 ·have hlg := h6
  refine qd (qb (qg (cv) rfl (qh (cv) rfl (qh (ii (1)) rfl (qc (qw (ql (qD (ql (ql (qD (qr (L' := L) [cv, ii (1)] (.tuple #[cv, ii (1)]) (.tmp rfl (.tmp rfl .nil)) rfl (qa le1 leG1) rF (sD sR) ?_))))))))))))
  have e := hgo.trans (call_gap hfc hlg)
  exact ⟨_, by rw [e], by rw [e]; exact hcv, by rw [e]; exact Fresh.one hZ, rfl⟩
 have hlg := h6
 obtain ⟨hqk, hqm⟩ := firstL_lt hlg
 have hRk := hln _ hqk
 have hRo := ruleOk_iff.1 hRk.2.2.2.1
 have hRl := hRo.left
 have hRr := hRo.right
 have hRrl := termOk_len hRr
 have hRg := fun k (hk : k < (ls.getD (firstL ar ls (sub ar cur (firstC ar fs cur))).toNat (0, [], [])).2.2.length) => termOk_ge hRr hk
 have hmp := matchP_len (ar := ar) (p := leftL (ls.getD (firstL ar ls (sub ar cur (firstC ar fs cur))).toNat (0, [], []))) (t := sub ar cur (firstC ar fs cur))
 have hmp2 := hmp.2
 have hmp3 := hmp.1
 have hel9 : ∀ i, i < ls.length → termOk ar (leftL (ls.getD i (0, [], []))) = true ∧ (ls.getD i (0, [], [])).2.1.length ≤ 10 ∧ ∀ j, j < (ls.getD i (0, [], [])).2.1.length → ((ls.getD i (0, [], [])).2.1.getD j []).length ≤ 4000000 := fun i hi => ⟨(ruleOk_iff.1 (hln i hi).2.2.2.1).left, by have h9 := (hln i hi).2.1; have h8 := set_mem hfi.2.1 (hln i hi).1; have h7 := (hsg.2.2 (ls.getD i (0, [], [])).1.toNat (by omega)).2; omega, fun j hj => by have h9 := termOk_len ((hln i hi).2.2.1 j hj).1; omega⟩
 refine qz (qd (qd (qb (qg (ii ((k : Int))) rfl (qg (ii (n)) rfl (cX (ju rfl rfl (qc ?_))))))))
 refine qC (p := (k : Int) = n) rfl (fun h7 => ?_) (fun h7 => ?_)
 ·refine qd (qb (qg (cv) rfl (qh (cv) rfl (qh (ii (2)) rfl (qc (qw (ql (qD (ql (ql (qD (qr (L' := L) [cv, ii (2)] (.tuple #[cv, ii (2)]) (.tmp rfl (.tmp rfl .nil)) rfl (qa le1 leG1) rF (sD sR) ?_))))))))))))
  have e := hgo.trans (call_fuel hfc hlg (by omega))
  exact ⟨_, by rw [e], by rw [e]; exact hcv, by rw [e]; exact Fresh.one hZ, rfl⟩
 refine qz (qd ?_)
 obtain ⟨a1, a2, ha1, ha2, hrg1, hq1⟩ := hls.rd (i := (firstL ar ls ((sub ar cur ((firstC ar fs cur))))).toNat) (by omega)
 refine jM [cellsH b1 [arv, fsv, lsv] 108] L 15 [[], [], [], [], [], [], [], [], [], [], [9], [9], [], [], [9, 13]] [[], [0], [], [2], [], [3, 4], [5], [6], [], [1, 7, 8], [9], [9, 10], [9, 10], [], [9, 11, 13]] [[], [], [], [], [], [], [], [], [], [], [], [], [], [], [13]] (phiG [pe (ptr b1 0), pe (.agg #[arv]), pe (ptr b1 2), pe lsv, pe (ii (firstL ar ls ((sub ar cur ((firstC ar fs cur)))))), pe (.pointer (some (elemA lsv (((firstL ar ls ((sub ar cur ((firstC ar fs cur))))).toNat) * 3)))), pe (.agg #[ii ((ls.getD ((firstL ar ls ((sub ar cur ((firstC ar fs cur))))).toNat) (0, [], [])).1), a1, a2]), fun FF us v => ((v) : Value) = v ∧ (IntsF FF (v) (leftL (((ls.getD ((firstL ar ls ((sub ar cur ((firstC ar fs cur))))).toNat) (0, [], [])).1), ((ls.getD ((firstL ar ls ((sub ar cur ((firstC ar fs cur))))).toNat) (0, [], [])).2.1), ((ls.getD ((firstL ar ls ((sub ar cur ((firstC ar fs cur))))).toNat) (0, [], [])).2.2)))), pe v2, fun FF us v => (.tuple #[.agg #[((aggAt (tupAt v 0) 0))], .bool ((matchB ar (leftL (((ls.getD ((firstL ar ls ((sub ar cur ((firstC ar fs cur))))).toNat) (0, [], [])).1), ((ls.getD ((firstL ar ls ((sub ar cur ((firstC ar fs cur))))).toNat) (0, [], [])).2.1), ((ls.getD ((firstL ar ls ((sub ar cur ((firstC ar fs cur))))).toNat) (0, [], [])).2.2))) ((sub ar cur ((firstC ar fs cur))))).isSome)] : Value) = v ∧ (RowsF FF ((aggAt (tupAt v 0) 0)) (matchP ar (leftL (((ls.getD ((firstL ar ls ((sub ar cur ((firstC ar fs cur))))).toNat) (0, [], [])).1), ((ls.getD ((firstL ar ls ((sub ar cur ((firstC ar fs cur))))).toNat) (0, [], [])).2.1), ((ls.getD ((firstL ar ls ((sub ar cur ((firstC ar fs cur))))).toNat) (0, [], [])).2.2))) ((sub ar cur ((firstC ar fs cur)))))), fun FF us v => v = (.tuple #[.agg #[((aggAt (tupAt (us.getD 0 undef) 0) 0))], .bool ((matchB ar (leftL (((ls.getD ((firstL ar ls ((sub ar cur ((firstC ar fs cur))))).toNat) (0, [], [])).1), ((ls.getD ((firstL ar ls ((sub ar cur ((firstC ar fs cur))))).toNat) (0, [], [])).2.1), ((ls.getD ((firstL ar ls ((sub ar cur ((firstC ar fs cur))))).toNat) (0, [], [])).2.2))) ((sub ar cur ((firstC ar fs cur))))).isSome)] : Value), fun FF us v => v = (.agg #[((aggAt (tupAt (us.getD 0 undef) 0) 0))] : Value), pe (.bool ((matchB ar (leftL (((ls.getD ((firstL ar ls ((sub ar cur ((firstC ar fs cur))))).toNat) (0, [], [])).1), ((ls.getD ((firstL ar ls ((sub ar cur ((firstC ar fs cur))))).toNat) (0, [], [])).2.1), ((ls.getD ((firstL ar ls ((sub ar cur ((firstC ar fs cur))))).toNat) (0, [], [])).2.2))) ((sub ar cur ((firstC ar fs cur))))).isSome)), fun FF us v => v = ptr (blk v) 0, fun FF us v => True]) (ownL [o0, o0, o0, o0, o0, o0, o0, o0, o0, o0, o0, o0, o0, fun us v => [cellsH (blk v) [sN] 137], fun us v => [cellsH (blk (us.getD 1 undef)) [((aggAt (tupAt (us.getD 0 undef) 0) 0))] 137]]) mixed rfl rfl (by kernel_rfl) (by kernel_rfl) (MonoG.get (m1 (m1 (m1 (m1 (m1 (m1 (m1 (mC (fun le h => ⟨h.1, h.2.mono le⟩) (m1 (mC (fun le h => ⟨h.1, h.2.mono le⟩) (mC (fun le h => h) (mC (fun le h => h) (m1 (mC (fun le h => h) (mC (fun le h => h) MonoG.nil)))))))))))))))) ?_ ?_
 ·refine gD (fun W Fs R lF z9 => ?_) ?_
  ·refine qi (qk (0) qy rfl qJ (by decide) rfl rfl ?_)
   exact ⟨rfl, rfl⟩
  refine gD (fun W Fs R lF z9 => ?_) ?_
  ·replace har := har.mono lF
   replace hls := hls.mono lF
   replace hcv := hcv.mono lF
   replace hv1 := hv1.mono lF
   replace ha1 := ha1.mono lF
   replace ha2 := ha2.mono lF
   replace hrg1 := fun L9 j9 u9 h9 => Rd.mono (hrg1 L9 j9 u9 h9) lF
   rw [zA 0 (z9 0 rfl)]
   refine qi (qu [arv] jf qJ rfl rfl (Rd.ownN [] rfl rfl) ?_)
   exact ⟨rfl, rfl⟩
  refine gD (fun W Fs R lF z9 => ?_) ?_
  ·refine qi (qk (2) qy rfl jm (by decide) rfl rfl ?_)
   exact ⟨rfl, rfl⟩
  refine gD (fun W Fs R lF z9 => ?_) ?_
  ·replace har := har.mono lF
   replace hls := hls.mono lF
   replace hcv := hcv.mono lF
   replace hv1 := hv1.mono lF
   replace ha1 := ha1.mono lF
   replace ha2 := ha2.mono lF
   replace hrg1 := fun L9 j9 u9 h9 => Rd.mono (hrg1 L9 j9 u9 h9) lF
   rw [zA 2 (z9 2 rfl)]
   refine qi (qj jE rfl (Rd.own [] rfl rfl) ?_)
   exact ⟨rfl, rfl⟩
  refine gD (fun W Fs R lF z9 => ?_) ?_
  ·refine qi (qm (ii (firstL ar ls ((sub ar cur ((firstC ar fs cur)))))) rfl ?_)
   exact ⟨rfl, rfl⟩
  refine gD (fun W Fs R lF z9 => ?_) ?_
  ·replace har := har.mono lF
   replace hls := hls.mono lF
   replace hcv := hcv.mono lF
   replace hv1 := hv1.mono lF
   replace ha1 := ha1.mono lF
   replace ha2 := ha2.mono lF
   replace hrg1 := fun L9 j9 u9 h9 => Rd.mono (hrg1 L9 j9 u9 h9) lF
   rw [zB 3 4 (z9 3 rfl) (z9 4 rfl)]
   refine qi (qt ((firstL ar ls ((sub ar cur ((firstC ar fs cur))))).toNat) qS jl rfl rfl (by omega) hls.slv (by omega) rfl ?_)
   exact ⟨rfl, rfl⟩
  refine gD (fun W Fs R lF z9 => ?_) ?_
  ·replace har := har.mono lF
   replace hls := hls.mono lF
   replace hcv := hcv.mono lF
   replace hv1 := hv1.mono lF
   replace ha1 := ha1.mono lF
   replace ha2 := ha2.mono lF
   replace hrg1 := fun L9 j9 u9 h9 => Rd.mono (hrg1 L9 j9 u9 h9) lF
   rw [zA 5 (z9 5 rfl)]
   refine qi (qu [ii ((ls.getD ((firstL ar ls ((sub ar cur ((firstC ar fs cur))))).toNat) (0, [], [])).1), a1, a2] jW jl rfl rfl (Rd.all (hrg1 _)) ?_)
   exact ⟨rfl, rfl⟩
  refine gD (fun W Fs R lF z9 => ?_) ?_
  ·replace har := har.mono lF
   replace hls := hls.mono lF
   replace hcv := hcv.mono lF
   replace hv1 := hv1.mono lF
   replace ha1 := ha1.mono lF
   replace ha2 := ha2.mono lF
   replace hrg1 := fun L9 j9 u9 h9 => Rd.mono (hrg1 L9 j9 u9 h9) lF
   rw [zA 6 (z9 6 rfl)]
   refine qi (qn (args := [.agg #[ii ((ls.getD ((firstL ar ls ((sub ar cur ((firstC ar fs cur))))).toNat) (0, [], [])).1), a1, a2]]) call145 rfl (left_spec ha1 ha2 (hpn := ((hel9 _ hqk).2.1)) (hpb := ((hel9 _ hqk).2.2))) ?_)
   rintro _ F4 _ le4 ⟨x3, rfl, hr3, rfl⟩
   replace har := har.mono le4
   replace hls := hls.mono le4
   replace hcv := hcv.mono le4
   replace hv1 := hv1.mono le4
   replace ha2 := ha2.mono le4
   replace hrg1 := fun L9 j9 u9 h9 => Rd.mono (hrg1 L9 j9 u9 h9) le4
   exact ⟨⟨rfl, hr3⟩, rfl⟩
  refine gD (fun W Fs R lF z9 => ?_) ?_
  ·refine qi (qm (v2) rfl ?_)
   exact ⟨rfl, rfl⟩
  refine gD (fun W Fs R lF z9 => ?_) ?_
  ·obtain ⟨e7, f7_1hr⟩ := z9 7 rfl
   replace har := har.mono lF
   replace hls := hls.mono lF
   replace hcv := hcv.mono lF
   replace hv1 := hv1.mono lF
   replace ha2 := ha2.mono lF
   replace hrg1 := fun L9 j9 u9 h9 => Rd.mono (hrg1 L9 j9 u9 h9) lF
   rw [eS (l := [(1, _), (7, ((W 7))), (8, _)]) ⟨z9 1 rfl, (e7).symm, z9 8 rfl, ⟨⟩⟩]
   refine qi (qn (args := [.agg #[arv], ((W 7)), v2]) call144 rfl (match_spec har f7_1hr hv1 (ho := (hoq)) (hpo := (hRl))) ?_)
   rintro _ F5 _ le5 ⟨x4, rfl, hr4, rfl⟩
   replace har := har.mono le5
   replace hls := hls.mono le5
   replace hcv := hcv.mono le5
   replace ha2 := ha2.mono le5
   replace f7_1hr := f7_1hr.mono le5
   replace hrg1 := fun L9 j9 u9 h9 => Rd.mono (hrg1 L9 j9 u9 h9) le5
   exact ⟨⟨rfl, hr4⟩, rfl⟩
  refine gD (fun W Fs R lF z9 => ?_) ?_
  ·obtain ⟨e9, f9_1hr⟩ := z9 9 rfl
   rw [eS (l := [(9, (.tuple #[.agg #[((aggAt (tupAt (W 9) 0) 0))], .bool ((matchB ar (leftL (((ls.getD ((firstL ar ls ((sub ar cur ((firstC ar fs cur))))).toNat) (0, [], [])).1), ((ls.getD ((firstL ar ls ((sub ar cur ((firstC ar fs cur))))).toNat) (0, [], [])).2.1), ((ls.getD ((firstL ar ls ((sub ar cur ((firstC ar fs cur))))).toNat) (0, [], [])).2.2))) ((sub ar cur ((firstC ar fs cur))))).isSome)]))]) ⟨(e9).symm, ⟨⟩⟩]
   refine qi (qm (.tuple #[.agg #[((aggAt (tupAt (W 9) 0) 0))], .bool ((matchB ar (leftL (((ls.getD ((firstL ar ls ((sub ar cur ((firstC ar fs cur))))).toNat) (0, [], [])).1), ((ls.getD ((firstL ar ls ((sub ar cur ((firstC ar fs cur))))).toNat) (0, [], [])).2.1), ((ls.getD ((firstL ar ls ((sub ar cur ((firstC ar fs cur))))).toNat) (0, [], [])).2.2))) ((sub ar cur ((firstC ar fs cur))))).isSome)]) rfl ?_)
   exact ⟨rfl, rfl⟩
  refine gD (fun W Fs R lF z9 => ?_) ?_
  ·obtain ⟨e9, f9_1hr⟩ := z9 9 rfl
   have e10 : W 10 = (.tuple #[.agg #[((aggAt (tupAt (W 9) 0) 0))], .bool ((matchB ar (leftL (((ls.getD ((firstL ar ls ((sub ar cur ((firstC ar fs cur))))).toNat) (0, [], [])).1), ((ls.getD ((firstL ar ls ((sub ar cur ((firstC ar fs cur))))).toNat) (0, [], [])).2.1), ((ls.getD ((firstL ar ls ((sub ar cur ((firstC ar fs cur))))).toNat) (0, [], [])).2.2))) ((sub ar cur ((firstC ar fs cur))))).isSome)] : Value) := z9 10 rfl
   rw [eS (l := [(9, (.tuple #[.agg #[((aggAt (tupAt (W 9) 0) 0))], .bool ((matchB ar (leftL (((ls.getD ((firstL ar ls ((sub ar cur ((firstC ar fs cur))))).toNat) (0, [], [])).1), ((ls.getD ((firstL ar ls ((sub ar cur ((firstC ar fs cur))))).toNat) (0, [], [])).2.1), ((ls.getD ((firstL ar ls ((sub ar cur ((firstC ar fs cur))))).toNat) (0, [], [])).2.2))) ((sub ar cur ((firstC ar fs cur))))).isSome)])), (10, (.tuple #[.agg #[((aggAt (tupAt (W 9) 0) 0))], .bool ((matchB ar (leftL (((ls.getD ((firstL ar ls ((sub ar cur ((firstC ar fs cur))))).toNat) (0, [], [])).1), ((ls.getD ((firstL ar ls ((sub ar cur ((firstC ar fs cur))))).toNat) (0, [], [])).2.1), ((ls.getD ((firstL ar ls ((sub ar cur ((firstC ar fs cur))))).toNat) (0, [], [])).2.2))) ((sub ar cur ((firstC ar fs cur))))).isSome)]))]) ⟨(e9).symm, e10, ⟨⟩⟩]
   refine qi (jd (.agg #[((aggAt (tupAt (W 9) 0) 0))]) rfl rfl ?_)
   exact ⟨rfl, rfl⟩
  refine gD (fun W Fs R lF z9 => ?_) ?_
  ·obtain ⟨e9, f9_1hr⟩ := z9 9 rfl
   have e10 : W 10 = (.tuple #[.agg #[((aggAt (tupAt (W 9) 0) 0))], .bool ((matchB ar (leftL (((ls.getD ((firstL ar ls ((sub ar cur ((firstC ar fs cur))))).toNat) (0, [], [])).1), ((ls.getD ((firstL ar ls ((sub ar cur ((firstC ar fs cur))))).toNat) (0, [], [])).2.1), ((ls.getD ((firstL ar ls ((sub ar cur ((firstC ar fs cur))))).toNat) (0, [], [])).2.2))) ((sub ar cur ((firstC ar fs cur))))).isSome)] : Value) := z9 10 rfl
   rw [eS (l := [(9, (.tuple #[.agg #[((aggAt (tupAt (W 9) 0) 0))], .bool ((matchB ar (leftL (((ls.getD ((firstL ar ls ((sub ar cur ((firstC ar fs cur))))).toNat) (0, [], [])).1), ((ls.getD ((firstL ar ls ((sub ar cur ((firstC ar fs cur))))).toNat) (0, [], [])).2.1), ((ls.getD ((firstL ar ls ((sub ar cur ((firstC ar fs cur))))).toNat) (0, [], [])).2.2))) ((sub ar cur ((firstC ar fs cur))))).isSome)])), (10, (.tuple #[.agg #[((aggAt (tupAt (W 9) 0) 0))], .bool ((matchB ar (leftL (((ls.getD ((firstL ar ls ((sub ar cur ((firstC ar fs cur))))).toNat) (0, [], [])).1), ((ls.getD ((firstL ar ls ((sub ar cur ((firstC ar fs cur))))).toNat) (0, [], [])).2.1), ((ls.getD ((firstL ar ls ((sub ar cur ((firstC ar fs cur))))).toNat) (0, [], [])).2.2))) ((sub ar cur ((firstC ar fs cur))))).isSome)]))]) ⟨(e9).symm, e10, ⟨⟩⟩]
   refine qi (jd (.bool ((matchB ar (leftL (((ls.getD ((firstL ar ls ((sub ar cur ((firstC ar fs cur))))).toNat) (0, [], [])).1), ((ls.getD ((firstL ar ls ((sub ar cur ((firstC ar fs cur))))).toNat) (0, [], [])).2.1), ((ls.getD ((firstL ar ls ((sub ar cur ((firstC ar fs cur))))).toNat) (0, [], [])).2.2))) ((sub ar cur ((firstC ar fs cur))))).isSome)) rfl rfl ?_)
   exact ⟨rfl, rfl⟩
  refine gD (fun W Fs R lF z9 => ?_) ?_
  ·replace har := har.mono lF
   replace hls := hls.mono lF
   replace hcv := hcv.mono lF
   replace ha2 := ha2.mono lF
   replace hrg1 := fun L9 j9 u9 h9 => Rd.mono (hrg1 L9 j9 u9 h9) lF
   refine qi (jr [sN] jB rfl ?_)
   intro b3
   exact ⟨rfl, rfl⟩
  refine gD (fun W Fs R lF z9 => ?_) ?_
  ·obtain ⟨e9, f9_1hr⟩ := z9 9 rfl
   have e11 : W 11 = (.agg #[((aggAt (tupAt (W 9) 0) 0))] : Value) := z9 11 rfl
   have e13 : W 13 = ptr (blk (W 13)) 0 := z9 13 rfl
   replace har := har.mono lF
   replace hls := hls.mono lF
   replace hcv := hcv.mono lF
   replace ha2 := ha2.mono lF
   replace hrg1 := fun L9 j9 u9 h9 => Rd.mono (hrg1 L9 j9 u9 h9) lF
   rw [eS (l := [(9, (.tuple #[.agg #[((aggAt (tupAt (W 9) 0) 0))], .bool ((matchB ar (leftL (((ls.getD ((firstL ar ls ((sub ar cur ((firstC ar fs cur))))).toNat) (0, [], [])).1), ((ls.getD ((firstL ar ls ((sub ar cur ((firstC ar fs cur))))).toNat) (0, [], [])).2.1), ((ls.getD ((firstL ar ls ((sub ar cur ((firstC ar fs cur))))).toNat) (0, [], [])).2.2))) ((sub ar cur ((firstC ar fs cur))))).isSome)])), (11, (.agg #[((aggAt (tupAt (W 9) 0) 0))])), (13, ptr (blk (W 13)) 0)]) ⟨(e9).symm, e11, e13, ⟨⟩⟩]
   show XG _ _ _ _ _ (cellsH (blk (W 13)) [sN] 137 :: ([cellsH b1 [arv, fsv, lsv] 108] ++ R)) _
   refine qi (qV [] _ [((aggAt (tupAt (W 9) 0) 0))] jp rfl rfl rfl (qx (qI (RowsF.isSl f9_1hr)) qX) rfl rfl rfl ?_)
   exact ⟨trivial, rfl⟩
  exact stepsG.nil
 intro W F6 le6 hphi
 obtain ⟨e7, f7_1hr⟩ := hphi 7 (by decide)
 obtain ⟨e9, f9_1hr⟩ := hphi 9 (by decide)
 have e10 : W 10 = (.tuple #[.agg #[((aggAt (tupAt (W 9) 0) 0))], .bool ((matchB ar (leftL (((ls.getD ((firstL ar ls ((sub ar cur ((firstC ar fs cur))))).toNat) (0, [], [])).1), ((ls.getD ((firstL ar ls ((sub ar cur ((firstC ar fs cur))))).toNat) (0, [], [])).2.1), ((ls.getD ((firstL ar ls ((sub ar cur ((firstC ar fs cur))))).toNat) (0, [], [])).2.2))) ((sub ar cur ((firstC ar fs cur))))).isSome)] : Value) := hphi 10 (by decide)
 have e11 : W 11 = (.agg #[((aggAt (tupAt (W 9) 0) 0))] : Value) := hphi 11 (by decide)
 have e13 : W 13 = ptr (blk (W 13)) 0 := hphi 13 (by decide)
 generalize hu1 : ((W 7)) = u1 at e7 f7_1hr e9 f9_1hr e10 e11 e13
 generalize hu2 : ((aggAt (tupAt (W 9) 0) 0)) = u2 at e7 f7_1hr e9 f9_1hr e10 e11 e13
 generalize hu3 : blk (W 13) = b4 at e7 f7_1hr e9 f9_1hr e10 e11 e13
 rw [eS (l := [(9, (.tuple #[.agg #[u2], .bool ((matchB ar (leftL (((ls.getD ((firstL ar ls ((sub ar cur ((firstC ar fs cur))))).toNat) (0, [], [])).1), ((ls.getD ((firstL ar ls ((sub ar cur ((firstC ar fs cur))))).toNat) (0, [], [])).2.1), ((ls.getD ((firstL ar ls ((sub ar cur ((firstC ar fs cur))))).toNat) (0, [], [])).2.2))) ((sub ar cur ((firstC ar fs cur))))).isSome)])), (12, _), (13, ptr b4 0)]) ⟨(e9).symm, (hphi 12 (by decide)), e13, ⟨⟩⟩]
 replace har := har.mono le6
 replace hls := hls.mono le6
 replace hcv := hcv.mono le6
 replace ha2 := ha2.mono le6
 replace hrg1 := fun L9 j9 u9 h9 => Rd.mono (hrg1 L9 j9 u9 h9) le6
 show XL _ _ _ _ _ _ _ (cellsH b4 [u2] 137 :: cellsH b1 [arv, fsv, lsv] 108 :: L)
 refine qh (.bool ((matchB ar (leftL (((ls.getD ((firstL ar ls ((sub ar cur ((firstC ar fs cur))))).toNat) (0, [], [])).1), ((ls.getD ((firstL ar ls ((sub ar cur ((firstC ar fs cur))))).toNat) (0, [], [])).2.1), ((ls.getD ((firstL ar ls ((sub ar cur ((firstC ar fs cur))))).toNat) (0, [], [])).2.2))) ((sub ar cur ((firstC ar fs cur))))).isSome)) rfl (qc (qd ?_))
 refine jM [cellsH b4 [u2] 137, cellsH b1 [arv, fsv, lsv] 108] L 12 [[], [], [], [], [], [], [], [], [7], [7], [], [7]] [[], [], [1], [], [2, 3], [4], [5], [0, 6], [7], [7, 8], [7, 8], [7, 9]] [] (phiG [pe (.agg #[u2]), pe (ptr b1 2), pe lsv, pe (ii (firstL ar ls ((sub ar cur ((firstC ar fs cur)))))), pe (.pointer (some (elemA lsv (((firstL ar ls ((sub ar cur ((firstC ar fs cur))))).toNat) * 3)))), pe (.pointer (some (elemA lsv (((firstL ar ls ((sub ar cur ((firstC ar fs cur))))).toNat) * 3 + 2)))), pe a2, fun FF us v => (.tuple #[((tupAt v 0)), .bool ((fillL (matchP ar (leftL (((ls.getD ((firstL ar ls ((sub ar cur ((firstC ar fs cur))))).toNat) (0, [], [])).1), ((ls.getD ((firstL ar ls ((sub ar cur ((firstC ar fs cur))))).toNat) (0, [], [])).2.1), ((ls.getD ((firstL ar ls ((sub ar cur ((firstC ar fs cur))))).toNat) (0, [], [])).2.2))) ((sub ar cur ((firstC ar fs cur))))) ((ls.getD ((firstL ar ls ((sub ar cur ((firstC ar fs cur))))).toNat) (0, [], [])).2.2)).isSome)] : Value) = v ∧ (IntsF FF ((tupAt v 0)) ((fillL (matchP ar (leftL (((ls.getD ((firstL ar ls ((sub ar cur ((firstC ar fs cur))))).toNat) (0, [], [])).1), ((ls.getD ((firstL ar ls ((sub ar cur ((firstC ar fs cur))))).toNat) (0, [], [])).2.1), ((ls.getD ((firstL ar ls ((sub ar cur ((firstC ar fs cur))))).toNat) (0, [], [])).2.2))) ((sub ar cur ((firstC ar fs cur))))) ((ls.getD ((firstL ar ls ((sub ar cur ((firstC ar fs cur))))).toNat) (0, [], [])).2.2)).getD [])), fun FF us v => v = (.tuple #[((tupAt (us.getD 0 undef) 0)), .bool ((fillL (matchP ar (leftL (((ls.getD ((firstL ar ls ((sub ar cur ((firstC ar fs cur))))).toNat) (0, [], [])).1), ((ls.getD ((firstL ar ls ((sub ar cur ((firstC ar fs cur))))).toNat) (0, [], [])).2.1), ((ls.getD ((firstL ar ls ((sub ar cur ((firstC ar fs cur))))).toNat) (0, [], [])).2.2))) ((sub ar cur ((firstC ar fs cur))))) ((ls.getD ((firstL ar ls ((sub ar cur ((firstC ar fs cur))))).toNat) (0, [], [])).2.2)).isSome)] : Value), fun FF us v => v = ((tupAt (us.getD 0 undef) 0)), pe (.bool ((fillL (matchP ar (leftL (((ls.getD ((firstL ar ls ((sub ar cur ((firstC ar fs cur))))).toNat) (0, [], [])).1), ((ls.getD ((firstL ar ls ((sub ar cur ((firstC ar fs cur))))).toNat) (0, [], [])).2.1), ((ls.getD ((firstL ar ls ((sub ar cur ((firstC ar fs cur))))).toNat) (0, [], [])).2.2))) ((sub ar cur ((firstC ar fs cur))))) ((ls.getD ((firstL ar ls ((sub ar cur ((firstC ar fs cur))))).toNat) (0, [], [])).2.2)).isSome)), fun FF us v => v = ((tupAt (us.getD 0 undef) 0))]) (ownL []) mixed rfl rfl (by kernel_rfl) (by kernel_rfl) (MonoG.get (m1 (m1 (m1 (m1 (m1 (m1 (m1 (mC (fun le h => ⟨h.1, h.2.mono le⟩) (mC (fun le h => h) (mC (fun le h => h) (m1 (mC (fun le h => h) MonoG.nil))))))))))))) ?_ ?_
 ·refine gD (fun W Fs R lF z9 => ?_) ?_
  ·replace har := har.mono lF
   replace hls := hls.mono lF
   replace hcv := hcv.mono lF
   replace ha2 := ha2.mono lF
   replace f9_1hr := f9_1hr.mono lF
   replace hrg1 := fun L9 j9 u9 h9 => Rd.mono (hrg1 L9 j9 u9 h9) lF
   refine qi (qu [u2] jQ jp rfl rfl (Rd.ownN [] rfl rfl) ?_)
   exact ⟨rfl, rfl⟩
  refine gD (fun W Fs R lF z9 => ?_) ?_
  ·refine qi (qk (2) qy rfl jm (by decide) rfl rfl ?_)
   exact ⟨rfl, rfl⟩
  refine gD (fun W Fs R lF z9 => ?_) ?_
  ·replace har := har.mono lF
   replace hls := hls.mono lF
   replace hcv := hcv.mono lF
   replace ha2 := ha2.mono lF
   replace f9_1hr := f9_1hr.mono lF
   replace hrg1 := fun L9 j9 u9 h9 => Rd.mono (hrg1 L9 j9 u9 h9) lF
   rw [zA 1 (z9 1 rfl)]
   refine qi (qj jE rfl (Rd.own [_] rfl rfl) ?_)
   exact ⟨rfl, rfl⟩
  refine gD (fun W Fs R lF z9 => ?_) ?_
  ·refine qi (qm (ii (firstL ar ls ((sub ar cur ((firstC ar fs cur)))))) rfl ?_)
   exact ⟨rfl, rfl⟩
  refine gD (fun W Fs R lF z9 => ?_) ?_
  ·replace har := har.mono lF
   replace hls := hls.mono lF
   replace hcv := hcv.mono lF
   replace ha2 := ha2.mono lF
   replace f9_1hr := f9_1hr.mono lF
   replace hrg1 := fun L9 j9 u9 h9 => Rd.mono (hrg1 L9 j9 u9 h9) lF
   rw [zB 2 3 (z9 2 rfl) (z9 3 rfl)]
   refine qi (qt ((firstL ar ls ((sub ar cur ((firstC ar fs cur))))).toNat) qS jl rfl rfl (by omega) hls.slv (by omega) rfl ?_)
   exact ⟨rfl, rfl⟩
  refine gD (fun W Fs R lF z9 => ?_) ?_
  ·rw [zA 4 (z9 4 rfl)]
   refine qi (XOp.fieldE (((firstL ar ls ((sub ar cur ((firstC ar fs cur))))).toNat) * 3 + 2) qR rfl qA (by decide) rfl rfl ?_)
   exact ⟨rfl, rfl⟩
  refine gD (fun W Fs R lF z9 => ?_) ?_
  ·replace har := har.mono lF
   replace hcv := hcv.mono lF
   replace ha2 := ha2.mono lF
   replace f9_1hr := f9_1hr.mono lF
   replace hrg1 := fun L9 j9 u9 h9 => Rd.mono (hrg1 L9 j9 u9 h9) lF
   rw [zA 5 (z9 5 rfl)]
   refine qi (qj qU rfl (hrg1 _ 2 _ rfl) ?_)
   exact ⟨rfl, rfl⟩
  refine gD (fun W Fs R lF z9 => ?_) ?_
  ·replace har := har.mono lF
   replace hcv := hcv.mono lF
   replace ha2 := ha2.mono lF
   replace f9_1hr := f9_1hr.mono lF
   rw [zB 0 6 (z9 0 rfl) (z9 6 rfl)]
   refine qi (qn (args := [.agg #[u2], a2]) call146 rfl (fill_spec f9_1hr ha2 (hsl := (Nat.le_trans hmp3 (by decide))) (hsb := (fun i => Nat.le_trans (hmp2 i) (by omega))) (htl := (by omega)) (htg := (fun k hk => by have := hRg k hk; omega))) ?_)
   rintro _ F8 _ le8 ⟨x6, rfl, hr7, hr8, rfl⟩
   replace har := har.mono le8
   replace hcv := hcv.mono le8
   exact ⟨⟨rfl, hr7⟩, rfl⟩
  refine gD (fun W Fs R lF z9 => ?_) ?_
  ·obtain ⟨e7, f7_2hr⟩ := z9 7 rfl
   rw [eS (l := [(7, (.tuple #[((tupAt (W 7) 0)), .bool ((fillL (matchP ar (leftL (((ls.getD ((firstL ar ls ((sub ar cur ((firstC ar fs cur))))).toNat) (0, [], [])).1), ((ls.getD ((firstL ar ls ((sub ar cur ((firstC ar fs cur))))).toNat) (0, [], [])).2.1), ((ls.getD ((firstL ar ls ((sub ar cur ((firstC ar fs cur))))).toNat) (0, [], [])).2.2))) ((sub ar cur ((firstC ar fs cur))))) ((ls.getD ((firstL ar ls ((sub ar cur ((firstC ar fs cur))))).toNat) (0, [], [])).2.2)).isSome)]))]) ⟨(e7).symm, ⟨⟩⟩]
   refine qi (qm (.tuple #[((tupAt (W 7) 0)), .bool ((fillL (matchP ar (leftL (((ls.getD ((firstL ar ls ((sub ar cur ((firstC ar fs cur))))).toNat) (0, [], [])).1), ((ls.getD ((firstL ar ls ((sub ar cur ((firstC ar fs cur))))).toNat) (0, [], [])).2.1), ((ls.getD ((firstL ar ls ((sub ar cur ((firstC ar fs cur))))).toNat) (0, [], [])).2.2))) ((sub ar cur ((firstC ar fs cur))))) ((ls.getD ((firstL ar ls ((sub ar cur ((firstC ar fs cur))))).toNat) (0, [], [])).2.2)).isSome)]) rfl ?_)
   exact ⟨rfl, rfl⟩
  refine gD (fun W Fs R lF z9 => ?_) ?_
  ·obtain ⟨e7, f7_2hr⟩ := z9 7 rfl
   have e8 : W 8 = (.tuple #[((tupAt (W 7) 0)), .bool ((fillL (matchP ar (leftL (((ls.getD ((firstL ar ls ((sub ar cur ((firstC ar fs cur))))).toNat) (0, [], [])).1), ((ls.getD ((firstL ar ls ((sub ar cur ((firstC ar fs cur))))).toNat) (0, [], [])).2.1), ((ls.getD ((firstL ar ls ((sub ar cur ((firstC ar fs cur))))).toNat) (0, [], [])).2.2))) ((sub ar cur ((firstC ar fs cur))))) ((ls.getD ((firstL ar ls ((sub ar cur ((firstC ar fs cur))))).toNat) (0, [], [])).2.2)).isSome)] : Value) := z9 8 rfl
   rw [eS (l := [(7, (.tuple #[((tupAt (W 7) 0)), .bool ((fillL (matchP ar (leftL (((ls.getD ((firstL ar ls ((sub ar cur ((firstC ar fs cur))))).toNat) (0, [], [])).1), ((ls.getD ((firstL ar ls ((sub ar cur ((firstC ar fs cur))))).toNat) (0, [], [])).2.1), ((ls.getD ((firstL ar ls ((sub ar cur ((firstC ar fs cur))))).toNat) (0, [], [])).2.2))) ((sub ar cur ((firstC ar fs cur))))) ((ls.getD ((firstL ar ls ((sub ar cur ((firstC ar fs cur))))).toNat) (0, [], [])).2.2)).isSome)])), (8, (.tuple #[((tupAt (W 7) 0)), .bool ((fillL (matchP ar (leftL (((ls.getD ((firstL ar ls ((sub ar cur ((firstC ar fs cur))))).toNat) (0, [], [])).1), ((ls.getD ((firstL ar ls ((sub ar cur ((firstC ar fs cur))))).toNat) (0, [], [])).2.1), ((ls.getD ((firstL ar ls ((sub ar cur ((firstC ar fs cur))))).toNat) (0, [], [])).2.2))) ((sub ar cur ((firstC ar fs cur))))) ((ls.getD ((firstL ar ls ((sub ar cur ((firstC ar fs cur))))).toNat) (0, [], [])).2.2)).isSome)]))]) ⟨(e7).symm, e8, ⟨⟩⟩]
   refine qi (jd (((tupAt (W 7) 0))) rfl rfl ?_)
   exact ⟨rfl, rfl⟩
  refine gD (fun W Fs R lF z9 => ?_) ?_
  ·obtain ⟨e7, f7_2hr⟩ := z9 7 rfl
   have e8 : W 8 = (.tuple #[((tupAt (W 7) 0)), .bool ((fillL (matchP ar (leftL (((ls.getD ((firstL ar ls ((sub ar cur ((firstC ar fs cur))))).toNat) (0, [], [])).1), ((ls.getD ((firstL ar ls ((sub ar cur ((firstC ar fs cur))))).toNat) (0, [], [])).2.1), ((ls.getD ((firstL ar ls ((sub ar cur ((firstC ar fs cur))))).toNat) (0, [], [])).2.2))) ((sub ar cur ((firstC ar fs cur))))) ((ls.getD ((firstL ar ls ((sub ar cur ((firstC ar fs cur))))).toNat) (0, [], [])).2.2)).isSome)] : Value) := z9 8 rfl
   rw [eS (l := [(7, (.tuple #[((tupAt (W 7) 0)), .bool ((fillL (matchP ar (leftL (((ls.getD ((firstL ar ls ((sub ar cur ((firstC ar fs cur))))).toNat) (0, [], [])).1), ((ls.getD ((firstL ar ls ((sub ar cur ((firstC ar fs cur))))).toNat) (0, [], [])).2.1), ((ls.getD ((firstL ar ls ((sub ar cur ((firstC ar fs cur))))).toNat) (0, [], [])).2.2))) ((sub ar cur ((firstC ar fs cur))))) ((ls.getD ((firstL ar ls ((sub ar cur ((firstC ar fs cur))))).toNat) (0, [], [])).2.2)).isSome)])), (8, (.tuple #[((tupAt (W 7) 0)), .bool ((fillL (matchP ar (leftL (((ls.getD ((firstL ar ls ((sub ar cur ((firstC ar fs cur))))).toNat) (0, [], [])).1), ((ls.getD ((firstL ar ls ((sub ar cur ((firstC ar fs cur))))).toNat) (0, [], [])).2.1), ((ls.getD ((firstL ar ls ((sub ar cur ((firstC ar fs cur))))).toNat) (0, [], [])).2.2))) ((sub ar cur ((firstC ar fs cur))))) ((ls.getD ((firstL ar ls ((sub ar cur ((firstC ar fs cur))))).toNat) (0, [], [])).2.2)).isSome)]))]) ⟨(e7).symm, e8, ⟨⟩⟩]
   refine qi (jd (.bool ((fillL (matchP ar (leftL (((ls.getD ((firstL ar ls ((sub ar cur ((firstC ar fs cur))))).toNat) (0, [], [])).1), ((ls.getD ((firstL ar ls ((sub ar cur ((firstC ar fs cur))))).toNat) (0, [], [])).2.1), ((ls.getD ((firstL ar ls ((sub ar cur ((firstC ar fs cur))))).toNat) (0, [], [])).2.2))) ((sub ar cur ((firstC ar fs cur))))) ((ls.getD ((firstL ar ls ((sub ar cur ((firstC ar fs cur))))).toNat) (0, [], [])).2.2)).isSome)) rfl rfl ?_)
   exact ⟨rfl, rfl⟩
  refine gD (fun W Fs R lF z9 => ?_) ?_
  ·obtain ⟨e7, f7_2hr⟩ := z9 7 rfl
   have e9 : W 9 = ((tupAt (W 7) 0)) := z9 9 rfl
   rw [eS (l := [(7, (.tuple #[((tupAt (W 7) 0)), .bool ((fillL (matchP ar (leftL (((ls.getD ((firstL ar ls ((sub ar cur ((firstC ar fs cur))))).toNat) (0, [], [])).1), ((ls.getD ((firstL ar ls ((sub ar cur ((firstC ar fs cur))))).toNat) (0, [], [])).2.1), ((ls.getD ((firstL ar ls ((sub ar cur ((firstC ar fs cur))))).toNat) (0, [], [])).2.2))) ((sub ar cur ((firstC ar fs cur))))) ((ls.getD ((firstL ar ls ((sub ar cur ((firstC ar fs cur))))).toNat) (0, [], [])).2.2)).isSome)])), (9, ((tupAt (W 7) 0)))]) ⟨(e7).symm, e9, ⟨⟩⟩]
   refine qi (XOp.assign (((tupAt (W 7) 0))) rfl ?_)
   exact ⟨rfl, rfl⟩
  exact stepsG.nil
 intro W F9 le9 hphi
 obtain ⟨e7, f7_2hr⟩ := hphi 7 (by decide)
 have e8 : W 8 = (.tuple #[((tupAt (W 7) 0)), .bool ((fillL (matchP ar (leftL (((ls.getD ((firstL ar ls ((sub ar cur ((firstC ar fs cur))))).toNat) (0, [], [])).1), ((ls.getD ((firstL ar ls ((sub ar cur ((firstC ar fs cur))))).toNat) (0, [], [])).2.1), ((ls.getD ((firstL ar ls ((sub ar cur ((firstC ar fs cur))))).toNat) (0, [], [])).2.2))) ((sub ar cur ((firstC ar fs cur))))) ((ls.getD ((firstL ar ls ((sub ar cur ((firstC ar fs cur))))).toNat) (0, [], [])).2.2)).isSome)] : Value) := hphi 8 (by decide)
 have e9 : W 9 = ((tupAt (W 7) 0)) := hphi 9 (by decide)
 have e11 : W 11 = ((tupAt (W 7) 0)) := hphi 11 (by decide)
 generalize hu4 : ((tupAt (W 7) 0)) = u3 at e7 f7_2hr e8 e9 e11
 rw [eS (l := [(7, (.tuple #[u3, .bool ((fillL (matchP ar (leftL (((ls.getD ((firstL ar ls ((sub ar cur ((firstC ar fs cur))))).toNat) (0, [], [])).1), ((ls.getD ((firstL ar ls ((sub ar cur ((firstC ar fs cur))))).toNat) (0, [], [])).2.1), ((ls.getD ((firstL ar ls ((sub ar cur ((firstC ar fs cur))))).toNat) (0, [], [])).2.2))) ((sub ar cur ((firstC ar fs cur))))) ((ls.getD ((firstL ar ls ((sub ar cur ((firstC ar fs cur))))).toNat) (0, [], [])).2.2)).isSome)])), (10, _), (11, u3)]) ⟨(e7).symm, (hphi 10 (by decide)), e11, ⟨⟩⟩]
 replace har := har.mono le9
 replace hcv := hcv.mono le9
 show XL _ _ _ _ _ _ _ (cellsH b4 [u2] 137 :: cellsH b1 [arv, fsv, lsv] 108 :: L)
 refine qh (.bool ((fillL (matchP ar (leftL (((ls.getD ((firstL ar ls ((sub ar cur ((firstC ar fs cur))))).toNat) (0, [], [])).1), ((ls.getD ((firstL ar ls ((sub ar cur ((firstC ar fs cur))))).toNat) (0, [], [])).2.1), ((ls.getD ((firstL ar ls ((sub ar cur ((firstC ar fs cur))))).toNat) (0, [], [])).2.2))) ((sub ar cur ((firstC ar fs cur))))) ((ls.getD ((firstL ar ls ((sub ar cur ((firstC ar fs cur))))).toNat) (0, [], [])).2.2)).isSome)) rfl (qc (qd (qd (qb (qg (.bool ((fillL (matchP ar (leftL (((ls.getD ((firstL ar ls ((sub ar cur ((firstC ar fs cur))))).toNat) (0, [], [])).1), ((ls.getD ((firstL ar ls ((sub ar cur ((firstC ar fs cur))))).toNat) (0, [], [])).2.1), ((ls.getD ((firstL ar ls ((sub ar cur ((firstC ar fs cur))))).toNat) (0, [], [])).2.2))) ((sub ar cur ((firstC ar fs cur))))) ((ls.getD ((firstL ar ls ((sub ar cur ((firstC ar fs cur))))).toNat) (0, [], [])).2.2)).isSome)) rfl (cX (jt rfl (qc ?_))))))))
 refine jF (t := !((fillL (matchP ar (leftL (((ls.getD ((firstL ar ls ((sub ar cur ((firstC ar fs cur))))).toNat) (0, [], [])).1), ((ls.getD ((firstL ar ls ((sub ar cur ((firstC ar fs cur))))).toNat) (0, [], [])).2.1), ((ls.getD ((firstL ar ls ((sub ar cur ((firstC ar fs cur))))).toNat) (0, [], [])).2.2))) ((sub ar cur ((firstC ar fs cur))))) ((ls.getD ((firstL ar ls ((sub ar cur ((firstC ar fs cur))))).toNat) (0, [], [])).2.2)).isSome)) rfl (fun h8 => ?_) (fun h8 => ?_)
 ·have hfs9 := Bool.not_inj (y := false) h8
  refine qd (qb (qg (cv) rfl (qh (cv) rfl (qh (ii (3)) rfl (qc (qw (ql (qD (ql (ql (qD (qr (L' := L) [cv, ii (3)] (.tuple #[cv, ii (3)]) (.tmp rfl (.tmp rfl .nil)) rfl (qa (qa (qa le1 leG1) le6) le9) rF (sD (sD sR)) ?_))))))))))))
  have e := hgo.trans (call_long hfc hlg (by omega) (step_nofillL hqk hqm hfs9))
  exact ⟨_, by rw [e], by rw [e]; exact hcv, by rw [e]; exact Fresh.one (hZ.mono (qa le6 le9)), rfl⟩
 have hfs9 := Bool.not_inj (y := true) h8
 have hfl9 := fill_getD_len hfs9 (by omega)
 refine qz (qd (qb (cX (qk (0) qy rfl qJ (by decide) rfl rfl (cX (qu [arv] jf qJ rfl rfl (Rd.ownN [_] rfl rfl) (qg (cv) rfl (qg (ii ((((firstC ar fs cur) : Nat) : Int))) rfl (qg (u3) rfl (cX (qn (args := [.agg #[arv], cv, ii (((firstC ar fs cur) : Nat) : Int), u3]) call147 rfl (putW_spec (p := (firstC ar fs cur)) har hcv f7_2hr (ho := (termW_of hoc)) (hp := (hfp)) (hul := (by omega))) ?_)))))))))))
 rintro _ F10 _ le10 ⟨x7, rfl, hr9, hr10, hr11, rfl⟩
 replace hcv := hcv.mono le10
 refine qg (.tuple #[x7, .bool ((putL ar cur ((firstC ar fs cur)) ((fillL (matchP ar (leftL (((ls.getD ((firstL ar ls ((sub ar cur ((firstC ar fs cur))))).toNat) (0, [], [])).1), ((ls.getD ((firstL ar ls ((sub ar cur ((firstC ar fs cur))))).toNat) (0, [], [])).2.1), ((ls.getD ((firstL ar ls ((sub ar cur ((firstC ar fs cur))))).toNat) (0, [], [])).2.2))) ((sub ar cur ((firstC ar fs cur))))) ((ls.getD ((firstL ar ls ((sub ar cur ((firstC ar fs cur))))).toNat) (0, [], [])).2.2)).getD [])).isSome)]) rfl (cX (jd (x7) rfl rfl (cX (jd (.bool ((putL ar cur ((firstC ar fs cur)) ((fillL (matchP ar (leftL (((ls.getD ((firstL ar ls ((sub ar cur ((firstC ar fs cur))))).toNat) (0, [], [])).1), ((ls.getD ((firstL ar ls ((sub ar cur ((firstC ar fs cur))))).toNat) (0, [], [])).2.1), ((ls.getD ((firstL ar ls ((sub ar cur ((firstC ar fs cur))))).toNat) (0, [], [])).2.2))) ((sub ar cur ((firstC ar fs cur))))) ((ls.getD ((firstL ar ls ((sub ar cur ((firstC ar fs cur))))).toNat) (0, [], [])).2.2)).getD [])).isSome)) rfl rfl (qh (x7) rfl (qh (.bool ((putL ar cur ((firstC ar fs cur)) ((fillL (matchP ar (leftL (((ls.getD ((firstL ar ls ((sub ar cur ((firstC ar fs cur))))).toNat) (0, [], [])).1), ((ls.getD ((firstL ar ls ((sub ar cur ((firstC ar fs cur))))).toNat) (0, [], [])).2.1), ((ls.getD ((firstL ar ls ((sub ar cur ((firstC ar fs cur))))).toNat) (0, [], [])).2.2))) ((sub ar cur ((firstC ar fs cur))))) ((ls.getD ((firstL ar ls ((sub ar cur ((firstC ar fs cur))))).toNat) (0, [], [])).2.2)).getD [])).isSome)) rfl ?_))))))
 refine qc (qd (qd (qb (qg (.bool ((putL ar cur ((firstC ar fs cur)) ((fillL (matchP ar (leftL (((ls.getD ((firstL ar ls ((sub ar cur ((firstC ar fs cur))))).toNat) (0, [], [])).1), ((ls.getD ((firstL ar ls ((sub ar cur ((firstC ar fs cur))))).toNat) (0, [], [])).2.1), ((ls.getD ((firstL ar ls ((sub ar cur ((firstC ar fs cur))))).toNat) (0, [], [])).2.2))) ((sub ar cur ((firstC ar fs cur))))) ((ls.getD ((firstL ar ls ((sub ar cur ((firstC ar fs cur))))).toNat) (0, [], [])).2.2)).getD [])).isSome)) rfl (cX (jt rfl (qc ?_)))))))
 refine jF (t := !((putL ar cur ((firstC ar fs cur)) ((fillL (matchP ar (leftL (((ls.getD ((firstL ar ls ((sub ar cur ((firstC ar fs cur))))).toNat) (0, [], [])).1), ((ls.getD ((firstL ar ls ((sub ar cur ((firstC ar fs cur))))).toNat) (0, [], [])).2.1), ((ls.getD ((firstL ar ls ((sub ar cur ((firstC ar fs cur))))).toNat) (0, [], [])).2.2))) ((sub ar cur ((firstC ar fs cur))))) ((ls.getD ((firstL ar ls ((sub ar cur ((firstC ar fs cur))))).toNat) (0, [], [])).2.2)).getD [])).isSome)) rfl (fun h9 => ?_) (fun h9 => ?_)
 ·have hps9 := Bool.not_inj (y := false) h9
  have hst9 := step_putL hqk hqm hfs9
  refine qd (qb (qg (cv) rfl (qh (cv) rfl (qh (ii (3)) rfl (qc (qw (ql (qD (ql (ql (qD (qr (L' := L) [cv, ii (3)] (.tuple #[cv, ii (3)]) (.tmp rfl (.tmp rfl .nil)) rfl (qa (qa (qa (qa le1 leG1) le6) le9) le10) rF (sD (sD sR)) ?_))))))))))))
  have e := hgo.trans (call_long hfc hlg (by omega) (by rw [hst9]; exact opt_none hps9))
  exact ⟨_, by rw [e], by rw [e]; exact hcv, by rw [e]; exact Fresh.one (hZ.mono (qa (qa le6 le9) le10)), rfl⟩
 have hps9 := Bool.not_inj (y := true) h9
 have hst9 := step_putL hqk hqm hfs9
 refine qz (qb (qg (x7) rfl (qh (x7) rfl (qc (qb (qg (ii ((k : Int))) rfl (cX (qK (((k + 1 : Nat) : Int)) rfl rfl (by omega) (by omega) (qh (ii (((k + 1 : Nat) : Int))) rfl (qc ?_))))))))))
 exact ⟨(k + 1, x7, (putL ar cur ((firstC ar fs cur)) ((fillL (matchP ar (leftL (((ls.getD ((firstL ar ls ((sub ar cur ((firstC ar fs cur))))).toNat) (0, [], [])).1), ((ls.getD ((firstL ar ls ((sub ar cur ((firstC ar fs cur))))).toNat) (0, [], [])).2.1), ((ls.getD ((firstL ar ls ((sub ar cur ((firstC ar fs cur))))).toNat) (0, [], [])).2.2))) ((sub ar cur ((firstC ar fs cur))))) ((ls.getD ((firstL ar ls ((sub ar cur ((firstC ar fs cur))))).toNat) (0, [], [])).2.2)).getD [])).getD [], F10), _, (qa (qa (qa leG1 le6) le9) le10), rF, ⟨rfl, rfl, rfl, rfl, ⟨⟩⟩, (sD (sC sR)), ⟨rfl, (qa (qa (qa leG1 le6) le9) le10), (hr9), ((hr11.base (qa (qa (qa le1 leG1) le6) le9))), ((step_okL hfr hoc hfp hqk (by rw [hst9]; exact opt_get hps9))), (by (try dsimp only); omega), ((hgo.trans ((call_next hfc hlg (by omega) (by rw [hst9]; exact opt_get hps9)).trans (by (try dsimp only); rw [show n.toNat - (k + 1) = n.toNat - k - 1 from by omega]))))⟩, (by (try dsimp only); omega)⟩

/- spec.l26Call -/
set_option maxRecDepth 20000 in
theorem l26Call_spec {F : FH} {L : List HP} {arv : Value} {ar : List Int} (har : IntsF F arv ar) {fsv : Value} {fs : List Int} (hfs : IntsF F fsv fs) {lsv : Value} {ls : List LineT} (hls : LinesF F lsv ls) {tv : Value} {t : List Int} (ht : IntsF F tv t) {p : Nat} (ho : termOk ar t = true) (hp : p < t.length) (hla : ar.length ≤ 4000000) (hlf : fs.length ≤ 4000000) :
    Does prog 149 [.agg #[arv, fsv, lsv], tv, ii ((p : Int))] F (L) (fun v F' L' => (.bool (callAt ar fs t p) : Value) = v ∧ F = F' ∧ L = L') := by
 refine qG func149 rfl rfl rfl ?_
 have htl := termOk_len ho
 have hee := endN_spec ho hp
 refine qd (qb (cX (jb [arv, fsv, lsv] rfl rfl ?_)))
 intro b1
 refine qh (.bool (false)) rfl (qc (qd (qb (cX (qk (0) qy rfl qJ (by decide) rfl rfl (cX (qu [arv] jf qJ rfl rfl (Rd.ownN [] rfl rfl) (qg (tv) rfl (qg (ii ((p : Int))) rfl (cX (qn (args := [.agg #[arv], tv, ii (p : Int)]) call208 rfl (l1End_ok (p := p) har ht (ho := (by first | assumption | rfl | omega | (left; simp; done) | (right; simp; done))) (hp := (by first | assumption | rfl | omega | (left; simp; done) | (right; simp; done)))) ?_)))))))))))
 rintro _ _ _ _ ⟨rfl, rfl, rfl⟩
 refine qh (ii (((endN ar t p : Nat) : Int))) rfl (qc (qd ?_))
 by_cases h1 : (t.getD p 0) ∈ fs
 ·refine jM [cellsH b1 [arv, fsv, lsv] 108] L 15 [] [[], [0], [], [], [2, 3], [4], [1, 5], [6], [7], [7], [7, 9], [7], [7, 8, 10, 11], [7], [7, 13]] [] (phiG [pe (ptr b1 1), pe fsv, pe tv, pe (ii ((p : Int)) : Value), pe (.pointer (some (elemA tv (p)))), pe (ii (t.getD p 0)), pe (.bool (decide ((t.getD p 0) ∈ fs))), pe (.bool (decide ((t.getD p 0) ∈ fs))), pe tv, pe (ii ((p : Int)) : Value), pe (ii (((p + 1 : Nat) : Int)) : Value), pe (ii (((endN ar t p : Nat) : Int)) : Value), fun FF us v => (v : Value) = v ∧ (IntsF FF v ((t.drop (p + 1)).take ((endN ar t p) - (p + 1)))) ∧ (isNil v = isNil tv), pe (ptr b1 1), pe fsv]) (ownL []) mixed rfl rfl (by kernel_rfl) (by kernel_rfl) (MonoG.get (m1 (m1 (m1 (m1 (m1 (m1 (m1 (m1 (m1 (m1 (m1 (m1 (mC (fun le h => ⟨h.1, h.2.1.mono le, h.2.2⟩) (m1 (m1 MonoG.nil)))))))))))))))) ?_ ?_
  ·refine gD (fun W Fs R lF z9 => ?_) ?_
   ·refine qi (qk (1) qy rfl qA (by decide) rfl rfl ?_)
    exact ⟨rfl, rfl⟩
   refine gD (fun W Fs R lF z9 => ?_) ?_
   ·replace har := har.mono lF
    replace hfs := hfs.mono lF
    replace ht := ht.mono lF
    rw [zA 0 (z9 0 rfl)]
    refine qi (qj qU rfl (Rd.own [] rfl rfl) ?_)
    exact ⟨rfl, rfl⟩
   refine gD (fun W Fs R lF z9 => ?_) ?_
   ·refine qi (qm (tv) rfl ?_)
    exact ⟨rfl, rfl⟩
   refine gD (fun W Fs R lF z9 => ?_) ?_
   ·refine qi (qm (ii ((p : Int))) rfl ?_)
    exact ⟨rfl, rfl⟩
   refine gD (fun W Fs R lF z9 => ?_) ?_
   ·replace har := har.mono lF
    replace hfs := hfs.mono lF
    replace ht := ht.mono lF
    rw [zB 2 3 (z9 2 rfl) (z9 3 rfl)]
    refine qi (qt p qf qq rfl rfl rfl ht.slv (by omega) (Nat.mul_one _) ?_)
    exact ⟨rfl, rfl⟩
   refine gD (fun W Fs R lF z9 => ?_) ?_
   ·replace har := har.mono lF
    replace hfs := hfs.mono lF
    replace ht := ht.mono lF
    rw [zA 4 (z9 4 rfl)]
    refine qi (qj qP rfl (ht.rd (by omega)) ?_)
    exact ⟨rfl, rfl⟩
   refine gD (fun W Fs R lF z9 => ?_) ?_
   ·replace har := har.mono lF
    replace hfs := hfs.mono lF
    replace ht := ht.mono lF
    rw [zB 1 5 (z9 1 rfl) (z9 5 rfl)]
    refine qi (qn (args := [fsv, ii (t.getD p 0)]) call259 rfl (l1Has_spec (n := t.getD p 0) hfs (hbd := (by omega))) ?_)
    rintro _ _ _ _ ⟨rfl, rfl, rfl⟩
    exact ⟨rfl, rfl⟩
   refine gD (fun W Fs R lF z9 => ?_) ?_
   ·rw [zA 6 (z9 6 rfl)]
    refine qi (qm (.bool (decide ((t.getD p 0) ∈ fs))) rfl ?_)
    exact ⟨rfl, rfl⟩
   refine gD (fun W Fs R lF z9 => ?_) ?_
   ·rw [zA 7 (z9 7 rfl)]
    refine qZ (t := 20) rfl (vT h1) (qm (tv) rfl ?_)
    exact ⟨rfl, rfl⟩
   refine gD (fun W Fs R lF z9 => ?_) ?_
   ·rw [zA 7 (z9 7 rfl)]
    refine qZ (t := 20) rfl (vT h1) (qm (ii ((p : Int))) rfl ?_)
    exact ⟨rfl, rfl⟩
   refine gD (fun W Fs R lF z9 => ?_) ?_
   ·rw [zB 7 9 (z9 7 rfl) (z9 9 rfl)]
    refine qZ (t := 20) rfl (vT h1) (qK (((p + 1 : Nat) : Int)) rfl rfl (by omega) (by omega) ?_)
    exact ⟨rfl, rfl⟩
   refine gD (fun W Fs R lF z9 => ?_) ?_
   ·rw [zA 7 (z9 7 rfl)]
    refine qZ (t := 20) rfl (vT h1) (qm (ii (((endN ar t p : Nat) : Int))) rfl ?_)
    exact ⟨rfl, rfl⟩
   refine gD (fun W Fs R lF z9 => ?_) ?_
   ·replace har := har.mono lF
    replace hfs := hfs.mono lF
    replace ht := ht.mono lF
    rw [eS (l := [(7, _), (8, _), (10, _), (11, _)]) ⟨z9 7 rfl, z9 8 rfl, z9 10 rfl, z9 11 rfl, ⟨⟩⟩]
    refine qZ (t := 20) rfl (vT h1) (jV (p + 1) (endN ar t p) qf qq rfl ht ⟨_, rfl⟩ ⟨_, rfl⟩ (by omega) (by omega) ?_)
    intro v2 hv2 hn2
    exact ⟨⟨rfl, hv2, hn2⟩, rfl⟩
   refine gD (fun W Fs R lF z9 => ?_) ?_
   ·rw [zA 7 (z9 7 rfl)]
    refine qZ (t := 20) rfl (vT h1) (qk (1) qy rfl qA (by decide) rfl rfl ?_)
    exact ⟨rfl, rfl⟩
   refine gD (fun W Fs R lF z9 => ?_) ?_
   ·replace har := har.mono lF
    replace hfs := hfs.mono lF
    replace ht := ht.mono lF
    rw [zB 7 13 (z9 7 rfl) (z9 13 rfl)]
    refine qZ (t := 20) rfl (vT h1) (qj qU rfl (Rd.own [] rfl rfl) ?_)
    exact ⟨rfl, rfl⟩
   exact stepsG.nil
  intro W F1 le1 hphi
  obtain ⟨e12, f12_2hv, f12_2hn⟩ := hphi 12 (by decide)
  generalize hu1 : (W 12) = u1 at e12 f12_2hv f12_2hn
  rw [eS (l := [(7, _), (12, u1), (14, _)]) ⟨(hphi 7 (by decide)), hu1, (hphi 14 (by decide)), ⟨⟩⟩]
  replace hfs := hfs.mono le1
  replace ht := ht.mono le1
  show XL _ _ _ _ _ _ _ (cellsH b1 [arv, fsv, lsv] 108 :: L)
  refine qo (t := 20) rfl (vT h1) (qn (args := [u1, fsv]) call260 rfl (l26Without_spec f12_2hv hfs (hlt := (by simp; omega)) (hlf := (hlf))) ?_)
  rintro _ _ _ _ ⟨rfl, rfl, rfl⟩
  refine cX (qO (.bool (freeB fs (((t.drop (p + 1)).take ((endN ar t p) - (p + 1)))))) (vT h1) rfl (qh (.bool (freeB fs (((t.drop (p + 1)).take ((endN ar t p) - (p + 1)))))) rfl (qc (qw (qr (L' := L) [.bool (freeB fs (((t.drop (p + 1)).take ((endN ar t p) - (p + 1)))))] (.bool (freeB fs (((t.drop (p + 1)).take ((endN ar t p) - (p + 1)))))) (.tmp rfl .nil) rfl rF le1 (sD sR) ?_)))))
  exact ⟨(vB (by rw [← callAt_eq]; simp_all)), rfl, rfl⟩
 refine jx [cellsH b1 [arv, fsv, lsv] 108] L 15 [] [[], [0], [], [], [2, 3], [4], [1, 5], [6], [7], [7], [7, 9], [7], [7, 8, 10, 11], [7], [7, 13]] (phiL [qe (ptr b1 1), qe fsv, qe tv, qe (ii ((p : Int)) : Value), qe (.pointer (some (elemA tv (p)))), qe (ii (t.getD p 0)), qe (.bool (decide ((t.getD p 0) ∈ fs))), qe (.bool (decide ((t.getD p 0) ∈ fs))), qe undef, qe undef, qe undef, qe undef, qe undef, qe undef, qe undef]) (ownL []) mixed rfl rfl (by kernel_rfl) ?_ ?_
 ·refine pD (fun W R z9 => ?_) ?_
  ·refine qi (qk (1) qy rfl qA (by decide) rfl rfl ?_)
   exact ⟨rfl, rfl, rfl⟩
  refine pD (fun W R z9 => ?_) ?_
  ·rw [zA 0 (z9 0 rfl)]
   refine qi (qj qU rfl (Rd.own [] rfl rfl) ?_)
   exact ⟨rfl, rfl, rfl⟩
  refine pD (fun W R z9 => ?_) ?_
  ·refine qi (qm (tv) rfl ?_)
   exact ⟨rfl, rfl, rfl⟩
  refine pD (fun W R z9 => ?_) ?_
  ·refine qi (qm (ii ((p : Int))) rfl ?_)
   exact ⟨rfl, rfl, rfl⟩
  refine pD (fun W R z9 => ?_) ?_
  ·rw [zB 2 3 (z9 2 rfl) (z9 3 rfl)]
   refine qi (qt p qf qq rfl rfl rfl ht.slv (by omega) (Nat.mul_one _) ?_)
   exact ⟨rfl, rfl, rfl⟩
  refine pD (fun W R z9 => ?_) ?_
  ·rw [zA 4 (z9 4 rfl)]
   refine qi (qj qP rfl (ht.rd (by omega)) ?_)
   exact ⟨rfl, rfl, rfl⟩
  refine pD (fun W R z9 => ?_) ?_
  ·rw [zB 1 5 (z9 1 rfl) (z9 5 rfl)]
   refine qi (qn (args := [fsv, ii (t.getD p 0)]) call259 rfl (l1Has_spec (n := t.getD p 0) hfs (hbd := (by omega))) ?_)
   rintro _ _ _ _ ⟨rfl, rfl, rfl⟩
   exact ⟨rfl, rfl, rfl⟩
  refine pD (fun W R z9 => ?_) ?_
  ·rw [zA 6 (z9 6 rfl)]
   refine qi (qm (.bool (decide ((t.getD p 0) ∈ fs))) rfl ?_)
   exact ⟨rfl, rfl, rfl⟩
  refine pD (fun W R z9 => ?_) ?_
  ·rw [zA 7 (z9 7 rfl)]
   exact jh (t := 20) rfl (vF h1) ⟨rfl, rfl, rfl⟩
  refine pD (fun W R z9 => ?_) ?_
  ·rw [zA 7 (z9 7 rfl)]
   exact jh (t := 20) rfl (vF h1) ⟨rfl, rfl, rfl⟩
  refine pD (fun W R z9 => ?_) ?_
  ·rw [eS (l := [(7, _), (9, undef)]) ⟨z9 7 rfl, z9 9 rfl, ⟨⟩⟩]
   exact jh (t := 20) rfl (vF h1) ⟨rfl, rfl, rfl⟩
  refine pD (fun W R z9 => ?_) ?_
  ·rw [zA 7 (z9 7 rfl)]
   exact jh (t := 20) rfl (vF h1) ⟨rfl, rfl, rfl⟩
  refine pD (fun W R z9 => ?_) ?_
  ·rw [eS (l := [(7, _), (8, undef), (10, undef), (11, undef)]) ⟨z9 7 rfl, z9 8 rfl, z9 10 rfl, z9 11 rfl, ⟨⟩⟩]
   exact jh (t := 20) rfl (vF h1) ⟨rfl, rfl, rfl⟩
  refine pD (fun W R z9 => ?_) ?_
  ·rw [zA 7 (z9 7 rfl)]
   exact jh (t := 20) rfl (vF h1) ⟨rfl, rfl, rfl⟩
  refine pD (fun W R z9 => ?_) ?_
  ·rw [eS (l := [(7, _), (13, undef)]) ⟨z9 7 rfl, z9 13 rfl, ⟨⟩⟩]
   exact jh (t := 20) rfl (vF h1) ⟨rfl, rfl, rfl⟩
  exact stepsP.nil
 intro W hphi
 rw [eS (l := [(7, _), (12, undef), (14, undef)]) ⟨(hphi 7 (by decide)), (hphi 12 (by decide)), (hphi 14 (by decide)), ⟨⟩⟩]
 show XL _ _ _ _ _ _ _ (cellsH b1 [arv, fsv, lsv] 108 :: L)
 refine qp (t := 20) rfl (vF h1) (cX (qN (.bool (false)) (vF h1) rfl (qh (.bool (false)) rfl (qc (qw (qr (L' := L) [.bool (false)] (.bool (false)) (.tmp rfl .nil) rfl rF rF (sD sR) ?_))))))
 exact ⟨(vB (by rw [← callAt_eq]; simp_all)), rfl, rfl⟩

/- spec.Matched -/
theorem sMatchedG_spec {F : FH} {L : List HP} {arv : Value} {ar : List Int} (har : IntsF F arv ar) {pv : Value} {p : List Int} (hp : IntsF F pv p) {tv : Value} {t : List Int} (ht : IntsF F tv t) (ho : termOk ar t = true) (hpo : termOk ar p = true) (hla : ar.length ≤ 4000000) :
    Does prog 152 [.agg #[arv], pv, tv] F (L) (fun v F' L' => ∃ (a : Value), (.tuple #[.agg #[a], .bool ((matchB ar p t).isSome)] : Value) = v ∧ (RowsF F' a (matchP ar p t)) ∧ L = L') := by
 refine qG func152 rfl rfl rfl ?_
 have hpl := termOk_len hpo
 have htl := termOk_len ho
 refine qd (qb (cX (jb [arv] rfl rfl ?_)))
 intro b1
 refine cX (jr [sN] jB rfl ?_)
 intro b2
 refine qh (.bool (false)) rfl (qc (qd (qd (qb (cX (qu [arv] jf qJ rfl rfl (Rd.ownN [_] rfl rfl) (qg (pv) rfl (cX (qn (args := [.agg #[arv], pv]) call202 rfl (sTermOk_spec har hp (hla := (by first | assumption | rfl | omega | simp)) (hlt := (by first | assumption | rfl | omega | simp))) ?_)))))))))
 rintro _ _ _ _ ⟨rfl, rfl, rfl⟩
 refine cX (jt rfl (qg (.bool (!(termOk ar p))) rfl ?_))
 by_cases h1 : (!(termOk ar p)) = true
 ·exact absurd h1 (by simp [ho, hpo])
 rw [Bool.not_eq_true] at h1
 refine qo (t := 12) rfl (vB h1) (qu [arv] jf qJ rfl rfl (Rd.ownN [_] rfl rfl) (qo (t := 12) rfl (vB h1) (qm (tv) rfl (qo (t := 12) rfl (vB h1) (qn (args := [.agg #[arv], tv]) call202 rfl (sTermOk_spec har ht (hla := (by first | assumption | rfl | omega | simp)) (hlt := (by first | assumption | rfl | omega | simp))) ?_)))))
 rintro _ _ _ _ ⟨rfl, rfl, rfl⟩
 refine qo (t := 12) rfl (vB h1) (jt rfl (cX (qN (.bool (!(termOk ar t))) (vB h1) rfl (qc ?_))))
 refine jF (t := !(termOk ar t)) rfl (fun h2 => ?_) (fun h2 => ?_)
 ·exact absurd h2 (by simp [ho, hpo])
 refine qz (qd (qb (cX (qu [arv] jf qJ rfl rfl (Rd.ownN [_] rfl rfl) (qg (pv) rfl (qg (tv) rfl (cX (qn (args := [.agg #[arv], pv, tv]) call216 rfl (l4Match_spec har hp ht (ho := (by first | assumption | rfl | omega | simp)) (hpo := (by first | assumption | rfl | omega | simp))) ?_))))))))
 rintro _ F1 _ le1 ⟨x1, rfl, hr1, rfl⟩
 refine cX (jd (.agg #[x1]) rfl rfl (cX (jd (.bool ((matchB ar p t).isSome)) rfl rfl (cX (qV [] _ [x1] jp rfl rfl rfl (qx (qI (RowsF.isSl hr1)) qX) rfl rfl rfl (qh (.bool ((matchB ar p t).isSome)) rfl (qc (qw (qr (L' := L) [.agg #[x1], .bool ((matchB ar p t).isSome)] (.tuple #[.agg #[x1], .bool ((matchB ar p t).isSome)]) (.cell rfl (jH [x1] jQ jp rfl (Rd.ownN [] rfl rfl)) (.tmp rfl .nil)) rfl le1 rF (sD (sD sR)) ?_)))))))))
 exact ⟨_, rfl, hr1, rfl⟩

/- spec.InstanceIn -/
theorem sInstanceIn_spec {F : FH} {L : List HP} {arv : Value} {ar : List Int} (har : IntsF F arv ar) {pv : Value} {p : List Int} (hp : IntsF F pv p) {tv : Value} {t : List Int} (ht : IntsF F tv t) (ho : termOk ar t = true) (hpo : termOk ar p = true) (hla : ar.length ≤ 4000000) :
    Does prog 261 [.agg #[arv], pv, tv] F (L) (fun v F' L' => (.bool ((matchB ar p t).isSome) : Value) = v ∧ F = F' ∧ L = L') := by
 refine qG func261 rfl rfl rfl (qd (qb (cX (jb [arv] rfl rfl ?_))))
 intro b1
 refine qh (.bool (false)) rfl (qc (qd (qb (cX (qu [arv] jf qJ rfl rfl (Rd.ownN [] rfl rfl) (qg (pv) rfl (qg (tv) rfl (cX (qn (args := [.agg #[arv], pv, tv]) call152 rfl (sMatchedG_spec har hp ht (ho := (by first | assumption | rfl | omega | simp)) (hpo := (by first | assumption | rfl | omega | simp)) (hla := (by first | assumption | rfl | omega | simp))) ?_)))))))))
 rintro _ F1 _ le1 ⟨x1, rfl, hr1, rfl⟩
 refine qg (.tuple #[.agg #[x1], .bool ((matchB ar p t).isSome)]) rfl (cX (jd (.agg #[x1]) rfl rfl (cX (jd (.bool ((matchB ar p t).isSome)) rfl rfl (cX (jr [sN] jB rfl ?_))))))
 intro b2
 refine cX (qV [] _ [x1] jp rfl rfl rfl (qx (qI (RowsF.isSl hr1)) qX) rfl rfl rfl (qh (.bool ((matchB ar p t).isSome)) rfl (qc (qd (qb (qg (.bool ((matchB ar p t).isSome)) rfl (qh (.bool ((matchB ar p t).isSome)) rfl (qc (qw (qr (L' := L) [.bool ((matchB ar p t).isSome)] (.bool ((matchB ar p t).isSome)) (.tmp rfl .nil) rfl rF le1 (sD (sD sR)) ?_))))))))))
 exact ⟨rfl, rfl, rfl⟩

/- spec.l26First -/
set_option maxRecDepth 20000 in
theorem l26First_spec {F : FH} {L : List HP} {arv : Value} {ar : List Int} (har : IntsF F arv ar) {fsv : Value} {fs : List Int} (hfs : IntsF F fsv fs) {lsv : Value} {ls : List LineT} (hls : LinesF F lsv ls) {tv : Value} {t : List Int} (ht : IntsF F tv t) (hfr : frontB ar fs ls = true) (ho : termOk ar t = true) (hla : ar.length ≤ 4000000) :
    Does prog 151 [.agg #[arv, fsv, lsv], tv] F (L) (fun v F' L' => (ii (firstL ar ls t) : Value) = v ∧ F = F' ∧ L = L') := by
 refine qG func151 rfl rfl rfl ?_
 have hfi := front_iff.1 hfr
 have hsg := sigOk_spec hfi.1
 have hls8 := hfi.2.2.1
 have hln := fun (i : Nat) (hi : i < ls.length) => line_iff.1 ((all_getD_iff ((0, [], []) : LineT)).1 hfi.2.2.2 i hi)
 have hel9 : ∀ i, i < ls.length → termOk ar (leftL (ls.getD i (0, [], []))) = true ∧ (ls.getD i (0, [], [])).2.1.length ≤ 10 ∧ ∀ j, j < (ls.getD i (0, [], [])).2.1.length → ((ls.getD i (0, [], [])).2.1.getD j []).length ≤ 4000000 := fun i hi => ⟨(ruleOk_iff.1 (hln i hi).2.2.2.1).left, by have h9 := (hln i hi).2.1; have h8 := set_mem hfi.2.1 (hln i hi).1; have h7 := (hsg.2.2 (ls.getD i (0, [], [])).1.toNat (by omega)).2; omega, fun j hj => by have h9 := termOk_len ((hln i hi).2.2.1 j hj).1; omega⟩
 refine qd (qb (cX (jb [arv, fsv, lsv] rfl rfl ?_)))
 intro b1
 refine qh (ii (0)) rfl (qc (qd (qd (qb (qh (ii (0)) rfl (qc (qH (jn (α := Nat × FH) (fun xQ => [(1, tv), (2, ptr b1 0), (5, ii (((xQ.1 : Nat) : Int)))]) (fun xQ => cellsH b1 [arv, fsv, lsv] 108 :: L) (fun xQ F' => xQ.2 = F' ∧ F ≤ xQ.2 ∧ (xQ.1 ≤ ls.length) ∧ (∀ i, i < xQ.1 → (fun x : LineT => !(matchB ar (leftL x) t).isSome) (ls.getD i (0, [], [])) = true)) (fun xQ => ls.length - xQ.1) (0, F) ⟨rfl, rfl, rfl, ⟨⟩⟩ (sC sR) ⟨rfl, FLe.refl _, (by (try dsimp only) <;> omega), (fun i hi => absurd hi (by omega))⟩ ?_))))))))
 rintro ⟨k, G1⟩ rE _ _ ⟨rfl, leG, hk, hall⟩
 show X _ _ _ _ (envs [(1, tv), (2, ptr b1 0), (5, ii ((k : Int)))] rE) _ (cellsH b1 [arv, fsv, lsv] 108 :: L)
 replace leG : F ≤ G1 := leG
 dsimp only at hk hall
 have leG1 := leG
 replace har := har.mono leG1
 replace hls := hls.mono leG1
 replace ht := ht.mono leG1
 refine qd (qd (qb (qg (ii ((k : Int))) rfl (cX (qk (2) qy rfl jm (by decide) rfl rfl (cX (qj jE rfl (Rd.own [] rfl rfl) (cX (qE qS rfl hls.slv (cX (qQ rfl rfl (qc ?_))))))))))))
 refine qC (p := (k : Int) < (ls.length : Int)) rfl (fun h1 => ?_) (fun h1 => ?_)
 ·have hkl : k < ls.length := by omega
  have hek := hel9 k hkl
  refine qz (qd (qH (qd ?_)))
  obtain ⟨a1, a2, ha1, ha2, hrg1, hq1⟩ := hls.rd (i := k) (by omega)
  refine jM [cellsH b1 [arv, fsv, lsv] 108] L 9 [] [[], [0], [], [2], [], [3, 4], [5], [6]] [] (phiG [pe (ptr b1 0), pe (.agg #[arv]), pe (ptr b1 2), pe lsv, pe (ii ((k : Int)) : Value), pe (.pointer (some (elemA lsv (k * 3)))), pe (.agg #[ii ((ls.getD k (0, [], [])).1), a1, a2]), fun FF us v => ((v) : Value) = v ∧ (IntsF FF (v) (leftL (((ls.getD k (0, [], [])).1), ((ls.getD k (0, [], [])).2.1), ((ls.getD k (0, [], [])).2.2)))), pe tv]) (ownL []) mixed rfl rfl (by kernel_rfl) (by kernel_rfl) (MonoG.get (m1 (m1 (m1 (m1 (m1 (m1 (m1 (mC (fun le h => ⟨h.1, h.2.mono le⟩) (m1 MonoG.nil)))))))))) ?_ ?_
  ·refine gD (fun W Fs R lF z9 => ?_) ?_
   ·refine qi (qk (0) qy rfl qJ (by decide) rfl rfl ?_)
    exact ⟨rfl, rfl⟩
   refine gD (fun W Fs R lF z9 => ?_) ?_
   ·replace har := har.mono lF
    replace hls := hls.mono lF
    replace ht := ht.mono lF
    replace ha1 := ha1.mono lF
    replace ha2 := ha2.mono lF
    replace hrg1 := fun L9 j9 u9 h9 => Rd.mono (hrg1 L9 j9 u9 h9) lF
    rw [zA 0 (z9 0 rfl)]
    refine qi (qu [arv] jf qJ rfl rfl (Rd.ownN [] rfl rfl) ?_)
    exact ⟨rfl, rfl⟩
   refine gD (fun W Fs R lF z9 => ?_) ?_
   ·refine qi (qk (2) qy rfl jm (by decide) rfl rfl ?_)
    exact ⟨rfl, rfl⟩
   refine gD (fun W Fs R lF z9 => ?_) ?_
   ·replace har := har.mono lF
    replace hls := hls.mono lF
    replace ht := ht.mono lF
    replace ha1 := ha1.mono lF
    replace ha2 := ha2.mono lF
    replace hrg1 := fun L9 j9 u9 h9 => Rd.mono (hrg1 L9 j9 u9 h9) lF
    rw [zA 2 (z9 2 rfl)]
    refine qi (qj jE rfl (Rd.own [] rfl rfl) ?_)
    exact ⟨rfl, rfl⟩
   refine gD (fun W Fs R lF z9 => ?_) ?_
   ·refine qi (qm (ii ((k : Int))) rfl ?_)
    exact ⟨rfl, rfl⟩
   refine gD (fun W Fs R lF z9 => ?_) ?_
   ·replace har := har.mono lF
    replace hls := hls.mono lF
    replace ht := ht.mono lF
    replace ha1 := ha1.mono lF
    replace ha2 := ha2.mono lF
    replace hrg1 := fun L9 j9 u9 h9 => Rd.mono (hrg1 L9 j9 u9 h9) lF
    rw [zB 3 4 (z9 3 rfl) (z9 4 rfl)]
    refine qi (qt k qS jl rfl rfl rfl hls.slv (by omega) rfl ?_)
    exact ⟨rfl, rfl⟩
   refine gD (fun W Fs R lF z9 => ?_) ?_
   ·replace har := har.mono lF
    replace ht := ht.mono lF
    replace ha1 := ha1.mono lF
    replace ha2 := ha2.mono lF
    replace hrg1 := fun L9 j9 u9 h9 => Rd.mono (hrg1 L9 j9 u9 h9) lF
    rw [zA 5 (z9 5 rfl)]
    refine qi (qu [ii ((ls.getD k (0, [], [])).1), a1, a2] jW jl rfl rfl (Rd.all (hrg1 _)) ?_)
    exact ⟨rfl, rfl⟩
   refine gD (fun W Fs R lF z9 => ?_) ?_
   ·replace har := har.mono lF
    replace ht := ht.mono lF
    replace ha1 := ha1.mono lF
    replace ha2 := ha2.mono lF
    rw [zA 6 (z9 6 rfl)]
    refine qi (jD <| qn (args := [.agg #[ii ((ls.getD k (0, [], [])).1), a1, a2]]) call153 rfl (l26Left_spec ha1 ha2 (hpn := (hek.2.1)) (hpb := (hek.2.2))) ?_)
    rintro v2 _ _ _ ⟨rfl, hs2, rfl⟩
    refine ⟨_, _, rfl, fun F1 le1 hz1 => ?_⟩
    replace har := har.mono le1
    replace ht := ht.mono le1
    have hf1 : IntsF F1 v2 ((leftL (((ls.getD k (0, [], [])).1), ((ls.getD k (0, [], [])).2.1), ((ls.getD k (0, [], [])).2.2)))) := intsH.fz (xs := (leftL (((ls.getD k (0, [], [])).1), ((ls.getD k (0, [], [])).2.1), ((ls.getD k (0, [], [])).2.2)))) hz1.fz
    exact ⟨⟨rfl, hf1⟩, rfl⟩
   refine gD (fun W Fs R lF z9 => ?_) ?_
   ·refine qi (qm (tv) rfl ?_)
    exact ⟨rfl, rfl⟩
   exact stepsG.nil
  intro W F2 le2 hphi
  obtain ⟨e7, f7_1ha⟩ := hphi 7 (by decide)
  generalize hu1 : ((W 7)) = u1 at e7 f7_1ha
  rw [eS (l := [(1, _), (7, u1), (8, _)]) ⟨(hphi 1 (by decide)), hu1, (hphi 8 (by decide)), ⟨⟩⟩]
  replace har := har.mono le2
  replace ht := ht.mono le2
  show XL _ _ _ _ _ _ _ (cellsH b1 [arv, fsv, lsv] 108 :: L)
  refine cX (qn (args := [.agg #[arv], u1, tv]) call261 rfl (sInstanceIn_spec har f7_1ha ht (ho := (ho)) (hpo := (hek.1)) (hla := (by first | assumption | rfl | omega | simp))) ?_)
  rintro _ _ _ _ ⟨rfl, rfl, rfl⟩
  refine qc ?_
  refine jF (t := (matchB ar ((leftL (((ls.getD k (0, [], [])).1), ((ls.getD k (0, [], [])).2.1), ((ls.getD k (0, [], [])).2.2)))) t).isSome) rfl (fun h2 => ?_) (fun h2 => ?_)
  ·have hlk := h2
   refine qd (qb (qg (ii ((k : Int))) rfl (qh (ii ((k : Int))) rfl (qc (qw (qD (ql (ql (qD (ql (qr (L' := L) [ii ((k : Int))] (ii ((k : Int))) (.tmp rfl .nil) rfl rF (qa leG1 le2) (sD sR) ?_)))))))))))
   exact ⟨(vI (badG_at ((0, [], []) : LineT) (by omega) (congrArg (fun b : Bool => !b) hlk) hall)), rfl, rfl⟩
  have hlk := h2
  refine qz (qb (qg (ii ((k : Int))) rfl (cX (qK (((k + 1 : Nat) : Int)) rfl rfl (by omega) (by omega) (qh (ii (((k + 1 : Nat) : Int))) rfl (qc ?_))))))
  exact ⟨(k + 1, F2), _, (qa leG1 le2), rF, ⟨rfl, rfl, rfl, ⟨⟩⟩, (sC sR), ⟨rfl, (qa leG1 le2), (by (try dsimp only) <;> omega), (fun i hi => (Nat.lt_or_ge i k).elim (fun h => hall i h) (fun h => by obtain rfl : i = k := (by omega); exact congrArg (fun b : Bool => !b) hlk))⟩, (by omega)⟩
 refine jg (qv (qv (qM (qd (qb (qh (ii (-1)) rfl (qc (qw (qr (L' := L) [ii (-1)] (ii (-1)) (.tmp rfl .nil) rfl rF leG1 (sD sR) ?_)))))))))
 exact ⟨(vI (badG_none ((0, [], []) : LineT) (fun i hi => hall i (by omega)))), rfl, rfl⟩

/- spec.CallBy -/
set_option maxHeartbeats 2000000 in
set_option maxRecDepth 20000 in
theorem sCallBy_spec {F : FH} {L : List HP} {arv : Value} {ar : List Int} (har : IntsF F arv ar) {fsv : Value} {fs : List Int} (hfs : IntsF F fsv fs) {lsv : Value} {ls : List LineT} (hls : LinesF F lsv ls) {tv : Value} {t : List Int} (ht : IntsF F tv t) {n : Int} (hla : ar.length ≤ 4000000) (hlf : fs.length ≤ 4000000) (hll : ls.length ≤ 4000000) (hlb : ∀ i, i < ls.length → (ls.getD i (0, [], [])).2.1.length ≤ 4000000 ∧ (∀ j, j < (ls.getD i (0, [], [])).2.1.length → ((ls.getD i (0, [], [])).2.1.getD j []).length ≤ 4000000) ∧ (ls.getD i (0, [], [])).2.2.length ≤ 4000000) (hlt : t.length ≤ 4000000) :
    Does prog 56 [.agg #[arv, fsv, lsv], tv, ii (n)] F (L) (fun v F' L' => ∃ (a : Value), (.tuple #[a, ii ((callL ar fs ls t n).2)] : Value) = v ∧ (IntsF F' a (callL ar fs ls t n).1) ∧ L = L') := by
 refine qG func56 rfl rfl rfl (qd (qb (cX (jb [arv, fsv, lsv] rfl rfl ?_))))
 intro b1
 refine qh (sN) rfl (qh (ii (0)) rfl (qc (qd (qd (qb (cX (qu [arv, fsv, lsv] jj qT rfl rfl (Rd.ownN [] rfl rfl) (cX (qn (args := [.agg #[arv, fsv, lsv]]) call58 rfl (sFrontOk_spec har hfs hls (hla := (by first | assumption | rfl | omega | simp)) (hlf := (by first | assumption | rfl | omega | simp)) (hll := (by first | assumption | rfl | omega | simp)) (hlb := (by first | assumption | rfl | omega | simp))) ?_)))))))))
 rintro _ _ _ _ ⟨rfl, rfl, rfl⟩
 refine cX (jt rfl (qg (.bool (!(frontB ar fs ls))) rfl ?_))
 by_cases h1 : (!(frontB ar fs ls)) = true
 ·have hfr := Bool.not_inj (y := false) h1
  refine qp (t := 21) rfl (vB h1) (qp (t := 21) rfl (vB h1) (qp (t := 21) rfl (vB h1) (qp (t := 21) rfl (vB h1) (qp (t := 21) rfl (vB h1) (cX (qO (.bool (true)) (vB h1) rfl (qg (.bool (true)) rfl (qp (t := 28) rfl rfl (qp (t := 28) rfl rfl (qp (t := 28) rfl rfl ?_))))))))))
  refine cX (qO (.bool (true)) rfl rfl (qc (jA rfl (qd (qb (cX (qs (s := 1) [] [ii (0)] [] qf qq qL rfl (by decide) rfl CellsAre.nil rfl ?_)))))))
  intro v1 hv1
  refine qh (v1) rfl (qh (ii (-1)) rfl (qc ?_))
  show X _ _ _ _ _ _ (intsH 2 v1 ([] : List Int) :: cellsH b1 [arv, fsv, lsv] 108 :: L)
  refine qY [] _ _ rfl (fun F1 le1 hz1 => ?_)
  replace har := har.mono le1
  replace hfs := hfs.mono le1
  replace hls := hls.mono le1
  replace ht := ht.mono le1
  have hf1 : IntsF F1 v1 ([]) := intsH.fz (xs := []) hz1.fz
  refine qw (ql (qr (L' := L) [v1, ii (-1)] (.tuple #[v1, ii (-1)]) (.tmp rfl (.tmp rfl .nil)) rfl le1 rF (sD sR) ?_))
  have e : callL ar fs ls t n = ([], -1) := callL_no (fun h9 => by first | exact absurd (h9.1.symm.trans hfr) (by decide) | exact absurd (h9.2.1.symm.trans hgr) (by decide) | omega)
  exact ⟨_, by rw [e] <;> rfl, by rw [e]; exact hf1, rfl⟩
 rw [Bool.not_eq_true] at h1
 have hfr := Bool.not_inj (y := true) h1
 have hfi := front_iff.1 hfr
 have hsg := sigOk_spec hfi.1
 have hls8 := hfi.2.2.1
 have hln := fun (i : Nat) (hi : i < ls.length) => line_iff.1 ((all_getD_iff ((0, [], []) : LineT)).1 hfi.2.2.2 i hi)
 refine qo (t := 21) rfl (vB h1) (qk (0) qy rfl qJ (by decide) rfl rfl (qo (t := 21) rfl (vB h1) (qu [arv] jf qJ rfl rfl (Rd.ownN [] rfl rfl) (qo (t := 21) rfl (vB h1) (qm (tv) rfl (qo (t := 21) rfl (vB h1) (qn (args := [.agg #[arv], tv]) call148 rfl (sGroundIn_spec har ht (hla := (by first | assumption | rfl | omega | simp)) (hlt := (by first | assumption | rfl | omega | simp))) ?_)))))))
 rintro _ _ _ _ ⟨rfl, rfl, rfl⟩
 refine qo (t := 21) rfl (vB h1) (jt rfl (cX (qN (.bool (!(groundB ar t))) (vB h1) rfl (qg (.bool (!(groundB ar t))) rfl ?_))))
 by_cases h2 : (!(groundB ar t)) = true
 ·have hgr := Bool.not_inj (y := false) h2
  refine qp (t := 28) rfl (vB h2) (qp (t := 28) rfl (vB h2) (qp (t := 28) rfl (vB h2) (cX (qO (.bool (true)) (vB h2) rfl (qc (jA rfl (qd (qb (cX (qs (s := 1) [] [ii (0)] [] qf qq qL rfl (by decide) rfl CellsAre.nil rfl ?_))))))))))
  intro v2 hv2
  refine qh (v2) rfl (qh (ii (-1)) rfl (qc ?_))
  show X _ _ _ _ _ _ (intsH 2 v2 ([] : List Int) :: cellsH b1 [arv, fsv, lsv] 108 :: L)
  refine qY [] _ _ rfl (fun F2 le2 hz2 => ?_)
  replace har := har.mono le2
  replace hfs := hfs.mono le2
  replace hls := hls.mono le2
  replace ht := ht.mono le2
  have hf2 : IntsF F2 v2 ([]) := intsH.fz (xs := []) hz2.fz
  refine qw (ql (qr (L' := L) [v2, ii (-1)] (.tuple #[v2, ii (-1)]) (.tmp rfl (.tmp rfl .nil)) rfl le2 rF (sD sR) ?_))
  have e : callL ar fs ls t n = ([], -1) := callL_no (fun h9 => by first | exact absurd (h9.1.symm.trans hfr) (by decide) | exact absurd (h9.2.1.symm.trans hgr) (by decide) | omega)
  exact ⟨_, by rw [e] <;> rfl, by rw [e]; exact hf2, rfl⟩
 rw [Bool.not_eq_true] at h2
 have hgr := Bool.not_inj (y := true) h2
 have hot := (ground_iff.1 hgr).1
 have htl9 := termOk_len hot
 refine qo (t := 28) rfl (vB h2) (qm (ii (n)) rfl (qo (t := 28) rfl (vB h2) (qn (args := [ii (n), ii (0), ii (60)]) call109 rfl (l1In_spec (n := n) (a := 0) (b := 60)) ?_)))
 rintro _ _ _ _ ⟨rfl, rfl, rfl⟩
 refine qo (t := 28) rfl (vB h2) (jY rfl (cX (qN (.bool (decide (¬(0 ≤ n ∧ n ≤ 60)))) (vB h2) rfl (qc ?_))))
 refine qC (p := ¬(0 ≤ n ∧ n ≤ 60)) rfl (fun h3 => ?_) (fun h3 => ?_)
 ·refine qd (qb (cX (qs (s := 1) [] [ii (0)] [] qf qq qL rfl (by decide) rfl CellsAre.nil rfl ?_)))
  intro v3 hv3
  refine qh (v3) rfl (qh (ii (-1)) rfl (qc ?_))
  show X _ _ _ _ _ _ (intsH 2 v3 ([] : List Int) :: cellsH b1 [arv, fsv, lsv] 108 :: L)
  refine qY [] _ _ rfl (fun F3 le3 hz3 => ?_)
  replace har := har.mono le3
  replace hfs := hfs.mono le3
  replace hls := hls.mono le3
  replace ht := ht.mono le3
  have hf3 : IntsF F3 v3 ([]) := intsH.fz (xs := []) hz3.fz
  refine qw (ql (qr (L' := L) [v3, ii (-1)] (.tuple #[v3, ii (-1)]) (.tmp rfl (.tmp rfl .nil)) rfl le3 rF (sD sR) ?_))
  have e : callL ar fs ls t n = ([], -1) := callL_no (fun h9 => by first | exact absurd (h9.1.symm.trans hfr) (by decide) | exact absurd (h9.2.1.symm.trans hgr) (by decide) | omega)
  exact ⟨_, by rw [e] <;> rfl, by rw [e]; exact hf3, rfl⟩
 refine qz (qd (qb (qg (tv) rfl (cX (jD <| qn (args := [tv]) call105 rfl (l1Copy_spec ht (hlt := (by omega))) ?_)))))
 rintro v4 _ _ _ ⟨rfl, hs1, rfl⟩
 refine ⟨_, _, rfl, fun F4 le4 hz4 => ?_⟩
 replace har := har.mono le4
 replace hfs := hfs.mono le4
 replace hls := hls.mono le4
 have hf4 : IntsF F4 v4 ((t)) := intsH.fz (xs := (t)) hz4.fz
 refine qh (v4) rfl (qc (qH (jn (α := Nat × Value × List Int × FH) (fun xQ => [(2, ii (((xQ.1 : Nat) : Int))), (3, ptr b1 0), (8, xQ.2.1)]) (fun xQ => cellsH b1 [arv, fsv, lsv] 108 :: L) (fun xQ F' => xQ.2.2.2 = F' ∧ F4 ≤ xQ.2.2.2 ∧ (IntsF xQ.2.2.2 xQ.2.1 xQ.2.2.1) ∧ (termOk ar xQ.2.2.1 = true) ∧ (callL ar fs ls t n = callGo ar fs ls xQ.1 xQ.2.2.1) ∧ (xQ.1 ≤ 60)) (fun xQ => xQ.1) (n.toNat, v4, (t), F4) ⟨(vI (by (try dsimp only); omega)), rfl, rfl, ⟨⟩⟩ (sC sR) ⟨rfl, FLe.refl _, (hf4), (hot), (callL_yes hfr hgr (by omega)), (by (try dsimp only); omega)⟩ ?_)))
 rintro ⟨f, cv, cur, G1⟩ rE _ _ ⟨rfl, leG, hcv, hoc, hgo, hf60⟩
 show X _ _ _ _ (envs [(2, ii ((f : Int))), (3, ptr b1 0), (8, cv)] rE) _ (cellsH b1 [arv, fsv, lsv] 108 :: L)
 replace leG : F4 ≤ G1 := leG
 dsimp only at hcv hoc hgo hf60
 have hcl := termOk_len hoc
 have leG1 := leG
 replace har := har.mono leG1
 replace hfs := hfs.mono leG1
 replace hls := hls.mono leG1
 refine qH (qd (qb (qh (ii (0)) rfl (qc (qd (qH (jn (α := Nat × FH) (fun xQ => [(2, ii ((f : Int))), (3, ptr b1 0), (8, cv), (9, ii (((xQ.1 : Nat) : Int)))]) (fun xQ => cellsH b1 [arv, fsv, lsv] 108 :: L) (fun xQ F' => xQ.2 = F' ∧ G1 ≤ xQ.2 ∧ (xQ.1 ≤ cur.length) ∧ (∀ i, i < xQ.1 → callAt ar fs cur i = false)) (fun xQ => cur.length - xQ.1) (0, G1) ⟨rfl, rfl, rfl, rfl, ⟨⟩⟩ (sC sR) ⟨rfl, FLe.refl _, (by (try dsimp only) <;> omega), (fun i hi => absurd hi (by omega))⟩ ?_)))))))
 rintro ⟨p, G2⟩ rE _ _ ⟨rfl, leG, hp, hall⟩
 show X _ _ _ _ (envs [(2, ii ((f : Int))), (3, ptr b1 0), (8, cv), (9, ii ((p : Int)))] rE) _ (cellsH b1 [arv, fsv, lsv] 108 :: L)
 replace leG : G1 ≤ G2 := leG
 dsimp only at hp hall
 have leG2 := leG
 replace har := har.mono leG2
 replace hfs := hfs.mono leG2
 replace hls := hls.mono leG2
 replace hcv := hcv.mono leG2
 refine qd (qd (qb (qg (ii ((p : Int))) rfl (qg (cv) rfl (cX (qE qf rfl hcv.slv (cX (qQ rfl rfl (qg (.bool (decide ((p : Int) < (cur.length : Int)))) rfl ?_)))))))))
 by_cases h4 : (p : Int) < (cur.length : Int)
 ·refine qo (t := 40) rfl (vT h4) (qu [arv, fsv, lsv] jj qT rfl rfl (Rd.ownN [] rfl rfl) (qo (t := 40) rfl (vT h4) (qm (cv) rfl (qo (t := 40) rfl (vT h4) (qm (ii ((p : Int))) rfl (qo (t := 40) rfl (vT h4) (qn (args := [.agg #[arv, fsv, lsv], cv, ii (p : Int)]) call149 rfl (l26Call_spec (p := p) har hfs hls hcv (ho := (hoc)) (hp := (by omega)) (hla := (by first | assumption | rfl | omega | simp)) (hlf := (by first | assumption | rfl | omega | simp))) ?_)))))))
  rintro _ _ _ _ ⟨rfl, rfl, rfl⟩
  refine qo (t := 40) rfl (vT h4) (jt rfl (cX (qO (.bool (!(callAt ar fs cur p))) (vT h4) rfl (qc ?_))))
  refine jF (t := !(callAt ar fs cur p)) rfl (fun h5 => ?_) (fun h5 => ?_)
  ·have hca : callAt ar fs cur p = false := by simpa using h5
   refine qz (qH (qb (qg (ii ((p : Int))) rfl (cX (qK (((p + 1 : Nat) : Int)) rfl rfl (by omega) (by omega) (qh (ii (((p + 1 : Nat) : Int))) rfl (qc ?_)))))))
   exact ⟨(p + 1, G2), _, leG2, rF, ⟨rfl, rfl, rfl, rfl, ⟨⟩⟩, (sC sR), ⟨rfl, leG2, (by (try dsimp only) <;> omega), (fun i hi => (Nat.lt_or_ge i p).elim (fun h => hall i h) (fun h => by obtain rfl : i = p := (by omega); exact hca))⟩, (by omega)⟩
  have hca : callAt ar fs cur p = true := by simpa using h5
  have hfc9 : firstC ar fs cur = p := firstC_at (by omega) hca hall
  have hpl9 : p < cur.length := by omega
  subst hfc9
  have hfc : firstC ar fs cur ≠ cur.length := by omega
  have hfp : firstC ar fs cur < cur.length := by omega
  have hoq := sub_ok hoc hfp
  have hql := termOk_len hoq
  skip
  refine jg (qv (qv (qM (qd (qd (qb (qg (ii ((((firstC ar fs cur) : Nat) : Int))) rfl (qg (cv) rfl (cX (qE qf rfl hcv.slv (cX (ju rfl rfl (qc ?_)))))))))))))
  refine qC (p := ((((firstC ar fs cur) : Nat) : Int) : Int) = (cur.length : Int)) rfl (fun h6 => ?_) (fun h6 => ?_)
  ·exfalso
   omega
  refine qz (qd (qb (cX (qk (0) qy rfl qJ (by decide) rfl rfl (cX (qu [arv] jf qJ rfl rfl (Rd.ownN [] rfl rfl) (qg (cv) rfl (qg (ii ((((firstC ar fs cur) : Nat) : Int))) rfl (cX (jD <| qn (args := [.agg #[arv], cv, ii (((firstC ar fs cur) : Nat) : Int)]) call150 rfl (l1Sub_spec (p := (firstC ar fs cur)) har hcv (ho := (hoc)) (hp := (hfp))) ?_))))))))))
  rintro v5 _ _ _ ⟨rfl, hs2, rfl⟩
  refine ⟨_, _, rfl, fun F5 le5 hz5 => ?_⟩
  replace har := har.mono le5
  replace hfs := hfs.mono le5
  replace hls := hls.mono le5
  replace hcv := hcv.mono le5
  have hf5 : IntsF F5 v5 ((sub ar cur ((firstC ar fs cur)))) := intsH.fz (xs := (sub ar cur ((firstC ar fs cur)))) hz5.fz
  refine qh (v5) rfl (qc (qd (qb (cX (qu [arv, fsv, lsv] jj qT rfl rfl (Rd.ownN [] rfl rfl) (qg (v5) rfl (cX (qn (args := [.agg #[arv, fsv, lsv], v5]) call151 rfl (l26First_spec har hfs hls hf5 (hfr := (hfr)) (ho := (hoq)) (hla := (by first | assumption | rfl | omega | simp))) ?_))))))))
  rintro _ _ _ _ ⟨rfl, rfl, rfl⟩
  refine qh (ii (firstL ar ls ((sub ar cur ((firstC ar fs cur)))))) rfl (qc (qd (qd (qb (qg (ii (firstL ar ls ((sub ar cur ((firstC ar fs cur)))))) rfl (cX (qQ rfl rfl (qc ?_))))))))
  refine qC (p := (firstL ar ls ((sub ar cur ((firstC ar fs cur)))) : Int) < 0) rfl (fun h7 => ?_) (fun h7 => ?_)
  ·have hlg := h7
   refine qd (qb (qg (cv) rfl (qh (cv) rfl (qh (ii (1)) rfl (qc (qw (ql (qD (ql (qD (qr (L' := L) [cv, ii (1)] (.tuple #[cv, ii (1)]) (.tmp rfl (.tmp rfl .nil)) rfl (qa (qa (qa le4 leG1) leG2) le5) rF (sD sR) ?_)))))))))))
   have e := hgo.trans (call_gap hfc hlg)
   exact ⟨_, by rw [e], by rw [e]; exact hcv, rfl⟩
  have hlg := h7
  obtain ⟨hqk, hqm⟩ := firstL_lt hlg
  have hRk := hln _ hqk
  have hRo := ruleOk_iff.1 hRk.2.2.2.1
  have hRl := hRo.left
  have hRr := hRo.right
  have hRrl := termOk_len hRr
  have hRg := fun k (hk : k < (ls.getD (firstL ar ls (sub ar cur (firstC ar fs cur))).toNat (0, [], [])).2.2.length) => termOk_ge hRr hk
  have hmp := matchP_len (ar := ar) (p := leftL (ls.getD (firstL ar ls (sub ar cur (firstC ar fs cur))).toNat (0, [], []))) (t := sub ar cur (firstC ar fs cur))
  have hmp2 := hmp.2
  have hmp3 := hmp.1
  have hel9 : ∀ i, i < ls.length → termOk ar (leftL (ls.getD i (0, [], []))) = true ∧ (ls.getD i (0, [], [])).2.1.length ≤ 10 ∧ ∀ j, j < (ls.getD i (0, [], [])).2.1.length → ((ls.getD i (0, [], [])).2.1.getD j []).length ≤ 4000000 := fun i hi => ⟨(ruleOk_iff.1 (hln i hi).2.2.2.1).left, by have h9 := (hln i hi).2.1; have h8 := set_mem hfi.2.1 (hln i hi).1; have h7 := (hsg.2.2 (ls.getD i (0, [], [])).1.toNat (by omega)).2; omega, fun j hj => by have h9 := termOk_len ((hln i hi).2.2.1 j hj).1; omega⟩
  refine qz (qd (qd (qb (qg (ii ((f : Int))) rfl (cX (ju rfl rfl (qc ?_)))))))
  refine qC (p := (f : Int) = 0) rfl (fun h8 => ?_) (fun h8 => ?_)
  ·refine qd (qb (qg (cv) rfl (qh (cv) rfl (qh (ii (2)) rfl (qc (qw (ql (qD (ql (qD (qr (L' := L) [cv, ii (2)] (.tuple #[cv, ii (2)]) (.tmp rfl (.tmp rfl .nil)) rfl (qa (qa (qa le4 leG1) leG2) le5) rF (sD sR) ?_)))))))))))
   have e := hgo.trans (call_fuel hfc hlg (by omega))
   exact ⟨_, by rw [e], by rw [e]; exact hcv, rfl⟩
  refine qz (qd ?_)
  obtain ⟨a1, a2, ha1, ha2, hrg1, hq1⟩ := hls.rd (i := (firstL ar ls ((sub ar cur ((firstC ar fs cur))))).toNat) (by omega)
  refine jM [cellsH b1 [arv, fsv, lsv] 108] L 15 [[], [], [], [], [], [], [], [], [], [], [9], [9], [], [], [9, 13]] [[], [0], [], [2], [], [3, 4], [5], [6], [], [1, 7, 8], [9], [9, 10], [9, 10], [], [9, 11, 13]] [[], [], [], [], [], [], [], [], [], [], [], [], [], [], [13]] (phiG [pe (ptr b1 0), pe (.agg #[arv]), pe (ptr b1 2), pe lsv, pe (ii (firstL ar ls ((sub ar cur ((firstC ar fs cur)))))), pe (.pointer (some (elemA lsv (((firstL ar ls ((sub ar cur ((firstC ar fs cur))))).toNat) * 3)))), pe (.agg #[ii ((ls.getD ((firstL ar ls ((sub ar cur ((firstC ar fs cur))))).toNat) (0, [], [])).1), a1, a2]), fun FF us v => ((v) : Value) = v ∧ (IntsF FF (v) (leftL (((ls.getD ((firstL ar ls ((sub ar cur ((firstC ar fs cur))))).toNat) (0, [], [])).1), ((ls.getD ((firstL ar ls ((sub ar cur ((firstC ar fs cur))))).toNat) (0, [], [])).2.1), ((ls.getD ((firstL ar ls ((sub ar cur ((firstC ar fs cur))))).toNat) (0, [], [])).2.2)))), pe v5, fun FF us v => (.tuple #[.agg #[((aggAt (tupAt v 0) 0))], .bool ((matchB ar ((leftL (((ls.getD ((firstL ar ls ((sub ar cur ((firstC ar fs cur))))).toNat) (0, [], [])).1), ((ls.getD ((firstL ar ls ((sub ar cur ((firstC ar fs cur))))).toNat) (0, [], [])).2.1), ((ls.getD ((firstL ar ls ((sub ar cur ((firstC ar fs cur))))).toNat) (0, [], [])).2.2)))) ((sub ar cur ((firstC ar fs cur))))).isSome)] : Value) = v ∧ (RowsF FF ((aggAt (tupAt v 0) 0)) (matchP ar ((leftL (((ls.getD ((firstL ar ls ((sub ar cur ((firstC ar fs cur))))).toNat) (0, [], [])).1), ((ls.getD ((firstL ar ls ((sub ar cur ((firstC ar fs cur))))).toNat) (0, [], [])).2.1), ((ls.getD ((firstL ar ls ((sub ar cur ((firstC ar fs cur))))).toNat) (0, [], [])).2.2)))) ((sub ar cur ((firstC ar fs cur)))))), fun FF us v => v = (.tuple #[.agg #[((aggAt (tupAt (us.getD 0 undef) 0) 0))], .bool ((matchB ar ((leftL (((ls.getD ((firstL ar ls ((sub ar cur ((firstC ar fs cur))))).toNat) (0, [], [])).1), ((ls.getD ((firstL ar ls ((sub ar cur ((firstC ar fs cur))))).toNat) (0, [], [])).2.1), ((ls.getD ((firstL ar ls ((sub ar cur ((firstC ar fs cur))))).toNat) (0, [], [])).2.2)))) ((sub ar cur ((firstC ar fs cur))))).isSome)] : Value), fun FF us v => v = (.agg #[((aggAt (tupAt (us.getD 0 undef) 0) 0))] : Value), pe (.bool ((matchB ar ((leftL (((ls.getD ((firstL ar ls ((sub ar cur ((firstC ar fs cur))))).toNat) (0, [], [])).1), ((ls.getD ((firstL ar ls ((sub ar cur ((firstC ar fs cur))))).toNat) (0, [], [])).2.1), ((ls.getD ((firstL ar ls ((sub ar cur ((firstC ar fs cur))))).toNat) (0, [], [])).2.2)))) ((sub ar cur ((firstC ar fs cur))))).isSome)), fun FF us v => v = ptr (blk v) 0, fun FF us v => True]) (ownL [o0, o0, o0, o0, o0, o0, o0, o0, o0, o0, o0, o0, o0, fun us v => [cellsH (blk v) [sN] 137], fun us v => [cellsH (blk (us.getD 1 undef)) [((aggAt (tupAt (us.getD 0 undef) 0) 0))] 137]]) mixed rfl rfl (by kernel_rfl) (by kernel_rfl) (MonoG.get (m1 (m1 (m1 (m1 (m1 (m1 (m1 (mC (fun le h => ⟨h.1, h.2.mono le⟩) (m1 (mC (fun le h => ⟨h.1, h.2.mono le⟩) (mC (fun le h => h) (mC (fun le h => h) (m1 (mC (fun le h => h) (mC (fun le h => h) MonoG.nil)))))))))))))))) ?_ ?_
  ·refine gD (fun W Fs R lF z9 => ?_) ?_
   ·refine qi (qk (0) qy rfl qJ (by decide) rfl rfl ?_)
    exact ⟨rfl, rfl⟩
   refine gD (fun W Fs R lF z9 => ?_) ?_
   ·replace har := har.mono lF
    replace hls := hls.mono lF
    replace hcv := hcv.mono lF
    replace hf5 := hf5.mono lF
    replace ha1 := ha1.mono lF
    replace ha2 := ha2.mono lF
    replace hrg1 := fun L9 j9 u9 h9 => Rd.mono (hrg1 L9 j9 u9 h9) lF
    rw [zA 0 (z9 0 rfl)]
    refine qi (qu [arv] jf qJ rfl rfl (Rd.ownN [] rfl rfl) ?_)
    exact ⟨rfl, rfl⟩
   refine gD (fun W Fs R lF z9 => ?_) ?_
   ·refine qi (qk (2) qy rfl jm (by decide) rfl rfl ?_)
    exact ⟨rfl, rfl⟩
   refine gD (fun W Fs R lF z9 => ?_) ?_
   ·replace har := har.mono lF
    replace hls := hls.mono lF
    replace hcv := hcv.mono lF
    replace hf5 := hf5.mono lF
    replace ha1 := ha1.mono lF
    replace ha2 := ha2.mono lF
    replace hrg1 := fun L9 j9 u9 h9 => Rd.mono (hrg1 L9 j9 u9 h9) lF
    rw [zA 2 (z9 2 rfl)]
    refine qi (qj jE rfl (Rd.own [] rfl rfl) ?_)
    exact ⟨rfl, rfl⟩
   refine gD (fun W Fs R lF z9 => ?_) ?_
   ·refine qi (qm (ii (firstL ar ls ((sub ar cur ((firstC ar fs cur)))))) rfl ?_)
    exact ⟨rfl, rfl⟩
   refine gD (fun W Fs R lF z9 => ?_) ?_
   ·replace har := har.mono lF
    replace hls := hls.mono lF
    replace hcv := hcv.mono lF
    replace hf5 := hf5.mono lF
    replace ha1 := ha1.mono lF
    replace ha2 := ha2.mono lF
    replace hrg1 := fun L9 j9 u9 h9 => Rd.mono (hrg1 L9 j9 u9 h9) lF
    rw [zB 3 4 (z9 3 rfl) (z9 4 rfl)]
    refine qi (qt ((firstL ar ls ((sub ar cur ((firstC ar fs cur))))).toNat) qS jl rfl rfl (by omega) hls.slv (by omega) rfl ?_)
    exact ⟨rfl, rfl⟩
   refine gD (fun W Fs R lF z9 => ?_) ?_
   ·replace har := har.mono lF
    replace hls := hls.mono lF
    replace hcv := hcv.mono lF
    replace hf5 := hf5.mono lF
    replace ha1 := ha1.mono lF
    replace ha2 := ha2.mono lF
    replace hrg1 := fun L9 j9 u9 h9 => Rd.mono (hrg1 L9 j9 u9 h9) lF
    rw [zA 5 (z9 5 rfl)]
    refine qi (qu [ii ((ls.getD ((firstL ar ls ((sub ar cur ((firstC ar fs cur))))).toNat) (0, [], [])).1), a1, a2] jW jl rfl rfl (Rd.all (hrg1 _)) ?_)
    exact ⟨rfl, rfl⟩
   refine gD (fun W Fs R lF z9 => ?_) ?_
   ·replace har := har.mono lF
    replace hls := hls.mono lF
    replace hcv := hcv.mono lF
    replace hf5 := hf5.mono lF
    replace ha1 := ha1.mono lF
    replace ha2 := ha2.mono lF
    replace hrg1 := fun L9 j9 u9 h9 => Rd.mono (hrg1 L9 j9 u9 h9) lF
    rw [zA 6 (z9 6 rfl)]
    refine qi (jD <| qn (args := [.agg #[ii ((ls.getD ((firstL ar ls ((sub ar cur ((firstC ar fs cur))))).toNat) (0, [], [])).1), a1, a2]]) call153 rfl (l26Left_spec ha1 ha2 (hpn := ((hel9 _ hqk).2.1)) (hpb := ((hel9 _ hqk).2.2))) ?_)
    rintro v7 _ _ _ ⟨rfl, hs4, rfl⟩
    refine ⟨_, _, rfl, fun F7 le7 hz6 => ?_⟩
    replace har := har.mono le7
    replace hls := hls.mono le7
    replace hcv := hcv.mono le7
    replace hf5 := hf5.mono le7
    replace ha2 := ha2.mono le7
    replace hrg1 := fun L9 j9 u9 h9 => Rd.mono (hrg1 L9 j9 u9 h9) le7
    have hf6 : IntsF F7 v7 ((leftL (((ls.getD ((firstL ar ls ((sub ar cur ((firstC ar fs cur))))).toNat) (0, [], [])).1), ((ls.getD ((firstL ar ls ((sub ar cur ((firstC ar fs cur))))).toNat) (0, [], [])).2.1), ((ls.getD ((firstL ar ls ((sub ar cur ((firstC ar fs cur))))).toNat) (0, [], [])).2.2)))) := intsH.fz (xs := (leftL (((ls.getD ((firstL ar ls ((sub ar cur ((firstC ar fs cur))))).toNat) (0, [], [])).1), ((ls.getD ((firstL ar ls ((sub ar cur ((firstC ar fs cur))))).toNat) (0, [], [])).2.1), ((ls.getD ((firstL ar ls ((sub ar cur ((firstC ar fs cur))))).toNat) (0, [], [])).2.2)))) hz6.fz
    exact ⟨⟨rfl, hf6⟩, rfl⟩
   refine gD (fun W Fs R lF z9 => ?_) ?_
   ·refine qi (qm (v5) rfl ?_)
    exact ⟨rfl, rfl⟩
   refine gD (fun W Fs R lF z9 => ?_) ?_
   ·obtain ⟨e7, f7_1ha⟩ := z9 7 rfl
    replace har := har.mono lF
    replace hls := hls.mono lF
    replace hcv := hcv.mono lF
    replace hf5 := hf5.mono lF
    replace ha2 := ha2.mono lF
    replace hrg1 := fun L9 j9 u9 h9 => Rd.mono (hrg1 L9 j9 u9 h9) lF
    rw [eS (l := [(1, _), (7, ((W 7))), (8, _)]) ⟨z9 1 rfl, (e7).symm, z9 8 rfl, ⟨⟩⟩]
    refine qi (qn (args := [.agg #[arv], ((W 7)), v5]) call152 rfl (sMatchedG_spec har f7_1ha hf5 (ho := (hoq)) (hpo := (hRl)) (hla := (by first | assumption | rfl | omega | simp))) ?_)
    rintro _ F8 _ le8 ⟨x2, rfl, hr2, rfl⟩
    replace har := har.mono le8
    replace hls := hls.mono le8
    replace hcv := hcv.mono le8
    replace ha2 := ha2.mono le8
    replace f7_1ha := f7_1ha.mono le8
    replace hrg1 := fun L9 j9 u9 h9 => Rd.mono (hrg1 L9 j9 u9 h9) le8
    exact ⟨⟨rfl, hr2⟩, rfl⟩
   refine gD (fun W Fs R lF z9 => ?_) ?_
   ·obtain ⟨e9, f9_1hr⟩ := z9 9 rfl
    rw [eS (l := [(9, (.tuple #[.agg #[((aggAt (tupAt (W 9) 0) 0))], .bool ((matchB ar ((leftL (((ls.getD ((firstL ar ls ((sub ar cur ((firstC ar fs cur))))).toNat) (0, [], [])).1), ((ls.getD ((firstL ar ls ((sub ar cur ((firstC ar fs cur))))).toNat) (0, [], [])).2.1), ((ls.getD ((firstL ar ls ((sub ar cur ((firstC ar fs cur))))).toNat) (0, [], [])).2.2)))) ((sub ar cur ((firstC ar fs cur))))).isSome)]))]) ⟨(e9).symm, ⟨⟩⟩]
    refine qi (qm (.tuple #[.agg #[((aggAt (tupAt (W 9) 0) 0))], .bool ((matchB ar ((leftL (((ls.getD ((firstL ar ls ((sub ar cur ((firstC ar fs cur))))).toNat) (0, [], [])).1), ((ls.getD ((firstL ar ls ((sub ar cur ((firstC ar fs cur))))).toNat) (0, [], [])).2.1), ((ls.getD ((firstL ar ls ((sub ar cur ((firstC ar fs cur))))).toNat) (0, [], [])).2.2)))) ((sub ar cur ((firstC ar fs cur))))).isSome)]) rfl ?_)
    exact ⟨rfl, rfl⟩
   refine gD (fun W Fs R lF z9 => ?_) ?_
   ·obtain ⟨e9, f9_1hr⟩ := z9 9 rfl
    have e10 : W 10 = (.tuple #[.agg #[((aggAt (tupAt (W 9) 0) 0))], .bool ((matchB ar ((leftL (((ls.getD ((firstL ar ls ((sub ar cur ((firstC ar fs cur))))).toNat) (0, [], [])).1), ((ls.getD ((firstL ar ls ((sub ar cur ((firstC ar fs cur))))).toNat) (0, [], [])).2.1), ((ls.getD ((firstL ar ls ((sub ar cur ((firstC ar fs cur))))).toNat) (0, [], [])).2.2)))) ((sub ar cur ((firstC ar fs cur))))).isSome)] : Value) := z9 10 rfl
    rw [eS (l := [(9, (.tuple #[.agg #[((aggAt (tupAt (W 9) 0) 0))], .bool ((matchB ar ((leftL (((ls.getD ((firstL ar ls ((sub ar cur ((firstC ar fs cur))))).toNat) (0, [], [])).1), ((ls.getD ((firstL ar ls ((sub ar cur ((firstC ar fs cur))))).toNat) (0, [], [])).2.1), ((ls.getD ((firstL ar ls ((sub ar cur ((firstC ar fs cur))))).toNat) (0, [], [])).2.2)))) ((sub ar cur ((firstC ar fs cur))))).isSome)])), (10, (.tuple #[.agg #[((aggAt (tupAt (W 9) 0) 0))], .bool ((matchB ar ((leftL (((ls.getD ((firstL ar ls ((sub ar cur ((firstC ar fs cur))))).toNat) (0, [], [])).1), ((ls.getD ((firstL ar ls ((sub ar cur ((firstC ar fs cur))))).toNat) (0, [], [])).2.1), ((ls.getD ((firstL ar ls ((sub ar cur ((firstC ar fs cur))))).toNat) (0, [], [])).2.2)))) ((sub ar cur ((firstC ar fs cur))))).isSome)]))]) ⟨(e9).symm, e10, ⟨⟩⟩]
    refine qi (jd (.agg #[((aggAt (tupAt (W 9) 0) 0))]) rfl rfl ?_)
    exact ⟨rfl, rfl⟩
   refine gD (fun W Fs R lF z9 => ?_) ?_
   ·obtain ⟨e9, f9_1hr⟩ := z9 9 rfl
    have e10 : W 10 = (.tuple #[.agg #[((aggAt (tupAt (W 9) 0) 0))], .bool ((matchB ar ((leftL (((ls.getD ((firstL ar ls ((sub ar cur ((firstC ar fs cur))))).toNat) (0, [], [])).1), ((ls.getD ((firstL ar ls ((sub ar cur ((firstC ar fs cur))))).toNat) (0, [], [])).2.1), ((ls.getD ((firstL ar ls ((sub ar cur ((firstC ar fs cur))))).toNat) (0, [], [])).2.2)))) ((sub ar cur ((firstC ar fs cur))))).isSome)] : Value) := z9 10 rfl
    rw [eS (l := [(9, (.tuple #[.agg #[((aggAt (tupAt (W 9) 0) 0))], .bool ((matchB ar ((leftL (((ls.getD ((firstL ar ls ((sub ar cur ((firstC ar fs cur))))).toNat) (0, [], [])).1), ((ls.getD ((firstL ar ls ((sub ar cur ((firstC ar fs cur))))).toNat) (0, [], [])).2.1), ((ls.getD ((firstL ar ls ((sub ar cur ((firstC ar fs cur))))).toNat) (0, [], [])).2.2)))) ((sub ar cur ((firstC ar fs cur))))).isSome)])), (10, (.tuple #[.agg #[((aggAt (tupAt (W 9) 0) 0))], .bool ((matchB ar ((leftL (((ls.getD ((firstL ar ls ((sub ar cur ((firstC ar fs cur))))).toNat) (0, [], [])).1), ((ls.getD ((firstL ar ls ((sub ar cur ((firstC ar fs cur))))).toNat) (0, [], [])).2.1), ((ls.getD ((firstL ar ls ((sub ar cur ((firstC ar fs cur))))).toNat) (0, [], [])).2.2)))) ((sub ar cur ((firstC ar fs cur))))).isSome)]))]) ⟨(e9).symm, e10, ⟨⟩⟩]
    refine qi (jd (.bool ((matchB ar ((leftL (((ls.getD ((firstL ar ls ((sub ar cur ((firstC ar fs cur))))).toNat) (0, [], [])).1), ((ls.getD ((firstL ar ls ((sub ar cur ((firstC ar fs cur))))).toNat) (0, [], [])).2.1), ((ls.getD ((firstL ar ls ((sub ar cur ((firstC ar fs cur))))).toNat) (0, [], [])).2.2)))) ((sub ar cur ((firstC ar fs cur))))).isSome)) rfl rfl ?_)
    exact ⟨rfl, rfl⟩
   refine gD (fun W Fs R lF z9 => ?_) ?_
   ·replace har := har.mono lF
    replace hls := hls.mono lF
    replace hcv := hcv.mono lF
    replace ha2 := ha2.mono lF
    replace hrg1 := fun L9 j9 u9 h9 => Rd.mono (hrg1 L9 j9 u9 h9) lF
    refine qi (jr [sN] jB rfl ?_)
    intro b3
    exact ⟨rfl, rfl⟩
   refine gD (fun W Fs R lF z9 => ?_) ?_
   ·obtain ⟨e9, f9_1hr⟩ := z9 9 rfl
    have e11 : W 11 = (.agg #[((aggAt (tupAt (W 9) 0) 0))] : Value) := z9 11 rfl
    have e13 : W 13 = ptr (blk (W 13)) 0 := z9 13 rfl
    replace har := har.mono lF
    replace hls := hls.mono lF
    replace hcv := hcv.mono lF
    replace ha2 := ha2.mono lF
    replace hrg1 := fun L9 j9 u9 h9 => Rd.mono (hrg1 L9 j9 u9 h9) lF
    rw [eS (l := [(9, (.tuple #[.agg #[((aggAt (tupAt (W 9) 0) 0))], .bool ((matchB ar ((leftL (((ls.getD ((firstL ar ls ((sub ar cur ((firstC ar fs cur))))).toNat) (0, [], [])).1), ((ls.getD ((firstL ar ls ((sub ar cur ((firstC ar fs cur))))).toNat) (0, [], [])).2.1), ((ls.getD ((firstL ar ls ((sub ar cur ((firstC ar fs cur))))).toNat) (0, [], [])).2.2)))) ((sub ar cur ((firstC ar fs cur))))).isSome)])), (11, (.agg #[((aggAt (tupAt (W 9) 0) 0))])), (13, ptr (blk (W 13)) 0)]) ⟨(e9).symm, e11, e13, ⟨⟩⟩]
    show XG _ _ _ _ _ (cellsH (blk (W 13)) [sN] 137 :: ([cellsH b1 [arv, fsv, lsv] 108] ++ R)) _
    refine qi (qV [] _ [((aggAt (tupAt (W 9) 0) 0))] jp rfl rfl rfl (qx (qI (RowsF.isSl f9_1hr)) qX) rfl rfl rfl ?_)
    exact ⟨trivial, rfl⟩
   exact stepsG.nil
  intro W F9 le9 hphi
  obtain ⟨e7, f7_1ha⟩ := hphi 7 (by decide)
  obtain ⟨e9, f9_1hr⟩ := hphi 9 (by decide)
  have e10 : W 10 = (.tuple #[.agg #[((aggAt (tupAt (W 9) 0) 0))], .bool ((matchB ar ((leftL (((ls.getD ((firstL ar ls ((sub ar cur ((firstC ar fs cur))))).toNat) (0, [], [])).1), ((ls.getD ((firstL ar ls ((sub ar cur ((firstC ar fs cur))))).toNat) (0, [], [])).2.1), ((ls.getD ((firstL ar ls ((sub ar cur ((firstC ar fs cur))))).toNat) (0, [], [])).2.2)))) ((sub ar cur ((firstC ar fs cur))))).isSome)] : Value) := hphi 10 (by decide)
  have e11 : W 11 = (.agg #[((aggAt (tupAt (W 9) 0) 0))] : Value) := hphi 11 (by decide)
  have e13 : W 13 = ptr (blk (W 13)) 0 := hphi 13 (by decide)
  generalize hu1 : ((W 7)) = u1 at e7 f7_1ha e9 f9_1hr e10 e11 e13
  generalize hu2 : ((aggAt (tupAt (W 9) 0) 0)) = u2 at e7 f7_1ha e9 f9_1hr e10 e11 e13
  generalize hu3 : blk (W 13) = b4 at e7 f7_1ha e9 f9_1hr e10 e11 e13
  rw [eS (l := [(9, (.tuple #[.agg #[u2], .bool ((matchB ar ((leftL (((ls.getD ((firstL ar ls ((sub ar cur ((firstC ar fs cur))))).toNat) (0, [], [])).1), ((ls.getD ((firstL ar ls ((sub ar cur ((firstC ar fs cur))))).toNat) (0, [], [])).2.1), ((ls.getD ((firstL ar ls ((sub ar cur ((firstC ar fs cur))))).toNat) (0, [], [])).2.2)))) ((sub ar cur ((firstC ar fs cur))))).isSome)])), (12, _), (13, ptr b4 0)]) ⟨(e9).symm, (hphi 12 (by decide)), e13, ⟨⟩⟩]
  replace har := har.mono le9
  replace hls := hls.mono le9
  replace hcv := hcv.mono le9
  replace ha2 := ha2.mono le9
  replace hrg1 := fun L9 j9 u9 h9 => Rd.mono (hrg1 L9 j9 u9 h9) le9
  show XL _ _ _ _ _ _ _ (cellsH b4 [u2] 137 :: cellsH b1 [arv, fsv, lsv] 108 :: L)
  refine qh (.bool ((matchB ar ((leftL (((ls.getD ((firstL ar ls ((sub ar cur ((firstC ar fs cur))))).toNat) (0, [], [])).1), ((ls.getD ((firstL ar ls ((sub ar cur ((firstC ar fs cur))))).toNat) (0, [], [])).2.1), ((ls.getD ((firstL ar ls ((sub ar cur ((firstC ar fs cur))))).toNat) (0, [], [])).2.2)))) ((sub ar cur ((firstC ar fs cur))))).isSome)) rfl (qc (qd ?_))
  refine jM [cellsH b4 [u2] 137, cellsH b1 [arv, fsv, lsv] 108] L 12 [[], [], [], [], [], [], [], [], [7], [7], [], [7]] [[], [], [1], [], [2, 3], [4], [5], [0, 6], [7], [7, 8], [7, 8], [7, 9]] [] (phiG [pe (.agg #[u2]), pe (ptr b1 2), pe lsv, pe (ii (firstL ar ls ((sub ar cur ((firstC ar fs cur)))))), pe (.pointer (some (elemA lsv (((firstL ar ls ((sub ar cur ((firstC ar fs cur))))).toNat) * 3)))), pe (.pointer (some (elemA lsv (((firstL ar ls ((sub ar cur ((firstC ar fs cur))))).toNat) * 3 + 2)))), pe a2, fun FF us v => (.tuple #[((tupAt v 0)), .bool ((fillL (matchP ar ((leftL (((ls.getD ((firstL ar ls ((sub ar cur ((firstC ar fs cur))))).toNat) (0, [], [])).1), ((ls.getD ((firstL ar ls ((sub ar cur ((firstC ar fs cur))))).toNat) (0, [], [])).2.1), ((ls.getD ((firstL ar ls ((sub ar cur ((firstC ar fs cur))))).toNat) (0, [], [])).2.2)))) ((sub ar cur ((firstC ar fs cur))))) ((ls.getD ((firstL ar ls ((sub ar cur ((firstC ar fs cur))))).toNat) (0, [], [])).2.2)).isSome)] : Value) = v ∧ (IntsF FF ((tupAt v 0)) ((fillL (matchP ar ((leftL (((ls.getD ((firstL ar ls ((sub ar cur ((firstC ar fs cur))))).toNat) (0, [], [])).1), ((ls.getD ((firstL ar ls ((sub ar cur ((firstC ar fs cur))))).toNat) (0, [], [])).2.1), ((ls.getD ((firstL ar ls ((sub ar cur ((firstC ar fs cur))))).toNat) (0, [], [])).2.2)))) ((sub ar cur ((firstC ar fs cur))))) ((ls.getD ((firstL ar ls ((sub ar cur ((firstC ar fs cur))))).toNat) (0, [], [])).2.2)).getD [])), fun FF us v => v = (.tuple #[((tupAt (us.getD 0 undef) 0)), .bool ((fillL (matchP ar ((leftL (((ls.getD ((firstL ar ls ((sub ar cur ((firstC ar fs cur))))).toNat) (0, [], [])).1), ((ls.getD ((firstL ar ls ((sub ar cur ((firstC ar fs cur))))).toNat) (0, [], [])).2.1), ((ls.getD ((firstL ar ls ((sub ar cur ((firstC ar fs cur))))).toNat) (0, [], [])).2.2)))) ((sub ar cur ((firstC ar fs cur))))) ((ls.getD ((firstL ar ls ((sub ar cur ((firstC ar fs cur))))).toNat) (0, [], [])).2.2)).isSome)] : Value), fun FF us v => v = ((tupAt (us.getD 0 undef) 0)), pe (.bool ((fillL (matchP ar ((leftL (((ls.getD ((firstL ar ls ((sub ar cur ((firstC ar fs cur))))).toNat) (0, [], [])).1), ((ls.getD ((firstL ar ls ((sub ar cur ((firstC ar fs cur))))).toNat) (0, [], [])).2.1), ((ls.getD ((firstL ar ls ((sub ar cur ((firstC ar fs cur))))).toNat) (0, [], [])).2.2)))) ((sub ar cur ((firstC ar fs cur))))) ((ls.getD ((firstL ar ls ((sub ar cur ((firstC ar fs cur))))).toNat) (0, [], [])).2.2)).isSome)), fun FF us v => v = ((tupAt (us.getD 0 undef) 0))]) (ownL []) mixed rfl rfl (by kernel_rfl) (by kernel_rfl) (MonoG.get (m1 (m1 (m1 (m1 (m1 (m1 (m1 (mC (fun le h => ⟨h.1, h.2.mono le⟩) (mC (fun le h => h) (mC (fun le h => h) (m1 (mC (fun le h => h) MonoG.nil))))))))))))) ?_ ?_
  ·refine gD (fun W Fs R lF z9 => ?_) ?_
   ·replace har := har.mono lF
    replace hls := hls.mono lF
    replace hcv := hcv.mono lF
    replace ha2 := ha2.mono lF
    replace f9_1hr := f9_1hr.mono lF
    replace hrg1 := fun L9 j9 u9 h9 => Rd.mono (hrg1 L9 j9 u9 h9) lF
    refine qi (qu [u2] jQ jp rfl rfl (Rd.ownN [] rfl rfl) ?_)
    exact ⟨rfl, rfl⟩
   refine gD (fun W Fs R lF z9 => ?_) ?_
   ·refine qi (qk (2) qy rfl jm (by decide) rfl rfl ?_)
    exact ⟨rfl, rfl⟩
   refine gD (fun W Fs R lF z9 => ?_) ?_
   ·replace har := har.mono lF
    replace hls := hls.mono lF
    replace hcv := hcv.mono lF
    replace ha2 := ha2.mono lF
    replace f9_1hr := f9_1hr.mono lF
    replace hrg1 := fun L9 j9 u9 h9 => Rd.mono (hrg1 L9 j9 u9 h9) lF
    rw [zA 1 (z9 1 rfl)]
    refine qi (qj jE rfl (Rd.own [_] rfl rfl) ?_)
    exact ⟨rfl, rfl⟩
   refine gD (fun W Fs R lF z9 => ?_) ?_
   ·refine qi (qm (ii (firstL ar ls ((sub ar cur ((firstC ar fs cur)))))) rfl ?_)
    exact ⟨rfl, rfl⟩
   refine gD (fun W Fs R lF z9 => ?_) ?_
   ·replace har := har.mono lF
    replace hls := hls.mono lF
    replace hcv := hcv.mono lF
    replace ha2 := ha2.mono lF
    replace f9_1hr := f9_1hr.mono lF
    replace hrg1 := fun L9 j9 u9 h9 => Rd.mono (hrg1 L9 j9 u9 h9) lF
    rw [zB 2 3 (z9 2 rfl) (z9 3 rfl)]
    refine qi (qt ((firstL ar ls ((sub ar cur ((firstC ar fs cur))))).toNat) qS jl rfl rfl (by omega) hls.slv (by omega) rfl ?_)
    exact ⟨rfl, rfl⟩
   refine gD (fun W Fs R lF z9 => ?_) ?_
   ·rw [zA 4 (z9 4 rfl)]
    refine qi (XOp.fieldE (((firstL ar ls ((sub ar cur ((firstC ar fs cur))))).toNat) * 3 + 2) qR rfl qA (by decide) rfl rfl ?_)
    exact ⟨rfl, rfl⟩
   refine gD (fun W Fs R lF z9 => ?_) ?_
   ·replace har := har.mono lF
    replace hcv := hcv.mono lF
    replace ha2 := ha2.mono lF
    replace f9_1hr := f9_1hr.mono lF
    replace hrg1 := fun L9 j9 u9 h9 => Rd.mono (hrg1 L9 j9 u9 h9) lF
    rw [zA 5 (z9 5 rfl)]
    refine qi (qj qU rfl (hrg1 _ 2 _ rfl) ?_)
    exact ⟨rfl, rfl⟩
   refine gD (fun W Fs R lF z9 => ?_) ?_
   ·replace har := har.mono lF
    replace hcv := hcv.mono lF
    replace ha2 := ha2.mono lF
    replace f9_1hr := f9_1hr.mono lF
    rw [zB 0 6 (z9 0 rfl) (z9 6 rfl)]
    refine qi (qn (args := [.agg #[u2], a2]) call154 rfl (l2Filled_spec f9_1hr ha2 (hsl := (Nat.le_trans hmp3 (by decide))) (hsb := (fun i => Nat.le_trans (hmp2 i) (by omega))) (htl := (by omega)) (htg := (fun k hk => by have := hRg k hk; omega))) ?_)
    rintro _ F11 _ le11 ⟨x4, rfl, hr4, rfl⟩
    replace har := har.mono le11
    replace hcv := hcv.mono le11
    exact ⟨⟨rfl, hr4⟩, rfl⟩
   refine gD (fun W Fs R lF z9 => ?_) ?_
   ·obtain ⟨e7, f7_2hr⟩ := z9 7 rfl
    rw [eS (l := [(7, (.tuple #[((tupAt (W 7) 0)), .bool ((fillL (matchP ar ((leftL (((ls.getD ((firstL ar ls ((sub ar cur ((firstC ar fs cur))))).toNat) (0, [], [])).1), ((ls.getD ((firstL ar ls ((sub ar cur ((firstC ar fs cur))))).toNat) (0, [], [])).2.1), ((ls.getD ((firstL ar ls ((sub ar cur ((firstC ar fs cur))))).toNat) (0, [], [])).2.2)))) ((sub ar cur ((firstC ar fs cur))))) ((ls.getD ((firstL ar ls ((sub ar cur ((firstC ar fs cur))))).toNat) (0, [], [])).2.2)).isSome)]))]) ⟨(e7).symm, ⟨⟩⟩]
    refine qi (qm (.tuple #[((tupAt (W 7) 0)), .bool ((fillL (matchP ar ((leftL (((ls.getD ((firstL ar ls ((sub ar cur ((firstC ar fs cur))))).toNat) (0, [], [])).1), ((ls.getD ((firstL ar ls ((sub ar cur ((firstC ar fs cur))))).toNat) (0, [], [])).2.1), ((ls.getD ((firstL ar ls ((sub ar cur ((firstC ar fs cur))))).toNat) (0, [], [])).2.2)))) ((sub ar cur ((firstC ar fs cur))))) ((ls.getD ((firstL ar ls ((sub ar cur ((firstC ar fs cur))))).toNat) (0, [], [])).2.2)).isSome)]) rfl ?_)
    exact ⟨rfl, rfl⟩
   refine gD (fun W Fs R lF z9 => ?_) ?_
   ·obtain ⟨e7, f7_2hr⟩ := z9 7 rfl
    have e8 : W 8 = (.tuple #[((tupAt (W 7) 0)), .bool ((fillL (matchP ar ((leftL (((ls.getD ((firstL ar ls ((sub ar cur ((firstC ar fs cur))))).toNat) (0, [], [])).1), ((ls.getD ((firstL ar ls ((sub ar cur ((firstC ar fs cur))))).toNat) (0, [], [])).2.1), ((ls.getD ((firstL ar ls ((sub ar cur ((firstC ar fs cur))))).toNat) (0, [], [])).2.2)))) ((sub ar cur ((firstC ar fs cur))))) ((ls.getD ((firstL ar ls ((sub ar cur ((firstC ar fs cur))))).toNat) (0, [], [])).2.2)).isSome)] : Value) := z9 8 rfl
    rw [eS (l := [(7, (.tuple #[((tupAt (W 7) 0)), .bool ((fillL (matchP ar ((leftL (((ls.getD ((firstL ar ls ((sub ar cur ((firstC ar fs cur))))).toNat) (0, [], [])).1), ((ls.getD ((firstL ar ls ((sub ar cur ((firstC ar fs cur))))).toNat) (0, [], [])).2.1), ((ls.getD ((firstL ar ls ((sub ar cur ((firstC ar fs cur))))).toNat) (0, [], [])).2.2)))) ((sub ar cur ((firstC ar fs cur))))) ((ls.getD ((firstL ar ls ((sub ar cur ((firstC ar fs cur))))).toNat) (0, [], [])).2.2)).isSome)])), (8, (.tuple #[((tupAt (W 7) 0)), .bool ((fillL (matchP ar ((leftL (((ls.getD ((firstL ar ls ((sub ar cur ((firstC ar fs cur))))).toNat) (0, [], [])).1), ((ls.getD ((firstL ar ls ((sub ar cur ((firstC ar fs cur))))).toNat) (0, [], [])).2.1), ((ls.getD ((firstL ar ls ((sub ar cur ((firstC ar fs cur))))).toNat) (0, [], [])).2.2)))) ((sub ar cur ((firstC ar fs cur))))) ((ls.getD ((firstL ar ls ((sub ar cur ((firstC ar fs cur))))).toNat) (0, [], [])).2.2)).isSome)]))]) ⟨(e7).symm, e8, ⟨⟩⟩]
    refine qi (jd (((tupAt (W 7) 0))) rfl rfl ?_)
    exact ⟨rfl, rfl⟩
   refine gD (fun W Fs R lF z9 => ?_) ?_
   ·obtain ⟨e7, f7_2hr⟩ := z9 7 rfl
    have e8 : W 8 = (.tuple #[((tupAt (W 7) 0)), .bool ((fillL (matchP ar ((leftL (((ls.getD ((firstL ar ls ((sub ar cur ((firstC ar fs cur))))).toNat) (0, [], [])).1), ((ls.getD ((firstL ar ls ((sub ar cur ((firstC ar fs cur))))).toNat) (0, [], [])).2.1), ((ls.getD ((firstL ar ls ((sub ar cur ((firstC ar fs cur))))).toNat) (0, [], [])).2.2)))) ((sub ar cur ((firstC ar fs cur))))) ((ls.getD ((firstL ar ls ((sub ar cur ((firstC ar fs cur))))).toNat) (0, [], [])).2.2)).isSome)] : Value) := z9 8 rfl
    rw [eS (l := [(7, (.tuple #[((tupAt (W 7) 0)), .bool ((fillL (matchP ar ((leftL (((ls.getD ((firstL ar ls ((sub ar cur ((firstC ar fs cur))))).toNat) (0, [], [])).1), ((ls.getD ((firstL ar ls ((sub ar cur ((firstC ar fs cur))))).toNat) (0, [], [])).2.1), ((ls.getD ((firstL ar ls ((sub ar cur ((firstC ar fs cur))))).toNat) (0, [], [])).2.2)))) ((sub ar cur ((firstC ar fs cur))))) ((ls.getD ((firstL ar ls ((sub ar cur ((firstC ar fs cur))))).toNat) (0, [], [])).2.2)).isSome)])), (8, (.tuple #[((tupAt (W 7) 0)), .bool ((fillL (matchP ar ((leftL (((ls.getD ((firstL ar ls ((sub ar cur ((firstC ar fs cur))))).toNat) (0, [], [])).1), ((ls.getD ((firstL ar ls ((sub ar cur ((firstC ar fs cur))))).toNat) (0, [], [])).2.1), ((ls.getD ((firstL ar ls ((sub ar cur ((firstC ar fs cur))))).toNat) (0, [], [])).2.2)))) ((sub ar cur ((firstC ar fs cur))))) ((ls.getD ((firstL ar ls ((sub ar cur ((firstC ar fs cur))))).toNat) (0, [], [])).2.2)).isSome)]))]) ⟨(e7).symm, e8, ⟨⟩⟩]
    refine qi (jd (.bool ((fillL (matchP ar ((leftL (((ls.getD ((firstL ar ls ((sub ar cur ((firstC ar fs cur))))).toNat) (0, [], [])).1), ((ls.getD ((firstL ar ls ((sub ar cur ((firstC ar fs cur))))).toNat) (0, [], [])).2.1), ((ls.getD ((firstL ar ls ((sub ar cur ((firstC ar fs cur))))).toNat) (0, [], [])).2.2)))) ((sub ar cur ((firstC ar fs cur))))) ((ls.getD ((firstL ar ls ((sub ar cur ((firstC ar fs cur))))).toNat) (0, [], [])).2.2)).isSome)) rfl rfl ?_)
    exact ⟨rfl, rfl⟩
   refine gD (fun W Fs R lF z9 => ?_) ?_
   ·obtain ⟨e7, f7_2hr⟩ := z9 7 rfl
    have e9 : W 9 = ((tupAt (W 7) 0)) := z9 9 rfl
    rw [eS (l := [(7, (.tuple #[((tupAt (W 7) 0)), .bool ((fillL (matchP ar ((leftL (((ls.getD ((firstL ar ls ((sub ar cur ((firstC ar fs cur))))).toNat) (0, [], [])).1), ((ls.getD ((firstL ar ls ((sub ar cur ((firstC ar fs cur))))).toNat) (0, [], [])).2.1), ((ls.getD ((firstL ar ls ((sub ar cur ((firstC ar fs cur))))).toNat) (0, [], [])).2.2)))) ((sub ar cur ((firstC ar fs cur))))) ((ls.getD ((firstL ar ls ((sub ar cur ((firstC ar fs cur))))).toNat) (0, [], [])).2.2)).isSome)])), (9, ((tupAt (W 7) 0)))]) ⟨(e7).symm, e9, ⟨⟩⟩]
    refine qi (XOp.assign (((tupAt (W 7) 0))) rfl ?_)
    exact ⟨rfl, rfl⟩
   exact stepsG.nil
  intro W F12 le12 hphi
  obtain ⟨e7, f7_2hr⟩ := hphi 7 (by decide)
  have e8 : W 8 = (.tuple #[((tupAt (W 7) 0)), .bool ((fillL (matchP ar ((leftL (((ls.getD ((firstL ar ls ((sub ar cur ((firstC ar fs cur))))).toNat) (0, [], [])).1), ((ls.getD ((firstL ar ls ((sub ar cur ((firstC ar fs cur))))).toNat) (0, [], [])).2.1), ((ls.getD ((firstL ar ls ((sub ar cur ((firstC ar fs cur))))).toNat) (0, [], [])).2.2)))) ((sub ar cur ((firstC ar fs cur))))) ((ls.getD ((firstL ar ls ((sub ar cur ((firstC ar fs cur))))).toNat) (0, [], [])).2.2)).isSome)] : Value) := hphi 8 (by decide)
  have e9 : W 9 = ((tupAt (W 7) 0)) := hphi 9 (by decide)
  have e11 : W 11 = ((tupAt (W 7) 0)) := hphi 11 (by decide)
  generalize hu4 : ((tupAt (W 7) 0)) = u3 at e7 f7_2hr e8 e9 e11
  rw [eS (l := [(7, (.tuple #[u3, .bool ((fillL (matchP ar ((leftL (((ls.getD ((firstL ar ls ((sub ar cur ((firstC ar fs cur))))).toNat) (0, [], [])).1), ((ls.getD ((firstL ar ls ((sub ar cur ((firstC ar fs cur))))).toNat) (0, [], [])).2.1), ((ls.getD ((firstL ar ls ((sub ar cur ((firstC ar fs cur))))).toNat) (0, [], [])).2.2)))) ((sub ar cur ((firstC ar fs cur))))) ((ls.getD ((firstL ar ls ((sub ar cur ((firstC ar fs cur))))).toNat) (0, [], [])).2.2)).isSome)])), (10, _), (11, u3)]) ⟨(e7).symm, (hphi 10 (by decide)), e11, ⟨⟩⟩]
  replace har := har.mono le12
  replace hcv := hcv.mono le12
  show XL _ _ _ _ _ _ _ (cellsH b4 [u2] 137 :: cellsH b1 [arv, fsv, lsv] 108 :: L)
  refine qh (.bool ((fillL (matchP ar ((leftL (((ls.getD ((firstL ar ls ((sub ar cur ((firstC ar fs cur))))).toNat) (0, [], [])).1), ((ls.getD ((firstL ar ls ((sub ar cur ((firstC ar fs cur))))).toNat) (0, [], [])).2.1), ((ls.getD ((firstL ar ls ((sub ar cur ((firstC ar fs cur))))).toNat) (0, [], [])).2.2)))) ((sub ar cur ((firstC ar fs cur))))) ((ls.getD ((firstL ar ls ((sub ar cur ((firstC ar fs cur))))).toNat) (0, [], [])).2.2)).isSome)) rfl (qc (qd (qb (cX (qk (0) qy rfl qJ (by decide) rfl rfl (cX (qu [arv] jf qJ rfl rfl (Rd.ownN [_] rfl rfl) (qg (cv) rfl (qg (ii ((((firstC ar fs cur) : Nat) : Int))) rfl (qg (u3) rfl (cX (qn (args := [.agg #[arv], cv, ii (((firstC ar fs cur) : Nat) : Int), u3]) call155 rfl (l3Put_spec (p := (firstC ar fs cur)) har hcv f7_2hr (ho := (hoc)) (hp := (hfp)) (hul := (Nat.le_trans fill_le60L (by decide)))) ?_))))))))))))
  rintro _ F13 _ le13 ⟨x5, rfl, hr5, rfl⟩
  replace hcv := hcv.mono le13
  refine qg (.tuple #[x5, .bool ((putL ar cur ((firstC ar fs cur)) ((fillL (matchP ar ((leftL (((ls.getD ((firstL ar ls ((sub ar cur ((firstC ar fs cur))))).toNat) (0, [], [])).1), ((ls.getD ((firstL ar ls ((sub ar cur ((firstC ar fs cur))))).toNat) (0, [], [])).2.1), ((ls.getD ((firstL ar ls ((sub ar cur ((firstC ar fs cur))))).toNat) (0, [], [])).2.2)))) ((sub ar cur ((firstC ar fs cur))))) ((ls.getD ((firstL ar ls ((sub ar cur ((firstC ar fs cur))))).toNat) (0, [], [])).2.2)).getD [])).isSome)]) rfl (cX (jd (x5) rfl rfl (cX (jd (.bool ((putL ar cur ((firstC ar fs cur)) ((fillL (matchP ar ((leftL (((ls.getD ((firstL ar ls ((sub ar cur ((firstC ar fs cur))))).toNat) (0, [], [])).1), ((ls.getD ((firstL ar ls ((sub ar cur ((firstC ar fs cur))))).toNat) (0, [], [])).2.1), ((ls.getD ((firstL ar ls ((sub ar cur ((firstC ar fs cur))))).toNat) (0, [], [])).2.2)))) ((sub ar cur ((firstC ar fs cur))))) ((ls.getD ((firstL ar ls ((sub ar cur ((firstC ar fs cur))))).toNat) (0, [], [])).2.2)).getD [])).isSome)) rfl rfl (qh (x5) rfl (qh (.bool ((putL ar cur ((firstC ar fs cur)) ((fillL (matchP ar ((leftL (((ls.getD ((firstL ar ls ((sub ar cur ((firstC ar fs cur))))).toNat) (0, [], [])).1), ((ls.getD ((firstL ar ls ((sub ar cur ((firstC ar fs cur))))).toNat) (0, [], [])).2.1), ((ls.getD ((firstL ar ls ((sub ar cur ((firstC ar fs cur))))).toNat) (0, [], [])).2.2)))) ((sub ar cur ((firstC ar fs cur))))) ((ls.getD ((firstL ar ls ((sub ar cur ((firstC ar fs cur))))).toNat) (0, [], [])).2.2)).getD [])).isSome)) rfl ?_))))))
  refine qc (qd (qd (qb (qg (.bool ((fillL (matchP ar ((leftL (((ls.getD ((firstL ar ls ((sub ar cur ((firstC ar fs cur))))).toNat) (0, [], [])).1), ((ls.getD ((firstL ar ls ((sub ar cur ((firstC ar fs cur))))).toNat) (0, [], [])).2.1), ((ls.getD ((firstL ar ls ((sub ar cur ((firstC ar fs cur))))).toNat) (0, [], [])).2.2)))) ((sub ar cur ((firstC ar fs cur))))) ((ls.getD ((firstL ar ls ((sub ar cur ((firstC ar fs cur))))).toNat) (0, [], [])).2.2)).isSome)) rfl (cX (jt rfl (qg (.bool (!((fillL (matchP ar ((leftL (((ls.getD ((firstL ar ls ((sub ar cur ((firstC ar fs cur))))).toNat) (0, [], [])).1), ((ls.getD ((firstL ar ls ((sub ar cur ((firstC ar fs cur))))).toNat) (0, [], [])).2.1), ((ls.getD ((firstL ar ls ((sub ar cur ((firstC ar fs cur))))).toNat) (0, [], [])).2.2)))) ((sub ar cur ((firstC ar fs cur))))) ((ls.getD ((firstL ar ls ((sub ar cur ((firstC ar fs cur))))).toNat) (0, [], [])).2.2)).isSome))) rfl ?_)))))))
  by_cases h9 : (!((fillL (matchP ar ((leftL (((ls.getD ((firstL ar ls ((sub ar cur ((firstC ar fs cur))))).toNat) (0, [], [])).1), ((ls.getD ((firstL ar ls ((sub ar cur ((firstC ar fs cur))))).toNat) (0, [], [])).2.1), ((ls.getD ((firstL ar ls ((sub ar cur ((firstC ar fs cur))))).toNat) (0, [], [])).2.2)))) ((sub ar cur ((firstC ar fs cur))))) ((ls.getD ((firstL ar ls ((sub ar cur ((firstC ar fs cur))))).toNat) (0, [], [])).2.2)).isSome)) = true
  ·have hfs9 := Bool.not_inj (y := false) h9
   refine qp (t := 103) rfl (vB h9) (qp (t := 103) rfl (vB h9) (cX (qO (.bool (true)) (vB h9) rfl (qc (jA rfl (qd (qb (qg (cv) rfl (qh (cv) rfl (qh (ii (3)) rfl (qc ?_)))))))))))
   refine qw (ql (qD (ql (qD (qr (L' := L) [cv, ii (3)] (.tuple #[cv, ii (3)]) (.tmp rfl (.tmp rfl .nil)) rfl (qa (qa (qa (qa (qa (qa le4 leG1) leG2) le5) le9) le12) le13) rF (sD (sD sR)) ?_)))))
   have e := hgo.trans (call_long hfc hlg (by omega) (by first | exact step_nofillL hqk hqm hfs9 | (rw [hst9]; exact opt_none hps9)))
   exact ⟨_, by rw [e], by rw [e]; exact hcv, rfl⟩
  rw [Bool.not_eq_true] at h9
  have hfs9 := Bool.not_inj (y := true) h9
  have hfl9 := fill_getD_len hfs9 (by omega)
  refine qo (t := 103) rfl (vB h9) (qm (.bool ((putL ar cur ((firstC ar fs cur)) ((fillL (matchP ar ((leftL (((ls.getD ((firstL ar ls ((sub ar cur ((firstC ar fs cur))))).toNat) (0, [], [])).1), ((ls.getD ((firstL ar ls ((sub ar cur ((firstC ar fs cur))))).toNat) (0, [], [])).2.1), ((ls.getD ((firstL ar ls ((sub ar cur ((firstC ar fs cur))))).toNat) (0, [], [])).2.2)))) ((sub ar cur ((firstC ar fs cur))))) ((ls.getD ((firstL ar ls ((sub ar cur ((firstC ar fs cur))))).toNat) (0, [], [])).2.2)).getD [])).isSome)) rfl (qo (t := 103) rfl (vB h9) (jt rfl (cX (qN (.bool (!((putL ar cur ((firstC ar fs cur)) ((fillL (matchP ar ((leftL (((ls.getD ((firstL ar ls ((sub ar cur ((firstC ar fs cur))))).toNat) (0, [], [])).1), ((ls.getD ((firstL ar ls ((sub ar cur ((firstC ar fs cur))))).toNat) (0, [], [])).2.1), ((ls.getD ((firstL ar ls ((sub ar cur ((firstC ar fs cur))))).toNat) (0, [], [])).2.2)))) ((sub ar cur ((firstC ar fs cur))))) ((ls.getD ((firstL ar ls ((sub ar cur ((firstC ar fs cur))))).toNat) (0, [], [])).2.2)).getD [])).isSome))) (vB h9) rfl (qc ?_))))))
  refine jF (t := !((putL ar cur ((firstC ar fs cur)) ((fillL (matchP ar ((leftL (((ls.getD ((firstL ar ls ((sub ar cur ((firstC ar fs cur))))).toNat) (0, [], [])).1), ((ls.getD ((firstL ar ls ((sub ar cur ((firstC ar fs cur))))).toNat) (0, [], [])).2.1), ((ls.getD ((firstL ar ls ((sub ar cur ((firstC ar fs cur))))).toNat) (0, [], [])).2.2)))) ((sub ar cur ((firstC ar fs cur))))) ((ls.getD ((firstL ar ls ((sub ar cur ((firstC ar fs cur))))).toNat) (0, [], [])).2.2)).getD [])).isSome)) rfl (fun h10 => ?_) (fun h10 => ?_)
  ·have hps9 := Bool.not_inj (y := false) h10
   have hst9 := step_putL hqk hqm hfs9
   refine qd (qb (qg (cv) rfl (qh (cv) rfl (qh (ii (3)) rfl (qc (qw (ql (qD (ql (qD (qr (L' := L) [cv, ii (3)] (.tuple #[cv, ii (3)]) (.tmp rfl (.tmp rfl .nil)) rfl (qa (qa (qa (qa (qa (qa le4 leG1) leG2) le5) le9) le12) le13) rF (sD (sD sR)) ?_)))))))))))
   have e := hgo.trans (call_long hfc hlg (by omega) (by first | exact step_nofillL hqk hqm hfs9 | (rw [hst9]; exact opt_none hps9)))
   exact ⟨_, by rw [e], by rw [e]; exact hcv, rfl⟩
  have hps9 := Bool.not_inj (y := true) h10
  have hst9 := step_putL hqk hqm hfs9
  refine qz (qd (qb (qg (x5) rfl (qh (x5) rfl (qc (qb (qg (ii ((f : Int))) rfl (cX (je (((f : Int)) - 1) rfl rfl (by omega) (by omega) (qh (ii (((f : Int)) - 1)) rfl (qc ?_)))))))))))
  exact ⟨(f - 1, x5, (putL ar cur ((firstC ar fs cur)) ((fillL (matchP ar ((leftL (((ls.getD ((firstL ar ls ((sub ar cur ((firstC ar fs cur))))).toNat) (0, [], [])).1), ((ls.getD ((firstL ar ls ((sub ar cur ((firstC ar fs cur))))).toNat) (0, [], [])).2.1), ((ls.getD ((firstL ar ls ((sub ar cur ((firstC ar fs cur))))).toNat) (0, [], [])).2.2)))) ((sub ar cur ((firstC ar fs cur))))) ((ls.getD ((firstL ar ls ((sub ar cur ((firstC ar fs cur))))).toNat) (0, [], [])).2.2)).getD [])).getD [], F13), _, (qa (qa (qa (qa (qa leG1 leG2) le5) le9) le12) le13), rF, ⟨(vI (by (try dsimp only); omega)), rfl, rfl, ⟨⟩⟩, (sD (sC sR)), ⟨rfl, (qa (qa (qa (qa (qa leG1 leG2) le5) le9) le12) le13), (hr5), ((step_okL hfr hoc hfp hqk (by rw [hst9]; exact opt_get hps9))), ((hgo.trans (call_next hfc hlg (by omega) (by rw [hst9]; exact opt_get hps9)))), (by (try dsimp only); omega)⟩, (by (try dsimp only); omega)⟩
 have hfc : firstC ar fs cur = cur.length := firstC_none (fun i hi => hall i (by omega))
 refine qp (t := 40) rfl (vF h4) (qp (t := 40) rfl (vF h4) (qp (t := 40) rfl (vF h4) (qp (t := 40) rfl (vF h4) (qp (t := 40) rfl (vF h4) (cX (qN (.bool (false)) (vF h4) rfl (qc (jO rfl (jg (qv (qv (qM (qd (qd (qb ?_)))))))))))))))
 refine qg (ii ((p : Int))) rfl (qg (cv) rfl (cX (qE qf rfl hcv.slv (cX (ju rfl rfl (qc ?_))))))
 refine qC (p := (p : Int) = (cur.length : Int)) rfl (fun h11 => ?_) (fun h11 => ?_)
 ·refine qd (qb (qg (cv) rfl (qh (cv) rfl (qh (ii (0)) rfl (qc (qw (ql (qD (ql (qD (qr (L' := L) [cv, ii (0)] (.tuple #[cv, ii (0)]) (.tmp rfl (.tmp rfl .nil)) rfl (qa (qa le4 leG1) leG2) rF (sD sR) ?_)))))))))))
  have e := hgo.trans (call_done hfc)
  exact ⟨_, by rw [e], by rw [e]; exact hcv, rfl⟩
 exfalso
 omega

/- spec.l26DrawPattern -/
theorem l26DrawPattern_spec_step {dp : Nat} (ih : ∀ m : Nat, m < dp → ∀ {F : FH} {L : List HP} {cb : Nat} {bsv : Value} {bs : List Int} (hbs : BytesF F bsv bs) (hbl : bs.length ≤ 4000000) {arv : Value} {ar : List Int} (har : IntsF F arv ar) {fsv : Value} {fs : List Int} (hfs : IntsF F fsv fs) {lv : Value} (hlv : IsSl lv) {vs : Int} (hso : sigOk ar = true) (hfl : fs.length ≤ 4000000) (hdp : m ≤ 4) (hvs : 0 ≤ vs ∧ vs + 4 * m ≤ 100), Does prog 326 [ptr cb 0, .agg #[arv, fsv, lv], ii ((m : Int)), ii (vs)] F (curH .i64 247 cb bsv bs.length :: L) (fun v F' L' => ∃ a : Value, ((a : Value) = v ∧ IsSl a) ∧ drawnH 2 a (fun t => 1 ≤ t.length ∧ t.length ≤ szT m) :: curH .i64 247 cb bsv bs.length :: L = L')) {F : FH} {L : List HP} {cb : Nat} {bsv : Value} {bs : List Int} (hbs : BytesF F bsv bs) (hbl : bs.length ≤ 4000000) {arv : Value} {ar : List Int} (har : IntsF F arv ar) {fsv : Value} {fs : List Int} (hfs : IntsF F fsv fs) {lv : Value} (hlv : IsSl lv) {vs : Int} (hso : sigOk ar = true) (hfl : fs.length ≤ 4000000) (hdp : dp ≤ 4) (hvs : 0 ≤ vs ∧ vs + 4 * dp ≤ 100) :
    Does prog 326 [ptr cb 0, .agg #[arv, fsv, lv], ii (((dp : Nat) : Int)), ii (vs)] F (curH .i64 247 cb bsv bs.length :: L) (fun v F' L' => ∃ a : Value, ((a : Value) = v ∧ IsSl a) ∧ drawnH 2 a (fun t => 1 ≤ t.length ∧ t.length ≤ szT dp) :: curH .i64 247 cb bsv bs.length :: L = L') := by
 refine qG func326 rfl rfl rfl ?_
 have hz9 := szT_le (d := dp - 1) (e := 4) (by omega)
 have hz8 : szT 4 = 121 := rfl
 have hz7 := szT_pos (dp - 1)
 have hz6 := szT_pos dp
 have hsl := sigOk_spec hso
 refine qd (qb (cX (jb [arv, fsv, lv] rfl rfl ?_)))
 intro b1
 refine qh (sN) rfl (qc (qd (qb (cX (qs (s := 1) [] [ii (0)] [] qf qq qL rfl (by decide) rfl CellsAre.nil rfl ?_)))))
 intro v1 hv1
 refine qh (v1) rfl (qc (qd (qd (qb (qh (ii (0)) rfl (qc (qH (jn (α := Nat × Value × List Int) (fun xQ => [(0, ptr cb 0), (2, ii (((dp : Nat) : Int))), (3, ii (vs)), (5, ptr b1 0), (9, xQ.2.1), (10, ii (((xQ.1 : Nat) : Int)))]) (fun xQ => intsH 2 xQ.2.1 xQ.2.2 :: cellsH b1 [arv, fsv, lv] 108 :: curH .i64 247 cb bsv bs.length :: L) (fun xQ F' => F = F' ∧ (IsSl xQ.2.1) ∧ (xQ.1 ≤ ar.length) ∧ (xQ.2.2.length ≤ xQ.1) ∧ (∀ i, i < xQ.2.2.length → 0 ≤ xQ.2.2.getD i 0 ∧ xQ.2.2.getD i 0 < (ar.length : Int))) (fun xQ => ar.length - xQ.1) (0, v1, []) ⟨rfl, rfl, rfl, rfl, rfl, rfl, ⟨⟩⟩ (sC (sC (sC sR))) ⟨rfl, ((jo hv1)), (by (try dsimp only) <;> omega), (by simp), (fun i hi => absurd hi (by simp))⟩ ?_))))))))
 rintro ⟨g, ov, os⟩ rE _ _ ⟨rfl, hov, hg, hol, hos⟩
 show X _ _ _ _ (envs [(0, ptr cb 0), (2, ii (((dp : Nat) : Int))), (3, ii (vs)), (5, ptr b1 0), (9, ov), (10, ii ((g : Int)))] rE) _ (intsH 2 ov os :: cellsH b1 [arv, fsv, lv] 108 :: curH .i64 247 cb bsv bs.length :: L)
 dsimp only at hov hg hol hos
 refine qd (qd (qb (qg (ii ((g : Int))) rfl (cX (qk (0) qy rfl qJ (by decide) rfl rfl (cX (qk (0) ji rfl qA (by decide) rfl rfl (cX (qj qU rfl (Rd.own [_] rfl rfl) (cX (qE qf rfl har.slv (cX (qQ rfl rfl (qc ?_))))))))))))))
 refine qC (p := (g : Int) < (ar.length : Int)) rfl (fun h1 => ?_) (fun h1 => ?_)
 ·refine qz (qd (qH (qd (qb (cX (qk (1) qy rfl qA (by decide) rfl rfl (cX (qj qU rfl (Rd.own [_] rfl rfl) (qg (ii ((g : Int))) rfl (cX (qn (args := [fsv, ii ((g : Int))]) call259 rfl (l1Has_spec (n := (g : Int)) hfs (hbd := (by omega))) ?_)))))))))))
  rintro _ _ _ _ ⟨rfl, rfl, rfl⟩
  refine cX (jY rfl (qc ?_))
  refine qC (p := ¬(((g : Int)) ∈ fs)) rfl (fun h2 => ?_) (fun h2 => ?_)
  ·refine qb (qg (ov) rfl (qg (ii ((g : Int))) rfl (cX (qs (s := 1) [ii ((g : Int))] [ii (0)] [(0, [ii ((g : Int))])] qf qq qL rfl (by decide) rfl (.cons rfl CellsAre.nil) rfl ?_))))
   intro v2 hv2
   refine cX (jX (u := (g : Int)) [_] _ qf typeInfo2 rfl rfl rfl rfl rfl rfl (SlV.own [] rfl) (Rd.sl [] rfl rfl) (by (try simp only [List.length_append, List.length_nil, List.length_cons, List.length_singleton, List.length_take, List.length_drop]); omega) ?_)
   intro v3 hs1 hn1
   refine qh (v3) rfl (qc (qb (qg (ii ((g : Int))) rfl (cX (qK (((g + 1 : Nat) : Int)) rfl rfl (by omega) (by omega) (qh (ii (((g + 1 : Nat) : Int))) rfl (qc ?_)))))))
   exact ⟨(g + 1, v3, os ++ [(g : Int)]), _, FLe.refl _, rF, ⟨rfl, rfl, rfl, rfl, rfl, rfl, ⟨⟩⟩, (sD (sC (sC (sC sR)))), ⟨rfl, (hs1), (by (try dsimp only) <;> omega), (by (try dsimp only); (try rw [List.length_append, List.length_singleton]); omega), (by (try dsimp only); first | exact hos | exact syms_snoc hos (by omega) (by omega))⟩, (by omega)⟩
  refine qz (qb (qg (ii ((g : Int))) rfl (cX (qK (((g + 1 : Nat) : Int)) rfl rfl (by omega) (by omega) (qh (ii (((g + 1 : Nat) : Int))) rfl (qc ?_))))))
  exact ⟨(g + 1, ov, os), _, FLe.refl _, rF, ⟨rfl, rfl, rfl, rfl, rfl, rfl, ⟨⟩⟩, (sC (sC (sC sR))), ⟨rfl, (hov), (by (try dsimp only) <;> omega), (by (try dsimp only); (try rw [List.length_append, List.length_singleton]); omega), (by (try dsimp only); first | exact hos | exact syms_snoc hos (by omega) (by omega))⟩, (by omega)⟩
 refine jg (qv (qv (qM (qd (qd (qb (qg (ii (((dp : Nat) : Int))) rfl (cX (ju rfl rfl (qg (.bool (decide ((((dp : Nat) : Int) : Int) = 0))) rfl ?_))))))))))
 by_cases h3 : (((dp : Nat) : Int) : Int) = 0
 ·refine qp (t := 34) rfl (vT h3) (qp (t := 34) rfl (vT h3) (qp (t := 34) rfl (vT h3) (cX (qO (.bool (true)) (vT h3) rfl (qg (.bool (true)) rfl (qp (t := 39) rfl rfl (qp (t := 39) rfl rfl (cX (qO (.bool (true)) rfl rfl (qc (jA rfl ?_)))))))))))
  refine qd (qb (qg (ii (vs)) rfl (cX (je ((-1) - vs) rfl rfl (by omega) (by omega) (cX (qs (s := 1) [ii ((-1) - vs)] [ii (0)] [(0, [ii ((-1) - vs)])] qf qq qL rfl (by decide) rfl (.cons rfl CellsAre.nil) rfl ?_))))))
  intro v4 hv3
  refine qh (v4) rfl (qc (qw (ql (qr (L' := drawnH 2 v4 (fun t => 1 ≤ t.length ∧ t.length ≤ szT dp) :: curH .i64 247 cb bsv bs.length :: L) [v4] (v4) (.tmp rfl .nil) rfl rF rF (jN (sC (sD (sD (sC sR)))) (Sub.keep (drawnH.of (t := [(-1) - vs]) (⟨by simp, by first | (simp; done) | (simp only [List.length_singleton]; omega) | omega⟩)) sR)) ?_))))
  exact ⟨_, ⟨rfl, (jo hv3)⟩, rfl⟩
 refine qo (t := 34) rfl (vF h3) (qm (ov) rfl (qo (t := 34) rfl (vF h3) (qE qf rfl (intsH.slv [] rfl) (qo (t := 34) rfl (vF h3) (ju rfl rfl (cX (qN (.bool (decide (((os.length : Int) : Int) = 0))) (vF h3) rfl (qg (.bool (decide (((os.length : Int) : Int) = 0))) rfl ?_))))))))
 by_cases h4 : ((os.length : Int) : Int) = 0
 ·refine qp (t := 39) rfl (vT h4) (qp (t := 39) rfl (vT h4) (cX (qO (.bool (true)) (vT h4) rfl (qc (jA rfl (qd (qb (qg (ii (vs)) rfl (cX (je ((-1) - vs) rfl rfl (by omega) (by omega) (cX (qs (s := 1) [ii ((-1) - vs)] [ii (0)] [(0, [ii ((-1) - vs)])] qf qq qL rfl (by decide) rfl (.cons rfl CellsAre.nil) rfl ?_))))))))))))
  intro v5 hv4
  refine qh (v5) rfl (qc (qw (ql (qr (L' := drawnH 2 v5 (fun t => 1 ≤ t.length ∧ t.length ≤ szT dp) :: curH .i64 247 cb bsv bs.length :: L) [v5] (v5) (.tmp rfl .nil) rfl rF rF (jN (sC (sD (sD (sC sR)))) (Sub.keep (drawnH.of (t := [(-1) - vs]) (⟨by simp, by first | (simp; done) | (simp only [List.length_singleton]; omega) | omega⟩)) sR)) ?_))))
  exact ⟨_, ⟨rfl, (jo hv4)⟩, rfl⟩
 refine qo (t := 39) rfl (vF h4) (qm (ptr cb 0) rfl (qo (t := 39) rfl (vF h4) (qn (args := [ptr cb 0, ii (3)]) call102 rfl (jq [_, _] (l1Once_spec (n := 3) hbs (by omega) (hn := (by first | assumption | rfl | omega | simp)))) ?_)))
 rintro _ _ _ _ ⟨⟨rfl, x1, rfl⟩, rfl⟩
 show XL _ _ _ _ _ _ _ (intsH 2 ov os :: cellsH b1 [arv, fsv, lv] 108 :: curH .i64 247 cb bsv bs.length :: L)
 refine cX (qN (.bool (x1)) (vF h4) rfl (qc ?_))
 refine jF (t := x1) rfl (fun h5 => ?_) (fun h5 => ?_)
 ·refine qd (qb (qg (ii (vs)) rfl (cX (je ((-1) - vs) rfl rfl (by omega) (by omega) (cX (qs (s := 1) [ii ((-1) - vs)] [ii (0)] [(0, [ii ((-1) - vs)])] qf qq qL rfl (by decide) rfl (.cons rfl CellsAre.nil) rfl ?_))))))
  intro v6 hv5
  refine qh (v6) rfl (qc (qw (ql (qr (L' := drawnH 2 v6 (fun t => 1 ≤ t.length ∧ t.length ≤ szT dp) :: curH .i64 247 cb bsv bs.length :: L) [v6] (v6) (.tmp rfl .nil) rfl rF rF (jN (sC (sD (sD (sC sR)))) (Sub.keep (drawnH.of (t := [(-1) - vs]) (⟨by simp, by first | (simp; done) | (simp only [List.length_singleton]; omega) | omega⟩)) sR)) ?_))))
  exact ⟨_, ⟨rfl, (jo hv5)⟩, rfl⟩
 refine qz (qd (qb (qg (ov) rfl (qg (ptr cb 0) rfl (qg (ov) rfl (cX (qE qf rfl (intsH.slv [] rfl) (cX (qn (args := [ptr cb 0, ii ((os.length : Int))]) yb rfl (jq [_, _] (l1Below_spec (n := (os.length : Int)) hbs (by omega) (hn := (by first | assumption | rfl | omega | simp)))) ?_)))))))))
 rintro _ _ _ _ ⟨⟨rfl, x2, rfl, hr1⟩, rfl⟩
 show XL _ _ _ _ _ _ _ (intsH 2 ov os :: cellsH b1 [arv, fsv, lv] 108 :: curH .i64 247 cb bsv bs.length :: L)
 refine cX (qt ((x2).toNat) qf qq rfl rfl (by omega) (intsH.slv [] rfl) (by omega) (Nat.mul_one _) (cX (qj qP rfl (intsH.rd [] rfl (by omega)) (qh (ii (os.getD ((x2).toNat) 0)) rfl (qc (qd (qb ?_)))))))
 have hfr : 0 ≤ os.getD ((x2).toNat) 0 ∧ os.getD ((x2).toNat) 0 < (ar.length : Int) := hos _ (by omega)
 have hsp := hsl.2.2 (os.getD ((x2).toNat) 0).toNat (by omega)
 obtain ⟨haK, hKe⟩ : ∃ q : Nat, q = (ar.getD (os.getD ((x2).toNat) 0).toNat 0).toNat := ⟨_, rfl⟩
 have hK3 : haK ≤ 3 := by omega
 refine qg (ii (os.getD ((x2).toNat) 0)) rfl (cX (qs (s := 1) [ii (os.getD ((x2).toNat) 0)] [ii (0)] [(0, [ii (os.getD ((x2).toNat) 0)])] qf qq qL rfl (by decide) rfl (.cons rfl CellsAre.nil) rfl ?_))
 intro v7 hv6
 refine qh (v7) rfl (qc (qd (qd (qb (cX (qk (0) qy rfl qJ (by decide) rfl rfl (cX (qk (0) ji rfl qA (by decide) rfl rfl (cX (qj qU rfl (Rd.own [_, _] rfl rfl) (qg (ii (os.getD ((x2).toNat) 0)) rfl (cX (qt ((os.getD ((x2).toNat) 0).toNat) qf qq rfl rfl (by omega) har.slv (by omega) (Nat.mul_one _) (cX (qj qP rfl (har.rd (by omega)) (qh (ii (ar.getD ((os.getD ((x2).toNat) 0).toNat) 0)) rfl (qc (qH ?_))))))))))))))))))
 refine jn (α := Nat × Value × List Int × FH) (fun xQ => [(0, ptr cb 0), (2, ii (((dp : Nat) : Int))), (3, ii (vs)), (5, ptr b1 0), (12, xQ.2.1), (13, ii (((xQ.1 : Nat) : Int)))]) (fun xQ => intsH 2 xQ.2.1 xQ.2.2.1 :: intsH 2 ov os :: cellsH b1 [arv, fsv, lv] 108 :: curH .i64 247 cb bsv bs.length :: L) (fun xQ F' => xQ.2.2.2 = F' ∧ F ≤ xQ.2.2.2 ∧ (IsSl xQ.2.1) ∧ (xQ.1 + (haK - xQ.1) = haK ∧ xQ.1 ≤ haK) ∧ (1 ≤ xQ.2.2.1.length ∧ xQ.2.2.1.length ≤ 1 + (haK - xQ.1) * szT (dp - 1))) (fun xQ => xQ.1) ((ar.getD ((os.getD ((x2).toNat) 0).toNat) 0).toNat, v7, [os.getD ((x2).toNat) 0], F) ⟨rfl, rfl, rfl, rfl, rfl, (vI (by omega)), ⟨⟩⟩ (sC (sC (sC (sC sR)))) ⟨rfl, FLe.refl _, ((jo hv6)), (by (try dsimp only); omega), (by (try dsimp only); rw [show haK - (ar.getD ((os.getD ((x2).toNat) 0).toNat) 0).toNat = 0 from by omega]; simp)⟩ ?_
 rintro ⟨n, ov2, os2, G1⟩ rE _ _ ⟨rfl, leG, hov2, hn3, hol2⟩
 show X _ _ _ _ (envs [(0, ptr cb 0), (2, ii (((dp : Nat) : Int))), (3, ii (vs)), (5, ptr b1 0), (12, ov2), (13, ii ((n : Int)))] rE) _ (intsH 2 ov2 os2 :: intsH 2 ov os :: cellsH b1 [arv, fsv, lv] 108 :: curH .i64 247 cb bsv bs.length :: L)
 replace leG : F ≤ G1 := leG
 dsimp only at hov2 hn3 hol2
 have hm9 : (haK - n) * szT (dp - 1) ≤ 3 * szT (dp - 1) := Nat.mul_le_mul_right _ (by omega)
 have leG1 := leG
 replace hbs := hbs.mono leG1
 replace har := har.mono leG1
 replace hfs := hfs.mono leG1
 refine qd (qd (qb (qg (ii ((n : Int))) rfl (cX (jG rfl rfl (qc ?_))))))
 refine qC (p := (n : Int) > 0) rfl (fun h6 => ?_) (fun h6 => ?_)
 ·refine qz (qd (qH (qb (qg (ov2) rfl (qg (ptr cb 0) rfl (cX (qu [arv, fsv, lv] jj qT rfl rfl (Rd.ownN [_, _] rfl rfl) (qg (ii (((dp : Nat) : Int))) rfl (cX (je (((dp - 1 : Nat) : Int)) rfl rfl (by omega) (by omega) (qg (ii (vs)) rfl (qg (ii ((n : Int))) rfl (cX (qK (vs + ((n : Int))) rfl rfl (by omega) (by omega) (cX (qK ((vs + ((n : Int))) + 1) rfl rfl (by omega) (by omega) ?_))))))))))))))))
  refine cX (qn (args := [ptr cb 0, .agg #[arv, fsv, lv], ii ((dp - 1 : Nat) : Int), ii ((vs + ((n : Int))) + 1)]) call326 rfl (Does.atO [_, _, _] (ih (dp - 1) (by omega) (vs := (vs + ((n : Int))) + 1) hbs (by omega) har hfs hlv (hso := (by first | assumption | rfl | omega | simp)) (hfl := (by first | assumption | rfl | omega | simp)) (hdp := (by first | assumption | rfl | omega | simp)) (hvs := (by first | assumption | rfl | omega | simp)))) ?_)
  rintro _ F3 _ le3 ⟨x4, ⟨rfl, hsl1⟩, rfl⟩
  show XL _ _ _ _ _ _ _ (drawnH 2 x4 (fun t => 1 ≤ t.length ∧ t.length ≤ szT (dp - 1)) :: intsH 2 ov2 os2 :: intsH 2 ov os :: cellsH b1 [arv, fsv, lv] 108 :: curH .i64 247 cb bsv bs.length :: L)
  refine XL.undraw [] rfl (fun t1 hq9 => ?_)
  obtain ⟨q1, q2⟩ := hq9
  show XL _ _ _ _ _ _ _ (intsH 2 x4 t1 :: intsH 2 ov2 os2 :: intsH 2 ov os :: cellsH b1 [arv, fsv, lv] 108 :: curH .i64 247 cb bsv bs.length :: L)
  refine ja [] _ _ rfl (fun F4 le4 hz1 => ?_)
  have hf1 : IntsF F4 x4 t1 := intsH.fz (xs := t1) hz1.fz
  refine cX (yd [] _ qf typeInfo2 rfl rfl rfl rfl rfl rfl hf1 (by (try simp only [List.length_append, List.length_nil, List.length_cons, List.length_singleton, List.length_take, List.length_drop]); omega) ?_)
  intro v8 hs2 hn2 hm1
  refine qh (v8) rfl (qc (qb (qg (ii ((n : Int))) rfl (cX (je (((n - 1 : Nat) : Int)) rfl rfl (by omega) (by omega) (qh (ii (((n - 1 : Nat) : Int))) rfl (qc ?_)))))))
  exact ⟨(n - 1, v8, os2 ++ t1, F4), _, (qa (qa leG1 le3) le4), rF, ⟨rfl, rfl, rfl, rfl, rfl, (vI (by first | omega | ((try dsimp only) <;> omega))), ⟨⟩⟩, (sC (sC (sC (sC sR)))), ⟨rfl, (qa (qa leG1 le3) le4), (hs2), (by (try dsimp only); omega), (by (try dsimp only); rw [show haK - (n - 1) = haK - n + 1 from by omega, Nat.succ_mul, List.length_append]; omega)⟩, (by (try dsimp only); omega)⟩
 refine jg (qv (qv (qM (qd (qb (qg (ov2) rfl (qh (ov2) rfl (qc (qw (qr (L' := drawnH 2 ov2 (fun t => 1 ≤ t.length ∧ t.length ≤ szT dp) :: curH .i64 247 cb bsv bs.length :: L) [ov2] (ov2) (.tmp rfl .nil) rfl leG1 rF (jN (sC (sD (sD (sC sR)))) (Sub.keep (drawnH.of (t := os2) (⟨by omega, by have h9 := szT_next (d := dp) (by omega); omega⟩)) sR)) ?_))))))))))
 exact ⟨_, ⟨rfl, hov2⟩, rfl⟩

theorem l26DrawPattern_spec (dp : Nat) : ∀ {F : FH} {L : List HP} {cb : Nat} {bsv : Value} {bs : List Int} (hbs : BytesF F bsv bs) (hbl : bs.length ≤ 4000000) {arv : Value} {ar : List Int} (har : IntsF F arv ar) {fsv : Value} {fs : List Int} (hfs : IntsF F fsv fs) {lv : Value} (hlv : IsSl lv) {vs : Int} (hso : sigOk ar = true) (hfl : fs.length ≤ 4000000) (hdp : dp ≤ 4) (hvs : 0 ≤ vs ∧ vs + 4 * dp ≤ 100), Does prog 326 [ptr cb 0, .agg #[arv, fsv, lv], ii (((dp : Nat) : Int)), ii (vs)] F (curH .i64 247 cb bsv bs.length :: L) (fun v F' L' => ∃ a : Value, ((a : Value) = v ∧ IsSl a) ∧ drawnH 2 a (fun t => 1 ≤ t.length ∧ t.length ≤ szT dp) :: curH .i64 247 cb bsv bs.length :: L = L') := by
  induction dp using Nat.strongRecOn with
  | _ dp ih =>
    intros
    exact l26DrawPattern_spec_step ih (by assumption) (by assumption) (by assumption) (by assumption) (by assumption) (by assumption) (by assumption) (by assumption) (by assumption)

/- spec.l26Known -/
set_option maxHeartbeats 1000000 in
set_option maxRecDepth 20000 in
theorem l26Known_spec {F : FH} {L : List HP} {q : Int} :
    Does prog 325 [ii (q)] F (L) (fun v F' L' => ∃ (a : Value), ∃ (b : Value), ∃ (c : Value), ∃ (ls : List LineT), (.agg #[a, b, c] : Value) = v ∧ (IntsF F' a ([2, 1, 0, 2] : List Int)) ∧ (IntsF F' b ([0, 3] : List Int)) ∧ (LinesF F' c ls) ∧ (linesS ls = true) ∧ (ls.length ≤ 5) ∧ (Fresh F F' (star [intsH 2 a ([2, 1, 0, 2] : List Int), intsH 2 b ([0, 3] : List Int), linesD 2 22 206 c ls])) ∧ L = L') := by
 refine qG func325 rfl rfl rfl (qd (qb (cX (jr [sN, sN, sN] zeroValue108 rfl ?_))))
 intro b1
 refine qc (qd (qb (cX (qs (s := 1) [ii (2), ii (1), ii (0), ii (2)] [ii (0)] [(0, [ii (2)]), (1, [ii (1)]), (2, [ii (0)]), (3, [ii (2)])] qf qq qL rfl (by decide) rfl (.cons rfl (.cons rfl (.cons rfl (.cons rfl CellsAre.nil)))) rfl ?_))))
 intro v1 hv1
 refine cX (jv [v1] [sN] [(0, 1)] [(0, [v1])] ji zeroValue36 rfl (.cons rfl qA PlacesAre.nil) rfl (.cons (cells_one (jo hv1)) CellsAre.nil) (cX (jr [sN] zeroValue36 rfl ?_)))
 intro b2
 refine cX (qV [] _ [v1] qJ rfl rfl rfl (qx (qI (jo hv1)) qX) rfl rfl rfl (qc (qd (qb (cX (qs (s := 1) [ii (2)] [ii (0)] [(0, [ii (2)])] qf qq qL rfl (by decide) rfl (.cons rfl CellsAre.nil) rfl ?_))))))
 intro v2 hv2
 show XL _ _ _ _ _ _ _ (intsH 2 v2 ([2] : List Int) :: cellsH b2 [v1] 36 :: slH 2 1 v1 4 [ii (2), ii (1), ii (0), ii (2)] :: cellsH b1 [sN, sN, sN] 108 :: L)
 refine ja [] _ _ rfl (fun F1 le1 hz1 => ?_)
 have hf1 : IntsF F1 v2 ([2]) := intsH.fz (xs := [2]) hz1.fz
 skip
 refine cX (qs (s := 1) [ii (-1)] [ii (0)] [(0, [ii (-1)])] qf qq qL rfl (by decide) rfl (.cons rfl CellsAre.nil) rfl ?_)
 intro v3 hv3
 show XL _ _ _ _ _ _ _ (intsH 2 v3 ([-1] : List Int) :: cellsH b2 [v1] 36 :: slH 2 1 v1 4 [ii (2), ii (1), ii (0), ii (2)] :: cellsH b1 [sN, sN, sN] 108 :: L)
 refine ja [] _ _ rfl (fun F2 le2 hz2 => ?_)
 replace hf1 := hf1.mono le2
 have hf2 : IntsF F2 v3 ([-1]) := intsH.fz (xs := [-1]) hz2.fz
 skip
 refine cX (qs (s := 1) [v2, v3] [sN] [(0, [v2]), (1, [v3])] qF qA jI rfl (by decide) rfl (.cons (cells_one (qB hf1)) (.cons (cells_one (qB hf2)) CellsAre.nil)) rfl ?_)
 intro v4 hv4
 have hc1 : RowsC F2 [v2, v3] ([[2], [-1]] : List (List Int)) := (RowsC.snoc (RowsC.snoc (CO.nil : RowsC F2 [] []) hf1) hf2)
 refine ja [] _ _ rfl (fun F3 le3 hz3 => ?_)
 replace hc1 := hc1.mono le3
 have hf3 : RowsF F3 v4 (([[2], [-1]] : List (List Int))) := CO.fz hc1 (by first | rfl | omega | (rw [List.length_set]; omega) | (simp; done)) hz3.fz
 skip
 refine cX (qs (s := 1) [ii (-1)] [ii (0)] [(0, [ii (-1)])] qf qq qL rfl (by decide) rfl (.cons rfl CellsAre.nil) rfl ?_)
 intro v5 hv5
 show XL _ _ _ _ _ _ _ (intsH 2 v5 ([-1] : List Int) :: cellsH b2 [v1] 36 :: slH 2 1 v1 4 [ii (2), ii (1), ii (0), ii (2)] :: cellsH b1 [sN, sN, sN] 108 :: L)
 refine ja [] _ _ rfl (fun F4 le4 hz4 => ?_)
 replace hf3 := hf3.mono le4
 have hf4 : IntsF F4 v5 ([-1]) := intsH.fz (xs := [-1]) hz4.fz
 skip
 refine cX (jv [ii (0), v4, v5] [ii (0), sN, sN] [(0, 1), (1, 1), (2, 1)] [(0, [ii (0)]), (1, [v4]), (2, [v5])] qR jC rfl (.cons rfl qq (.cons rfl qW (.cons rfl qA PlacesAre.nil))) rfl (.cons rfl (.cons (cells_one (RowsF.isSl hf3)) (.cons (cells_one (qB hf4)) CellsAre.nil))) (cX (qs (s := 1) [ii (1), ii (-1)] [ii (0)] [(0, [ii (1)]), (1, [ii (-1)])] qf qq qL rfl (by decide) rfl (.cons rfl (.cons rfl CellsAre.nil)) rfl ?_)))
 intro v6 hv6
 show XL _ _ _ _ _ _ _ (intsH 2 v6 ([1, -1] : List Int) :: cellsH b2 [v1] 36 :: slH 2 1 v1 4 [ii (2), ii (1), ii (0), ii (2)] :: cellsH b1 [sN, sN, sN] 108 :: L)
 refine ja [] _ _ rfl (fun F5 le5 hz5 => ?_)
 replace hf3 := hf3.mono le5
 replace hf4 := hf4.mono le5
 have hf5 : IntsF F5 v6 ([1, -1]) := intsH.fz (xs := [1, -1]) hz5.fz
 skip
 refine cX (qs (s := 1) [ii (-2)] [ii (0)] [(0, [ii (-2)])] qf qq qL rfl (by decide) rfl (.cons rfl CellsAre.nil) rfl ?_)
 intro v7 hv7
 show XL _ _ _ _ _ _ _ (intsH 2 v7 ([-2] : List Int) :: cellsH b2 [v1] 36 :: slH 2 1 v1 4 [ii (2), ii (1), ii (0), ii (2)] :: cellsH b1 [sN, sN, sN] 108 :: L)
 refine ja [] _ _ rfl (fun F6 le6 hz6 => ?_)
 replace hf3 := hf3.mono le6
 replace hf4 := hf4.mono le6
 replace hf5 := hf5.mono le6
 have hf6 : IntsF F6 v7 ([-2]) := intsH.fz (xs := [-2]) hz6.fz
 skip
 refine cX (qs (s := 1) [v6, v7] [sN] [(0, [v6]), (1, [v7])] qF qA jI rfl (by decide) rfl (.cons (cells_one (qB hf5)) (.cons (cells_one (qB hf6)) CellsAre.nil)) rfl ?_)
 intro v8 hv8
 have hc2 : RowsC F6 [v6, v7] ([[1, -1], [-2]] : List (List Int)) := (RowsC.snoc (RowsC.snoc (CO.nil : RowsC F6 [] []) hf5) hf6)
 refine ja [] _ _ rfl (fun F7 le7 hz7 => ?_)
 replace hf3 := hf3.mono le7
 replace hf4 := hf4.mono le7
 replace hc2 := hc2.mono le7
 have hf7 : RowsF F7 v8 (([[1, -1], [-2]] : List (List Int))) := CO.fz hc2 (by first | rfl | omega | (rw [List.length_set]; omega) | (simp; done)) hz7.fz
 skip
 refine cX (qs (s := 1) [ii (1), ii (0), ii (-1), ii (-2)] [ii (0)] [(0, [ii (1)]), (1, [ii (0)]), (2, [ii (-1)]), (3, [ii (-2)])] qf qq qL rfl (by decide) rfl (.cons rfl (.cons rfl (.cons rfl (.cons rfl CellsAre.nil)))) rfl ?_)
 intro v9 hv9
 show XL _ _ _ _ _ _ _ (intsH 2 v9 ([1, 0, -1, -2] : List Int) :: cellsH b2 [v1] 36 :: slH 2 1 v1 4 [ii (2), ii (1), ii (0), ii (2)] :: cellsH b1 [sN, sN, sN] 108 :: L)
 refine ja [] _ _ rfl (fun F8 le8 hz8 => ?_)
 replace hf3 := hf3.mono le8
 replace hf4 := hf4.mono le8
 replace hf7 := hf7.mono le8
 have hf8 : IntsF F8 v9 ([1, 0, -1, -2]) := intsH.fz (xs := [1, 0, -1, -2]) hz8.fz
 skip
 refine cX (jv [ii (0), v8, v9] [ii (0), sN, sN] [(0, 1), (1, 1), (2, 1)] [(0, [ii (0)]), (1, [v8]), (2, [v9])] qR jC rfl (.cons rfl qq (.cons rfl qW (.cons rfl qA PlacesAre.nil))) rfl (.cons rfl (.cons (cells_one (RowsF.isSl hf7)) (.cons (cells_one (qB hf8)) CellsAre.nil))) (cX (qs (s := 3) [ii (0), v4, v5, ii (0), v8, v9] [ii (0), sN, sN] [(0, [ii (0), v4, v5]), (1, [ii (0), v8, v9])] qS jl jC rfl (by decide) rfl (.cons rfl (.cons rfl CellsAre.nil)) rfl ?_)))
 intro v10 hv10
 have hc3 : LinesC F8 [ii (0), v4, v5, ii (0), v8, v9] ([(0, ([[2], [-1]] : List (List Int)), [-1]), (0, ([[1, -1], [-2]] : List (List Int)), [1, 0, -1, -2])] : List LineT) := (LinesC.snoc (LinesC.snoc (CO.nil : LinesC F8 [] []) (y0 := 0) (y1 := ([[2], [-1]] : List (List Int))) (y2 := [-1]) hf3 hf4) (y0 := 0) (y1 := ([[1, -1], [-2]] : List (List Int))) (y2 := [1, 0, -1, -2]) hf7 hf8)
 skip
 refine qh (v10) rfl (qc (qd (qb (cX (qu [v1] jf qJ rfl rfl (Rd.ownN [_] rfl rfl) (cX (qs (s := 1) [ii (0), ii (3)] [ii (0)] [(0, [ii (0)]), (1, [ii (3)])] qf qq qL rfl (by decide) rfl (.cons rfl (.cons rfl CellsAre.nil)) rfl ?_)))))))
 intro v11 hv11
 refine qg (v10) rfl (cX (jv [v1, v11, v10] [sN, sN, sN] [(0, 1), (1, 1), (2, 1)] [(0, [v1]), (1, [v11]), (2, [v10])] qy zeroValue108 rfl (.cons rfl qJ (.cons rfl qA (.cons rfl jm PlacesAre.nil))) rfl (.cons rfl (.cons (cells_one (jo hv11)) (.cons (cells_one (jo hv10)) CellsAre.nil))) (cX (jr [sN, sN, sN] zeroValue108 rfl ?_))))
 intro b3
 refine cX (qV [] _ [v1, v11, v10] qT rfl rfl rfl (qx (qI (jo hv1)) (qx (qI (jo hv11)) (qx (qI (jo hv10)) qX))) rfl rfl rfl (qc (qd (qd (qb (qg (ii (q)) rfl (qc (qH (qd (qb (cX (ju rfl rfl (qh (.bool (decide ((q : Int) = 0))) rfl (qc ?_))))))))))))))
 refine qC (p := (q : Int) = 0) rfl (fun h1 => ?_) (fun h1 => ?_)
 ·refine qb (cX (qk (2) qy rfl jm (by decide) rfl rfl (cX (qj jE rfl (Rd.own [] rfl rfl) (cX (qs (s := 1) [ii (2)] [ii (0)] [(0, [ii (2)])] qf qq qL rfl (by decide) rfl (.cons rfl CellsAre.nil) rfl ?_))))))
  intro v12 hv12
  show XL _ _ _ _ _ _ _ (intsH 2 v12 ([2] : List Int) :: cellsH b3 [v1, v11, v10] 108 :: slH 2 1 v11 2 [ii (0), ii (3)] :: slH 206 3 v10 2 ([ii (0), v4, v5, ii (0), v8, v9]) :: cellsH b2 [v1] 36 :: slH 2 1 v1 4 [ii (2), ii (1), ii (0), ii (2)] :: cellsH b1 [sN, sN, sN] 108 :: L)
  refine ja [] _ _ rfl (fun F9 le9 hz9 => ?_)
  replace hc3 := hc3.mono le9
  have hf9 : IntsF F9 v12 ([2]) := intsH.fz (xs := [2]) hz9.fz
  skip
  refine cX (qs (s := 1) [ii (-1)] [ii (0)] [(0, [ii (-1)])] qf qq qL rfl (by decide) rfl (.cons rfl CellsAre.nil) rfl ?_)
  intro v13 hv13
  show XL _ _ _ _ _ _ _ (intsH 2 v13 ([-1] : List Int) :: cellsH b3 [v1, v11, v10] 108 :: slH 2 1 v11 2 [ii (0), ii (3)] :: slH 206 3 v10 2 ([ii (0), v4, v5, ii (0), v8, v9]) :: cellsH b2 [v1] 36 :: slH 2 1 v1 4 [ii (2), ii (1), ii (0), ii (2)] :: cellsH b1 [sN, sN, sN] 108 :: L)
  refine ja [] _ _ rfl (fun F10 le10 hz10 => ?_)
  replace hc3 := hc3.mono le10
  replace hf9 := hf9.mono le10
  have hf10 : IntsF F10 v13 ([-1]) := intsH.fz (xs := [-1]) hz10.fz
  skip
  refine cX (qs (s := 1) [v12, v13] [sN] [(0, [v12]), (1, [v13])] qF qA jI rfl (by decide) rfl (.cons (cells_one (qB hf9)) (.cons (cells_one (qB hf10)) CellsAre.nil)) rfl ?_)
  intro v14 hv14
  have hc4 : RowsC F10 [v12, v13] ([[2], [-1]] : List (List Int)) := (RowsC.snoc (RowsC.snoc (CO.nil : RowsC F10 [] []) hf9) hf10)
  refine ja [] _ _ rfl (fun F11 le11 hz11 => ?_)
  replace hc3 := hc3.mono le11
  replace hc4 := hc4.mono le11
  have hf11 : RowsF F11 v14 (([[2], [-1]] : List (List Int))) := CO.fz hc4 (by first | rfl | omega | (rw [List.length_set]; omega) | (simp; done)) hz11.fz
  skip
  refine cX (qs (s := 1) [ii (-1)] [ii (0)] [(0, [ii (-1)])] qf qq qL rfl (by decide) rfl (.cons rfl CellsAre.nil) rfl ?_)
  intro v15 hv15
  show XL _ _ _ _ _ _ _ (intsH 2 v15 ([-1] : List Int) :: cellsH b3 [v1, v11, v10] 108 :: slH 2 1 v11 2 [ii (0), ii (3)] :: slH 206 3 v10 2 ([ii (0), v4, v5, ii (0), v8, v9]) :: cellsH b2 [v1] 36 :: slH 2 1 v1 4 [ii (2), ii (1), ii (0), ii (2)] :: cellsH b1 [sN, sN, sN] 108 :: L)
  refine ja [] _ _ rfl (fun F12 le12 hz12 => ?_)
  replace hc3 := hc3.mono le12
  replace hf11 := hf11.mono le12
  have hf12 : IntsF F12 v15 ([-1]) := intsH.fz (xs := [-1]) hz12.fz
  skip
  refine cX (jv [ii (3), v14, v15] [ii (0), sN, sN] [(0, 1), (1, 1), (2, 1)] [(0, [ii (3)]), (1, [v14]), (2, [v15])] qR jC rfl (.cons rfl qq (.cons rfl qW (.cons rfl qA PlacesAre.nil))) rfl (.cons rfl (.cons (cells_one (RowsF.isSl hf11)) (.cons (cells_one (qB hf12)) CellsAre.nil))) (cX (qs (s := 1) [ii (1), ii (-1)] [ii (0)] [(0, [ii (1)]), (1, [ii (-1)])] qf qq qL rfl (by decide) rfl (.cons rfl (.cons rfl CellsAre.nil)) rfl ?_)))
  intro v16 hv16
  show XL _ _ _ _ _ _ _ (intsH 2 v16 ([1, -1] : List Int) :: cellsH b3 [v1, v11, v10] 108 :: slH 2 1 v11 2 [ii (0), ii (3)] :: slH 206 3 v10 2 ([ii (0), v4, v5, ii (0), v8, v9]) :: cellsH b2 [v1] 36 :: slH 2 1 v1 4 [ii (2), ii (1), ii (0), ii (2)] :: cellsH b1 [sN, sN, sN] 108 :: L)
  refine ja [] _ _ rfl (fun F13 le13 hz13 => ?_)
  replace hc3 := hc3.mono le13
  replace hf11 := hf11.mono le13
  replace hf12 := hf12.mono le13
  have hf13 : IntsF F13 v16 ([1, -1]) := intsH.fz (xs := [1, -1]) hz13.fz
  skip
  refine cX (qs (s := 1) [ii (1), ii (-2)] [ii (0)] [(0, [ii (1)]), (1, [ii (-2)])] qf qq qL rfl (by decide) rfl (.cons rfl (.cons rfl CellsAre.nil)) rfl ?_)
  intro v17 hv17
  show XL _ _ _ _ _ _ _ (intsH 2 v17 ([1, -2] : List Int) :: cellsH b3 [v1, v11, v10] 108 :: slH 2 1 v11 2 [ii (0), ii (3)] :: slH 206 3 v10 2 ([ii (0), v4, v5, ii (0), v8, v9]) :: cellsH b2 [v1] 36 :: slH 2 1 v1 4 [ii (2), ii (1), ii (0), ii (2)] :: cellsH b1 [sN, sN, sN] 108 :: L)
  refine ja [] _ _ rfl (fun F14 le14 hz14 => ?_)
  replace hc3 := hc3.mono le14
  replace hf11 := hf11.mono le14
  replace hf12 := hf12.mono le14
  replace hf13 := hf13.mono le14
  have hf14 : IntsF F14 v17 ([1, -2]) := intsH.fz (xs := [1, -2]) hz14.fz
  skip
  refine cX (qs (s := 1) [v16, v17] [sN] [(0, [v16]), (1, [v17])] qF qA jI rfl (by decide) rfl (.cons (cells_one (qB hf13)) (.cons (cells_one (qB hf14)) CellsAre.nil)) rfl ?_)
  intro v18 hv18
  have hc5 : RowsC F14 [v16, v17] ([[1, -1], [1, -2]] : List (List Int)) := (RowsC.snoc (RowsC.snoc (CO.nil : RowsC F14 [] []) hf13) hf14)
  refine ja [] _ _ rfl (fun F15 le15 hz15 => ?_)
  replace hc3 := hc3.mono le15
  replace hf11 := hf11.mono le15
  replace hf12 := hf12.mono le15
  replace hc5 := hc5.mono le15
  have hf15 : RowsF F15 v18 (([[1, -1], [1, -2]] : List (List Int))) := CO.fz hc5 (by first | rfl | omega | (rw [List.length_set]; omega) | (simp; done)) hz15.fz
  skip
  refine cX (qs (s := 1) [ii (1), ii (3), ii (-1), ii (-2)] [ii (0)] [(0, [ii (1)]), (1, [ii (3)]), (2, [ii (-1)]), (3, [ii (-2)])] qf qq qL rfl (by decide) rfl (.cons rfl (.cons rfl (.cons rfl (.cons rfl CellsAre.nil)))) rfl ?_)
  intro v19 hv19
  show XL _ _ _ _ _ _ _ (intsH 2 v19 ([1, 3, -1, -2] : List Int) :: cellsH b3 [v1, v11, v10] 108 :: slH 2 1 v11 2 [ii (0), ii (3)] :: slH 206 3 v10 2 ([ii (0), v4, v5, ii (0), v8, v9]) :: cellsH b2 [v1] 36 :: slH 2 1 v1 4 [ii (2), ii (1), ii (0), ii (2)] :: cellsH b1 [sN, sN, sN] 108 :: L)
  refine ja [] _ _ rfl (fun F16 le16 hz16 => ?_)
  replace hc3 := hc3.mono le16
  replace hf11 := hf11.mono le16
  replace hf12 := hf12.mono le16
  replace hf15 := hf15.mono le16
  have hf16 : IntsF F16 v19 ([1, 3, -1, -2]) := intsH.fz (xs := [1, 3, -1, -2]) hz16.fz
  skip
  refine cX (jv [ii (3), v18, v19] [ii (0), sN, sN] [(0, 1), (1, 1), (2, 1)] [(0, [ii (3)]), (1, [v18]), (2, [v19])] qR jC rfl (.cons rfl qq (.cons rfl qW (.cons rfl qA PlacesAre.nil))) rfl (.cons rfl (.cons (cells_one (RowsF.isSl hf15)) (.cons (cells_one (qB hf16)) CellsAre.nil))) (cX (qs (s := 1) [ii (-1)] [ii (0)] [(0, [ii (-1)])] qf qq qL rfl (by decide) rfl (.cons rfl CellsAre.nil) rfl ?_)))
  intro v20 hv20
  show XL _ _ _ _ _ _ _ (intsH 2 v20 ([-1] : List Int) :: cellsH b3 [v1, v11, v10] 108 :: slH 2 1 v11 2 [ii (0), ii (3)] :: slH 206 3 v10 2 ([ii (0), v4, v5, ii (0), v8, v9]) :: cellsH b2 [v1] 36 :: slH 2 1 v1 4 [ii (2), ii (1), ii (0), ii (2)] :: cellsH b1 [sN, sN, sN] 108 :: L)
  refine ja [] _ _ rfl (fun F17 le17 hz17 => ?_)
  replace hc3 := hc3.mono le17
  replace hf11 := hf11.mono le17
  replace hf12 := hf12.mono le17
  replace hf15 := hf15.mono le17
  replace hf16 := hf16.mono le17
  have hf17 : IntsF F17 v20 ([-1]) := intsH.fz (xs := [-1]) hz17.fz
  skip
  refine cX (qs (s := 1) [ii (2)] [ii (0)] [(0, [ii (2)])] qf qq qL rfl (by decide) rfl (.cons rfl CellsAre.nil) rfl ?_)
  intro v21 hv21
  show XL _ _ _ _ _ _ _ (intsH 2 v21 ([2] : List Int) :: cellsH b3 [v1, v11, v10] 108 :: slH 2 1 v11 2 [ii (0), ii (3)] :: slH 206 3 v10 2 ([ii (0), v4, v5, ii (0), v8, v9]) :: cellsH b2 [v1] 36 :: slH 2 1 v1 4 [ii (2), ii (1), ii (0), ii (2)] :: cellsH b1 [sN, sN, sN] 108 :: L)
  refine ja [] _ _ rfl (fun F18 le18 hz18 => ?_)
  replace hc3 := hc3.mono le18
  replace hf11 := hf11.mono le18
  replace hf12 := hf12.mono le18
  replace hf15 := hf15.mono le18
  replace hf16 := hf16.mono le18
  replace hf17 := hf17.mono le18
  have hf18 : IntsF F18 v21 ([2]) := intsH.fz (xs := [2]) hz18.fz
  skip
  refine cX (qs (s := 1) [v20, v21] [sN] [(0, [v20]), (1, [v21])] qF qA jI rfl (by decide) rfl (.cons (cells_one (qB hf17)) (.cons (cells_one (qB hf18)) CellsAre.nil)) rfl ?_)
  intro v22 hv22
  have hc6 : RowsC F18 [v20, v21] ([[-1], [2]] : List (List Int)) := (RowsC.snoc (RowsC.snoc (CO.nil : RowsC F18 [] []) hf17) hf18)
  refine ja [] _ _ rfl (fun F19 le19 hz19 => ?_)
  replace hc3 := hc3.mono le19
  replace hf11 := hf11.mono le19
  replace hf12 := hf12.mono le19
  replace hf15 := hf15.mono le19
  replace hf16 := hf16.mono le19
  replace hc6 := hc6.mono le19
  have hf19 : RowsF F19 v22 (([[-1], [2]] : List (List Int))) := CO.fz hc6 (by first | rfl | omega | (rw [List.length_set]; omega) | (simp; done)) hz19.fz
  skip
  refine cX (qs (s := 1) [ii (-1)] [ii (0)] [(0, [ii (-1)])] qf qq qL rfl (by decide) rfl (.cons rfl CellsAre.nil) rfl ?_)
  intro v23 hv23
  show XL _ _ _ _ _ _ _ (intsH 2 v23 ([-1] : List Int) :: cellsH b3 [v1, v11, v10] 108 :: slH 2 1 v11 2 [ii (0), ii (3)] :: slH 206 3 v10 2 ([ii (0), v4, v5, ii (0), v8, v9]) :: cellsH b2 [v1] 36 :: slH 2 1 v1 4 [ii (2), ii (1), ii (0), ii (2)] :: cellsH b1 [sN, sN, sN] 108 :: L)
  refine ja [] _ _ rfl (fun F20 le20 hz20 => ?_)
  replace hc3 := hc3.mono le20
  replace hf11 := hf11.mono le20
  replace hf12 := hf12.mono le20
  replace hf15 := hf15.mono le20
  replace hf16 := hf16.mono le20
  replace hf19 := hf19.mono le20
  have hf20 : IntsF F20 v23 ([-1]) := intsH.fz (xs := [-1]) hz20.fz
  skip
  refine cX (jv [ii (3), v22, v23] [ii (0), sN, sN] [(0, 1), (1, 1), (2, 1)] [(0, [ii (3)]), (1, [v22]), (2, [v23])] qR jC rfl (.cons rfl qq (.cons rfl qW (.cons rfl qA PlacesAre.nil))) rfl (.cons rfl (.cons (cells_one (RowsF.isSl hf19)) (.cons (cells_one (qB hf20)) CellsAre.nil))) (cX (qs (s := 3) [ii (3), v14, v15, ii (3), v18, v19, ii (3), v22, v23] [ii (0), sN, sN] [(0, [ii (3), v14, v15]), (1, [ii (3), v18, v19]), (2, [ii (3), v22, v23])] qS jl jC rfl (by decide) rfl (.cons rfl (.cons rfl (.cons rfl CellsAre.nil))) rfl ?_)))
  intro v24 hv24
  refine cX (jT (m := 3) (bytes := 56) (cs := [ii (0), v4, v5, ii (0), v8, v9]) [_, _, _] _ [ii (3), v14, v15, ii (3), v18, v19, ii (3), v22, v23] qS typeInfo206 rfl rfl rfl rfl rfl rfl rfl (SlV.own [] rfl) rfl (Rd.lit [] rfl) (qx rfl (qx (qI (RowsF.isSl hf11)) (qx (qI (qB hf12)) (qx rfl (qx (qI (RowsF.isSl hf15)) (qx (qI (qB hf16)) (qx rfl (qx (qI (RowsF.isSl hf19)) (qx (qI (qB hf20)) qX))))))))) (by (try simp only [List.length_append, List.length_nil, List.length_cons, List.length_singleton]); omega) (by (try simp only [List.length_append, List.length_nil, List.length_cons, List.length_singleton]); omega) ?_)
  intro v25 hs1 hn1 hm1
  have hc7 : LinesC F20 ([ii (0), v4, v5, ii (0), v8, v9] ++ [ii (3), v14, v15, ii (3), v18, v19, ii (3), v22, v23]) ((([(0, ([[2], [-1]] : List (List Int)), [-1]), (0, ([[1, -1], [-2]] : List (List Int)), [1, 0, -1, -2])] : List LineT)) ++ [(3, ([[2], [-1]] : List (List Int)), [-1]), (3, ([[1, -1], [1, -2]] : List (List Int)), [1, 3, -1, -2]), (3, ([[-1], [2]] : List (List Int)), [-1])]) := (LinesC.snoc (LinesC.snoc (LinesC.snoc hc3 (y0 := 3) (y1 := ([[2], [-1]] : List (List Int))) (y2 := [-1]) hf11 hf12) (y0 := 3) (y1 := ([[1, -1], [1, -2]] : List (List Int))) (y2 := [1, 3, -1, -2]) hf15 hf16) (y0 := 3) (y1 := ([[-1], [2]] : List (List Int))) (y2 := [-1]) hf19 hf20)
  refine cX (qk (2) qy rfl jm (by decide) rfl rfl (cX (jw [_] _ [v1, v11, v25] jm rfl rfl (qI hs1) rfl rfl rfl (qc (qd (qb (cX (qu [v1, v11, v25] jj qT rfl rfl (Rd.ownN [_] rfl rfl) (cX (qV [_, _, _, _, _, _] _ [v1, v11, v25] qT rfl rfl rfl (qx (qI (jo hv1)) (qx (qI (jo hv11)) (qx (qI hs1) qX))) rfl rfl rfl (qc ?_)))))))))))
  show X _ _ _ _ _ _ (slH 206 3 v24 3 [ii (3), v14, v15, ii (3), v18, v19, ii (3), v22, v23] :: cellsH b3 [v1, v11, v25] 108 :: slH 2 1 v11 2 [ii (0), ii (3)] :: slH 206 3 v25 ((2) + 3) (([ii (0), v4, v5, ii (0), v8, v9] ++ [ii (3), v14, v15, ii (3), v18, v19, ii (3), v22, v23])) :: cellsH b2 [v1] 36 :: intsH 2 v1 ([2, 1, 0, 2] : List Int) :: cellsH b1 [v1, v11, v25] 108 :: L)
  refine qY [_, _, _, _, _] _ _ rfl (fun F21 le21 hz21 => ?_)
  replace hc3 := hc3.mono le21
  replace hc7 := hc7.mono le21
  have hf21 : IntsF F21 v1 ([2, 1, 0, 2]) := intsH.fz (xs := [2, 1, 0, 2]) hz21.fz
  show X _ _ _ _ _ _ (slH 206 3 v24 3 [ii (3), v14, v15, ii (3), v18, v19, ii (3), v22, v23] :: cellsH b3 [v1, v11, v25] 108 :: intsH 2 v11 ([0, 3] : List Int) :: slH 206 3 v25 ((2) + 3) (([ii (0), v4, v5, ii (0), v8, v9] ++ [ii (3), v14, v15, ii (3), v18, v19, ii (3), v22, v23])) :: cellsH b2 [v1] 36 :: cellsH b1 [v1, v11, v25] 108 :: L)
  refine qY [_, _] _ _ rfl (fun F22 le22 hz22 => ?_)
  replace hc3 := hc3.mono le22
  replace hc7 := hc7.mono le22
  replace hf21 := hf21.mono le22
  have hf22 : IntsF F22 v11 ([0, 3]) := intsH.fz (xs := [0, 3]) hz22.fz
  refine qY [_, _] _ _ rfl (fun F23 le23 hz23 => ?_)
  replace hc3 := hc3.mono le23
  replace hc7 := hc7.mono le23
  replace hf21 := hf21.mono le23
  replace hf22 := hf22.mono le23
  have hf23 : LinesF F23 v25 (((([(0, ([[2], [-1]] : List (List Int)), [-1]), (0, ([[1, -1], [-2]] : List (List Int)), [1, 0, -1, -2])] : List LineT)) ++ [(3, ([[2], [-1]] : List (List Int)), [-1]), (3, ([[1, -1], [1, -2]] : List (List Int)), [1, 3, -1, -2]), (3, ([[-1], [2]] : List (List Int)), [-1])])) := CO.fz hc7 (by first | rfl | omega | (rw [List.length_set]; omega) | (simp; done)) hz23.fz
  have hL9 : LFl 2 22 [ii (0), v4, v5, ii (0), v8, v9, ii (3), v14, v15, ii (3), v18, v19, ii (3), v22, v23] [(0, [[2], [-1]], [-1]), (0, [[1, -1], [-2]], [1, 0, -1, -2]), (3, [[2], [-1]], [-1]), (3, [[1, -1], [1, -2]], [1, 3, -1, -2]), (3, [[-1], [2]], [-1])] [slH 22 1 v4 2 [v2, v3], intsH 2 v2 [2], intsH 2 v3 [-1], intsH 2 v5 [-1], slH 22 1 v8 2 [v6, v7], intsH 2 v6 [1, -1], intsH 2 v7 [-2], intsH 2 v9 [1, 0, -1, -2], slH 22 1 v14 2 [v12, v13], intsH 2 v12 [2], intsH 2 v13 [-1], intsH 2 v15 [-1], slH 22 1 v18 2 [v16, v17], intsH 2 v16 [1, -1], intsH 2 v17 [1, -2], intsH 2 v19 [1, 3, -1, -2], slH 22 1 v22 2 [v20, v21], intsH 2 v20 [-1], intsH 2 v21 [2], intsH 2 v23 [-1]] := (LFl.cons (LFl.cons (LFl.cons (LFl.cons (LFl.cons LFl.nil)))))
  have hi9 := (Fresh.app (Fresh.app (Fresh.app (Fresh.app (Fresh.app (Fresh.app (Fresh.app (Fresh.app (Fresh.app (Fresh.app (Fresh.app (Fresh.app (Fresh.app (Fresh.app (Fresh.app (Fresh.app (Fresh.app (Fresh.app (Fresh.app (Fresh.app (Fresh.app (Fresh.app (Fresh.one hz1) le1 (Fresh.one hz2) le2) (qa le1 le2) (Fresh.one hz3) le3) (qa (qa le1 le2) le3) (Fresh.one hz4) le4) (qa (qa (qa le1 le2) le3) le4) (Fresh.one hz5) le5) (qa (qa (qa (qa le1 le2) le3) le4) le5) (Fresh.one hz6) le6) (qa (qa (qa (qa (qa le1 le2) le3) le4) le5) le6) (Fresh.one hz7) le7) (qa (qa (qa (qa (qa (qa le1 le2) le3) le4) le5) le6) le7) (Fresh.one hz8) le8) (qa (qa (qa (qa (qa (qa (qa le1 le2) le3) le4) le5) le6) le7) le8) (Fresh.one hz9) le9) (qa (qa (qa (qa (qa (qa (qa (qa le1 le2) le3) le4) le5) le6) le7) le8) le9) (Fresh.one hz10) le10) (qa (qa (qa (qa (qa (qa (qa (qa (qa le1 le2) le3) le4) le5) le6) le7) le8) le9) le10) (Fresh.one hz11) le11) (qa (qa (qa (qa (qa (qa (qa (qa (qa (qa le1 le2) le3) le4) le5) le6) le7) le8) le9) le10) le11) (Fresh.one hz12) le12) (qa (qa (qa (qa (qa (qa (qa (qa (qa (qa (qa le1 le2) le3) le4) le5) le6) le7) le8) le9) le10) le11) le12) (Fresh.one hz13) le13) (qa (qa (qa (qa (qa (qa (qa (qa (qa (qa (qa (qa le1 le2) le3) le4) le5) le6) le7) le8) le9) le10) le11) le12) le13) (Fresh.one hz14) le14) (qa (qa (qa (qa (qa (qa (qa (qa (qa (qa (qa (qa (qa le1 le2) le3) le4) le5) le6) le7) le8) le9) le10) le11) le12) le13) le14) (Fresh.one hz15) le15) (qa (qa (qa (qa (qa (qa (qa (qa (qa (qa (qa (qa (qa (qa le1 le2) le3) le4) le5) le6) le7) le8) le9) le10) le11) le12) le13) le14) le15) (Fresh.one hz16) le16) (qa (qa (qa (qa (qa (qa (qa (qa (qa (qa (qa (qa (qa (qa (qa le1 le2) le3) le4) le5) le6) le7) le8) le9) le10) le11) le12) le13) le14) le15) le16) (Fresh.one hz17) le17) (qa (qa (qa (qa (qa (qa (qa (qa (qa (qa (qa (qa (qa (qa (qa (qa le1 le2) le3) le4) le5) le6) le7) le8) le9) le10) le11) le12) le13) le14) le15) le16) le17) (Fresh.one hz18) le18) (qa (qa (qa (qa (qa (qa (qa (qa (qa (qa (qa (qa (qa (qa (qa (qa (qa le1 le2) le3) le4) le5) le6) le7) le8) le9) le10) le11) le12) le13) le14) le15) le16) le17) le18) (Fresh.one hz19) le19) (qa (qa (qa (qa (qa (qa (qa (qa (qa (qa (qa (qa (qa (qa (qa (qa (qa (qa le1 le2) le3) le4) le5) le6) le7) le8) le9) le10) le11) le12) le13) le14) le15) le16) le17) le18) le19) (Fresh.one hz20) le20) (qa (qa (qa (qa (qa (qa (qa (qa (qa (qa (qa (qa (qa (qa (qa (qa (qa (qa (qa le1 le2) le3) le4) le5) le6) le7) le8) le9) le10) le11) le12) le13) le14) le15) le16) le17) le18) le19) le20) (Fresh.one hz21) le21) (qa (qa (qa (qa (qa (qa (qa (qa (qa (qa (qa (qa (qa (qa (qa (qa (qa (qa (qa (qa le1 le2) le3) le4) le5) le6) le7) le8) le9) le10) le11) le12) le13) le14) le15) le16) le17) le18) le19) le20) le21) (Fresh.one hz22) le22) (qa (qa (qa (qa (qa (qa (qa (qa (qa (qa (qa (qa (qa (qa (qa (qa (qa (qa (qa (qa (qa le1 le2) le3) le4) le5) le6) le7) le8) le9) le10) le11) le12) le13) le14) le15) le16) le17) le18) le19) le20) le21) le22) (Fresh.one hz23) le23)
  simp only [List.cons_append, List.nil_append, Nat.reduceAdd] at hi9
  have hk9 : Fresh F F23 (star (intsH 2 v1 ([2, 1, 0, 2] : List Int) :: intsH 2 v11 ([0, 3] : List Int) :: slH 206 3 v25 5 [ii (0), v4, v5, ii (0), v8, v9, ii (3), v14, v15, ii (3), v18, v19, ii (3), v22, v23] :: [slH 22 1 v4 2 [v2, v3], intsH 2 v2 [2], intsH 2 v3 [-1], intsH 2 v5 [-1], slH 22 1 v8 2 [v6, v7], intsH 2 v6 [1, -1], intsH 2 v7 [-2], intsH 2 v9 [1, 0, -1, -2], slH 22 1 v14 2 [v12, v13], intsH 2 v12 [2], intsH 2 v13 [-1], intsH 2 v15 [-1], slH 22 1 v18 2 [v16, v17], intsH 2 v16 [1, -1], intsH 2 v17 [1, -2], intsH 2 v19 [1, 3, -1, -2], slH 22 1 v22 2 [v20, v21], intsH 2 v20 [-1], intsH 2 v21 [2], intsH 2 v23 [-1]])) := Fresh.idx (D := fun _ => True) (n := 23) [20, 21, 22, 2, 0, 1, 3, 6, 4, 5, 7, 10, 8, 9, 11, 14, 12, 13, 15, 18, 16, 17, 19] hi9 rfl (by decide) rfl
  refine qw (qr (L' := L) [.agg #[v1, v11, v25]] (.agg #[v1, v11, v25]) (.cell rfl (jH [v1, v11, v25] jj qT rfl (Rd.ownN [_, _, _] rfl rfl)) .nil) rfl (qa (qa (qa (qa (qa (qa (qa (qa (qa (qa (qa (qa (qa (qa (qa (qa (qa (qa (qa (qa (qa (qa le1 le2) le3) le4) le5) le6) le7) le8) le9) le10) le11) le12) le13) le14) le15) le16) le17) le18) le19) le20) le21) le22) le23) rF (sD (sD (sD (sD sR)))) ?_)
  exact ⟨_, _, _, [(0, [[2], [-1]], [-1]), (0, [[1, -1], [-2]], [1, 0, -1, -2]), (3, [[2], [-1]], [-1]), (3, [[1, -1], [1, -2]], [1, 3, -1, -2]), (3, [[-1], [2]], [-1])], rfl, hf21, hf22, hf23, by decide, by decide, front_fresh hL9 hk9 rfl, rfl⟩
 refine qd (qb (cX (ju rfl rfl (qh (.bool (decide ((q : Int) = 1))) rfl (qc ?_)))))
 refine qC (p := (q : Int) = 1) rfl (fun h2 => ?_) (fun h2 => ?_)
 ·refine qb (cX (qk (2) qy rfl jm (by decide) rfl rfl (cX (qj jE rfl (Rd.own [] rfl rfl) (cX (qs (s := 1) [ii (1), ii (-1)] [ii (0)] [(0, [ii (1)]), (1, [ii (-1)])] qf qq qL rfl (by decide) rfl (.cons rfl (.cons rfl CellsAre.nil)) rfl ?_))))))
  intro v26 hv25
  show XL _ _ _ _ _ _ _ (intsH 2 v26 ([1, -1] : List Int) :: cellsH b3 [v1, v11, v10] 108 :: slH 2 1 v11 2 [ii (0), ii (3)] :: slH 206 3 v10 2 ([ii (0), v4, v5, ii (0), v8, v9]) :: cellsH b2 [v1] 36 :: slH 2 1 v1 4 [ii (2), ii (1), ii (0), ii (2)] :: cellsH b1 [sN, sN, sN] 108 :: L)
  refine ja [] _ _ rfl (fun F24 le24 hz24 => ?_)
  replace hc3 := hc3.mono le24
  have hf24 : IntsF F24 v26 ([1, -1]) := intsH.fz (xs := [1, -1]) hz24.fz
  skip
  refine cX (qs (s := 1) [ii (1), ii (-2)] [ii (0)] [(0, [ii (1)]), (1, [ii (-2)])] qf qq qL rfl (by decide) rfl (.cons rfl (.cons rfl CellsAre.nil)) rfl ?_)
  intro v27 hv26
  show XL _ _ _ _ _ _ _ (intsH 2 v27 ([1, -2] : List Int) :: cellsH b3 [v1, v11, v10] 108 :: slH 2 1 v11 2 [ii (0), ii (3)] :: slH 206 3 v10 2 ([ii (0), v4, v5, ii (0), v8, v9]) :: cellsH b2 [v1] 36 :: slH 2 1 v1 4 [ii (2), ii (1), ii (0), ii (2)] :: cellsH b1 [sN, sN, sN] 108 :: L)
  refine ja [] _ _ rfl (fun F25 le25 hz25 => ?_)
  replace hc3 := hc3.mono le25
  replace hf24 := hf24.mono le25
  have hf25 : IntsF F25 v27 ([1, -2]) := intsH.fz (xs := [1, -2]) hz25.fz
  skip
  refine cX (qs (s := 1) [v26, v27] [sN] [(0, [v26]), (1, [v27])] qF qA jI rfl (by decide) rfl (.cons (cells_one (qB hf24)) (.cons (cells_one (qB hf25)) CellsAre.nil)) rfl ?_)
  intro v28 hv27
  have hc8 : RowsC F25 [v26, v27] ([[1, -1], [1, -2]] : List (List Int)) := (RowsC.snoc (RowsC.snoc (CO.nil : RowsC F25 [] []) hf24) hf25)
  refine ja [] _ _ rfl (fun F26 le26 hz26 => ?_)
  replace hc3 := hc3.mono le26
  replace hc8 := hc8.mono le26
  have hf26 : RowsF F26 v28 (([[1, -1], [1, -2]] : List (List Int))) := CO.fz hc8 (by first | rfl | omega | (rw [List.length_set]; omega) | (simp; done)) hz26.fz
  skip
  refine cX (qs (s := 1) [ii (3), ii (-1), ii (-2)] [ii (0)] [(0, [ii (3)]), (1, [ii (-1)]), (2, [ii (-2)])] qf qq qL rfl (by decide) rfl (.cons rfl (.cons rfl (.cons rfl CellsAre.nil))) rfl ?_)
  intro v29 hv28
  show XL _ _ _ _ _ _ _ (intsH 2 v29 ([3, -1, -2] : List Int) :: cellsH b3 [v1, v11, v10] 108 :: slH 2 1 v11 2 [ii (0), ii (3)] :: slH 206 3 v10 2 ([ii (0), v4, v5, ii (0), v8, v9]) :: cellsH b2 [v1] 36 :: slH 2 1 v1 4 [ii (2), ii (1), ii (0), ii (2)] :: cellsH b1 [sN, sN, sN] 108 :: L)
  refine ja [] _ _ rfl (fun F27 le27 hz27 => ?_)
  replace hc3 := hc3.mono le27
  replace hf26 := hf26.mono le27
  have hf27 : IntsF F27 v29 ([3, -1, -2]) := intsH.fz (xs := [3, -1, -2]) hz27.fz
  skip
  refine cX (jv [ii (3), v28, v29] [ii (0), sN, sN] [(0, 1), (1, 1), (2, 1)] [(0, [ii (3)]), (1, [v28]), (2, [v29])] qR jC rfl (.cons rfl qq (.cons rfl qW (.cons rfl qA PlacesAre.nil))) rfl (.cons rfl (.cons (cells_one (RowsF.isSl hf26)) (.cons (cells_one (qB hf27)) CellsAre.nil))) (cX (qs (s := 3) [ii (3), v28, v29] [ii (0), sN, sN] [(0, [ii (3), v28, v29])] qS jl jC rfl (by decide) rfl (.cons rfl CellsAre.nil) rfl ?_)))
  intro v30 hv29
  refine cX (jT (m := 1) (bytes := 56) (cs := [ii (0), v4, v5, ii (0), v8, v9]) [_, _, _] _ [ii (3), v28, v29] qS typeInfo206 rfl rfl rfl rfl rfl rfl rfl (SlV.own [] rfl) rfl (Rd.lit [] rfl) (qx rfl (qx (qI (RowsF.isSl hf26)) (qx (qI (qB hf27)) qX))) (by (try simp only [List.length_append, List.length_nil, List.length_cons, List.length_singleton]); omega) (by (try simp only [List.length_append, List.length_nil, List.length_cons, List.length_singleton]); omega) ?_)
  intro v31 hs2 hn2 hm2
  have hc9 := LinesC.snoc hc3 (y0 := 3) (y1 := ([[1, -1], [1, -2]] : List (List Int))) (y2 := [3, -1, -2]) hf26 hf27
  refine cX (qk (2) qy rfl jm (by decide) rfl rfl (cX (jw [_] _ [v1, v11, v31] jm rfl rfl (qI hs2) rfl rfl rfl (qc (qd (qb (cX (qu [v1, v11, v31] jj qT rfl rfl (Rd.ownN [_] rfl rfl) (cX (qV [_, _, _, _, _, _] _ [v1, v11, v31] qT rfl rfl rfl (qx (qI (jo hv1)) (qx (qI (jo hv11)) (qx (qI hs2) qX))) rfl rfl rfl (qc ?_)))))))))))
  show X _ _ _ _ _ _ (slH 206 3 v30 1 [ii (3), v28, v29] :: cellsH b3 [v1, v11, v31] 108 :: slH 2 1 v11 2 [ii (0), ii (3)] :: slH 206 3 v31 ((2) + 1) (([ii (0), v4, v5, ii (0), v8, v9]) ++ [ii (3), v28, v29]) :: cellsH b2 [v1] 36 :: intsH 2 v1 ([2, 1, 0, 2] : List Int) :: cellsH b1 [v1, v11, v31] 108 :: L)
  refine qY [_, _, _, _, _] _ _ rfl (fun F28 le28 hz28 => ?_)
  replace hc3 := hc3.mono le28
  replace hc9 := hc9.mono le28
  have hf28 : IntsF F28 v1 ([2, 1, 0, 2]) := intsH.fz (xs := [2, 1, 0, 2]) hz28.fz
  show X _ _ _ _ _ _ (slH 206 3 v30 1 [ii (3), v28, v29] :: cellsH b3 [v1, v11, v31] 108 :: intsH 2 v11 ([0, 3] : List Int) :: slH 206 3 v31 ((2) + 1) (([ii (0), v4, v5, ii (0), v8, v9]) ++ [ii (3), v28, v29]) :: cellsH b2 [v1] 36 :: cellsH b1 [v1, v11, v31] 108 :: L)
  refine qY [_, _] _ _ rfl (fun F29 le29 hz29 => ?_)
  replace hc3 := hc3.mono le29
  replace hc9 := hc9.mono le29
  replace hf28 := hf28.mono le29
  have hf29 : IntsF F29 v11 ([0, 3]) := intsH.fz (xs := [0, 3]) hz29.fz
  refine qY [_, _] _ _ rfl (fun F30 le30 hz30 => ?_)
  replace hc3 := hc3.mono le30
  replace hc9 := hc9.mono le30
  replace hf28 := hf28.mono le30
  replace hf29 := hf29.mono le30
  have hf30 : LinesF F30 v31 ((([(0, ([[2], [-1]] : List (List Int)), [-1]), (0, ([[1, -1], [-2]] : List (List Int)), [1, 0, -1, -2])] : List LineT)) ++ [(3, ([[1, -1], [1, -2]] : List (List Int)), [3, -1, -2])]) := CO.fz hc9 (by first | rfl | omega | (rw [List.length_set]; omega) | (simp; done)) hz30.fz
  have hL9 : LFl 2 22 [ii (0), v4, v5, ii (0), v8, v9, ii (3), v28, v29] [(0, [[2], [-1]], [-1]), (0, [[1, -1], [-2]], [1, 0, -1, -2]), (3, [[1, -1], [1, -2]], [3, -1, -2])] [slH 22 1 v4 2 [v2, v3], intsH 2 v2 [2], intsH 2 v3 [-1], intsH 2 v5 [-1], slH 22 1 v8 2 [v6, v7], intsH 2 v6 [1, -1], intsH 2 v7 [-2], intsH 2 v9 [1, 0, -1, -2], slH 22 1 v28 2 [v26, v27], intsH 2 v26 [1, -1], intsH 2 v27 [1, -2], intsH 2 v29 [3, -1, -2]] := (LFl.cons (LFl.cons (LFl.cons LFl.nil)))
  have hi9 := (Fresh.app (Fresh.app (Fresh.app (Fresh.app (Fresh.app (Fresh.app (Fresh.app (Fresh.app (Fresh.app (Fresh.app (Fresh.app (Fresh.app (Fresh.app (Fresh.app (Fresh.one hz1) le1 (Fresh.one hz2) le2) (qa le1 le2) (Fresh.one hz3) le3) (qa (qa le1 le2) le3) (Fresh.one hz4) le4) (qa (qa (qa le1 le2) le3) le4) (Fresh.one hz5) le5) (qa (qa (qa (qa le1 le2) le3) le4) le5) (Fresh.one hz6) le6) (qa (qa (qa (qa (qa le1 le2) le3) le4) le5) le6) (Fresh.one hz7) le7) (qa (qa (qa (qa (qa (qa le1 le2) le3) le4) le5) le6) le7) (Fresh.one hz8) le8) (qa (qa (qa (qa (qa (qa (qa le1 le2) le3) le4) le5) le6) le7) le8) (Fresh.one hz24) le24) (qa (qa (qa (qa (qa (qa (qa (qa le1 le2) le3) le4) le5) le6) le7) le8) le24) (Fresh.one hz25) le25) (qa (qa (qa (qa (qa (qa (qa (qa (qa le1 le2) le3) le4) le5) le6) le7) le8) le24) le25) (Fresh.one hz26) le26) (qa (qa (qa (qa (qa (qa (qa (qa (qa (qa le1 le2) le3) le4) le5) le6) le7) le8) le24) le25) le26) (Fresh.one hz27) le27) (qa (qa (qa (qa (qa (qa (qa (qa (qa (qa (qa le1 le2) le3) le4) le5) le6) le7) le8) le24) le25) le26) le27) (Fresh.one hz28) le28) (qa (qa (qa (qa (qa (qa (qa (qa (qa (qa (qa (qa le1 le2) le3) le4) le5) le6) le7) le8) le24) le25) le26) le27) le28) (Fresh.one hz29) le29) (qa (qa (qa (qa (qa (qa (qa (qa (qa (qa (qa (qa (qa le1 le2) le3) le4) le5) le6) le7) le8) le24) le25) le26) le27) le28) le29) (Fresh.one hz30) le30)
  simp only [List.cons_append, List.nil_append, Nat.reduceAdd] at hi9
  have hk9 : Fresh F F30 (star (intsH 2 v1 ([2, 1, 0, 2] : List Int) :: intsH 2 v11 ([0, 3] : List Int) :: slH 206 3 v31 3 [ii (0), v4, v5, ii (0), v8, v9, ii (3), v28, v29] :: [slH 22 1 v4 2 [v2, v3], intsH 2 v2 [2], intsH 2 v3 [-1], intsH 2 v5 [-1], slH 22 1 v8 2 [v6, v7], intsH 2 v6 [1, -1], intsH 2 v7 [-2], intsH 2 v9 [1, 0, -1, -2], slH 22 1 v28 2 [v26, v27], intsH 2 v26 [1, -1], intsH 2 v27 [1, -2], intsH 2 v29 [3, -1, -2]])) := Fresh.idx (D := fun _ => True) (n := 15) [12, 13, 14, 2, 0, 1, 3, 6, 4, 5, 7, 10, 8, 9, 11] hi9 rfl (by decide) rfl
  refine qw (qr (L' := L) [.agg #[v1, v11, v31]] (.agg #[v1, v11, v31]) (.cell rfl (jH [v1, v11, v31] jj qT rfl (Rd.ownN [_, _, _] rfl rfl)) .nil) rfl (qa (qa (qa (qa (qa (qa (qa (qa (qa (qa (qa (qa (qa (qa le1 le2) le3) le4) le5) le6) le7) le8) le24) le25) le26) le27) le28) le29) le30) rF (sD (sD (sD (sD sR)))) ?_)
  exact ⟨_, _, _, [(0, [[2], [-1]], [-1]), (0, [[1, -1], [-2]], [1, 0, -1, -2]), (3, [[1, -1], [1, -2]], [3, -1, -2])], rfl, hf28, hf29, hf30, by decide, by decide, front_fresh hL9 hk9 rfl, rfl⟩
 refine qd (qb (cX (ju rfl rfl (qh (.bool (decide ((q : Int) = 2))) rfl (qc ?_)))))
 refine qC (p := (q : Int) = 2) rfl (fun h3 => ?_) (fun h3 => ?_)
 ·refine qb (cX (qk (2) qy rfl jm (by decide) rfl rfl (cX (qj jE rfl (Rd.own [] rfl rfl) (cX (qs (s := 1) [ii (-1)] [ii (0)] [(0, [ii (-1)])] qf qq qL rfl (by decide) rfl (.cons rfl CellsAre.nil) rfl ?_))))))
  intro v32 hv30
  show XL _ _ _ _ _ _ _ (intsH 2 v32 ([-1] : List Int) :: cellsH b3 [v1, v11, v10] 108 :: slH 2 1 v11 2 [ii (0), ii (3)] :: slH 206 3 v10 2 ([ii (0), v4, v5, ii (0), v8, v9]) :: cellsH b2 [v1] 36 :: slH 2 1 v1 4 [ii (2), ii (1), ii (0), ii (2)] :: cellsH b1 [sN, sN, sN] 108 :: L)
  refine ja [] _ _ rfl (fun F31 le31 hz31 => ?_)
  replace hc3 := hc3.mono le31
  have hf31 : IntsF F31 v32 ([-1]) := intsH.fz (xs := [-1]) hz31.fz
  skip
  refine cX (qs (s := 1) [ii (-2)] [ii (0)] [(0, [ii (-2)])] qf qq qL rfl (by decide) rfl (.cons rfl CellsAre.nil) rfl ?_)
  intro v33 hv31
  show XL _ _ _ _ _ _ _ (intsH 2 v33 ([-2] : List Int) :: cellsH b3 [v1, v11, v10] 108 :: slH 2 1 v11 2 [ii (0), ii (3)] :: slH 206 3 v10 2 ([ii (0), v4, v5, ii (0), v8, v9]) :: cellsH b2 [v1] 36 :: slH 2 1 v1 4 [ii (2), ii (1), ii (0), ii (2)] :: cellsH b1 [sN, sN, sN] 108 :: L)
  refine ja [] _ _ rfl (fun F32 le32 hz32 => ?_)
  replace hc3 := hc3.mono le32
  replace hf31 := hf31.mono le32
  have hf32 : IntsF F32 v33 ([-2]) := intsH.fz (xs := [-2]) hz32.fz
  skip
  refine cX (qs (s := 1) [v32, v33] [sN] [(0, [v32]), (1, [v33])] qF qA jI rfl (by decide) rfl (.cons (cells_one (qB hf31)) (.cons (cells_one (qB hf32)) CellsAre.nil)) rfl ?_)
  intro v34 hv32
  have hc10 : RowsC F32 [v32, v33] ([[-1], [-2]] : List (List Int)) := (RowsC.snoc (RowsC.snoc (CO.nil : RowsC F32 [] []) hf31) hf32)
  refine ja [] _ _ rfl (fun F33 le33 hz33 => ?_)
  replace hc3 := hc3.mono le33
  replace hc10 := hc10.mono le33
  have hf33 : RowsF F33 v34 (([[-1], [-2]] : List (List Int))) := CO.fz hc10 (by first | rfl | omega | (rw [List.length_set]; omega) | (simp; done)) hz33.fz
  skip
  refine cX (qs (s := 1) [ii (-2)] [ii (0)] [(0, [ii (-2)])] qf qq qL rfl (by decide) rfl (.cons rfl CellsAre.nil) rfl ?_)
  intro v35 hv33
  show XL _ _ _ _ _ _ _ (intsH 2 v35 ([-2] : List Int) :: cellsH b3 [v1, v11, v10] 108 :: slH 2 1 v11 2 [ii (0), ii (3)] :: slH 206 3 v10 2 ([ii (0), v4, v5, ii (0), v8, v9]) :: cellsH b2 [v1] 36 :: slH 2 1 v1 4 [ii (2), ii (1), ii (0), ii (2)] :: cellsH b1 [sN, sN, sN] 108 :: L)
  refine ja [] _ _ rfl (fun F34 le34 hz34 => ?_)
  replace hc3 := hc3.mono le34
  replace hf33 := hf33.mono le34
  have hf34 : IntsF F34 v35 ([-2]) := intsH.fz (xs := [-2]) hz34.fz
  skip
  refine cX (jv [ii (3), v34, v35] [ii (0), sN, sN] [(0, 1), (1, 1), (2, 1)] [(0, [ii (3)]), (1, [v34]), (2, [v35])] qR jC rfl (.cons rfl qq (.cons rfl qW (.cons rfl qA PlacesAre.nil))) rfl (.cons rfl (.cons (cells_one (RowsF.isSl hf33)) (.cons (cells_one (qB hf34)) CellsAre.nil))) (cX (qs (s := 1) [ii (2)] [ii (0)] [(0, [ii (2)])] qf qq qL rfl (by decide) rfl (.cons rfl CellsAre.nil) rfl ?_)))
  intro v36 hv34
  show XL _ _ _ _ _ _ _ (intsH 2 v36 ([2] : List Int) :: cellsH b3 [v1, v11, v10] 108 :: slH 2 1 v11 2 [ii (0), ii (3)] :: slH 206 3 v10 2 ([ii (0), v4, v5, ii (0), v8, v9]) :: cellsH b2 [v1] 36 :: slH 2 1 v1 4 [ii (2), ii (1), ii (0), ii (2)] :: cellsH b1 [sN, sN, sN] 108 :: L)
  refine ja [] _ _ rfl (fun F35 le35 hz35 => ?_)
  replace hc3 := hc3.mono le35
  replace hf33 := hf33.mono le35
  replace hf34 := hf34.mono le35
  have hf35 : IntsF F35 v36 ([2]) := intsH.fz (xs := [2]) hz35.fz
  skip
  refine cX (qs (s := 1) [ii (-1)] [ii (0)] [(0, [ii (-1)])] qf qq qL rfl (by decide) rfl (.cons rfl CellsAre.nil) rfl ?_)
  intro v37 hv35
  show XL _ _ _ _ _ _ _ (intsH 2 v37 ([-1] : List Int) :: cellsH b3 [v1, v11, v10] 108 :: slH 2 1 v11 2 [ii (0), ii (3)] :: slH 206 3 v10 2 ([ii (0), v4, v5, ii (0), v8, v9]) :: cellsH b2 [v1] 36 :: slH 2 1 v1 4 [ii (2), ii (1), ii (0), ii (2)] :: cellsH b1 [sN, sN, sN] 108 :: L)
  refine ja [] _ _ rfl (fun F36 le36 hz36 => ?_)
  replace hc3 := hc3.mono le36
  replace hf33 := hf33.mono le36
  replace hf34 := hf34.mono le36
  replace hf35 := hf35.mono le36
  have hf36 : IntsF F36 v37 ([-1]) := intsH.fz (xs := [-1]) hz36.fz
  skip
  refine cX (qs (s := 1) [v36, v37] [sN] [(0, [v36]), (1, [v37])] qF qA jI rfl (by decide) rfl (.cons (cells_one (qB hf35)) (.cons (cells_one (qB hf36)) CellsAre.nil)) rfl ?_)
  intro v38 hv36
  have hc11 : RowsC F36 [v36, v37] ([[2], [-1]] : List (List Int)) := (RowsC.snoc (RowsC.snoc (CO.nil : RowsC F36 [] []) hf35) hf36)
  refine ja [] _ _ rfl (fun F37 le37 hz37 => ?_)
  replace hc3 := hc3.mono le37
  replace hf33 := hf33.mono le37
  replace hf34 := hf34.mono le37
  replace hc11 := hc11.mono le37
  have hf37 : RowsF F37 v38 (([[2], [-1]] : List (List Int))) := CO.fz hc11 (by first | rfl | omega | (rw [List.length_set]; omega) | (simp; done)) hz37.fz
  skip
  refine cX (qs (s := 1) [ii (2)] [ii (0)] [(0, [ii (2)])] qf qq qL rfl (by decide) rfl (.cons rfl CellsAre.nil) rfl ?_)
  intro v39 hv37
  show XL _ _ _ _ _ _ _ (intsH 2 v39 ([2] : List Int) :: cellsH b3 [v1, v11, v10] 108 :: slH 2 1 v11 2 [ii (0), ii (3)] :: slH 206 3 v10 2 ([ii (0), v4, v5, ii (0), v8, v9]) :: cellsH b2 [v1] 36 :: slH 2 1 v1 4 [ii (2), ii (1), ii (0), ii (2)] :: cellsH b1 [sN, sN, sN] 108 :: L)
  refine ja [] _ _ rfl (fun F38 le38 hz38 => ?_)
  replace hc3 := hc3.mono le38
  replace hf33 := hf33.mono le38
  replace hf34 := hf34.mono le38
  replace hf37 := hf37.mono le38
  have hf38 : IntsF F38 v39 ([2]) := intsH.fz (xs := [2]) hz38.fz
  skip
  refine cX (jv [ii (3), v38, v39] [ii (0), sN, sN] [(0, 1), (1, 1), (2, 1)] [(0, [ii (3)]), (1, [v38]), (2, [v39])] qR jC rfl (.cons rfl qq (.cons rfl qW (.cons rfl qA PlacesAre.nil))) rfl (.cons rfl (.cons (cells_one (RowsF.isSl hf37)) (.cons (cells_one (qB hf38)) CellsAre.nil))) (cX (qs (s := 3) [ii (3), v34, v35, ii (3), v38, v39] [ii (0), sN, sN] [(0, [ii (3), v34, v35]), (1, [ii (3), v38, v39])] qS jl jC rfl (by decide) rfl (.cons rfl (.cons rfl CellsAre.nil)) rfl ?_)))
  intro v40 hv38
  refine cX (jT (m := 2) (bytes := 56) (cs := [ii (0), v4, v5, ii (0), v8, v9]) [_, _, _] _ [ii (3), v34, v35, ii (3), v38, v39] qS typeInfo206 rfl rfl rfl rfl rfl rfl rfl (SlV.own [] rfl) rfl (Rd.lit [] rfl) (qx rfl (qx (qI (RowsF.isSl hf33)) (qx (qI (qB hf34)) (qx rfl (qx (qI (RowsF.isSl hf37)) (qx (qI (qB hf38)) qX)))))) (by (try simp only [List.length_append, List.length_nil, List.length_cons, List.length_singleton]); omega) (by (try simp only [List.length_append, List.length_nil, List.length_cons, List.length_singleton]); omega) ?_)
  intro v41 hs3 hn3 hm3
  have hc12 : LinesC F38 ([ii (0), v4, v5, ii (0), v8, v9] ++ [ii (3), v34, v35, ii (3), v38, v39]) ((([(0, ([[2], [-1]] : List (List Int)), [-1]), (0, ([[1, -1], [-2]] : List (List Int)), [1, 0, -1, -2])] : List LineT)) ++ [(3, ([[-1], [-2]] : List (List Int)), [-2]), (3, ([[2], [-1]] : List (List Int)), [2])]) := (LinesC.snoc (LinesC.snoc hc3 (y0 := 3) (y1 := ([[-1], [-2]] : List (List Int))) (y2 := [-2]) hf33 hf34) (y0 := 3) (y1 := ([[2], [-1]] : List (List Int))) (y2 := [2]) hf37 hf38)
  refine cX (qk (2) qy rfl jm (by decide) rfl rfl (cX (jw [_] _ [v1, v11, v41] jm rfl rfl (qI hs3) rfl rfl rfl (qc (qd (qb (cX (qu [v1, v11, v41] jj qT rfl rfl (Rd.ownN [_] rfl rfl) (cX (qV [_, _, _, _, _, _] _ [v1, v11, v41] qT rfl rfl rfl (qx (qI (jo hv1)) (qx (qI (jo hv11)) (qx (qI hs3) qX))) rfl rfl rfl (qc ?_)))))))))))
  show X _ _ _ _ _ _ (slH 206 3 v40 2 [ii (3), v34, v35, ii (3), v38, v39] :: cellsH b3 [v1, v11, v41] 108 :: slH 2 1 v11 2 [ii (0), ii (3)] :: slH 206 3 v41 ((2) + 2) (([ii (0), v4, v5, ii (0), v8, v9] ++ [ii (3), v34, v35, ii (3), v38, v39])) :: cellsH b2 [v1] 36 :: intsH 2 v1 ([2, 1, 0, 2] : List Int) :: cellsH b1 [v1, v11, v41] 108 :: L)
  refine qY [_, _, _, _, _] _ _ rfl (fun F39 le39 hz39 => ?_)
  replace hc3 := hc3.mono le39
  replace hc12 := hc12.mono le39
  have hf39 : IntsF F39 v1 ([2, 1, 0, 2]) := intsH.fz (xs := [2, 1, 0, 2]) hz39.fz
  show X _ _ _ _ _ _ (slH 206 3 v40 2 [ii (3), v34, v35, ii (3), v38, v39] :: cellsH b3 [v1, v11, v41] 108 :: intsH 2 v11 ([0, 3] : List Int) :: slH 206 3 v41 ((2) + 2) (([ii (0), v4, v5, ii (0), v8, v9] ++ [ii (3), v34, v35, ii (3), v38, v39])) :: cellsH b2 [v1] 36 :: cellsH b1 [v1, v11, v41] 108 :: L)
  refine qY [_, _] _ _ rfl (fun F40 le40 hz40 => ?_)
  replace hc3 := hc3.mono le40
  replace hc12 := hc12.mono le40
  replace hf39 := hf39.mono le40
  have hf40 : IntsF F40 v11 ([0, 3]) := intsH.fz (xs := [0, 3]) hz40.fz
  refine qY [_, _] _ _ rfl (fun F41 le41 hz41 => ?_)
  replace hc3 := hc3.mono le41
  replace hc12 := hc12.mono le41
  replace hf39 := hf39.mono le41
  replace hf40 := hf40.mono le41
  have hf41 : LinesF F41 v41 (((([(0, ([[2], [-1]] : List (List Int)), [-1]), (0, ([[1, -1], [-2]] : List (List Int)), [1, 0, -1, -2])] : List LineT)) ++ [(3, ([[-1], [-2]] : List (List Int)), [-2]), (3, ([[2], [-1]] : List (List Int)), [2])])) := CO.fz hc12 (by first | rfl | omega | (rw [List.length_set]; omega) | (simp; done)) hz41.fz
  have hL9 : LFl 2 22 [ii (0), v4, v5, ii (0), v8, v9, ii (3), v34, v35, ii (3), v38, v39] [(0, [[2], [-1]], [-1]), (0, [[1, -1], [-2]], [1, 0, -1, -2]), (3, [[-1], [-2]], [-2]), (3, [[2], [-1]], [2])] [slH 22 1 v4 2 [v2, v3], intsH 2 v2 [2], intsH 2 v3 [-1], intsH 2 v5 [-1], slH 22 1 v8 2 [v6, v7], intsH 2 v6 [1, -1], intsH 2 v7 [-2], intsH 2 v9 [1, 0, -1, -2], slH 22 1 v34 2 [v32, v33], intsH 2 v32 [-1], intsH 2 v33 [-2], intsH 2 v35 [-2], slH 22 1 v38 2 [v36, v37], intsH 2 v36 [2], intsH 2 v37 [-1], intsH 2 v39 [2]] := (LFl.cons (LFl.cons (LFl.cons (LFl.cons LFl.nil))))
  have hi9 := (Fresh.app (Fresh.app (Fresh.app (Fresh.app (Fresh.app (Fresh.app (Fresh.app (Fresh.app (Fresh.app (Fresh.app (Fresh.app (Fresh.app (Fresh.app (Fresh.app (Fresh.app (Fresh.app (Fresh.app (Fresh.app (Fresh.one hz1) le1 (Fresh.one hz2) le2) (qa le1 le2) (Fresh.one hz3) le3) (qa (qa le1 le2) le3) (Fresh.one hz4) le4) (qa (qa (qa le1 le2) le3) le4) (Fresh.one hz5) le5) (qa (qa (qa (qa le1 le2) le3) le4) le5) (Fresh.one hz6) le6) (qa (qa (qa (qa (qa le1 le2) le3) le4) le5) le6) (Fresh.one hz7) le7) (qa (qa (qa (qa (qa (qa le1 le2) le3) le4) le5) le6) le7) (Fresh.one hz8) le8) (qa (qa (qa (qa (qa (qa (qa le1 le2) le3) le4) le5) le6) le7) le8) (Fresh.one hz31) le31) (qa (qa (qa (qa (qa (qa (qa (qa le1 le2) le3) le4) le5) le6) le7) le8) le31) (Fresh.one hz32) le32) (qa (qa (qa (qa (qa (qa (qa (qa (qa le1 le2) le3) le4) le5) le6) le7) le8) le31) le32) (Fresh.one hz33) le33) (qa (qa (qa (qa (qa (qa (qa (qa (qa (qa le1 le2) le3) le4) le5) le6) le7) le8) le31) le32) le33) (Fresh.one hz34) le34) (qa (qa (qa (qa (qa (qa (qa (qa (qa (qa (qa le1 le2) le3) le4) le5) le6) le7) le8) le31) le32) le33) le34) (Fresh.one hz35) le35) (qa (qa (qa (qa (qa (qa (qa (qa (qa (qa (qa (qa le1 le2) le3) le4) le5) le6) le7) le8) le31) le32) le33) le34) le35) (Fresh.one hz36) le36) (qa (qa (qa (qa (qa (qa (qa (qa (qa (qa (qa (qa (qa le1 le2) le3) le4) le5) le6) le7) le8) le31) le32) le33) le34) le35) le36) (Fresh.one hz37) le37) (qa (qa (qa (qa (qa (qa (qa (qa (qa (qa (qa (qa (qa (qa le1 le2) le3) le4) le5) le6) le7) le8) le31) le32) le33) le34) le35) le36) le37) (Fresh.one hz38) le38) (qa (qa (qa (qa (qa (qa (qa (qa (qa (qa (qa (qa (qa (qa (qa le1 le2) le3) le4) le5) le6) le7) le8) le31) le32) le33) le34) le35) le36) le37) le38) (Fresh.one hz39) le39) (qa (qa (qa (qa (qa (qa (qa (qa (qa (qa (qa (qa (qa (qa (qa (qa le1 le2) le3) le4) le5) le6) le7) le8) le31) le32) le33) le34) le35) le36) le37) le38) le39) (Fresh.one hz40) le40) (qa (qa (qa (qa (qa (qa (qa (qa (qa (qa (qa (qa (qa (qa (qa (qa (qa le1 le2) le3) le4) le5) le6) le7) le8) le31) le32) le33) le34) le35) le36) le37) le38) le39) le40) (Fresh.one hz41) le41)
  simp only [List.cons_append, List.nil_append, Nat.reduceAdd] at hi9
  have hk9 : Fresh F F41 (star (intsH 2 v1 ([2, 1, 0, 2] : List Int) :: intsH 2 v11 ([0, 3] : List Int) :: slH 206 3 v41 4 [ii (0), v4, v5, ii (0), v8, v9, ii (3), v34, v35, ii (3), v38, v39] :: [slH 22 1 v4 2 [v2, v3], intsH 2 v2 [2], intsH 2 v3 [-1], intsH 2 v5 [-1], slH 22 1 v8 2 [v6, v7], intsH 2 v6 [1, -1], intsH 2 v7 [-2], intsH 2 v9 [1, 0, -1, -2], slH 22 1 v34 2 [v32, v33], intsH 2 v32 [-1], intsH 2 v33 [-2], intsH 2 v35 [-2], slH 22 1 v38 2 [v36, v37], intsH 2 v36 [2], intsH 2 v37 [-1], intsH 2 v39 [2]])) := Fresh.idx (D := fun _ => True) (n := 19) [16, 17, 18, 2, 0, 1, 3, 6, 4, 5, 7, 10, 8, 9, 11, 14, 12, 13, 15] hi9 rfl (by decide) rfl
  refine qw (qr (L' := L) [.agg #[v1, v11, v41]] (.agg #[v1, v11, v41]) (.cell rfl (jH [v1, v11, v41] jj qT rfl (Rd.ownN [_, _, _] rfl rfl)) .nil) rfl (qa (qa (qa (qa (qa (qa (qa (qa (qa (qa (qa (qa (qa (qa (qa (qa (qa (qa le1 le2) le3) le4) le5) le6) le7) le8) le31) le32) le33) le34) le35) le36) le37) le38) le39) le40) le41) rF (sD (sD (sD (sD sR)))) ?_)
  exact ⟨_, _, _, [(0, [[2], [-1]], [-1]), (0, [[1, -1], [-2]], [1, 0, -1, -2]), (3, [[-1], [-2]], [-2]), (3, [[2], [-1]], [2])], rfl, hf39, hf40, hf41, by decide, by decide, front_fresh hL9 hk9 rfl, rfl⟩
 refine qd (qb (cX (ju rfl rfl (qh (.bool (decide ((q : Int) = 3))) rfl (qc ?_)))))
 refine qC (p := (q : Int) = 3) rfl (fun h4 => ?_) (fun h4 => ?_)
 ·refine qb (cX (qk (2) qy rfl jm (by decide) rfl rfl (cX (qj jE rfl (Rd.own [] rfl rfl) (cX (qs (s := 1) [ii (2)] [ii (0)] [(0, [ii (2)])] qf qq qL rfl (by decide) rfl (.cons rfl CellsAre.nil) rfl ?_))))))
  intro v42 hv39
  show XL _ _ _ _ _ _ _ (intsH 2 v42 ([2] : List Int) :: cellsH b3 [v1, v11, v10] 108 :: slH 2 1 v11 2 [ii (0), ii (3)] :: slH 206 3 v10 2 ([ii (0), v4, v5, ii (0), v8, v9]) :: cellsH b2 [v1] 36 :: slH 2 1 v1 4 [ii (2), ii (1), ii (0), ii (2)] :: cellsH b1 [sN, sN, sN] 108 :: L)
  refine ja [] _ _ rfl (fun F42 le42 hz42 => ?_)
  replace hc3 := hc3.mono le42
  have hf42 : IntsF F42 v42 ([2]) := intsH.fz (xs := [2]) hz42.fz
  skip
  refine cX (qs (s := 1) [ii (-1)] [ii (0)] [(0, [ii (-1)])] qf qq qL rfl (by decide) rfl (.cons rfl CellsAre.nil) rfl ?_)
  intro v43 hv40
  show XL _ _ _ _ _ _ _ (intsH 2 v43 ([-1] : List Int) :: cellsH b3 [v1, v11, v10] 108 :: slH 2 1 v11 2 [ii (0), ii (3)] :: slH 206 3 v10 2 ([ii (0), v4, v5, ii (0), v8, v9]) :: cellsH b2 [v1] 36 :: slH 2 1 v1 4 [ii (2), ii (1), ii (0), ii (2)] :: cellsH b1 [sN, sN, sN] 108 :: L)
  refine ja [] _ _ rfl (fun F43 le43 hz43 => ?_)
  replace hc3 := hc3.mono le43
  replace hf42 := hf42.mono le43
  have hf43 : IntsF F43 v43 ([-1]) := intsH.fz (xs := [-1]) hz43.fz
  skip
  refine cX (qs (s := 1) [v42, v43] [sN] [(0, [v42]), (1, [v43])] qF qA jI rfl (by decide) rfl (.cons (cells_one (qB hf42)) (.cons (cells_one (qB hf43)) CellsAre.nil)) rfl ?_)
  intro v44 hv41
  have hc13 : RowsC F43 [v42, v43] ([[2], [-1]] : List (List Int)) := (RowsC.snoc (RowsC.snoc (CO.nil : RowsC F43 [] []) hf42) hf43)
  refine ja [] _ _ rfl (fun F44 le44 hz44 => ?_)
  replace hc3 := hc3.mono le44
  replace hc13 := hc13.mono le44
  have hf44 : RowsF F44 v44 (([[2], [-1]] : List (List Int))) := CO.fz hc13 (by first | rfl | omega | (rw [List.length_set]; omega) | (simp; done)) hz44.fz
  skip
  refine cX (qs (s := 1) [ii (2)] [ii (0)] [(0, [ii (2)])] qf qq qL rfl (by decide) rfl (.cons rfl CellsAre.nil) rfl ?_)
  intro v45 hv42
  show XL _ _ _ _ _ _ _ (intsH 2 v45 ([2] : List Int) :: cellsH b3 [v1, v11, v10] 108 :: slH 2 1 v11 2 [ii (0), ii (3)] :: slH 206 3 v10 2 ([ii (0), v4, v5, ii (0), v8, v9]) :: cellsH b2 [v1] 36 :: slH 2 1 v1 4 [ii (2), ii (1), ii (0), ii (2)] :: cellsH b1 [sN, sN, sN] 108 :: L)
  refine ja [] _ _ rfl (fun F45 le45 hz45 => ?_)
  replace hc3 := hc3.mono le45
  replace hf44 := hf44.mono le45
  have hf45 : IntsF F45 v45 ([2]) := intsH.fz (xs := [2]) hz45.fz
  skip
  refine cX (jv [ii (3), v44, v45] [ii (0), sN, sN] [(0, 1), (1, 1), (2, 1)] [(0, [ii (3)]), (1, [v44]), (2, [v45])] qR jC rfl (.cons rfl qq (.cons rfl qW (.cons rfl qA PlacesAre.nil))) rfl (.cons rfl (.cons (cells_one (RowsF.isSl hf44)) (.cons (cells_one (qB hf45)) CellsAre.nil))) (cX (qs (s := 1) [ii (1), ii (-1)] [ii (0)] [(0, [ii (1)]), (1, [ii (-1)])] qf qq qL rfl (by decide) rfl (.cons rfl (.cons rfl CellsAre.nil)) rfl ?_)))
  intro v46 hv43
  show XL _ _ _ _ _ _ _ (intsH 2 v46 ([1, -1] : List Int) :: cellsH b3 [v1, v11, v10] 108 :: slH 2 1 v11 2 [ii (0), ii (3)] :: slH 206 3 v10 2 ([ii (0), v4, v5, ii (0), v8, v9]) :: cellsH b2 [v1] 36 :: slH 2 1 v1 4 [ii (2), ii (1), ii (0), ii (2)] :: cellsH b1 [sN, sN, sN] 108 :: L)
  refine ja [] _ _ rfl (fun F46 le46 hz46 => ?_)
  replace hc3 := hc3.mono le46
  replace hf44 := hf44.mono le46
  replace hf45 := hf45.mono le46
  have hf46 : IntsF F46 v46 ([1, -1]) := intsH.fz (xs := [1, -1]) hz46.fz
  skip
  refine cX (qs (s := 1) [ii (-2)] [ii (0)] [(0, [ii (-2)])] qf qq qL rfl (by decide) rfl (.cons rfl CellsAre.nil) rfl ?_)
  intro v47 hv44
  show XL _ _ _ _ _ _ _ (intsH 2 v47 ([-2] : List Int) :: cellsH b3 [v1, v11, v10] 108 :: slH 2 1 v11 2 [ii (0), ii (3)] :: slH 206 3 v10 2 ([ii (0), v4, v5, ii (0), v8, v9]) :: cellsH b2 [v1] 36 :: slH 2 1 v1 4 [ii (2), ii (1), ii (0), ii (2)] :: cellsH b1 [sN, sN, sN] 108 :: L)
  refine ja [] _ _ rfl (fun F47 le47 hz47 => ?_)
  replace hc3 := hc3.mono le47
  replace hf44 := hf44.mono le47
  replace hf45 := hf45.mono le47
  replace hf46 := hf46.mono le47
  have hf47 : IntsF F47 v47 ([-2]) := intsH.fz (xs := [-2]) hz47.fz
  skip
  refine cX (qs (s := 1) [v46, v47] [sN] [(0, [v46]), (1, [v47])] qF qA jI rfl (by decide) rfl (.cons (cells_one (qB hf46)) (.cons (cells_one (qB hf47)) CellsAre.nil)) rfl ?_)
  intro v48 hv45
  have hc14 : RowsC F47 [v46, v47] ([[1, -1], [-2]] : List (List Int)) := (RowsC.snoc (RowsC.snoc (CO.nil : RowsC F47 [] []) hf46) hf47)
  refine ja [] _ _ rfl (fun F48 le48 hz48 => ?_)
  replace hc3 := hc3.mono le48
  replace hf44 := hf44.mono le48
  replace hf45 := hf45.mono le48
  replace hc14 := hc14.mono le48
  have hf48 : RowsF F48 v48 (([[1, -1], [-2]] : List (List Int))) := CO.fz hc14 (by first | rfl | omega | (rw [List.length_set]; omega) | (simp; done)) hz48.fz
  skip
  refine cX (qs (s := 1) [ii (0), ii (-2), ii (3), ii (-1), ii (-2)] [ii (0)] [(0, [ii (0)]), (1, [ii (-2)]), (2, [ii (3)]), (3, [ii (-1)]), (4, [ii (-2)])] qf qq qL rfl (by decide) rfl (.cons rfl (.cons rfl (.cons rfl (.cons rfl (.cons rfl CellsAre.nil))))) rfl ?_)
  intro v49 hv46
  show XL _ _ _ _ _ _ _ (intsH 2 v49 ([0, -2, 3, -1, -2] : List Int) :: cellsH b3 [v1, v11, v10] 108 :: slH 2 1 v11 2 [ii (0), ii (3)] :: slH 206 3 v10 2 ([ii (0), v4, v5, ii (0), v8, v9]) :: cellsH b2 [v1] 36 :: slH 2 1 v1 4 [ii (2), ii (1), ii (0), ii (2)] :: cellsH b1 [sN, sN, sN] 108 :: L)
  refine ja [] _ _ rfl (fun F49 le49 hz49 => ?_)
  replace hc3 := hc3.mono le49
  replace hf44 := hf44.mono le49
  replace hf45 := hf45.mono le49
  replace hf48 := hf48.mono le49
  have hf49 : IntsF F49 v49 ([0, -2, 3, -1, -2]) := intsH.fz (xs := [0, -2, 3, -1, -2]) hz49.fz
  skip
  refine cX (jv [ii (3), v48, v49] [ii (0), sN, sN] [(0, 1), (1, 1), (2, 1)] [(0, [ii (3)]), (1, [v48]), (2, [v49])] qR jC rfl (.cons rfl qq (.cons rfl qW (.cons rfl qA PlacesAre.nil))) rfl (.cons rfl (.cons (cells_one (RowsF.isSl hf48)) (.cons (cells_one (qB hf49)) CellsAre.nil))) (cX (qs (s := 3) [ii (3), v44, v45, ii (3), v48, v49] [ii (0), sN, sN] [(0, [ii (3), v44, v45]), (1, [ii (3), v48, v49])] qS jl jC rfl (by decide) rfl (.cons rfl (.cons rfl CellsAre.nil)) rfl ?_)))
  intro v50 hv47
  refine cX (jT (m := 2) (bytes := 56) (cs := [ii (0), v4, v5, ii (0), v8, v9]) [_, _, _] _ [ii (3), v44, v45, ii (3), v48, v49] qS typeInfo206 rfl rfl rfl rfl rfl rfl rfl (SlV.own [] rfl) rfl (Rd.lit [] rfl) (qx rfl (qx (qI (RowsF.isSl hf44)) (qx (qI (qB hf45)) (qx rfl (qx (qI (RowsF.isSl hf48)) (qx (qI (qB hf49)) qX)))))) (by (try simp only [List.length_append, List.length_nil, List.length_cons, List.length_singleton]); omega) (by (try simp only [List.length_append, List.length_nil, List.length_cons, List.length_singleton]); omega) ?_)
  intro v51 hs4 hn4 hm4
  have hc15 : LinesC F49 ([ii (0), v4, v5, ii (0), v8, v9] ++ [ii (3), v44, v45, ii (3), v48, v49]) ((([(0, ([[2], [-1]] : List (List Int)), [-1]), (0, ([[1, -1], [-2]] : List (List Int)), [1, 0, -1, -2])] : List LineT)) ++ [(3, ([[2], [-1]] : List (List Int)), [2]), (3, ([[1, -1], [-2]] : List (List Int)), [0, -2, 3, -1, -2])]) := (LinesC.snoc (LinesC.snoc hc3 (y0 := 3) (y1 := ([[2], [-1]] : List (List Int))) (y2 := [2]) hf44 hf45) (y0 := 3) (y1 := ([[1, -1], [-2]] : List (List Int))) (y2 := [0, -2, 3, -1, -2]) hf48 hf49)
  refine cX (qk (2) qy rfl jm (by decide) rfl rfl (cX (jw [_] _ [v1, v11, v51] jm rfl rfl (qI hs4) rfl rfl rfl (qc (qd (qb (cX (qu [v1, v11, v51] jj qT rfl rfl (Rd.ownN [_] rfl rfl) (cX (qV [_, _, _, _, _, _] _ [v1, v11, v51] qT rfl rfl rfl (qx (qI (jo hv1)) (qx (qI (jo hv11)) (qx (qI hs4) qX))) rfl rfl rfl (qc ?_)))))))))))
  show X _ _ _ _ _ _ (slH 206 3 v50 2 [ii (3), v44, v45, ii (3), v48, v49] :: cellsH b3 [v1, v11, v51] 108 :: slH 2 1 v11 2 [ii (0), ii (3)] :: slH 206 3 v51 ((2) + 2) (([ii (0), v4, v5, ii (0), v8, v9] ++ [ii (3), v44, v45, ii (3), v48, v49])) :: cellsH b2 [v1] 36 :: intsH 2 v1 ([2, 1, 0, 2] : List Int) :: cellsH b1 [v1, v11, v51] 108 :: L)
  refine qY [_, _, _, _, _] _ _ rfl (fun F50 le50 hz50 => ?_)
  replace hc3 := hc3.mono le50
  replace hc15 := hc15.mono le50
  have hf50 : IntsF F50 v1 ([2, 1, 0, 2]) := intsH.fz (xs := [2, 1, 0, 2]) hz50.fz
  show X _ _ _ _ _ _ (slH 206 3 v50 2 [ii (3), v44, v45, ii (3), v48, v49] :: cellsH b3 [v1, v11, v51] 108 :: intsH 2 v11 ([0, 3] : List Int) :: slH 206 3 v51 ((2) + 2) (([ii (0), v4, v5, ii (0), v8, v9] ++ [ii (3), v44, v45, ii (3), v48, v49])) :: cellsH b2 [v1] 36 :: cellsH b1 [v1, v11, v51] 108 :: L)
  refine qY [_, _] _ _ rfl (fun F51 le51 hz51 => ?_)
  replace hc3 := hc3.mono le51
  replace hc15 := hc15.mono le51
  replace hf50 := hf50.mono le51
  have hf51 : IntsF F51 v11 ([0, 3]) := intsH.fz (xs := [0, 3]) hz51.fz
  refine qY [_, _] _ _ rfl (fun F52 le52 hz52 => ?_)
  replace hc3 := hc3.mono le52
  replace hc15 := hc15.mono le52
  replace hf50 := hf50.mono le52
  replace hf51 := hf51.mono le52
  have hf52 : LinesF F52 v51 (((([(0, ([[2], [-1]] : List (List Int)), [-1]), (0, ([[1, -1], [-2]] : List (List Int)), [1, 0, -1, -2])] : List LineT)) ++ [(3, ([[2], [-1]] : List (List Int)), [2]), (3, ([[1, -1], [-2]] : List (List Int)), [0, -2, 3, -1, -2])])) := CO.fz hc15 (by first | rfl | omega | (rw [List.length_set]; omega) | (simp; done)) hz52.fz
  have hL9 : LFl 2 22 [ii (0), v4, v5, ii (0), v8, v9, ii (3), v44, v45, ii (3), v48, v49] [(0, [[2], [-1]], [-1]), (0, [[1, -1], [-2]], [1, 0, -1, -2]), (3, [[2], [-1]], [2]), (3, [[1, -1], [-2]], [0, -2, 3, -1, -2])] [slH 22 1 v4 2 [v2, v3], intsH 2 v2 [2], intsH 2 v3 [-1], intsH 2 v5 [-1], slH 22 1 v8 2 [v6, v7], intsH 2 v6 [1, -1], intsH 2 v7 [-2], intsH 2 v9 [1, 0, -1, -2], slH 22 1 v44 2 [v42, v43], intsH 2 v42 [2], intsH 2 v43 [-1], intsH 2 v45 [2], slH 22 1 v48 2 [v46, v47], intsH 2 v46 [1, -1], intsH 2 v47 [-2], intsH 2 v49 [0, -2, 3, -1, -2]] := (LFl.cons (LFl.cons (LFl.cons (LFl.cons LFl.nil))))
  have hi9 := (Fresh.app (Fresh.app (Fresh.app (Fresh.app (Fresh.app (Fresh.app (Fresh.app (Fresh.app (Fresh.app (Fresh.app (Fresh.app (Fresh.app (Fresh.app (Fresh.app (Fresh.app (Fresh.app (Fresh.app (Fresh.app (Fresh.one hz1) le1 (Fresh.one hz2) le2) (qa le1 le2) (Fresh.one hz3) le3) (qa (qa le1 le2) le3) (Fresh.one hz4) le4) (qa (qa (qa le1 le2) le3) le4) (Fresh.one hz5) le5) (qa (qa (qa (qa le1 le2) le3) le4) le5) (Fresh.one hz6) le6) (qa (qa (qa (qa (qa le1 le2) le3) le4) le5) le6) (Fresh.one hz7) le7) (qa (qa (qa (qa (qa (qa le1 le2) le3) le4) le5) le6) le7) (Fresh.one hz8) le8) (qa (qa (qa (qa (qa (qa (qa le1 le2) le3) le4) le5) le6) le7) le8) (Fresh.one hz42) le42) (qa (qa (qa (qa (qa (qa (qa (qa le1 le2) le3) le4) le5) le6) le7) le8) le42) (Fresh.one hz43) le43) (qa (qa (qa (qa (qa (qa (qa (qa (qa le1 le2) le3) le4) le5) le6) le7) le8) le42) le43) (Fresh.one hz44) le44) (qa (qa (qa (qa (qa (qa (qa (qa (qa (qa le1 le2) le3) le4) le5) le6) le7) le8) le42) le43) le44) (Fresh.one hz45) le45) (qa (qa (qa (qa (qa (qa (qa (qa (qa (qa (qa le1 le2) le3) le4) le5) le6) le7) le8) le42) le43) le44) le45) (Fresh.one hz46) le46) (qa (qa (qa (qa (qa (qa (qa (qa (qa (qa (qa (qa le1 le2) le3) le4) le5) le6) le7) le8) le42) le43) le44) le45) le46) (Fresh.one hz47) le47) (qa (qa (qa (qa (qa (qa (qa (qa (qa (qa (qa (qa (qa le1 le2) le3) le4) le5) le6) le7) le8) le42) le43) le44) le45) le46) le47) (Fresh.one hz48) le48) (qa (qa (qa (qa (qa (qa (qa (qa (qa (qa (qa (qa (qa (qa le1 le2) le3) le4) le5) le6) le7) le8) le42) le43) le44) le45) le46) le47) le48) (Fresh.one hz49) le49) (qa (qa (qa (qa (qa (qa (qa (qa (qa (qa (qa (qa (qa (qa (qa le1 le2) le3) le4) le5) le6) le7) le8) le42) le43) le44) le45) le46) le47) le48) le49) (Fresh.one hz50) le50) (qa (qa (qa (qa (qa (qa (qa (qa (qa (qa (qa (qa (qa (qa (qa (qa le1 le2) le3) le4) le5) le6) le7) le8) le42) le43) le44) le45) le46) le47) le48) le49) le50) (Fresh.one hz51) le51) (qa (qa (qa (qa (qa (qa (qa (qa (qa (qa (qa (qa (qa (qa (qa (qa (qa le1 le2) le3) le4) le5) le6) le7) le8) le42) le43) le44) le45) le46) le47) le48) le49) le50) le51) (Fresh.one hz52) le52)
  simp only [List.cons_append, List.nil_append, Nat.reduceAdd] at hi9
  have hk9 : Fresh F F52 (star (intsH 2 v1 ([2, 1, 0, 2] : List Int) :: intsH 2 v11 ([0, 3] : List Int) :: slH 206 3 v51 4 [ii (0), v4, v5, ii (0), v8, v9, ii (3), v44, v45, ii (3), v48, v49] :: [slH 22 1 v4 2 [v2, v3], intsH 2 v2 [2], intsH 2 v3 [-1], intsH 2 v5 [-1], slH 22 1 v8 2 [v6, v7], intsH 2 v6 [1, -1], intsH 2 v7 [-2], intsH 2 v9 [1, 0, -1, -2], slH 22 1 v44 2 [v42, v43], intsH 2 v42 [2], intsH 2 v43 [-1], intsH 2 v45 [2], slH 22 1 v48 2 [v46, v47], intsH 2 v46 [1, -1], intsH 2 v47 [-2], intsH 2 v49 [0, -2, 3, -1, -2]])) := Fresh.idx (D := fun _ => True) (n := 19) [16, 17, 18, 2, 0, 1, 3, 6, 4, 5, 7, 10, 8, 9, 11, 14, 12, 13, 15] hi9 rfl (by decide) rfl
  refine qw (qr (L' := L) [.agg #[v1, v11, v51]] (.agg #[v1, v11, v51]) (.cell rfl (jH [v1, v11, v51] jj qT rfl (Rd.ownN [_, _, _] rfl rfl)) .nil) rfl (qa (qa (qa (qa (qa (qa (qa (qa (qa (qa (qa (qa (qa (qa (qa (qa (qa (qa le1 le2) le3) le4) le5) le6) le7) le8) le42) le43) le44) le45) le46) le47) le48) le49) le50) le51) le52) rF (sD (sD (sD (sD sR)))) ?_)
  exact ⟨_, _, _, [(0, [[2], [-1]], [-1]), (0, [[1, -1], [-2]], [1, 0, -1, -2]), (3, [[2], [-1]], [2]), (3, [[1, -1], [-2]], [0, -2, 3, -1, -2])], rfl, hf50, hf51, hf52, by decide, by decide, front_fresh hL9 hk9 rfl, rfl⟩
 refine qz (qd (qb (cX (qu [v1, v11, v10] jj qT rfl rfl (Rd.ownN [] rfl rfl) (cX (qV [_, _, _, _, _] _ [v1, v11, v10] qT rfl rfl rfl (qx (qI (jo hv1)) (qx (qI (jo hv11)) (qx (qI (jo hv10)) qX))) rfl rfl rfl (qc ?_)))))))
 show X _ _ _ _ _ _ (cellsH b3 [v1, v11, v10] 108 :: slH 2 1 v11 2 [ii (0), ii (3)] :: slH 206 3 v10 2 ([ii (0), v4, v5, ii (0), v8, v9]) :: cellsH b2 [v1] 36 :: intsH 2 v1 ([2, 1, 0, 2] : List Int) :: cellsH b1 [v1, v11, v10] 108 :: L)
 refine qY [_, _, _, _] _ _ rfl (fun F53 le53 hz53 => ?_)
 replace hc3 := hc3.mono le53
 have hf53 : IntsF F53 v1 ([2, 1, 0, 2]) := intsH.fz (xs := [2, 1, 0, 2]) hz53.fz
 show X _ _ _ _ _ _ (cellsH b3 [v1, v11, v10] 108 :: intsH 2 v11 ([0, 3] : List Int) :: slH 206 3 v10 2 ([ii (0), v4, v5, ii (0), v8, v9]) :: cellsH b2 [v1] 36 :: cellsH b1 [v1, v11, v10] 108 :: L)
 refine qY [_] _ _ rfl (fun F54 le54 hz54 => ?_)
 replace hc3 := hc3.mono le54
 replace hf53 := hf53.mono le54
 have hf54 : IntsF F54 v11 ([0, 3]) := intsH.fz (xs := [0, 3]) hz54.fz
 refine qY [_] _ _ rfl (fun F55 le55 hz55 => ?_)
 replace hc3 := hc3.mono le55
 replace hf53 := hf53.mono le55
 replace hf54 := hf54.mono le55
 have hf55 : LinesF F55 v10 (([(0, ([[2], [-1]] : List (List Int)), [-1]), (0, ([[1, -1], [-2]] : List (List Int)), [1, 0, -1, -2])] : List LineT)) := CO.fz hc3 (by first | rfl | omega | (rw [List.length_set]; omega) | (simp; done)) hz55.fz
 have hL9 : LFl 2 22 [ii (0), v4, v5, ii (0), v8, v9] [(0, [[2], [-1]], [-1]), (0, [[1, -1], [-2]], [1, 0, -1, -2])] [slH 22 1 v4 2 [v2, v3], intsH 2 v2 [2], intsH 2 v3 [-1], intsH 2 v5 [-1], slH 22 1 v8 2 [v6, v7], intsH 2 v6 [1, -1], intsH 2 v7 [-2], intsH 2 v9 [1, 0, -1, -2]] := (LFl.cons (LFl.cons LFl.nil))
 have hi9 := (Fresh.app (Fresh.app (Fresh.app (Fresh.app (Fresh.app (Fresh.app (Fresh.app (Fresh.app (Fresh.app (Fresh.app (Fresh.one hz1) le1 (Fresh.one hz2) le2) (qa le1 le2) (Fresh.one hz3) le3) (qa (qa le1 le2) le3) (Fresh.one hz4) le4) (qa (qa (qa le1 le2) le3) le4) (Fresh.one hz5) le5) (qa (qa (qa (qa le1 le2) le3) le4) le5) (Fresh.one hz6) le6) (qa (qa (qa (qa (qa le1 le2) le3) le4) le5) le6) (Fresh.one hz7) le7) (qa (qa (qa (qa (qa (qa le1 le2) le3) le4) le5) le6) le7) (Fresh.one hz8) le8) (qa (qa (qa (qa (qa (qa (qa le1 le2) le3) le4) le5) le6) le7) le8) (Fresh.one hz53) le53) (qa (qa (qa (qa (qa (qa (qa (qa le1 le2) le3) le4) le5) le6) le7) le8) le53) (Fresh.one hz54) le54) (qa (qa (qa (qa (qa (qa (qa (qa (qa le1 le2) le3) le4) le5) le6) le7) le8) le53) le54) (Fresh.one hz55) le55)
 simp only [List.cons_append, List.nil_append, Nat.reduceAdd] at hi9
 have hk9 : Fresh F F55 (star (intsH 2 v1 ([2, 1, 0, 2] : List Int) :: intsH 2 v11 ([0, 3] : List Int) :: slH 206 3 v10 2 [ii (0), v4, v5, ii (0), v8, v9] :: [slH 22 1 v4 2 [v2, v3], intsH 2 v2 [2], intsH 2 v3 [-1], intsH 2 v5 [-1], slH 22 1 v8 2 [v6, v7], intsH 2 v6 [1, -1], intsH 2 v7 [-2], intsH 2 v9 [1, 0, -1, -2]])) := Fresh.idx (D := fun _ => True) (n := 11) [8, 9, 10, 2, 0, 1, 3, 6, 4, 5, 7] hi9 rfl (by decide) rfl
 refine qw (qr (L' := L) [.agg #[v1, v11, v10]] (.agg #[v1, v11, v10]) (.cell rfl (jH [v1, v11, v10] jj qT rfl (Rd.ownN [_, _] rfl rfl)) .nil) rfl (qa (qa (qa (qa (qa (qa (qa (qa (qa (qa le1 le2) le3) le4) le5) le6) le7) le8) le53) le54) le55) rF (sD (sD (sD sR))) ?_)
 exact ⟨_, _, _, [(0, [[2], [-1]], [-1]), (0, [[1, -1], [-2]], [1, 0, -1, -2])], rfl, hf53, hf54, hf55, by decide, by decide, front_fresh hL9 hk9 rfl, rfl⟩
end Go.Proofs.YtjpfankibmeaaaaGreat
