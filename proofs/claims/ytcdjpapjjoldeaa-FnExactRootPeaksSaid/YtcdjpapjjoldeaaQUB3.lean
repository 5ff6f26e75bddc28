/-
  Walks, one after the other (part 4).
-/
import Derived.Test.YtcdjpapjjoldeaaQUL1
import Derived.Test.YtcdjpapjjoldeaaQUB2
import Derived.Test.YtcdjpapjjoldeaaQUB0
set_option linter.unusedSimpArgs false
set_option linter.unusedVariables false
namespace Go.Proofs.Ytcdjpapjjoldeaa
open Go X M Try

/- laws.eqPeak -/
theorem eqPeakT_spec {F : FH} {L : List HP} {tpv : Value} {tp : List Int} (htp : IntsF F tpv tp) {lfv : Value} {lf : List Int} (hlf : IntsF F lfv lf) {rtv : Value} {rt : List Int} (hrt : IntsF F rtv rt) {i1 : Int} {i2 : Int} {i3 : Int} {tqv : Value} {tq : List Int} (htq : IntsF F tqv tq) {lgv : Value} {lg : List Int} (hlg : IntsF F lgv lg) {ruv : Value} {ru : List Int} (hru : IntsF F ruv ru) {j1 : Int} {j2 : Int} {j3 : Int} (hv1 : tp.length ≤ 9223372036854775807) (hv2 : lf.length ≤ 9223372036854775807) (hv3 : rt.length ≤ 9223372036854775807) :
    Does prog 99 [.agg #[tpv, lfv, rtv, ii (i1), ii (i2), ii (i3)], .agg #[tqv, lgv, ruv, ii (j1), ii (j2), ii (j3)]] F (L) (fun v F' L' => (.bool (decide ((tp, lf, rt, i1, i2, i3) = (tq, lg, ru, j1, j2, j3))) : Value) = v ∧ F = F' ∧ L = L') := by
 refine qI func99 rfl rfl rfl (qc (qa (cX (jc [tpv, lfv, rtv, ii (i1), ii (i2), ii (i3)] rfl rfl ?_))))
 intro b1
 refine cX (jc [tqv, lgv, ruv, ii (j1), ii (j2), ii (j3)] rfl rfl ?_)
 intro b2
 refine qg (.bool (false)) rfl (qb (qc (qc (qa (cX (qm (0) qH rfl qo (by decide) rfl rfl (cX (qh qM rfl (Rd.own [_] rfl rfl) (cX (qm (0) qH rfl qo (by decide) rfl rfl (cX (qh qM rfl (Rd.own [] rfl rfl) (cX (qr (args := [tpv, tqv]) call165 rfl (eqInt64S_spec htp htq (hbd := (by first | assumption | rfl | omega | (left; simp; done) | (right; simp; done)))) ?_))))))))))))))
 rintro _ _ _ _ ⟨rfl, rfl, rfl⟩
 refine cX (jz rfl (qb ?_))
 refine qv (p := ¬(tp = tq)) rfl (fun h1 => ?_) (fun h1 => ?_)
 ·refine qc (qa (qg (.bool (false)) rfl (qb (qz (qk (qs (L' := L) [.bool (false)] (.bool (false)) (.tmp rfl .nil) rfl rF rF (sD (sD sR)) ?_))))))
  exact ⟨(vB (decide_eq_false (by intro e; simp_all))), rfl, rfl⟩
 refine qx (qc (qc (qa (cX (qm (1) qH rfl qo (by decide) rfl rfl (cX (qh qM rfl (Rd.own [_] rfl rfl) (cX (qm (1) qH rfl qo (by decide) rfl rfl (cX (qh qM rfl (Rd.own [] rfl rfl) (cX (qr (args := [lfv, lgv]) call165 rfl (eqInt64S_spec hlf hlg (hbd := (by first | assumption | rfl | omega | (left; simp; done) | (right; simp; done)))) ?_)))))))))))))
 rintro _ _ _ _ ⟨rfl, rfl, rfl⟩
 refine cX (jz rfl (qb ?_))
 refine qv (p := ¬(lf = lg)) rfl (fun h2 => ?_) (fun h2 => ?_)
 ·refine qc (qa (qg (.bool (false)) rfl (qb (qz (qk (qs (L' := L) [.bool (false)] (.bool (false)) (.tmp rfl .nil) rfl rF rF (sD (sD sR)) ?_))))))
  exact ⟨(vB (decide_eq_false (by intro e; simp_all))), rfl, rfl⟩
 refine qx (qc (qc (qa (cX (qm (2) qH rfl qo (by decide) rfl rfl (cX (qh qM rfl (Rd.own [_] rfl rfl) (cX (qm (2) qH rfl qo (by decide) rfl rfl (cX (qh qM rfl (Rd.own [] rfl rfl) (cX (qr (args := [rtv, ruv]) call165 rfl (eqInt64S_spec hrt hru (hbd := (by first | assumption | rfl | omega | (left; simp; done) | (right; simp; done)))) ?_)))))))))))))
 rintro _ _ _ _ ⟨rfl, rfl, rfl⟩
 refine cX (jz rfl (qb ?_))
 refine qv (p := ¬(rt = ru)) rfl (fun h3 => ?_) (fun h3 => ?_)
 ·refine qc (qa (qg (.bool (false)) rfl (qb (qz (qk (qs (L' := L) [.bool (false)] (.bool (false)) (.tmp rfl .nil) rfl rF rF (sD (sD sR)) ?_))))))
  exact ⟨(vB (decide_eq_false (by intro e; simp_all))), rfl, rfl⟩
 refine qx (qc (qc (qa (cX (qm (3) qH rfl qn (by decide) rfl rfl (cX (qh qD rfl (Rd.own [_] rfl rfl) (cX (qm (3) qH rfl qn (by decide) rfl rfl (cX (qh qD rfl (Rd.own [] rfl rfl) (cX (jI rfl rfl (qb ?_))))))))))))))
 refine qv (p := (i1 : Int) ≠ j1) rfl (fun h4 => ?_) (fun h4 => ?_)
 ·refine qc (qa (qg (.bool (false)) rfl (qb (qz (qk (qs (L' := L) [.bool (false)] (.bool (false)) (.tmp rfl .nil) rfl rF rF (sD (sD sR)) ?_))))))
  exact ⟨(vB (decide_eq_false (by intro e; simp_all))), rfl, rfl⟩
 refine qx (qc (qc (qa (cX (qm (4) qH rfl qn (by decide) rfl rfl (cX (qh qD rfl (Rd.own [_] rfl rfl) (cX (qm (4) qH rfl qn (by decide) rfl rfl (cX (qh qD rfl (Rd.own [] rfl rfl) (cX (jI rfl rfl (qb ?_))))))))))))))
 refine qv (p := (i2 : Int) ≠ j2) rfl (fun h5 => ?_) (fun h5 => ?_)
 ·refine qc (qa (qg (.bool (false)) rfl (qb (qz (qk (qs (L' := L) [.bool (false)] (.bool (false)) (.tmp rfl .nil) rfl rF rF (sD (sD sR)) ?_))))))
  exact ⟨(vB (decide_eq_false (by intro e; simp_all))), rfl, rfl⟩
 refine qx (qc (qc (qa (cX (qm (5) qH rfl qn (by decide) rfl rfl (cX (qh qD rfl (Rd.own [_] rfl rfl) (cX (qm (5) qH rfl qn (by decide) rfl rfl (cX (qh qD rfl (Rd.own [] rfl rfl) (cX (jI rfl rfl (qb ?_))))))))))))))
 refine qv (p := (i3 : Int) ≠ j3) rfl (fun h6 => ?_) (fun h6 => ?_)
 ·refine qc (qa (qg (.bool (false)) rfl (qb (qz (qk (qs (L' := L) [.bool (false)] (.bool (false)) (.tmp rfl .nil) rfl rF rF (sD (sD sR)) ?_))))))
  exact ⟨(vB (decide_eq_false (by intro e; simp_all))), rfl, rfl⟩
 refine qx (qc (qa (qg (.bool (true)) rfl (qb (qz (qs (L' := L) [.bool (true)] (.bool (true)) (.tmp rfl .nil) rfl rF rF (sD (sD sR)) ?_))))))
 exact ⟨(vB (decide_eq_true (by simp_all))), rfl, rfl⟩

/- laws.eqPeakS -/
theorem eqPeakS_spec {F : FH} {L : List HP} {av : Value} {a : List PkT} (ha : PeaksF F av a) {bv : Value} {b : List PkT} (hb : PeaksF F bv b) (hal : a.length ≤ 9223372036854775807) (hbd : ∀ i, i < a.length → (a.getD i ([], [], [], 0, 0, 0)).1.length ≤ 9223372036854775807 ∧ (a.getD i ([], [], [], 0, 0, 0)).2.1.length ≤ 9223372036854775807 ∧ (a.getD i ([], [], [], 0, 0, 0)).2.2.1.length ≤ 9223372036854775807) :
    Does prog 39 [av, bv] F (L) (fun v F' L' => (.bool (decide (a = b)) : Value) = v ∧ F = F' ∧ L = L') := by
 refine qI func39 rfl rfl rfl (qc (qa (qg (.bool (false)) rfl (qb (qc (qc (qa (qf (av) rfl (cX (qF qO rfl ha.slv (qf (bv) rfl (cX (qF qO rfl hb.slv (cX (jI rfl rfl (qb ?_))))))))))))))))
 refine qv (p := ((a.length : Int) : Int) ≠ (b.length : Int)) rfl (fun h1 => ?_) (fun h1 => ?_)
 ·refine qc (qa (qg (.bool (false)) rfl (qb (qz (qk (qs (L' := L) [.bool (false)] (.bool (false)) (.tmp rfl .nil) rfl rF rF sR ?_))))))
  exact ⟨(vB (decide_eq_false (fun e => by rw [e] at h1; omega))), rfl, rfl⟩
 refine qx (qc (qc (qa (qg (ii (0)) rfl (qb (qJ (jh (α := Nat) (fun k => [(0, av), (1, bv), (5, ii ((k : Int)))]) (fun k => L) (fun k F' => F = F' ∧ (k ≤ a.length) ∧ (∀ i, i < k → a.getD i ([], [], [], 0, 0, 0) = b.getD i ([], [], [], 0, 0, 0))) (fun k => a.length - k) 0 ⟨rfl, rfl, rfl, ⟨⟩⟩ sR ⟨rfl, (by (try dsimp only) <;> omega), (fun i hi => absurd hi (by omega))⟩ ?_)))))))
 rintro k rE _ _ ⟨rfl, hk, hall⟩
 show X _ _ _ _ (envs [(0, av), (1, bv), (5, ii ((k : Int)))] rE) _ (L)
 have hbk := hbd k
 refine qc (qc (qa (qf (ii ((k : Int))) rfl (qf (av) rfl (cX (qF qO rfl ha.slv (cX (qK rfl rfl (qb ?_)))))))))
 refine qv (p := (k : Int) < (a.length : Int)) rfl (fun h2 => ?_) (fun h2 => ?_)
 ·refine qx (qc (qJ (qc ?_)))
  obtain ⟨a1, a2, a3, ha1, ha2, ha3, hrg1, hq1⟩ := ha.rd (i := k) (by omega)
  obtain ⟨a4, a5, a6, ha4, ha5, ha6, hrg2, hq2⟩ := hb.rd (i := k) (by omega)
  refine jl [] L 8 [] [[], [], [0, 1], [2], [], [], [4, 5], [6]] (phiL [qe av, qe (ii ((k : Int)) : Value), qe (.pointer (some (elemA av (k * 6)))), qe (.agg #[a1, a2, a3, ii ((a.getD k ([], [], [], 0, 0, 0)).2.2.2.1), ii ((a.getD k ([], [], [], 0, 0, 0)).2.2.2.2.1), ii ((a.getD k ([], [], [], 0, 0, 0)).2.2.2.2.2)]), qe bv, qe (ii ((k : Int)) : Value), qe (.pointer (some (elemA bv (k * 6)))), qe (.agg #[a4, a5, a6, ii ((b.getD k ([], [], [], 0, 0, 0)).2.2.2.1), ii ((b.getD k ([], [], [], 0, 0, 0)).2.2.2.2.1), ii ((b.getD k ([], [], [], 0, 0, 0)).2.2.2.2.2)])]) (ownL []) mixed rfl rfl (by kernel_rfl) ?_ ?_
  ·refine pD (fun W R z9 => ?_) ?_
   ·refine qi (qj (av) rfl ?_)
    exact ⟨rfl, rfl, rfl⟩
   refine pD (fun W R z9 => ?_) ?_
   ·refine qi (qj (ii ((k : Int))) rfl ?_)
    exact ⟨rfl, rfl, rfl⟩
   refine pD (fun W R z9 => ?_) ?_
   ·rw [eS (l := [(0, _), (1, _)]) ⟨z9 0 rfl, z9 1 rfl, ⟨⟩⟩]
    refine qi (ql k qO qT rfl rfl rfl ha.slv (by omega) rfl ?_)
    exact ⟨rfl, rfl, rfl⟩
   refine pD (fun W R z9 => ?_) ?_
   ·rw [eS (l := [(2, _)]) ⟨z9 2 rfl, ⟨⟩⟩]
    refine qi (qE [a1, a2, a3, ii ((a.getD k ([], [], [], 0, 0, 0)).2.2.2.1), ii ((a.getD k ([], [], [], 0, 0, 0)).2.2.2.2.1), ii ((a.getD k ([], [], [], 0, 0, 0)).2.2.2.2.2)] jH qT rfl rfl (Rd.all (hrg1 _)) ?_)
    exact ⟨rfl, rfl, rfl⟩
   refine pD (fun W R z9 => ?_) ?_
   ·refine qi (qj (bv) rfl ?_)
    exact ⟨rfl, rfl, rfl⟩
   refine pD (fun W R z9 => ?_) ?_
   ·refine qi (qj (ii ((k : Int))) rfl ?_)
    exact ⟨rfl, rfl, rfl⟩
   refine pD (fun W R z9 => ?_) ?_
   ·rw [eS (l := [(4, _), (5, _)]) ⟨z9 4 rfl, z9 5 rfl, ⟨⟩⟩]
    refine qi (ql k qO qT rfl rfl rfl hb.slv (by omega) rfl ?_)
    exact ⟨rfl, rfl, rfl⟩
   refine pD (fun W R z9 => ?_) ?_
   ·rw [eS (l := [(6, _)]) ⟨z9 6 rfl, ⟨⟩⟩]
    refine qi (qE [a4, a5, a6, ii ((b.getD k ([], [], [], 0, 0, 0)).2.2.2.1), ii ((b.getD k ([], [], [], 0, 0, 0)).2.2.2.2.1), ii ((b.getD k ([], [], [], 0, 0, 0)).2.2.2.2.2)] jH qT rfl rfl (Rd.all (hrg2 _)) ?_)
    exact ⟨rfl, rfl, rfl⟩
   exact stepsP.nil
  intro W hphi
  rw [eS (l := [(3, _), (7, _)]) ⟨(hphi 3 (by decide)), (hphi 7 (by decide)), ⟨⟩⟩]
  show XL _ _ _ _ _ _ _ (L)
  refine cX (qr (args := [.agg #[a1, a2, a3, ii ((a.getD k ([], [], [], 0, 0, 0)).2.2.2.1), ii ((a.getD k ([], [], [], 0, 0, 0)).2.2.2.2.1), ii ((a.getD k ([], [], [], 0, 0, 0)).2.2.2.2.2)], .agg #[a4, a5, a6, ii ((b.getD k ([], [], [], 0, 0, 0)).2.2.2.1), ii ((b.getD k ([], [], [], 0, 0, 0)).2.2.2.2.1), ii ((b.getD k ([], [], [], 0, 0, 0)).2.2.2.2.2)]]) call99 rfl (eqPeakT_spec ha1 ha2 ha3 ha4 ha5 ha6 (hv1 := ((hbk (by omega)).1)) (hv2 := ((hbk (by omega)).2.1)) (hv3 := ((hbk (by omega)).2.2))) ?_)
  rintro _ _ _ _ ⟨rfl, rfl, rfl⟩
  refine cX (jz rfl (qb ?_))
  refine qv (p := ¬((((a.getD k ([], [], [], 0, 0, 0)).1), ((a.getD k ([], [], [], 0, 0, 0)).2.1), ((a.getD k ([], [], [], 0, 0, 0)).2.2.1), ((a.getD k ([], [], [], 0, 0, 0)).2.2.2.1), ((a.getD k ([], [], [], 0, 0, 0)).2.2.2.2.1), ((a.getD k ([], [], [], 0, 0, 0)).2.2.2.2.2)) = (((b.getD k ([], [], [], 0, 0, 0)).1), ((b.getD k ([], [], [], 0, 0, 0)).2.1), ((b.getD k ([], [], [], 0, 0, 0)).2.2.1), ((b.getD k ([], [], [], 0, 0, 0)).2.2.2.1), ((b.getD k ([], [], [], 0, 0, 0)).2.2.2.2.1), ((b.getD k ([], [], [], 0, 0, 0)).2.2.2.2.2)))) rfl (fun h3 => ?_) (fun h3 => ?_)
  ·refine qc (qa (qg (.bool (false)) rfl (qb (qz (qA (qk (qk (qA (qk (qs (L' := L) [.bool (false)] (.bool (false)) (.tmp rfl .nil) rfl rF rF sR ?_))))))))))
   exact ⟨(vB (decide_eq_false (fun e => by subst e; simp at *))), rfl, rfl⟩
  refine qx (qa (qf (ii ((k : Int))) rfl (cX (qL (((k + 1 : Nat) : Int)) rfl rfl (by omega) (by omega) (qg (ii (((k + 1 : Nat) : Int))) rfl (qb ?_))))))
  exact ⟨k + 1, _, FLe.refl _, rF, ⟨rfl, rfl, rfl, ⟨⟩⟩, sR, ⟨rfl, (by (try dsimp only) <;> omega), (fun i hi => (Nat.lt_or_ge i k).elim (fun h => hall i h) (fun h => by obtain rfl : i = k := (by omega); first | assumption | exact Classical.not_not.1 (by assumption)))⟩, (by omega)⟩
 refine jf (qu (qu (qN (qc (qa (qg (.bool (true)) rfl (qb (qz (qs (L' := L) [.bool (true)] (.bool (true)) (.tmp rfl .nil) rfl rF rF sR ?_)))))))))
 exact ⟨(vB (decide_eq_true (ext_any (([], [], [], 0, 0, 0) : PkT) (by omega) (fun i hi => hall i (by omega))))), rfl, rfl⟩

/- laws.markPeakS -/
theorem markPeakS_spec {F : FH} {L : List HP} {xv : Value} {x : List PeakT} {z : Int} (hz : 0 ≤ z ∧ z + (((x.flatMap flatPk)).length : Int) ≤ 9000000000) (hnx : x.length ≤ 4000000) :
    Does prog 41 [xv, ii (z)] F (peaksD 2 76 xv x :: L) (fun v F' L' => ∃ x' : List PeakT, ((x'.flatMap flatPk)) = iota z ((x.flatMap flatPk)).length ∧ x'.length = x.length ∧ (ii (z + (((x.flatMap flatPk)).length : Int)) : Value) = v ∧ F = F' ∧ peaksD 2 76 xv x' :: L = L') := by
 refine qI func41 rfl rfl rfl (X.openDeep (fun cs Ls hd => (X.weaken (qw (A := [_])) ?_)))
 show X _ _ _ _ _ _ (star Ls :: slH 76 6 xv x.length cs :: L)
 refine qc (qa (qg (ii (0)) rfl (qb (qc (qc (qa (qg (ii (0)) rfl (qb (qJ (jh (α := Nat × List PeakT × List HP × List Value) (fun xQ => [(0, xv), (1, ii (z + ((((x.take xQ.1).flatMap flatPk).length : Nat) : Int))), (5, ii (((xQ.1 : Nat) : Int)))]) (fun xQ => star xQ.2.2.1 :: slH 76 6 xv x.length xQ.2.2.2 :: L) (fun xQ F' => F = F' ∧ (DeepL 6 (PeakO 2) xQ.2.2.2 (xQ.2.1 ++ x.drop xQ.1) xQ.2.2.1) ∧ (xQ.1 ≤ x.length) ∧ (xQ.2.1.length = xQ.1) ∧ (xQ.2.1.flatMap flatPk = iota z ((x.take xQ.1).flatMap flatPk).length)) (fun xQ => x.length - xQ.1) (0, [], Ls, cs) ⟨rfl, (show Value.int .i64 z = ii (z + ((((x.take 0).flatMap flatPk).length : Nat) : Int)) from congrArg (Value.int .i64) (by simp)), rfl, ⟨⟩⟩ (sC (sC sR)) ⟨rfl, (hd), (by (try dsimp only) <;> omega), (rfl), (rfl)⟩ ?_))))))))))
 rintro ⟨k, os, Ls, cs⟩ rE _ _ ⟨rfl, hd, hk, hol, hfl⟩
 show X _ _ _ _ (envs [(0, xv), (1, ii (z + ((((x.take k).flatMap flatPk).length : Nat) : Int))), (5, ii ((k : Int)))] rE) _ (star Ls :: slH 76 6 xv x.length cs :: L)
 dsimp only at hd hk hol hfl
 have htl := fun (h : k < x.length) => flat_take_le (f := flatPk) (l := x) ([], [], [], 0, 0, 0) h
 have hlen : (os ++ x.drop k).length = x.length := by rw [List.length_append, List.length_drop]; omega
 refine qc (qc (qa (qf (ii ((k : Int))) rfl (qf (xv) rfl (cX (qF qO rfl (SlV.own [_] rfl) (cX (qK rfl rfl (qb ?_)))))))))
 refine qv (p := (k : Int) < (x.length : Int)) rfl (fun h1 => ?_) (fun h1 => ?_)
 ·refine qx (qc (qJ (qc (qa ?_))))
  have hkx : k < x.length := by omega
  have htl2 := htl hkx
  obtain ⟨A, K, B, es, hLs, hel, hR, hg, hput⟩ := hd.at (d := ([], [], [], 0, 0, 0)) (k := k) (by omega)
  rw [app_getD hol] at hR
  have hself := splice_self hel hg (hd.bound (k := k) (by omega))
  obtain ⟨a, b, c, he, hK⟩ := hR
  subst he hK
  have hfp : (flatPk (x.getD k ([], [], [], 0, 0, 0))).length = (x.getD k ([], [], [], 0, 0, 0)).1.length + (x.getD k ([], [], [], 0, 0, 0)).2.1.length + (x.getD k ([], [], [], 0, 0, 0)).2.2.1.length + 1 + 1 + 1 := flatPk_len
  have hbd := hd.bound (k := k) (by omega)
  subst hLs
  refine qW (Sub.pull (A := A)) ?_
  show XL _ _ _ _ _ _ _ (intsH 2 a ((x.getD k ([], [], [], 0, 0, 0)).1) :: intsH 2 b ((x.getD k ([], [], [], 0, 0, 0)).2.1) :: intsH 2 c ((x.getD k ([], [], [], 0, 0, 0)).2.2.1) :: star (A ++ B) :: slH 76 6 xv x.length cs :: L)
  skip
  refine qf (xv) rfl (qf (ii ((k : Int))) rfl (cX (ql k qO qT rfl rfl rfl (SlV.own [_, _, _, _] rfl) (by omega) rfl (cX (jp (k * 6) qH rfl qo (by decide) rfl rfl (cX (qh qM rfl (Rd.sl [_, _, _, _] rfl (hg 0 _ rfl)) (qf (ii (z + ((((x.take k).flatMap flatPk).length : Nat) : Int))) rfl (cX (qr (args := [a, ii (z + ((((x.take k).flatMap flatPk).length : Nat) : Int))]) call102 rfl (markInt64S_spec (by omega)) ?_))))))))))
  rintro _ _ _ _ ⟨m1, hm1, rfl, rfl, rfl⟩
  have hml1 := congrArg List.length hm1
  rw [iota_len] at hml1
  try simp only [List.length_append] at hml1
  refine qg (ii ((z + ((((x.take k).flatMap flatPk).length : Nat) : Int)) + (((((x.getD k ([], [], [], 0, 0, 0)).1))).length : Int))) rfl (qb (qc (qa (qf (xv) rfl (qf (ii ((k : Int))) rfl (cX (ql k qO qT rfl rfl rfl (SlV.own [_, _, _, _] rfl) (by omega) rfl (cX (jp (k * 6 + 1) qH rfl qo (by decide) rfl rfl (cX (qh qM rfl (Rd.sl [_, _, _, _] rfl (hg 1 _ rfl)) (qf (ii ((z + ((((x.take k).flatMap flatPk).length : Nat) : Int)) + (((((x.getD k ([], [], [], 0, 0, 0)).1))).length : Int))) rfl (qW (qw (A := [_])) ?_)))))))))))))
  show XL _ _ _ _ _ _ _ (intsH 2 b ((x.getD k ([], [], [], 0, 0, 0)).2.1) :: intsH 2 a m1 :: intsH 2 c ((x.getD k ([], [], [], 0, 0, 0)).2.2.1) :: star (A ++ B) :: slH 76 6 xv x.length cs :: L)
  refine cX (qr (args := [b, ii ((z + ((((x.take k).flatMap flatPk).length : Nat) : Int)) + (((((x.getD k ([], [], [], 0, 0, 0)).1))).length : Int))]) call102 rfl (markInt64S_spec (by omega)) ?_)
  rintro _ _ _ _ ⟨m2, hm2, rfl, rfl, rfl⟩
  have hml2 := congrArg List.length hm2
  rw [iota_len] at hml2
  try simp only [List.length_append] at hml2
  refine qg (ii (((z + ((((x.take k).flatMap flatPk).length : Nat) : Int)) + (((((x.getD k ([], [], [], 0, 0, 0)).1))).length : Int)) + (((((x.getD k ([], [], [], 0, 0, 0)).2.1))).length : Int))) rfl (qb (qc (qa (qf (xv) rfl (qf (ii ((k : Int))) rfl (cX (ql k qO qT rfl rfl rfl (SlV.own [_, _, _, _] rfl) (by omega) rfl (cX (jp (k * 6 + 2) qH rfl qo (by decide) rfl rfl (cX (qh qM rfl (Rd.sl [_, _, _, _] rfl (hg 2 _ rfl)) (qf (ii (((z + ((((x.take k).flatMap flatPk).length : Nat) : Int)) + (((((x.getD k ([], [], [], 0, 0, 0)).1))).length : Int)) + (((((x.getD k ([], [], [], 0, 0, 0)).2.1))).length : Int))) rfl (qW (qw (A := [_, _])) ?_)))))))))))))
  show XL _ _ _ _ _ _ _ (intsH 2 c ((x.getD k ([], [], [], 0, 0, 0)).2.2.1) :: intsH 2 b m2 :: intsH 2 a m1 :: star (A ++ B) :: slH 76 6 xv x.length cs :: L)
  refine cX (qr (args := [c, ii (((z + ((((x.take k).flatMap flatPk).length : Nat) : Int)) + (((((x.getD k ([], [], [], 0, 0, 0)).1))).length : Int)) + (((((x.getD k ([], [], [], 0, 0, 0)).2.1))).length : Int))]) call102 rfl (markInt64S_spec (by omega)) ?_)
  rintro _ _ _ _ ⟨m3, hm3, rfl, rfl, rfl⟩
  have hml3 := congrArg List.length hm3
  rw [iota_len] at hml3
  try simp only [List.length_append] at hml3
  refine qg (ii ((((z + ((((x.take k).flatMap flatPk).length : Nat) : Int)) + (((((x.getD k ([], [], [], 0, 0, 0)).1))).length : Int)) + (((((x.getD k ([], [], [], 0, 0, 0)).2.1))).length : Int)) + (((((x.getD k ([], [], [], 0, 0, 0)).2.2.1))).length : Int))) rfl (qb (qc (qa (qf (xv) rfl (qf (ii ((k : Int))) rfl (qf (ii ((((z + ((((x.take k).flatMap flatPk).length : Nat) : Int)) + (((((x.getD k ([], [], [], 0, 0, 0)).1))).length : Int)) + (((((x.getD k ([], [], [], 0, 0, 0)).2.1))).length : Int)) + (((((x.getD k ([], [], [], 0, 0, 0)).2.2.1))).length : Int))) rfl (cX (ql k qO qT rfl rfl rfl (SlV.own [_, _, _, _] rfl) (by omega) rfl (cX (jp (k * 6 + 3) qH rfl qn (by decide) rfl rfl (cX (XOp.storeS (i := k * 6 + 3) (cs := cs) [_, _, _, _] _ qn rfl rfl rfl rfl (by (try simp only [List.length_set]); omega) (qb (qc (qa (qf (ii ((((z + ((((x.take k).flatMap flatPk).length : Nat) : Int)) + (((((x.getD k ([], [], [], 0, 0, 0)).1))).length : Int)) + (((((x.getD k ([], [], [], 0, 0, 0)).2.1))).length : Int)) + (((((x.getD k ([], [], [], 0, 0, 0)).2.2.1))).length : Int))) rfl ?_))))))))))))))))
  refine cX (qL (((((z + ((((x.take k).flatMap flatPk).length : Nat) : Int)) + (((((x.getD k ([], [], [], 0, 0, 0)).1))).length : Int)) + (((((x.getD k ([], [], [], 0, 0, 0)).2.1))).length : Int)) + (((((x.getD k ([], [], [], 0, 0, 0)).2.2.1))).length : Int)) + 1) rfl rfl (by omega) (by omega) (qg (ii (((((z + ((((x.take k).flatMap flatPk).length : Nat) : Int)) + (((((x.getD k ([], [], [], 0, 0, 0)).1))).length : Int)) + (((((x.getD k ([], [], [], 0, 0, 0)).2.1))).length : Int)) + (((((x.getD k ([], [], [], 0, 0, 0)).2.2.1))).length : Int)) + 1)) rfl (qb (qc (qa (qf (xv) rfl (qf (ii ((k : Int))) rfl (qf (ii (((((z + ((((x.take k).flatMap flatPk).length : Nat) : Int)) + (((((x.getD k ([], [], [], 0, 0, 0)).1))).length : Int)) + (((((x.getD k ([], [], [], 0, 0, 0)).2.1))).length : Int)) + (((((x.getD k ([], [], [], 0, 0, 0)).2.2.1))).length : Int)) + 1)) rfl (cX (ql k qO qT rfl rfl rfl (SlV.own [_, _, _, _] rfl) (by omega) rfl (cX (jp (k * 6 + 4) qH rfl qn (by decide) rfl rfl (cX (XOp.storeS (i := k * 6 + 4) (cs := (cs.set (k * 6 + 3) (ii ((((z + ((((x.take k).flatMap flatPk).length : Nat) : Int)) + (((((x.getD k ([], [], [], 0, 0, 0)).1))).length : Int)) + (((((x.getD k ([], [], [], 0, 0, 0)).2.1))).length : Int)) + (((((x.getD k ([], [], [], 0, 0, 0)).2.2.1))).length : Int))))) [_, _, _, _] _ qn rfl rfl rfl rfl (by (try simp only [List.length_set]); omega) (qb (qc (qa ?_)))))))))))))))))
  refine qf (ii (((((z + ((((x.take k).flatMap flatPk).length : Nat) : Int)) + (((((x.getD k ([], [], [], 0, 0, 0)).1))).length : Int)) + (((((x.getD k ([], [], [], 0, 0, 0)).2.1))).length : Int)) + (((((x.getD k ([], [], [], 0, 0, 0)).2.2.1))).length : Int)) + 1)) rfl (cX (qL ((((((z + ((((x.take k).flatMap flatPk).length : Nat) : Int)) + (((((x.getD k ([], [], [], 0, 0, 0)).1))).length : Int)) + (((((x.getD k ([], [], [], 0, 0, 0)).2.1))).length : Int)) + (((((x.getD k ([], [], [], 0, 0, 0)).2.2.1))).length : Int)) + 1) + 1) rfl rfl (by omega) (by omega) (qg (ii ((((((z + ((((x.take k).flatMap flatPk).length : Nat) : Int)) + (((((x.getD k ([], [], [], 0, 0, 0)).1))).length : Int)) + (((((x.getD k ([], [], [], 0, 0, 0)).2.1))).length : Int)) + (((((x.getD k ([], [], [], 0, 0, 0)).2.2.1))).length : Int)) + 1) + 1)) rfl (qb (qc (qa (qf (xv) rfl (qf (ii ((k : Int))) rfl (qf (ii ((((((z + ((((x.take k).flatMap flatPk).length : Nat) : Int)) + (((((x.getD k ([], [], [], 0, 0, 0)).1))).length : Int)) + (((((x.getD k ([], [], [], 0, 0, 0)).2.1))).length : Int)) + (((((x.getD k ([], [], [], 0, 0, 0)).2.2.1))).length : Int)) + 1) + 1)) rfl (cX (ql k qO qT rfl rfl rfl (SlV.own [_, _, _, _] rfl) (by omega) rfl (cX (jp (k * 6 + 5) qH rfl qn (by decide) rfl rfl (cX (XOp.storeS (i := k * 6 + 5) (cs := (((cs.set (k * 6 + 3) (ii ((((z + ((((x.take k).flatMap flatPk).length : Nat) : Int)) + (((((x.getD k ([], [], [], 0, 0, 0)).1))).length : Int)) + (((((x.getD k ([], [], [], 0, 0, 0)).2.1))).length : Int)) + (((((x.getD k ([], [], [], 0, 0, 0)).2.2.1))).length : Int))))).set (k * 6 + 4) (ii (((((z + ((((x.take k).flatMap flatPk).length : Nat) : Int)) + (((((x.getD k ([], [], [], 0, 0, 0)).1))).length : Int)) + (((((x.getD k ([], [], [], 0, 0, 0)).2.1))).length : Int)) + (((((x.getD k ([], [], [], 0, 0, 0)).2.2.1))).length : Int)) + 1)))) [_, _, _, _] _ qn rfl rfl rfl rfl (by (try simp only [List.length_set]); omega) ?_)))))))))))))))
  refine qb (qa (qf (ii ((((((z + ((((x.take k).flatMap flatPk).length : Nat) : Int)) + (((((x.getD k ([], [], [], 0, 0, 0)).1))).length : Int)) + (((((x.getD k ([], [], [], 0, 0, 0)).2.1))).length : Int)) + (((((x.getD k ([], [], [], 0, 0, 0)).2.2.1))).length : Int)) + 1) + 1)) rfl (cX (qL (((((((z + ((((x.take k).flatMap flatPk).length : Nat) : Int)) + (((((x.getD k ([], [], [], 0, 0, 0)).1))).length : Int)) + (((((x.getD k ([], [], [], 0, 0, 0)).2.1))).length : Int)) + (((((x.getD k ([], [], [], 0, 0, 0)).2.2.1))).length : Int)) + 1) + 1) + 1) rfl rfl (by omega) (by omega) (qg (ii (((((((z + ((((x.take k).flatMap flatPk).length : Nat) : Int)) + (((((x.getD k ([], [], [], 0, 0, 0)).1))).length : Int)) + (((((x.getD k ([], [], [], 0, 0, 0)).2.1))).length : Int)) + (((((x.getD k ([], [], [], 0, 0, 0)).2.2.1))).length : Int)) + 1) + 1) + 1)) rfl (qb (qa (qW (qC (qw (A := [_, _, _, _])) (qC (qw (A := [_, _, _, _])) (qC (qw (A := [_, _])) (qC (qw (A := [_, _, _])) (qC (qw (A := [_, _, _, _])) (sC (sC (sC (sC (sC sR)))))))))) (qW (Sub.push (A := A) (K := [intsH 2 a m1, intsH 2 b m2, intsH 2 c m3]) (B := B)) ?_)))))))))
  show XL _ _ _ _ _ _ _ (star (A ++ ([intsH 2 a m1, intsH 2 b m2, intsH 2 c m3] ++ B)) :: slH 76 6 xv x.length ((((((cs.set (k * 6 + 3) (ii ((((z + ((((x.take k).flatMap flatPk).length : Nat) : Int)) + (((((x.getD k ([], [], [], 0, 0, 0)).1))).length : Int)) + (((((x.getD k ([], [], [], 0, 0, 0)).2.1))).length : Int)) + (((((x.getD k ([], [], [], 0, 0, 0)).2.2.1))).length : Int))))).set (k * 6 + 4) (ii (((((z + ((((x.take k).flatMap flatPk).length : Nat) : Int)) + (((((x.getD k ([], [], [], 0, 0, 0)).1))).length : Int)) + (((((x.getD k ([], [], [], 0, 0, 0)).2.1))).length : Int)) + (((((x.getD k ([], [], [], 0, 0, 0)).2.2.1))).length : Int)) + 1)))).set (k * 6 + 5) (ii ((((((z + ((((x.take k).flatMap flatPk).length : Nat) : Int)) + (((((x.getD k ([], [], [], 0, 0, 0)).1))).length : Int)) + (((((x.getD k ([], [], [], 0, 0, 0)).2.1))).length : Int)) + (((((x.getD k ([], [], [], 0, 0, 0)).2.2.1))).length : Int)) + 1) + 1)))) :: L)
  have hdn := hput [a, b, c, ii ((z + ((((x.take k).flatMap flatPk).length : Nat) : Int)) + ((x.getD k ([], [], [], 0, 0, 0)).1.length : Int) + ((x.getD k ([], [], [], 0, 0, 0)).2.1.length : Int) + ((x.getD k ([], [], [], 0, 0, 0)).2.2.1.length : Int)), ii (((z + ((((x.take k).flatMap flatPk).length : Nat) : Int)) + ((x.getD k ([], [], [], 0, 0, 0)).1.length : Int) + ((x.getD k ([], [], [], 0, 0, 0)).2.1.length : Int) + ((x.getD k ([], [], [], 0, 0, 0)).2.2.1.length : Int)) + 1), ii (((z + ((((x.take k).flatMap flatPk).length : Nat) : Int)) + ((x.getD k ([], [], [], 0, 0, 0)).1.length : Int) + ((x.getD k ([], [], [], 0, 0, 0)).2.1.length : Int) + ((x.getD k ([], [], [], 0, 0, 0)).2.2.1.length : Int)) + 1 + 1)] (m1, m2, m3, ((z + ((((x.take k).flatMap flatPk).length : Nat) : Int)) + ((x.getD k ([], [], [], 0, 0, 0)).1.length : Int) + ((x.getD k ([], [], [], 0, 0, 0)).2.1.length : Int) + ((x.getD k ([], [], [], 0, 0, 0)).2.2.1.length : Int)), ((z + ((((x.take k).flatMap flatPk).length : Nat) : Int)) + ((x.getD k ([], [], [], 0, 0, 0)).1.length : Int) + ((x.getD k ([], [], [], 0, 0, 0)).2.1.length : Int) + ((x.getD k ([], [], [], 0, 0, 0)).2.2.1.length : Int)) + 1, ((z + ((((x.take k).flatMap flatPk).length : Nat) : Int)) + ((x.getD k ([], [], [], 0, 0, 0)).1.length : Int) + ((x.getD k ([], [], [], 0, 0, 0)).2.1.length : Int) + ((x.getD k ([], [], [], 0, 0, 0)).2.2.1.length : Int)) + 1 + 1) _ rfl ⟨a, b, c, rfl, rfl⟩
  rw [← set_six (hg 0 _ rfl) (hg 1 _ rfl) (hg 2 _ rfl) (hg 3 _ rfl) (hg 4 _ rfl) (hg 5 _ rfl), app_set hol hkx] at hdn
  have hfx : flatPk (m1, m2, m3, ((z + ((((x.take k).flatMap flatPk).length : Nat) : Int)) + ((x.getD k ([], [], [], 0, 0, 0)).1.length : Int) + ((x.getD k ([], [], [], 0, 0, 0)).2.1.length : Int) + ((x.getD k ([], [], [], 0, 0, 0)).2.2.1.length : Int)), ((z + ((((x.take k).flatMap flatPk).length : Nat) : Int)) + ((x.getD k ([], [], [], 0, 0, 0)).1.length : Int) + ((x.getD k ([], [], [], 0, 0, 0)).2.1.length : Int) + ((x.getD k ([], [], [], 0, 0, 0)).2.2.1.length : Int)) + 1, ((z + ((((x.take k).flatMap flatPk).length : Nat) : Int)) + ((x.getD k ([], [], [], 0, 0, 0)).1.length : Int) + ((x.getD k ([], [], [], 0, 0, 0)).2.1.length : Int) + ((x.getD k ([], [], [], 0, 0, 0)).2.2.1.length : Int)) + 1 + 1) = iota (z + ((((x.take k).flatMap flatPk).length : Nat) : Int)) (flatPk (x.getD k ([], [], [], 0, 0, 0))).length := flatPk_iota hm1 hm2 hm3 hfp
  have hnext : ((z + ((((x.take k).flatMap flatPk).length : Nat) : Int)) + ((x.getD k ([], [], [], 0, 0, 0)).1.length : Int) + ((x.getD k ([], [], [], 0, 0, 0)).2.1.length : Int) + ((x.getD k ([], [], [], 0, 0, 0)).2.2.1.length : Int)) + 1 + 1 + 1 = z + ((((x.take (k + 1)).flatMap flatPk).length : Nat) : Int) := by rw [flatMap_take_succ flatPk ([], [], [], 0, 0, 0) hkx, List.length_append, hfp]; omega
  skip
  refine qf (ii ((k : Int))) rfl (cX (qL (((k + 1 : Nat) : Int)) rfl rfl (by omega) (by omega) (qg (ii (((k + 1 : Nat) : Int))) rfl (qb ?_))))
  exact ⟨(k + 1, os ++ [(m1, m2, m3, ((z + ((((x.take k).flatMap flatPk).length : Nat) : Int)) + ((x.getD k ([], [], [], 0, 0, 0)).1.length : Int) + ((x.getD k ([], [], [], 0, 0, 0)).2.1.length : Int) + ((x.getD k ([], [], [], 0, 0, 0)).2.2.1.length : Int)), ((z + ((((x.take k).flatMap flatPk).length : Nat) : Int)) + ((x.getD k ([], [], [], 0, 0, 0)).1.length : Int) + ((x.getD k ([], [], [], 0, 0, 0)).2.1.length : Int) + ((x.getD k ([], [], [], 0, 0, 0)).2.2.1.length : Int)) + 1, ((z + ((((x.take k).flatMap flatPk).length : Nat) : Int)) + ((x.getD k ([], [], [], 0, 0, 0)).1.length : Int) + ((x.getD k ([], [], [], 0, 0, 0)).2.1.length : Int) + ((x.getD k ([], [], [], 0, 0, 0)).2.2.1.length : Int)) + 1 + 1)], A ++ ([intsH 2 a m1, intsH 2 b m2, intsH 2 c m3] ++ B), (((((cs.set (k * 6 + 3) (ii ((((z + ((((x.take k).flatMap flatPk).length : Nat) : Int)) + (((((x.getD k ([], [], [], 0, 0, 0)).1))).length : Int)) + (((((x.getD k ([], [], [], 0, 0, 0)).2.1))).length : Int)) + (((((x.getD k ([], [], [], 0, 0, 0)).2.2.1))).length : Int))))).set (k * 6 + 4) (ii (((((z + ((((x.take k).flatMap flatPk).length : Nat) : Int)) + (((((x.getD k ([], [], [], 0, 0, 0)).1))).length : Int)) + (((((x.getD k ([], [], [], 0, 0, 0)).2.1))).length : Int)) + (((((x.getD k ([], [], [], 0, 0, 0)).2.2.1))).length : Int)) + 1)))).set (k * 6 + 5) (ii ((((((z + ((((x.take k).flatMap flatPk).length : Nat) : Int)) + (((((x.getD k ([], [], [], 0, 0, 0)).1))).length : Int)) + (((((x.getD k ([], [], [], 0, 0, 0)).2.1))).length : Int)) + (((((x.getD k ([], [], [], 0, 0, 0)).2.2.1))).length : Int)) + 1) + 1)))), _, FLe.refl _, rF, ⟨rfl, (vI hnext), rfl, ⟨⟩⟩, (sC (sC sR)), ⟨rfl, (hdn), (by (try dsimp only) <;> omega), (by simp [hol]), (marked (d := ([], [], [], 0, 0, 0)) (by omega) hfl hfx)⟩, (by omega)⟩
 refine jf (qu (qu (qN (qc (qa (qf (ii (z + ((((x.take k).flatMap flatPk).length : Nat) : Int))) rfl (qg (ii (z + ((((x.take k).flatMap flatPk).length : Nat) : Int))) rfl (qb (qz (qs (L' := peaksD 2 76 xv os :: L) [ii (z + ((((x.take k).flatMap flatPk).length : Nat) : Int))] (ii (z + ((((x.take k).flatMap flatPk).length : Nat) : Int))) (.tmp rfl .nil) rfl rF rF (qC (qw (A := [_])) (Sub.closeDeep (by rw [app_all (by omega)] at hd; exact hd) (by omega))) ?_))))))))))
 rw [app_all (by omega)] at hd
 have hkl : k = x.length := by omega
 exact ⟨os, by rw [hfl, hkl, List.take_length], by omega, by rw [hkl, List.take_length], rfl, rfl⟩

/- laws.heldPeakS -/
theorem heldPeakS_spec {F : FH} {L : List HP} {xv : Value} {x : List PkT} (hx : PeaksF F xv x) {z : Int} (hzb : 0 ≤ z ∧ z + ((x.flatMap flatPk).length : Int) ≤ 9000000000) (hxl : x.length ≤ 4000000) :
    Does prog 42 [xv, ii (z)] F (L) (fun v F' L' => (ii (heldF (x.flatMap flatPk) z) : Value) = v ∧ F = F' ∧ L = L') := by
 refine qI func42 rfl rfl rfl (qc (qa (qg (ii (0)) rfl (qb (qc (qc (qa (qg (ii (0)) rfl (qb (qJ (jh (α := Nat) (fun k => [(0, xv), (1, ii (heldF ((x.take k).flatMap flatPk) z)), (5, ii ((k : Int)))]) (fun k => L) (fun k F' => F = F' ∧ (k ≤ x.length) ∧ (0 ≤ heldF ((x.take k).flatMap flatPk) z)) (fun k => x.length - k) 0 ⟨rfl, (show Value.int .i64 z = ii (heldF ((x.take 0).flatMap flatPk) z) from congrArg (Value.int .i64) (by simp [heldF_nil])), rfl, ⟨⟩⟩ sR ⟨rfl, (by (try dsimp only) <;> omega), (by simp [heldF_nil]; omega)⟩ ?_)))))))))))
 rintro k rE _ _ ⟨rfl, hk, hnn⟩
 show X _ _ _ _ (envs [(0, xv), (1, ii (heldF ((x.take k).flatMap flatPk) z)), (5, ii ((k : Int)))] rE) _ (L)
 have hhp := heldF_pos (a := (x.take k).flatMap flatPk) (k := z) (by omega)
 have htl := fun (h : k < x.length) => flat_take_le (f := flatPk) (l := x) ([], [], [], 0, 0, 0) h
 have hnx := fun (h : k < x.length) => held_next (f := flatPk) (l := x) (k := k) ([], [], [], 0, 0, 0) hzb.1 h (by omega)
 have hsx : k < x.length → (flatPk (x.getD k ([], [], [], 0, 0, 0))).length = (x.getD k ([], [], [], 0, 0, 0)).1.length + (x.getD k ([], [], [], 0, 0, 0)).2.1.length + (x.getD k ([], [], [], 0, 0, 0)).2.2.1.length + 1 + 1 + 1 := fun _ => flatPk_len
 have hun : k < x.length → heldF (flatPk (x.getD k ([], [], [], 0, 0, 0))) (heldF ((x.take k).flatMap flatPk) z) = _ := fun _ => held_pk hnn
 have hq1 := heldF_range (xs := (x.getD k ([], [], [], 0, 0, 0)).1) hnn
 have hq2 := fun h : 0 ≤ heldF (x.getD k ([], [], [], 0, 0, 0)).1 (heldF ((x.take k).flatMap flatPk) z) => heldF_range (xs := (x.getD k ([], [], [], 0, 0, 0)).2.1) h
 have hq3 := fun h : 0 ≤ heldF (x.getD k ([], [], [], 0, 0, 0)).2.1 (heldF (x.getD k ([], [], [], 0, 0, 0)).1 (heldF ((x.take k).flatMap flatPk) z)) => heldF_range (xs := (x.getD k ([], [], [], 0, 0, 0)).2.2.1) h
 refine qc (qc (qa (qf (ii ((k : Int))) rfl (qf (xv) rfl (cX (qF qO rfl hx.slv (cX (qK rfl rfl (qb ?_)))))))))
 refine qv (p := (k : Int) < (x.length : Int)) rfl (fun h1 => ?_) (fun h1 => ?_)
 ·refine qx (qc (qJ (qc (qa (qf (xv) rfl (qf (ii ((k : Int))) rfl (cX (ql k qO qT rfl rfl rfl hx.slv (by omega) rfl (cX (jp (k * 6) qH rfl qo (by decide) rfl rfl ?_))))))))))
  obtain ⟨a1, a2, a3, ha1, ha2, ha3, hrg1, hq1⟩ := hx.rd (i := k) (by omega)
  refine cX (qh qM rfl (hrg1 _ 0 _ rfl) (qf (ii (heldF ((x.take k).flatMap flatPk) z)) rfl (cX (qr (args := [a1, ii (heldF ((x.take k).flatMap flatPk) z)]) call103 rfl (heldInt64S_spec (z := heldF ((x.take k).flatMap flatPk) z) ha1 (hzb := (by first | assumption | rfl | omega | simp))) ?_))))
  rintro _ _ _ _ ⟨rfl, rfl, rfl⟩
  refine qg (ii (heldF ((x.getD k ([], [], [], 0, 0, 0)).1) (heldF ((x.take k).flatMap flatPk) z))) rfl (qb (qc (qc (qa (qf (ii (heldF ((x.getD k ([], [], [], 0, 0, 0)).1) (heldF ((x.take k).flatMap flatPk) z))) rfl (cX (qK rfl rfl (qb ?_))))))))
  refine qv (p := (heldF ((x.getD k ([], [], [], 0, 0, 0)).1) (heldF ((x.take k).flatMap flatPk) z) : Int) < 0) rfl (fun h2 => ?_) (fun h2 => ?_)
  ·refine qc (qa (qg (ii (-1)) rfl (qb (qz (qk (qA (qk (qk (qA (qk (qs (L' := L) [ii (-1)] (ii (-1)) (.tmp rfl .nil) rfl rF rF sR ?_)))))))))))
   exact ⟨(vI (by exact held_fail (k := k) ([], [], [], 0, 0, 0) hzb.1 (by omega) (by rw [hnx (by omega), hun (by omega), if_pos (by first | assumption | exact Classical.not_not.1 (by assumption))]; omega))), rfl, rfl⟩
  refine qx (qc (qa (qf (xv) rfl (qf (ii ((k : Int))) rfl (cX (ql k qO qT rfl rfl rfl hx.slv (by omega) rfl (cX (jp (k * 6 + 1) qH rfl qo (by decide) rfl rfl (cX (qh qM rfl (hrg1 _ 1 _ rfl) (qf (ii (heldF ((x.getD k ([], [], [], 0, 0, 0)).1) (heldF ((x.take k).flatMap flatPk) z))) rfl (cX (qr (args := [a2, ii (heldF ((x.getD k ([], [], [], 0, 0, 0)).1) (heldF ((x.take k).flatMap flatPk) z))]) call103 rfl (heldInt64S_spec (z := heldF ((x.getD k ([], [], [], 0, 0, 0)).1) (heldF ((x.take k).flatMap flatPk) z)) ha2 (hzb := (by first | assumption | rfl | omega | simp))) ?_)))))))))))))
  rintro _ _ _ _ ⟨rfl, rfl, rfl⟩
  refine qg (ii (heldF ((x.getD k ([], [], [], 0, 0, 0)).2.1) (heldF ((x.getD k ([], [], [], 0, 0, 0)).1) (heldF ((x.take k).flatMap flatPk) z)))) rfl (qb (qc (qc (qa (qf (ii (heldF ((x.getD k ([], [], [], 0, 0, 0)).2.1) (heldF ((x.getD k ([], [], [], 0, 0, 0)).1) (heldF ((x.take k).flatMap flatPk) z)))) rfl (cX (qK rfl rfl (qb ?_))))))))
  refine qv (p := (heldF ((x.getD k ([], [], [], 0, 0, 0)).2.1) (heldF ((x.getD k ([], [], [], 0, 0, 0)).1) (heldF ((x.take k).flatMap flatPk) z)) : Int) < 0) rfl (fun h3 => ?_) (fun h3 => ?_)
  ·refine qc (qa (qg (ii (-1)) rfl (qb (qz (qk (qA (qk (qk (qA (qk (qs (L' := L) [ii (-1)] (ii (-1)) (.tmp rfl .nil) rfl rF rF sR ?_)))))))))))
   exact ⟨(vI (by exact held_fail (k := k) ([], [], [], 0, 0, 0) hzb.1 (by omega) (by rw [hnx (by omega), hun (by omega), if_neg (by assumption), if_pos (by first | assumption | exact Classical.not_not.1 (by assumption))]; omega))), rfl, rfl⟩
  refine qx (qc (qa (qf (xv) rfl (qf (ii ((k : Int))) rfl (cX (ql k qO qT rfl rfl rfl hx.slv (by omega) rfl (cX (jp (k * 6 + 2) qH rfl qo (by decide) rfl rfl (cX (qh qM rfl (hrg1 _ 2 _ rfl) (qf (ii (heldF ((x.getD k ([], [], [], 0, 0, 0)).2.1) (heldF ((x.getD k ([], [], [], 0, 0, 0)).1) (heldF ((x.take k).flatMap flatPk) z)))) rfl (cX (qr (args := [a3, ii (heldF ((x.getD k ([], [], [], 0, 0, 0)).2.1) (heldF ((x.getD k ([], [], [], 0, 0, 0)).1) (heldF ((x.take k).flatMap flatPk) z)))]) call103 rfl (heldInt64S_spec (z := heldF ((x.getD k ([], [], [], 0, 0, 0)).2.1) (heldF ((x.getD k ([], [], [], 0, 0, 0)).1) (heldF ((x.take k).flatMap flatPk) z))) ha3 (hzb := (by first | assumption | rfl | omega | simp))) ?_)))))))))))))
  rintro _ _ _ _ ⟨rfl, rfl, rfl⟩
  refine qg (ii (heldF ((x.getD k ([], [], [], 0, 0, 0)).2.2.1) (heldF ((x.getD k ([], [], [], 0, 0, 0)).2.1) (heldF ((x.getD k ([], [], [], 0, 0, 0)).1) (heldF ((x.take k).flatMap flatPk) z))))) rfl (qb (qc (qc (qa (qf (ii (heldF ((x.getD k ([], [], [], 0, 0, 0)).2.2.1) (heldF ((x.getD k ([], [], [], 0, 0, 0)).2.1) (heldF ((x.getD k ([], [], [], 0, 0, 0)).1) (heldF ((x.take k).flatMap flatPk) z))))) rfl (cX (qK rfl rfl (qb ?_))))))))
  refine qv (p := (heldF ((x.getD k ([], [], [], 0, 0, 0)).2.2.1) (heldF ((x.getD k ([], [], [], 0, 0, 0)).2.1) (heldF ((x.getD k ([], [], [], 0, 0, 0)).1) (heldF ((x.take k).flatMap flatPk) z))) : Int) < 0) rfl (fun h4 => ?_) (fun h4 => ?_)
  ·refine qc (qa (qg (ii (-1)) rfl (qb (qz (qk (qA (qk (qk (qA (qk (qs (L' := L) [ii (-1)] (ii (-1)) (.tmp rfl .nil) rfl rF rF sR ?_)))))))))))
   exact ⟨(vI (by exact held_fail (k := k) ([], [], [], 0, 0, 0) hzb.1 (by omega) (by rw [hnx (by omega), hun (by omega), if_neg (by assumption), if_neg (by assumption), if_pos (by first | assumption | exact Classical.not_not.1 (by assumption))]; omega))), rfl, rfl⟩
  refine qx (qc (qc (qa (qf (xv) rfl (qf (ii ((k : Int))) rfl (cX (ql k qO qT rfl rfl rfl hx.slv (by omega) rfl (cX (jp (k * 6 + 3) qH rfl qn (by decide) rfl rfl (cX (qh qD rfl (hrg1 _ 3 _ rfl) (qf (ii (heldF ((x.getD k ([], [], [], 0, 0, 0)).2.2.1) (heldF ((x.getD k ([], [], [], 0, 0, 0)).2.1) (heldF ((x.getD k ([], [], [], 0, 0, 0)).1) (heldF ((x.take k).flatMap flatPk) z))))) rfl (cX (jI rfl rfl (qb ?_)))))))))))))))
  refine qv (p := ((x.getD k ([], [], [], 0, 0, 0)).2.2.2.1 : Int) ≠ heldF ((x.getD k ([], [], [], 0, 0, 0)).2.2.1) (heldF ((x.getD k ([], [], [], 0, 0, 0)).2.1) (heldF ((x.getD k ([], [], [], 0, 0, 0)).1) (heldF ((x.take k).flatMap flatPk) z)))) rfl (fun h5 => ?_) (fun h5 => ?_)
  ·refine qc (qa (qg (ii (-1)) rfl (qb (qz (qk (qA (qk (qk (qA (qk (qs (L' := L) [ii (-1)] (ii (-1)) (.tmp rfl .nil) rfl rF rF sR ?_)))))))))))
   exact ⟨(vI (by exact held_fail (k := k) ([], [], [], 0, 0, 0) hzb.1 (by omega) (by rw [hnx (by omega), hun (by omega), if_neg (by assumption), if_neg (by assumption), if_neg (by assumption), if_neg (by assumption)]; omega))), rfl, rfl⟩
  refine qx (qc (qa (qf (ii (heldF ((x.getD k ([], [], [], 0, 0, 0)).2.2.1) (heldF ((x.getD k ([], [], [], 0, 0, 0)).2.1) (heldF ((x.getD k ([], [], [], 0, 0, 0)).1) (heldF ((x.take k).flatMap flatPk) z))))) rfl (cX (qL ((heldF ((x.getD k ([], [], [], 0, 0, 0)).2.2.1) (heldF ((x.getD k ([], [], [], 0, 0, 0)).2.1) (heldF ((x.getD k ([], [], [], 0, 0, 0)).1) (heldF ((x.take k).flatMap flatPk) z)))) + 1) rfl rfl (by omega) (by omega) (qg (ii ((heldF ((x.getD k ([], [], [], 0, 0, 0)).2.2.1) (heldF ((x.getD k ([], [], [], 0, 0, 0)).2.1) (heldF ((x.getD k ([], [], [], 0, 0, 0)).1) (heldF ((x.take k).flatMap flatPk) z)))) + 1)) rfl (qb (qc (qc (qa (qf (xv) rfl (qf (ii ((k : Int))) rfl (cX (ql k qO qT rfl rfl rfl hx.slv (by omega) rfl (cX (jp (k * 6 + 4) qH rfl qn (by decide) rfl rfl (cX (qh qD rfl (hrg1 _ 4 _ rfl) ?_))))))))))))))))))
  refine qf (ii ((heldF ((x.getD k ([], [], [], 0, 0, 0)).2.2.1) (heldF ((x.getD k ([], [], [], 0, 0, 0)).2.1) (heldF ((x.getD k ([], [], [], 0, 0, 0)).1) (heldF ((x.take k).flatMap flatPk) z)))) + 1)) rfl (cX (jI rfl rfl (qb ?_)))
  refine qv (p := ((x.getD k ([], [], [], 0, 0, 0)).2.2.2.2.1 : Int) ≠ (heldF ((x.getD k ([], [], [], 0, 0, 0)).2.2.1) (heldF ((x.getD k ([], [], [], 0, 0, 0)).2.1) (heldF ((x.getD k ([], [], [], 0, 0, 0)).1) (heldF ((x.take k).flatMap flatPk) z)))) + 1) rfl (fun h6 => ?_) (fun h6 => ?_)
  ·refine qc (qa (qg (ii (-1)) rfl (qb (qz (qk (qA (qk (qk (qA (qk (qs (L' := L) [ii (-1)] (ii (-1)) (.tmp rfl .nil) rfl rF rF sR ?_)))))))))))
   exact ⟨(vI (by exact held_fail (k := k) ([], [], [], 0, 0, 0) hzb.1 (by omega) (by rw [hnx (by omega), hun (by omega), if_neg (by assumption), if_neg (by assumption), if_neg (by assumption), if_pos (by first | assumption | exact Classical.not_not.1 (by assumption)), if_neg (by assumption)]; omega))), rfl, rfl⟩
  refine qx (qc (qa (qf (ii ((heldF ((x.getD k ([], [], [], 0, 0, 0)).2.2.1) (heldF ((x.getD k ([], [], [], 0, 0, 0)).2.1) (heldF ((x.getD k ([], [], [], 0, 0, 0)).1) (heldF ((x.take k).flatMap flatPk) z)))) + 1)) rfl (cX (qL (((heldF ((x.getD k ([], [], [], 0, 0, 0)).2.2.1) (heldF ((x.getD k ([], [], [], 0, 0, 0)).2.1) (heldF ((x.getD k ([], [], [], 0, 0, 0)).1) (heldF ((x.take k).flatMap flatPk) z)))) + 1) + 1) rfl rfl (by omega) (by omega) (qg (ii (((heldF ((x.getD k ([], [], [], 0, 0, 0)).2.2.1) (heldF ((x.getD k ([], [], [], 0, 0, 0)).2.1) (heldF ((x.getD k ([], [], [], 0, 0, 0)).1) (heldF ((x.take k).flatMap flatPk) z)))) + 1) + 1)) rfl (qb (qc (qc (qa (qf (xv) rfl (qf (ii ((k : Int))) rfl (cX (ql k qO qT rfl rfl rfl hx.slv (by omega) rfl (cX (jp (k * 6 + 5) qH rfl qn (by decide) rfl rfl (cX (qh qD rfl (hrg1 _ 5 _ rfl) ?_))))))))))))))))))
  refine qf (ii (((heldF ((x.getD k ([], [], [], 0, 0, 0)).2.2.1) (heldF ((x.getD k ([], [], [], 0, 0, 0)).2.1) (heldF ((x.getD k ([], [], [], 0, 0, 0)).1) (heldF ((x.take k).flatMap flatPk) z)))) + 1) + 1)) rfl (cX (jI rfl rfl (qb ?_)))
  refine qv (p := ((x.getD k ([], [], [], 0, 0, 0)).2.2.2.2.2 : Int) ≠ ((heldF ((x.getD k ([], [], [], 0, 0, 0)).2.2.1) (heldF ((x.getD k ([], [], [], 0, 0, 0)).2.1) (heldF ((x.getD k ([], [], [], 0, 0, 0)).1) (heldF ((x.take k).flatMap flatPk) z)))) + 1) + 1) rfl (fun h7 => ?_) (fun h7 => ?_)
  ·refine qc (qa (qg (ii (-1)) rfl (qb (qz (qk (qA (qk (qk (qA (qk (qs (L' := L) [ii (-1)] (ii (-1)) (.tmp rfl .nil) rfl rF rF sR ?_)))))))))))
   exact ⟨(vI (by exact held_fail (k := k) ([], [], [], 0, 0, 0) hzb.1 (by omega) (by rw [hnx (by omega), hun (by omega), if_neg (by assumption), if_neg (by assumption), if_neg (by assumption), if_pos (by first | assumption | exact Classical.not_not.1 (by assumption)), if_pos (by first | assumption | exact Classical.not_not.1 (by assumption)), if_neg (by assumption)]; omega))), rfl, rfl⟩
  refine qx (qa (qf (ii (((heldF ((x.getD k ([], [], [], 0, 0, 0)).2.2.1) (heldF ((x.getD k ([], [], [], 0, 0, 0)).2.1) (heldF ((x.getD k ([], [], [], 0, 0, 0)).1) (heldF ((x.take k).flatMap flatPk) z)))) + 1) + 1)) rfl (cX (qL ((((heldF ((x.getD k ([], [], [], 0, 0, 0)).2.2.1) (heldF ((x.getD k ([], [], [], 0, 0, 0)).2.1) (heldF ((x.getD k ([], [], [], 0, 0, 0)).1) (heldF ((x.take k).flatMap flatPk) z)))) + 1) + 1) + 1) rfl rfl (by omega) (by omega) (qg (ii ((((heldF ((x.getD k ([], [], [], 0, 0, 0)).2.2.1) (heldF ((x.getD k ([], [], [], 0, 0, 0)).2.1) (heldF ((x.getD k ([], [], [], 0, 0, 0)).1) (heldF ((x.take k).flatMap flatPk) z)))) + 1) + 1) + 1)) rfl (qb (qa (qf (ii ((k : Int))) rfl (cX (qL (((k + 1 : Nat) : Int)) rfl rfl (by omega) (by omega) (qg (ii (((k + 1 : Nat) : Int))) rfl (qb ?_))))))))))))
  exact ⟨k + 1, _, FLe.refl _, rF, ⟨rfl, (vI (by rw [hnx (by omega), hun (by omega), if_neg (by assumption), if_neg (by assumption), if_neg (by assumption), if_pos (by first | assumption | exact Classical.not_not.1 (by assumption)), if_pos (by first | assumption | exact Classical.not_not.1 (by assumption)), if_pos (by first | assumption | exact Classical.not_not.1 (by assumption))])), rfl, ⟨⟩⟩, sR, ⟨rfl, (by (try dsimp only) <;> omega), (by (try dsimp only); rw [hnx (by omega), hun (by omega), if_neg (by assumption), if_neg (by assumption), if_neg (by assumption), if_pos (by first | assumption | exact Classical.not_not.1 (by assumption)), if_pos (by first | assumption | exact Classical.not_not.1 (by assumption)), if_pos (by first | assumption | exact Classical.not_not.1 (by assumption))]; omega)⟩, (by omega)⟩
 refine jf (qu (qu (qN (qc (qa (qf (ii (heldF ((x.take k).flatMap flatPk) z)) rfl (qg (ii (heldF ((x.take k).flatMap flatPk) z)) rfl (qb (qz (qs (L' := L) [ii (heldF ((x.take k).flatMap flatPk) z)] (ii (heldF ((x.take k).flatMap flatPk) z)) (.tmp rfl .nil) rfl rF rF sR ?_))))))))))
 exact ⟨(vI (by rw [List.take_of_length_le (by omega)])), rfl, rfl⟩

/- impl.RootPeaks$1 -/
theorem RootPeaks1_spec {F : FH} {L : List HP} {tpv : Value} {tp : List Int} (htp : IntsF F tpv tp) {lfv : Value} {lf : List Int} (hlf : IntsF F lfv lf) {rtv : Value} {rt : List Int} (hrt : IntsF F rtv rt) {i1 : Int} {i2 : Int} {i3 : Int} :
    Does prog 105 [.agg #[tpv, lfv, rtv, ii (i1), ii (i2), ii (i3)]] F (L) (fun v F' L' => (.bool (!(rootQ (tp, lf, rt, i1, i2, i3))) : Value) = v ∧ F = F' ∧ L = L') := by
 refine qI func105 rfl rfl rfl (qc (qa (cX (jc [tpv, lfv, rtv, ii (i1), ii (i2), ii (i3)] rfl rfl ?_))))
 intro b1
 refine qg (.bool (false)) rfl (qb (qc (qa (cX (qm (3) qH rfl qn (by decide) rfl rfl (cX (qh qD rfl (Rd.own [] rfl rfl) (cX (jI rfl rfl (qg (.bool (decide ((i1 : Int) ≠ 0))) rfl (qb (qz (qs (L' := L) [.bool (decide ((i1 : Int) ≠ 0))] (.bool (decide ((i1 : Int) ≠ 0))) (.tmp rfl .nil) rfl rF rF (sD sR) ?_)))))))))))))
 exact ⟨(vB (by unfold rootQ; simp)), rfl, rfl⟩

/- slices.IndexFunc[[]impl.Peak,impl.Peak] -/
theorem IndexFuncQ_spec {F : FH} {L : List HP} {ksv : Value} {ks : List PkT} (hks : PeaksF F ksv ks)  (hlt : ks.length ≤ 4000000) :
    Does prog 172 [ksv, .func (.func 105) #[] #[]] F (L) (fun v F' L' => (ii (badG rootQ ks) : Value) = v ∧ F = F' ∧ L = L') := by
 refine qI func172 rfl rfl rfl (qc (qa (qg (ii (0)) rfl (qb (qc (qc (qa (qf (ksv) rfl (cX (qF qO rfl hks.slv (qf (ii (0)) rfl (qb (qJ (jh (α := Nat) (fun k => [(0, ksv), (1, .func (.func 105) #[] #[]), (7, ii ((ks.length : Int))), (8, ii ((k : Int)))]) (fun k => L) (fun k F' => F = F' ∧ (k ≤ ks.length) ∧ (∀ i, i < k → rootQ (ks.getD i ([], [], [], 0, 0, 0)) = true)) (fun k => ks.length - k) 0 ⟨rfl, rfl, rfl, rfl, ⟨⟩⟩ sR ⟨rfl, (by (try dsimp only) <;> omega), (fun i hi => absurd hi (by omega))⟩ ?_))))))))))))))
 rintro k rE _ _ ⟨rfl, hk, hall⟩
 show X _ _ _ _ (envs [(0, ksv), (1, .func (.func 105) #[] #[]), (7, ii ((ks.length : Int))), (8, ii ((k : Int)))] rE) _ (L)
 refine qc (qa (cX (qK rfl rfl (qb (qc ?_)))))
 refine qv (p := (k : Int) < (ks.length : Int)) rfl (fun h1 => ?_) (fun h1 => ?_)
 ·refine qx (qc (qJ (qc (qa (qf (ii ((k : Int))) rfl (qg (ii ((k : Int))) rfl (qb (qc (qa (qf (.func (.func 105) #[] #[]) rfl (qf (ksv) rfl (qf (ii ((k : Int))) rfl (cX (ql k qO qT rfl rfl rfl hks.slv (by omega) rfl ?_))))))))))))))
  obtain ⟨a1, a2, a3, ha1, ha2, ha3, hrg1, hq1⟩ := hks.rd (i := k) (by omega)
  refine cX (qE [a1, a2, a3, ii ((ks.getD k ([], [], [], 0, 0, 0)).2.2.2.1), ii ((ks.getD k ([], [], [], 0, 0, 0)).2.2.2.2.1), ii ((ks.getD k ([], [], [], 0, 0, 0)).2.2.2.2.2)] jH qT rfl rfl (Rd.all (hrg1 _)) (cX (XOp.callV (first := []) (captured := []) (args := [.agg #[a1, a2, a3, ii ((ks.getD k ([], [], [], 0, 0, 0)).2.2.2.1), ii ((ks.getD k ([], [], [], 0, 0, 0)).2.2.2.2.1), ii ((ks.getD k ([], [], [], 0, 0, 0)).2.2.2.2.2)]]) call105 rfl rfl (RootPeaks1_spec ha1 ha2 ha3) ?_)))
  rintro _ _ _ _ ⟨rfl, rfl, rfl⟩
  refine qb ?_
  refine X.cond (t := !(rootQ (((ks.getD k ([], [], [], 0, 0, 0)).1), ((ks.getD k ([], [], [], 0, 0, 0)).2.1), ((ks.getD k ([], [], [], 0, 0, 0)).2.2.1), ((ks.getD k ([], [], [], 0, 0, 0)).2.2.2.1), ((ks.getD k ([], [], [], 0, 0, 0)).2.2.2.2.1), ((ks.getD k ([], [], [], 0, 0, 0)).2.2.2.2.2)))) rfl (fun h2 => ?_) (fun h2 => ?_)
  ·refine qc (qa (qf (ii ((k : Int))) rfl (qg (ii ((k : Int))) rfl (qb (qz (qA (qk (qk (qA (qk (qs (L' := L) [ii ((k : Int))] (ii ((k : Int))) (.tmp rfl .nil) rfl rF rF sR ?_)))))))))))
   exact ⟨(vI (badG_at (([], [], [], 0, 0, 0) : PkT) (by omega) (by simp_all) hall)), rfl, rfl⟩
  refine qx (qa (cX (qL (((k + 1 : Nat) : Int)) rfl rfl (by omega) (by omega) (qf (ii (((k + 1 : Nat) : Int))) rfl (qb ?_)))))
  exact ⟨k + 1, _, FLe.refl _, rF, ⟨rfl, rfl, rfl, rfl, ⟨⟩⟩, sR, ⟨rfl, (by (try dsimp only) <;> omega), (fun i hi => (Nat.lt_or_ge i k).elim (fun h => hall i h) (fun h => by obtain rfl : i = k := (by omega); simp_all))⟩, (by omega)⟩
 refine jf (qu (qu (qN (qc (qa (qg (ii (-1)) rfl (qb (qz (qs (L' := L) [ii (-1)] (ii (-1)) (.tmp rfl .nil) rfl rF rF sR ?_)))))))))
 exact ⟨(vI (badG_none (([], [], [], 0, 0, 0) : PkT) (fun i hi => hall i (by omega)))), rfl, rfl⟩

/- slices.DeleteFunc[[]impl.Peak,impl.Peak] -/
set_option maxHeartbeats 1000000 in
set_option maxRecDepth 20000 in
theorem DeleteFuncQ_spec {F : FH} {L : List HP} {sv : Value} {cs0 : List Value} {xs : List PkT} {Ls : List HP} (hv : IsSl sv) (hC0 : PeaksC F cs0 xs) (hD0 : DeepL 6 (PeakO 2) cs0 xs Ls) (hxl : xs.length ≤ 4000000) :
    Does prog 104 [sv, .func (.func 105) #[] #[]] F (slH 76 6 sv xs.length cs0 :: L) (fun v F' L' => F = F' ∧ IsSl v ∧ ∃ (cs2 : List Value) (Lk : List HP), DeepL 6 (PeakO 2) cs2 (xs.filter rootQ) Lk ∧ Lk.Sublist Ls ∧ slH 76 6 v (xs.filter rootQ).length cs2 :: L = L') := by
 refine qI func104 rfl rfl rfl (qc (qa (qg (sN) rfl (qb (qc (qa (qf (sv) rfl (qf (.func (.func 105) #[] #[]) rfl (cX (XOp.lend [] _ _ rfl (fun F1 le1 hz1 => ?_)))))))))))
 have hf1 : PeaksF _ sv xs := (CO.fz (PeaksC.mono hC0 (qp le1 rF)) (by first | rfl | assumption | omega) hz1 : PeaksF _ sv xs)
 refine id (qr (args := [sv, .func (.func 105) #[] #[]]) call172 rfl (IndexFuncQ_spec hf1 (hlt := (hxl))) ?_)
 rintro _ _ _ _ ⟨rfl, rfl, rfl⟩
 show XL _ _ _ _ _ _ _ (slH 76 6 sv xs.length cs0 :: L)
 refine qg (ii (badG rootQ xs)) rfl (qb (qc (qc (qa (qf (ii (badG rootQ xs)) rfl (cX (jF rfl rfl (qb ?_))))))))
 refine qv (p := (badG rootQ xs : Int) = -1) rfl (fun h1 => ?_) (fun h1 => ?_)
 ·have hbm : badG rootQ xs = -1 := h1
  refine qc (qa (qf (sv) rfl (qg (sv) rfl (qb (qz (qk (qs (L' := slH 76 6 sv xs.length cs0 :: L) [sv] (sv) (.tmp rfl .nil) rfl rF rF (sC sR) ?_)))))))
  have e9 : xs.filter rootQ = xs := badG_miss hbm
  exact ⟨rfl, hv, cs0, Ls, by rw [e9]; exact hD0, List.Sublist.refl _, by rw [e9]⟩
 obtain ⟨i0, hi0, hib, hq0, hall0⟩ := badG_hit (([], [], [], 0, 0, 0) : PkT) h1
 refine qx (qc (qc (qa (qf (ii (badG rootQ xs)) rfl (cX (qL ((badG rootQ xs) + 1) rfl rfl (by omega) (by omega) (qg (ii ((badG rootQ xs) + 1)) rfl (qb (qJ (jh (α := Nat × Nat × List Value) (fun xQ => [(0, sv), (1, .func (.func 105) #[] #[]), (5, ii (((xQ.1 : Nat) : Int))), (6, ii (((xQ.2.1 : Nat) : Int)))]) (fun xQ => slH 76 6 sv xs.length xQ.2.2 :: L) (fun xQ F' => F = F' ∧ (DelI 6 (PeakO 2) rootQ cs0 xs xQ.2.2 xQ.1 xQ.2.1) ∧ (xQ.1 < xQ.2.1)) (fun xQ => xs.length - xQ.2.1) (i0, i0 + 1, cs0) ⟨rfl, rfl, (vI (by (try dsimp only); omega)), (vI (by (try dsimp only); omega)), ⟨⟩⟩ (sC sR) ⟨rfl, ((DelI.all (d := (([], [], [], 0, 0, 0) : PkT)) hD0 i0 (by omega) hall0).drop hD0 hi0 hq0), (by (try dsimp only); omega)⟩ ?_))))))))))
 rintro ⟨i, j, cs⟩ rE _ _ ⟨rfl, hdl, hij⟩
 show X _ _ _ _ (envs [(0, sv), (1, .func (.func 105) #[] #[]), (5, ii ((i : Int))), (6, ii ((j : Int)))] rE) _ (slH 76 6 sv xs.length cs :: L)
 dsimp only at hdl hij
 have hjl := hdl.le
 have hij9 := hdl.ij
 refine qc (qc (qa (qf (ii ((j : Int))) rfl (qf (sv) rfl (cX (qF qO rfl (SlV.own [] rfl) (cX (qK rfl rfl (qb ?_)))))))))
 refine qv (p := (j : Int) < (xs.length : Int)) rfl (fun h2 => ?_) (fun h2 => ?_)
 ·refine qx (qc (qJ (qc (qa (qf (sv) rfl (qf (ii ((j : Int))) rfl (cX (ql j qO qT rfl rfl rfl (SlV.own [] rfl) (by omega) rfl ?_))))))))
  have hjx : j < xs.length := by omega
  obtain ⟨a9, b9, c9, ha9, hb9, hc9, hr9⟩ := hC0.get hjx
  have hg9 : ∀ q u, ([a9, b9, c9, ii ((xs.getD j ([], [], [], 0, 0, 0)).2.2.2.1), ii ((xs.getD j ([], [], [], 0, 0, 0)).2.2.2.2.1), ii ((xs.getD j ([], [], [], 0, 0, 0)).2.2.2.2.2)] : List Value)[q]? = some u → cs[j * 6 + q]? = some u := fun q u h => hdl.at (hr9 q u h)
  skip
  refine cX (qE [a9, b9, c9, ii ((xs.getD j ([], [], [], 0, 0, 0)).2.2.2.1), ii ((xs.getD j ([], [], [], 0, 0, 0)).2.2.2.2.1), ii ((xs.getD j ([], [], [], 0, 0, 0)).2.2.2.2.2)] jH qT rfl rfl (Rd.slG [] rfl 0 hg9 rfl) (cX (jy [sN, sN, sN, ii (0), ii (0), ii (0)] jj rfl ?_)))
  intro b1
  refine cX (jn [] _ [a9, b9, c9, ii ((xs.getD j ([], [], [], 0, 0, 0)).2.2.2.1), ii ((xs.getD j ([], [], [], 0, 0, 0)).2.2.2.2.1), ii ((xs.getD j ([], [], [], 0, 0, 0)).2.2.2.2.2)] qT rfl rfl rfl (qq (je (qB ha9)) (qq (je (qB hb9)) (qq (je (qB hc9)) (qq rfl (qq rfl (qq rfl jm)))))) rfl rfl rfl (qb (qc (qa (qf (.func (.func 105) #[] #[]) rfl (cX (qE [a9, b9, c9, ii ((xs.getD j ([], [], [], 0, 0, 0)).2.2.2.1), ii ((xs.getD j ([], [], [], 0, 0, 0)).2.2.2.2.1), ii ((xs.getD j ([], [], [], 0, 0, 0)).2.2.2.2.2)] jH qT rfl rfl (Rd.ownN [] rfl rfl) (cX (XOp.callV (first := []) (captured := []) (args := [.agg #[a9, b9, c9, ii ((xs.getD j ([], [], [], 0, 0, 0)).2.2.2.1), ii ((xs.getD j ([], [], [], 0, 0, 0)).2.2.2.2.1), ii ((xs.getD j ([], [], [], 0, 0, 0)).2.2.2.2.2)]]) call105 rfl rfl (RootPeaks1_spec ha9 hb9 hc9) ?_)))))))))
  rintro _ _ _ _ ⟨rfl, rfl, rfl⟩
  refine cX (js rfl (qb ?_))
  refine X.cond (t := !(!(rootQ (((xs.getD j ([], [], [], 0, 0, 0)).1), ((xs.getD j ([], [], [], 0, 0, 0)).2.1), ((xs.getD j ([], [], [], 0, 0, 0)).2.2.1), ((xs.getD j ([], [], [], 0, 0, 0)).2.2.2.1), ((xs.getD j ([], [], [], 0, 0, 0)).2.2.2.2.1), ((xs.getD j ([], [], [], 0, 0, 0)).2.2.2.2.2))))) rfl (fun h3 => ?_) (fun h3 => ?_)
  ·have hq9 : rootQ (xs.getD j ([], [], [], 0, 0, 0)) = true := by first | simpa using h3 | exact h3
   refine qc (qa (qf (sv) rfl (qf (ii ((i : Int))) rfl (cX (qE [a9, b9, c9, ii ((xs.getD j ([], [], [], 0, 0, 0)).2.2.2.1), ii ((xs.getD j ([], [], [], 0, 0, 0)).2.2.2.2.1), ii ((xs.getD j ([], [], [], 0, 0, 0)).2.2.2.2.2)] jH qT rfl rfl (Rd.ownN [] rfl rfl) (cX (ql i qO qT rfl rfl rfl (SlV.own [_] rfl) (by omega) rfl (cX (XOp.storeSN (i := i * 6) (m := 6) (vs := [a9, b9, c9, ii ((xs.getD j ([], [], [], 0, 0, 0)).2.2.2.1), ii ((xs.getD j ([], [], [], 0, 0, 0)).2.2.2.2.1), ii ((xs.getD j ([], [], [], 0, 0, 0)).2.2.2.2.2)]) (cs := cs) [_] _ qT rfl rfl rfl (qq (je (qB ha9)) (qq (je (qB hb9)) (qq (je (qB hc9)) (qq rfl (qq rfl (qq rfl jm)))))) rfl (by have h9 := hdl.len; have h8 := hD0.len; (try simp only [List.length_cons, List.length_nil]); omega) (Nat.succ_pos _) (qb (qa (qf (ii ((i : Int))) rfl (cX (qL (((i + 1 : Nat) : Int)) rfl rfl (by omega) (by omega) (qg (ii (((i + 1 : Nat) : Int))) rfl ?_)))))))))))))))
   refine qb (qa (qf (ii ((j : Int))) rfl (cX (qL (((j + 1 : Nat) : Int)) rfl rfl (by omega) (by omega) (qg (ii (((j + 1 : Nat) : Int))) rfl (qb ?_))))))
   exact ⟨(i + 1, j + 1, (cs.take (i * 6) ++ [a9, b9, c9, ii ((xs.getD j ([], [], [], 0, 0, 0)).2.2.2.1), ii ((xs.getD j ([], [], [], 0, 0, 0)).2.2.2.2.1), ii ((xs.getD j ([], [], [], 0, 0, 0)).2.2.2.2.2)] ++ cs.drop (i * 6 + 6))), _, FLe.refl _, rF, ⟨rfl, rfl, rfl, rfl, ⟨⟩⟩, (sD (sC sR)), ⟨rfl, (hdl.keep hD0 hjx hq9 rfl (fun p u h => hr9 p u h)), (by (try dsimp only); omega)⟩, (by (try dsimp only); omega)⟩
  have hq9 : rootQ (xs.getD j ([], [], [], 0, 0, 0)) = false := by first | simpa using h3 | exact h3
  refine qx (qa (qf (ii ((j : Int))) rfl (cX (qL (((j + 1 : Nat) : Int)) rfl rfl (by omega) (by omega) (qg (ii (((j + 1 : Nat) : Int))) rfl (qb ?_))))))
  exact ⟨(i, j + 1, cs), _, FLe.refl _, rF, ⟨rfl, rfl, rfl, rfl, ⟨⟩⟩, (sD (sC sR)), ⟨rfl, (hdl.drop hD0 hjx hq9), (by (try dsimp only); omega)⟩, (by (try dsimp only); omega)⟩
 refine jf (qu (qu (qN (qc (qa (qf (sv) rfl (qf (ii ((i : Int))) rfl (cX (XOp.sliceTail (s := 6) (cs := cs) [] _ i qO qT rfl rfl ⟨_, rfl⟩ (by omega) ?_)))))))))
 intro v1 hT1
 refine cX (XOp.clearTail (s := 6) (cs := cs) [] _ [sN, sN, sN, ii (0), ii (0), ii (0)] qO jj rfl (by decide) (by decide) rfl hT1 (by omega) rfl ?_)
 intro Z1 hZ1
 refine qb (qc (qa (qf (sv) rfl (qf (ii ((i : Int))) rfl (cX (XOp.sliceOwn (cs := (cs.take (i * 6) ++ Z1)) [] _ i qO qT rfl rfl ⟨_, rfl⟩ (by omega) ?_))))))
 intro v2 hs1
 refine qg (v2) rfl (qb (qz (qs (L' := slH 76 6 v2 i ((((cs.take (i * 6) ++ Z1)).take (i * 6))) :: L) [v2] (v2) (.tmp rfl .nil) rfl rF rF (sC sR) ?_)))
 obtain ⟨e9, Lk, hk, hsub⟩ := hdl.done (by omega) hD0 PeakO.fn
 have hl9 : i * 6 ≤ (cs.take (i * 6)).length := by rw [List.length_take, hdl.len, hD0.len]; omega
 have e8 : (((cs.take (i * 6) ++ Z1)).take (i * 6)) = cs.take (i * 6) := by rw [List.take_append_of_le_length hl9, List.take_take, Nat.min_self]
 exact ⟨rfl, hs1, cs.take (i * 6), Lk, hk, hsub, by rw [e8, ← e9]⟩

/- impl.RootPeaks -/
theorem RootPeaks_spec {F : FH} {L : List HP} {arv : Value} {ar : List Int} (har : IntsF F arv ar) {rsv : Value} {rs : List (List Int × List Int)} (hrs : PairsF F rsv rs) :
    Does prog 44 [.agg #[arv, rsv]] F (L) (fun v F' L' => ∃ (a : Value), (a : Value) = v ∧ (PeaksF F' a (psR ar rs)) ∧ (Fresh F F' (star [peaksD 2 76 a (psR ar rs)])) ∧ L = L') := by
 refine qI func44 rfl rfl rfl (qc (qa (cX (jc [arv, rsv] rfl rfl ?_))))
 intro b1
 refine qg (sN) rfl (qb (qc (qa (cX (qE [arv, rsv] isAgg32 jB rfl rfl (Rd.ownN [] rfl rfl) (cX (XOp.thawL (id (qr (args := [.agg #[arv, rsv]]) call38 rfl (PeaksOf_spec har hrs) ?_)))))))))
 rintro _ F1 _ le1 ⟨x1, rfl, hr1, hr2, rfl⟩
 refine ⟨[peaksD 2 76 x1 (((psO ar rs).getD []))], hr2, ?_⟩
 show XL _ _ _ _ _ _ _ (peaksD 2 76 x1 (((psO ar rs).getD [])) :: cellsH b1 [arv, rsv] 32 :: L)
 refine qf (.tuple #[x1, .bool ((psO ar rs).isSome)]) rfl (cX (qY (x1) rfl rfl (cX (qY (.bool ((psO ar rs).isSome)) rfl rfl (qg (x1) rfl (XL.openD [] _ rfl (fun cs1 Ls1 F2 le2 hs1 hD1 hZ1 => ?_)))))))
 have hc1 := hD1.peaks hZ1
 show XL _ _ _ _ _ _ _ (slH 76 6 x1 ((((psO ar rs).getD [])).length) cs1 :: cellsH b1 [arv, rsv] 32 :: L)
 have hnl := psO_len (ar := ar) (rs := rs)
 refine qg (.bool ((psO ar rs).isSome)) rfl (qb (qc (qa (qf (x1) rfl (cX (qr (args := [x1, .func (.func 105) #[] #[]]) call104 rfl (DeleteFuncQ_spec hs1 hc1 hD1 (by omega)) ?_))))))
 rintro v1 _ _ _ ⟨rfl, hs2, cs2, Lk1, hd1, hsub1, rfl⟩
 have hc2 := hd1.peaks (hZ1.sub hsub1)
 show XL _ _ _ _ _ _ _ (slH 76 6 v1 (((((psO ar rs).getD [])).filter rootQ).length) cs2 :: cellsH b1 [arv, rsv] 32 :: L)
 refine qg (v1) rfl (qb (X.freezeF [] _ _ rfl (fun F3 le3 hz1 => ?_)))
 replace hc2 := hc2.mono le3
 have hf1 : PeaksF F3 v1 (((((psO ar rs).getD [])).filter rootQ)) := CO.fz hc2 (by first | rfl | omega | (rw [List.length_set]; omega) | (simp; done)) hz1.fz
 refine qz (qs (L' := L) [v1] (v1) (.tmp rfl .nil) rfl (qp le2 le3) rF (sD sR) ?_)
 exact ⟨_, rfl, hf1, (Fresh.one (Fresh.deep hd1 (hZ1.sub hsub1) le2 hz1 rfl le3)), rfl⟩

/- spec.RootPeaks -/
set_option maxRecDepth 20000 in
theorem sRootPeaks_spec {F : FH} {L : List HP} {arv : Value} {ar : List Int} (har : IntsF F arv ar) {rsv : Value} {rs : List (List Int × List Int)} (hrs : PairsF F rsv rs) (hla : ar.length ≤ 4000000) (hlr : rs.length ≤ 4000000) (hrb : ∀ i, i < rs.length → (rs.getD i ([], [])).1.length ≤ 4000000 ∧ (rs.getD i ([], [])).2.length ≤ 4000000) :
    Does prog 43 [.agg #[arv, rsv]] F (L) (fun v F' L' => ∃ (a : Value), (a : Value) = v ∧ (PeaksF F' a (psR ar rs)) ∧ L = L') := by
 refine qI func43 rfl rfl rfl ?_
 have hnl := psO_len (ar := ar) (rs := rs)
 refine qc (qa (cX (jc [arv, rsv] rfl rfl ?_)))
 intro b1
 refine qg (sN) rfl (qb (qc (qa (cX (qS (s := 6) [] [sN, sN, sN, ii (0), ii (0), ii (0)] [] qO qT jj rfl (by decide) rfl CellsAre.nil rfl ?_)))))
 intro v1 hv1
 refine qg (v1) rfl (qb (qc (qa (cX (qE [arv, rsv] isAgg32 jB rfl rfl (Rd.ownN [_] rfl rfl) (cX (qr (args := [.agg #[arv, rsv]]) call37 rfl (sPeaksOf_spec har hrs (hla := (by first | assumption | rfl | omega | simp)) (hlr := (by first | assumption | rfl | omega | simp)) (hrb := (by first | assumption | rfl | omega | simp))) ?_)))))))
 rintro _ F1 _ le1 ⟨x1, rfl, hr1, rfl⟩
 refine qf (.tuple #[x1, .bool ((psO ar rs).isSome)]) rfl (cX (qY (x1) rfl rfl (cX (qY (.bool ((psO ar rs).isSome)) rfl rfl (qg (x1) rfl (qg (.bool ((psO ar rs).isSome)) rfl (qb (qc (qc (qa (qg (ii (0)) rfl (qb (qJ ?_)))))))))))))
 have hc1 : PeaksC F1 [] ([] : List PeakT) := (CO.nil : PeaksC F1 [] [])
 refine jh (α := Nat × Value × List PkT × List Value × Nat × FH) (fun xQ => [(3, xQ.2.1), (4, x1), (6, ii (((xQ.1 : Nat) : Int)))]) (fun xQ => slH 76 6 xQ.2.1 xQ.2.2.2.2.1 xQ.2.2.2.1 :: L) (fun xQ F' => xQ.2.2.2.2.2 = F' ∧ F1 ≤ xQ.2.2.2.2.2 ∧ (IsSl xQ.2.1) ∧ (PeaksC xQ.2.2.2.2.2 xQ.2.2.2.1 xQ.2.2.1) ∧ (xQ.2.2.2.2.1 = xQ.2.2.1.length) ∧ (xQ.1 ≤ ((psO ar rs).getD []).length) ∧ (xQ.2.2.1 = (((psO ar rs).getD []).take xQ.1).filter rootQ) ∧ (xQ.2.2.1.length ≤ xQ.1)) (fun xQ => ((psO ar rs).getD []).length - xQ.1) (0, v1, ([] : List PeakT), [], 0, F1) ⟨rfl, rfl, rfl, ⟨⟩⟩ (sC (sD sR)) ⟨rfl, FLe.refl _, ((jJ hv1)), (hc1), (rfl), (by (try dsimp only) <;> omega), (rfl), (Nat.le_refl _)⟩ ?_
 rintro ⟨k, ov, os, cs, m, G1⟩ rE _ _ ⟨rfl, leG, hov, hC, hm, hk, hos, hol⟩
 show X _ _ _ _ (envs [(3, ov), (4, x1), (6, ii ((k : Int)))] rE) _ (slH 76 6 ov m cs :: L)
 replace leG : F1 ≤ G1 := leG
 dsimp only at hov hC hm hk hos hol
 have leG1 := leG
 replace hr1 := hr1.mono leG1
 refine qc (qc (qa (qf (ii ((k : Int))) rfl (qf (x1) rfl (cX (qF qO rfl hr1.slv (cX (qK rfl rfl (qb ?_)))))))))
 refine qv (p := (k : Int) < (((((psO ar rs).getD [])).length : Nat) : Int)) rfl (fun h1 => ?_) (fun h1 => ?_)
 ·refine qx (qc (qJ (qc (qa (qf (x1) rfl (qf (ii ((k : Int))) rfl (cX (ql k qO qT rfl rfl rfl hr1.slv (by omega) rfl (cX (jp (k * 6 + 3) qH rfl qn (by decide) rfl rfl ?_))))))))))
  obtain ⟨a1, a2, a3, ha1, ha2, ha3, hrg1, hq1⟩ := hr1.rd (i := k) (by omega)
  refine cX (qh qD rfl (hrg1 _ 3 _ rfl) (cX (jF rfl rfl (qb ?_))))
  refine qv (p := (((((psO ar rs).getD [])).getD k ([], [], [], 0, 0, 0)).2.2.2.1 : Int) = 0) rfl (fun h2 => ?_) (fun h2 => ?_)
  ·have hq9 : rootQ (((psO ar rs).getD []).getD k ([], [], [], 0, 0, 0)) = true := decide_eq_true h2
   refine qa (qf (ov) rfl (qf (x1) rfl (qf (ii ((k : Int))) rfl (cX (ql k qO qT rfl rfl rfl hr1.slv (by omega) rfl (cX (qE [a1, a2, a3, ii (((((psO ar rs).getD [])).getD k ([], [], [], 0, 0, 0)).2.2.2.1), ii (((((psO ar rs).getD [])).getD k ([], [], [], 0, 0, 0)).2.2.2.2.1), ii (((((psO ar rs).getD [])).getD k ([], [], [], 0, 0, 0)).2.2.2.2.2)] jH qT rfl rfl (Rd.all (hrg1 _)) (cX (qS (s := 6) [a1, a2, a3, ii (((((psO ar rs).getD [])).getD k ([], [], [], 0, 0, 0)).2.2.2.1), ii (((((psO ar rs).getD [])).getD k ([], [], [], 0, 0, 0)).2.2.2.2.1), ii (((((psO ar rs).getD [])).getD k ([], [], [], 0, 0, 0)).2.2.2.2.2)] [sN, sN, sN, ii (0), ii (0), ii (0)] [(0, [a1, a2, a3, ii (((((psO ar rs).getD [])).getD k ([], [], [], 0, 0, 0)).2.2.2.1), ii (((((psO ar rs).getD [])).getD k ([], [], [], 0, 0, 0)).2.2.2.2.1), ii (((((psO ar rs).getD [])).getD k ([], [], [], 0, 0, 0)).2.2.2.2.2)])] qO qT jj rfl (by decide) rfl (.cons rfl CellsAre.nil) rfl ?_)))))))))
   intro v2 hv2
   refine cX (XOp.append (m := 1) (bytes := 96) (cs := cs) [_] _ [a1, a2, a3, ii (((((psO ar rs).getD [])).getD k ([], [], [], 0, 0, 0)).2.2.2.1), ii (((((psO ar rs).getD [])).getD k ([], [], [], 0, 0, 0)).2.2.2.2.1), ii (((((psO ar rs).getD [])).getD k ([], [], [], 0, 0, 0)).2.2.2.2.2)] qO typeInfo76 rfl rfl rfl rfl rfl rfl rfl (SlV.own [] rfl) rfl (Rd.lit [] rfl) (qq (je (qB ha1)) (qq (je (qB ha2)) (qq (je (qB ha3)) (qq rfl (qq rfl (qq rfl jm)))))) (by (try simp only [List.length_append, List.length_nil, List.length_cons, List.length_singleton]); omega) (by (try simp only [List.length_append, List.length_nil, List.length_cons, List.length_singleton]); omega) ?_)
   intro v3 hs1 hn1 hm1
   have hc2 := PeaksC.snoc hC (y0 := ((((psO ar rs).getD [])).getD k ([], [], [], 0, 0, 0)).1) (y1 := ((((psO ar rs).getD [])).getD k ([], [], [], 0, 0, 0)).2.1) (y2 := ((((psO ar rs).getD [])).getD k ([], [], [], 0, 0, 0)).2.2.1) (y3 := ((((psO ar rs).getD [])).getD k ([], [], [], 0, 0, 0)).2.2.2.1) (y4 := ((((psO ar rs).getD [])).getD k ([], [], [], 0, 0, 0)).2.2.2.2.1) (y5 := ((((psO ar rs).getD [])).getD k ([], [], [], 0, 0, 0)).2.2.2.2.2) ha1 ha2 ha3
   refine qg (v3) rfl (qb (qa (qf (ii ((k : Int))) rfl (cX (qL (((k + 1 : Nat) : Int)) rfl rfl (by omega) (by omega) (qg (ii (((k + 1 : Nat) : Int))) rfl (qb ?_)))))))
   exact ⟨(k + 1, v3, os ++ [(((((psO ar rs).getD [])).getD k ([], [], [], 0, 0, 0)).1, ((((psO ar rs).getD [])).getD k ([], [], [], 0, 0, 0)).2.1, ((((psO ar rs).getD [])).getD k ([], [], [], 0, 0, 0)).2.2.1, ((((psO ar rs).getD [])).getD k ([], [], [], 0, 0, 0)).2.2.2.1, ((((psO ar rs).getD [])).getD k ([], [], [], 0, 0, 0)).2.2.2.2.1, ((((psO ar rs).getD [])).getD k ([], [], [], 0, 0, 0)).2.2.2.2.2)], cs ++ [a1, a2, a3, ii (((((psO ar rs).getD [])).getD k ([], [], [], 0, 0, 0)).2.2.2.1), ii (((((psO ar rs).getD [])).getD k ([], [], [], 0, 0, 0)).2.2.2.2.1), ii (((((psO ar rs).getD [])).getD k ([], [], [], 0, 0, 0)).2.2.2.2.2)], (m) + 1, G1), _, leG1, rF, ⟨rfl, rfl, rfl, ⟨⟩⟩, (sD (sC sR)), ⟨rfl, leG1, (hs1), (hc2), (by (try dsimp only); (try rw [List.length_append, List.length_singleton]); omega), (by (try dsimp only) <;> omega), (by (try dsimp only); rw [hos]; first | exact (filter_yes _ (by omega) hq9).symm | exact (filter_no _ (by omega) hq9).symm), (by (try dsimp only); (try rw [List.length_append, List.length_singleton]); omega)⟩, (by omega)⟩
  have hq9 : rootQ (((psO ar rs).getD []).getD k ([], [], [], 0, 0, 0)) = false := decide_eq_false h2
  refine qx (qa (qf (ii ((k : Int))) rfl (cX (qL (((k + 1 : Nat) : Int)) rfl rfl (by omega) (by omega) (qg (ii (((k + 1 : Nat) : Int))) rfl (qb ?_))))))
  exact ⟨(k + 1, ov, os, cs, m, G1), _, leG1, rF, ⟨rfl, rfl, rfl, ⟨⟩⟩, (sC sR), ⟨rfl, leG1, (hov), (hC), (by (try dsimp only); (try rw [List.length_append, List.length_singleton]); omega), (by (try dsimp only) <;> omega), (by (try dsimp only); rw [hos]; first | exact (filter_yes _ (by omega) hq9).symm | exact (filter_no _ (by omega) hq9).symm), (by (try dsimp only); (try rw [List.length_append, List.length_singleton]); omega)⟩, (by omega)⟩
 refine jf (qu (qu (qN (qc (qa (qf (ov) rfl (qg (ov) rfl (qb (X.freezeF [] _ _ rfl (fun F2 le2 hz1 => ?_))))))))))
 replace hC := hC.mono le2
 have hf1 : PeaksF F2 ov os := CO.fz hC (by first | rfl | omega | (rw [List.length_set]; omega) | (simp; done)) hz1.fz
 refine qz (qs (L' := L) [ov] (ov) (.tmp rfl .nil) rfl (qp (qp le1 leG1) le2) rF sR ?_)
 have e9 : os = psR ar rs := by rw [hos, show k = ((psO ar rs).getD []).length from by omega, List.take_length]; rfl
 rw [← e9]
 exact ⟨_, rfl, hf1, rfl⟩

/- laws.FnExactRootPeaks -/
set_option maxRecDepth 20000 in
theorem FnExactRootPeaks_does {F : FH} {L : List HP} {arv : Value} {ar : List Int} (har : IntsF F arv ar) {rsv : Value} {rs : List (List Int × List Int)} (hrs : PairsF F rsv rs) (hlar : ar.length ≤ 9223372036854775807) (hlrs : rs.length ≤ 9223372036854775807) (hbrs : ∀ i, i < rs.length → (rs.getD i ([], [])).1.length ≤ 9223372036854775807 ∧ (rs.getD i ([], [])).2.length ≤ 9223372036854775807) :
    Does prog 8 [.agg #[arv, rsv]] F (L) (fun v F' L' => (.bool (true) : Value) = v ∧ F = F' ∧ L = L') := by
 refine qI func8 rfl rfl rfl ?_
 have hnl := psR_len (ar := ar) (rs := rs)
 have hnb := psR_at (ar := ar) (rs := rs)
 have hnf := psR_flat (ar := ar) (rs := rs)
 refine qc (qa (cX (jc [arv, rsv] rfl rfl ?_)))
 intro b1
 refine qg (.bool (false)) rfl (qb (qc (qa (qg (ii (1048576)) rfl (qb (qc (qa (cX (qE [arv, rsv] isAgg58 sizeOf58 rfl rfl (Rd.ownN [] rfl rfl) (qf (ii (1048576)) rfl (cX (qr (args := [.agg #[arv, rsv], ii (1048576)]) call30 rfl (szSystem_spec (z := 1048576) har hrs (hz := (by first | assumption | rfl | omega | simp)) (hal := (by first | assumption | rfl | omega | simp)) (hrl := (by first | assumption | rfl | omega | simp)) (hrb := (by first | assumption | rfl | omega | simp))) ?_))))))))))))
 rintro _ _ _ _ ⟨rfl, rfl, rfl⟩
 refine qg (ii (dec 1048576 (ar.length + szR rs))) rfl (qb (qc (qc (qa (qf (ii (dec 1048576 (ar.length + szR rs))) rfl (cX (qK rfl rfl (qb ?_))))))))
 refine qv (p := (dec 1048576 (ar.length + szR rs) : Int) < 0) rfl (fun h1 => ?_) (fun h1 => ?_)
 ·refine qc (qa (qg (.bool (true)) rfl (qb (qz (qk (qs (L' := L) [.bool (true)] (.bool (true)) (.tmp rfl .nil) rfl rF rF (sD sR) ?_))))))
  exact ⟨rfl, rfl, rfl⟩
 have hd1 := dec_le2 h1 (by omega)
 have hzrs := szR_le (rs := rs)
 have hirs := hzrs.2
 have hcrs : ∀ i, i < rs.length → (rs.getD i ([], [])).1.length ≤ 4000000 ∧ (rs.getD i ([], [])).2.length ≤ 4000000 := fun i hi => by have := hirs i hi; omega
 have hfrs := flatPair_len rs
 refine qx (qc (qa (cX (qE [arv, rsv] isAgg58 sizeOf58 rfl rfl (Rd.ownN [] rfl rfl) (cX (XOp.thawL (id (qr (args := [.agg #[arv, rsv]]) call32 rfl (toSystem_spec har hrs (hla := (by first | assumption | rfl | omega | simp)) (hrl := (by first | assumption | rfl | omega | simp)) (hrb := (by first | assumption | rfl | omega | simp))) ?_))))))))
 rintro _ F1 _ le1 ⟨x1, x2, rfl, hr1, hr2, hr3, rfl⟩
 refine ⟨[intsH 2 x1 ar, pairsD 2 72 x2 rs], hr3, ?_⟩
 show XL _ _ _ _ _ _ _ (intsH 2 x1 ar :: pairsD 2 72 x2 rs :: cellsH b1 [arv, rsv] 58 :: L)
 refine XL.freezeF [] _ _ rfl (fun F2 le2 hz1 => ?_)
 replace har := har.mono le2
 replace hrs := hrs.mono le2
 have hf1 : IntsF F2 x1 ar := intsH.fz (xs := ar) hz1.fz
 refine XL.freezeF [] _ _ rfl (fun F3 le3 hz2 => ?_)
 replace har := har.mono le3
 replace hrs := hrs.mono le3
 replace hf1 := hf1.mono le3
 have hf2 : PairsF F3 x2 rs := pairsD.fz hz2.fz
 refine cX (qr (args := [.agg #[x1, x2]]) call43 rfl (sRootPeaks_spec hf1 hf2 (hla := (by first | assumption | rfl | omega | simp)) (hlr := (by first | assumption | rfl | omega | simp)) (hrb := (by first | assumption | rfl | omega | simp))) ?_)
 rintro _ F4 _ le4 ⟨x3, rfl, hr4, rfl⟩
 replace har := har.mono le4
 replace hrs := hrs.mono le4
 refine qg (x3) rfl (qb (qc (qa (cX (qE [arv, rsv] isAgg58 sizeOf58 rfl rfl (Rd.ownN [] rfl rfl) (cX (XOp.thawL (id (qr (args := [.agg #[arv, rsv]]) call32 rfl (toSystem_spec har hrs (hla := (by first | assumption | rfl | omega | simp)) (hrl := (by first | assumption | rfl | omega | simp)) (hrb := (by first | assumption | rfl | omega | simp))) ?_)))))))))
 rintro _ F5 _ le5 ⟨x4, x5, rfl, hr5, hr6, hr7, rfl⟩
 refine ⟨[intsH 2 x4 ar, pairsD 2 72 x5 rs], hr7, ?_⟩
 show XL _ _ _ _ _ _ _ (intsH 2 x4 ar :: pairsD 2 72 x5 rs :: cellsH b1 [arv, rsv] 58 :: L)
 refine cX (jy [sN, sN] zeroValue32 rfl ?_)
 intro b2
 refine cX (jn [] _ [x4, x5] jB rfl rfl rfl (qq (je (qB hr5)) (qq (je (PairsF.isSl hr6)) jm)) rfl rfl rfl (qb (qc (qa (cX (qE [x4, x5] isAgg32 jB rfl rfl (Rd.ownN [] rfl rfl) (cX (XOp.lend [_] _ _ rfl (fun F6 le6 hz3 => (id (XOp.lend [_] _ _ rfl (fun F7 le7 hz4 => ?_))))))))))))
 have hf3 : IntsF _ x4 ar := (intsH.fz (xs := ar) hz3).mono le7
 have hf4 : PairsF _ x5 rs := pairsD.fz hz4
 refine id (XOp.thawL (id (qr (args := [.agg #[x4, x5]]) call44 rfl (RootPeaks_spec hf3 hf4) ?_)))
 rintro _ F8 _ le8 ⟨x6, rfl, hr8, hr9, rfl⟩
 refine ⟨[peaksD 2 76 x6 (psR ar rs)], hr9, ?_⟩
 show XL _ _ _ _ _ _ _ (intsH 2 x4 ar :: pairsD 2 72 x5 rs :: peaksD 2 76 x6 (psR ar rs) :: cellsH b2 [x4, x5] 32 :: cellsH b1 [arv, rsv] 58 :: L)
 refine qg (x6) rfl (qb (qc (qc (qa (qf (x6) rfl (qf (x3) rfl (cX (XOp.lend [_, _] _ _ rfl (fun F9 le9 hz5 => ?_)))))))))
 have hf5 : PeaksF _ x6 (psR ar rs) := peaksD.fz hz5
 refine id (qr (args := [x6, x3]) call39 rfl (eqPeakS_spec hf5 ((hr4.mono le9)) (hal := (by omega)) (hbd := (fun i hi => by have := hnb i hi; omega))) ?_)
 rintro _ _ _ _ ⟨rfl, rfl, rfl⟩
 show XL _ _ _ _ _ _ _ (peaksD 2 76 x6 (psR ar rs) :: intsH 2 x4 ar :: pairsD 2 72 x5 rs :: cellsH b2 [x4, x5] 32 :: cellsH b1 [arv, rsv] 58 :: L)
 refine cX (jz rfl (qb ?_))
 refine qv (p := ¬((psR ar rs) = (psR ar rs))) rfl (fun h2 => ?_) (fun h2 => ?_)
 ·exact absurd (by first | rfl | exact ⟨rfl, rfl⟩ | exact ⟨⟨rfl, rfl⟩, rfl, rfl⟩ | simp) h2
 refine qx (qc (qc ?_))
 refine X.drawG [peaksD 2 76 x6 (psR ar rs), intsH 2 x4 ar, pairsD 2 72 x5 rs, cellsH b2 [x4, x5] 32, cellsH b1 [arv, rsv] 58] L 3 [] [[], [], [1]] [] (phiG [pe (.agg #[x4, x5]), pe (.agg #[arv, rsv]), fun FF us v => (.agg #[((aggAt v 0)), ((aggAt v 1))] : Value) = v ∧ (IntsF FF ((aggAt v 0)) ar) ∧ (PairsF FF ((aggAt v 1)) rs)]) (ownL []) mixed rfl rfl (by kernel_rfl) (by kernel_rfl) (MonoG.get (m1 (m1 (mC (fun le h => ⟨h.1, h.2.1.mono le, h.2.2.mono le⟩) MonoG.nil)))) ?_ ?_
 ·refine gD (fun W Fs R lF z9 => ?_) ?_
  ·replace har := har.mono lF
   replace hrs := hrs.mono lF
   replace hr4 := hr4.mono lF
   refine qi (qE [x4, x5] isAgg32 jB rfl rfl (Rd.ownN [_, _, _] rfl rfl) ?_)
   exact ⟨rfl, rfl⟩
  refine gD (fun W Fs R lF z9 => ?_) ?_
  ·replace har := har.mono lF
   replace hrs := hrs.mono lF
   replace hr4 := hr4.mono lF
   refine qi (qE [arv, rsv] isAgg58 sizeOf58 rfl rfl (Rd.ownN [_, _, _, _] rfl rfl) ?_)
   exact ⟨rfl, rfl⟩
  refine gD (fun W Fs R lF z9 => ?_) ?_
  ·replace har := har.mono lF
   replace hrs := hrs.mono lF
   replace hr4 := hr4.mono lF
   rw [eS (l := [(1, _)]) ⟨z9 1 rfl, ⟨⟩⟩]
   refine qi (qr (args := [.agg #[arv, rsv]]) call32 rfl (toSystem_spec har hrs (hla := (by first | assumption | rfl | omega | simp)) (hrl := (by first | assumption | rfl | omega | simp)) (hrb := (by first | assumption | rfl | omega | simp))) ?_)
   rintro _ F11 _ le11 ⟨x9, x10, rfl, hr13, hr14, hr15, rfl⟩
   replace har := har.mono le11
   replace hrs := hrs.mono le11
   replace hr4 := hr4.mono le11
   exact ⟨⟨rfl, hr13, hr14⟩, rfl⟩
  exact stepsG.nil
 intro W F12 le12 hphi
 obtain ⟨e2, f2_1hr1, f2_1hr2⟩ := hphi 2 (by decide)
 generalize hu1 : ((aggAt (W 2) 0)) = u1 at e2 f2_1hr1 f2_1hr2
 generalize hu2 : ((aggAt (W 2) 1)) = u2 at e2 f2_1hr1 f2_1hr2
 rw [eS (l := [(0, _), (2, (.agg #[u1, u2]))]) ⟨(hphi 0 (by decide)), (e2).symm, ⟨⟩⟩]
 replace har := har.mono le12
 replace hrs := hrs.mono le12
 replace hr4 := hr4.mono le12
 show XL _ _ _ _ _ _ _ (peaksD 2 76 x6 (psR ar rs) :: intsH 2 x4 ar :: pairsD 2 72 x5 rs :: cellsH b2 [x4, x5] 32 :: cellsH b1 [arv, rsv] 58 :: L)
 refine cX (XOp.lend [_] _ _ rfl (fun F13 le13 hz6 => (id (XOp.lend [_] _ _ rfl (fun F14 le14 hz7 => ?_)))))
 have hf6 : IntsF _ x4 ar := (intsH.fz (xs := ar) hz6).mono le14
 have hf7 : PairsF _ x5 rs := pairsD.fz hz7
 refine id (qr (args := [.agg #[x4, x5], .agg #[u1, u2]]) call34 rfl (eqSystem_spec hf6 hf7 ((f2_1hr1.mono (qp le13 le14))) ((f2_1hr2.mono (qp le13 le14))) (hcl := (by first | assumption | rfl | omega | simp)) (hal := (by first | assumption | rfl | omega | simp)) (hbd := (by first | assumption | rfl | omega | simp))) ?_)
 rintro _ _ _ _ ⟨rfl, rfl, rfl⟩
 show XL _ _ _ _ _ _ _ (intsH 2 x4 ar :: pairsD 2 72 x5 rs :: peaksD 2 76 x6 (psR ar rs) :: cellsH b2 [x4, x5] 32 :: cellsH b1 [arv, rsv] 58 :: L)
 refine cX (jz rfl (qb ?_))
 refine qv (p := ¬(ar = ar ∧ rs = rs)) rfl (fun h3 => ?_) (fun h3 => ?_)
 ·exact absurd (by first | rfl | exact ⟨rfl, rfl⟩ | exact ⟨⟨rfl, rfl⟩, rfl, rfl⟩ | simp) h3
 refine qx (qc (qa (qg (ii (1)) rfl (qb (qc (qa (cX (qE [x4, x5] isAgg32 jB rfl rfl (Rd.ownN [_, _, _] rfl rfl) (qf (ii (1)) rfl (qW (qw (A := [_])) ?_))))))))))
 show XL _ _ _ _ _ _ _ (pairsD 2 72 x5 rs :: intsH 2 x4 ar :: peaksD 2 76 x6 (psR ar rs) :: cellsH b2 [x4, x5] 32 :: cellsH b1 [arv, rsv] 58 :: L)
 refine qW (qw (A := [_])) ?_
 show XL _ _ _ _ _ _ _ (intsH 2 x4 ar :: pairsD 2 72 x5 rs :: peaksD 2 76 x6 (psR ar rs) :: cellsH b2 [x4, x5] 32 :: cellsH b1 [arv, rsv] 58 :: L)
 refine cX (qr (args := [.agg #[x4, x5], ii (1)]) call40 rfl (markSystem_spec (by (try simp only [List.length_append]); omega) (by omega)) ?_)
 rintro _ _ _ _ ⟨m1, m2, hm1, hk1, rfl, rfl, rfl⟩
 have hml1 := congrArg List.length hm1
 rw [iota_len] at hml1
 try simp only [List.length_append] at hml1
 refine qg (ii (1 + (((ar) ++ (rs.flatMap flatPair)).length : Int))) rfl (qb (qc (qc (qa (qf (ii (1 + (((ar) ++ (rs.flatMap flatPair)).length : Int))) rfl (cX (qK rfl rfl (qf (.bool (decide ((1 + (((ar) ++ (rs.flatMap flatPair)).length : Int) : Int) < 0))) rfl ?_))))))))
 by_cases h4 : (1 + (((ar) ++ (rs.flatMap flatPair)).length : Int) : Int) < 0
 ·exact absurd h4 (by omega)
 refine qy (t := 37) rfl (vF h4) (qj (x6) rfl (qy (t := 37) rfl (vF h4) (qj (x3) rfl (qy (t := 37) rfl (vF h4) (XOp.lend [_, _] _ _ rfl (fun F15 le15 hz8 => ?_))))))
 have hf8 : PeaksF _ x6 (psR ar rs) := peaksD.fz hz8
 refine id (qr (args := [x6, x3]) call39 rfl (eqPeakS_spec hf8 ((hr4.mono le15)) (hal := (by omega)) (hbd := (fun i hi => by have := hnb i hi; omega))) ?_)
 rintro _ _ _ _ ⟨rfl, rfl, rfl⟩
 show XL _ _ _ _ _ _ _ (peaksD 2 76 x6 (psR ar rs) :: intsH 2 x4 m1 :: pairsD 2 72 x5 m2 :: cellsH b2 [x4, x5] 32 :: cellsH b1 [arv, rsv] 58 :: L)
 refine qy (t := 37) rfl (vF h4) (jz rfl (cX (qV (.bool (decide (¬((psR ar rs) = (psR ar rs))))) (vF h4) rfl (qb (jv (vF h2) (qx (qc (qa (qg (ii (1)) rfl (qb (qc (qa (qf (x6) rfl (qf (ii (1)) rfl (cX (qr (args := [x6, ii (1)]) call41 rfl (markPeakS_spec (by omega) (by omega)) ?_))))))))))))))))
 rintro _ _ _ _ ⟨m3, hm2, hk2, rfl, rfl, rfl⟩
 have hml2 := congrArg List.length hm2
 rw [iota_len] at hml2
 try simp only [List.length_append] at hml2
 refine qg (ii (1 + ((((psR ar rs).flatMap flatPk)).length : Int))) rfl (qb (qc (qa (qg (ii (1)) rfl (qb (qc (qa (qf (x6) rfl (qf (ii (1)) rfl (cX (XOp.lend [] _ _ rfl (fun F16 le16 hz9 => ?_))))))))))))
 have hf9 : PeaksF _ x6 m3 := peaksD.fz hz9
 refine id (qr (args := [x6, ii (1)]) call42 rfl (heldPeakS_spec (z := 1) hf9 (hzb := (by first | assumption | rfl | omega | simp)) (hxl := (by first | assumption | rfl | omega | simp))) ?_)
 rintro _ _ _ _ ⟨rfl, rfl, rfl⟩
 show XL _ _ _ _ _ _ _ (peaksD 2 76 x6 m3 :: intsH 2 x4 m1 :: pairsD 2 72 x5 m2 :: cellsH b2 [x4, x5] 32 :: cellsH b1 [arv, rsv] 58 :: L)
 refine qg (ii (heldF (m3.flatMap flatPk) 1)) rfl (qb (qc (qc (qa (qf (ii (heldF (m3.flatMap flatPk) 1)) rfl (cX (qK rfl rfl (qb ?_))))))))
 refine qv (p := (heldF (m3.flatMap flatPk) 1 : Int) < 0) rfl (fun h5 => ?_) (fun h5 => ?_)
 ·rw [hm2, heldF_iota] at h5
  exact absurd h5 (by omega)
 have hh2 := (fun (l : List Int) (k k2 : Int) (n : Nat) (h : l = iota k n) (hk : k2 = k) => show heldF l k2 = k + n from (by subst hk; rw [h, heldF_iota])) _ _ (1) _ hm2 (by first | rfl | omega)
 have hh2l := hh2
 try simp only [List.length_append] at hh2l
 refine qx (qc (qc (qa (qf (ii (heldF (m3.flatMap flatPk) 1)) rfl (qf (ii (1 + ((((psR ar rs).flatMap flatPk)).length : Int))) rfl (cX (jI rfl rfl (qb ?_))))))))
 refine qv (p := (heldF (m3.flatMap flatPk) 1 : Int) ≠ 1 + ((((psR ar rs).flatMap flatPk)).length : Int)) rfl (fun h6 => ?_) (fun h6 => ?_)
 ·exact absurd (by rw [hm2, heldF_iota]) h6
 refine qx (qc (qa (cX (qE [arv, rsv] isAgg58 sizeOf58 rfl rfl (Rd.ownN [_, _, _, _] rfl rfl) (cX (XOp.thawL (id (qr (args := [.agg #[arv, rsv]]) call32 rfl (toSystem_spec har hrs (hla := (by first | assumption | rfl | omega | simp)) (hrl := (by first | assumption | rfl | omega | simp)) (hrb := (by first | assumption | rfl | omega | simp))) ?_))))))))
 rintro _ F17 _ le17 ⟨x11, x12, rfl, hr16, hr17, hr18, rfl⟩
 refine ⟨[intsH 2 x11 ar, pairsD 2 72 x12 rs], hr18, ?_⟩
 show XL _ _ _ _ _ _ _ (intsH 2 x11 ar :: pairsD 2 72 x12 rs :: peaksD 2 76 x6 m3 :: intsH 2 x4 m1 :: pairsD 2 72 x5 m2 :: cellsH b2 [x4, x5] 32 :: cellsH b1 [arv, rsv] 58 :: L)
 refine cX (XOp.lend [] _ _ rfl (fun F18 le18 hz10 => (id (XOp.lend [] _ _ rfl (fun F19 le19 hz11 => ?_)))))
 have hf10 : IntsF _ x11 ar := (intsH.fz (xs := ar) hz10).mono le19
 have hf11 : PairsF _ x12 rs := pairsD.fz hz11
 refine id (XOp.thawL (id (qr (args := [.agg #[x11, x12]]) call44 rfl (RootPeaks_spec hf10 hf11) ?_)))
 rintro _ F20 _ le20 ⟨x13, rfl, hr19, hr20, rfl⟩
 refine ⟨[peaksD 2 76 x13 (psR ar rs)], hr20, ?_⟩
 show XL _ _ _ _ _ _ _ (intsH 2 x11 ar :: pairsD 2 72 x12 rs :: peaksD 2 76 x13 (psR ar rs) :: peaksD 2 76 x6 m3 :: intsH 2 x4 m1 :: pairsD 2 72 x5 m2 :: cellsH b2 [x4, x5] 32 :: cellsH b1 [arv, rsv] 58 :: L)
 refine qg (x13) rfl (qb (qc (qc (qa (qf (x13) rfl (qf (x3) rfl (cX (XOp.lend [_, _] _ _ rfl (fun F21 le21 hz12 => ?_)))))))))
 have hf12 : PeaksF _ x13 (psR ar rs) := peaksD.fz hz12
 refine id (qr (args := [x13, x3]) call39 rfl (eqPeakS_spec hf12 ((hr4.mono le21)) (hal := (by omega)) (hbd := (fun i hi => by have := hnb i hi; omega))) ?_)
 rintro _ _ _ _ ⟨rfl, rfl, rfl⟩
 show XL _ _ _ _ _ _ _ (peaksD 2 76 x13 (psR ar rs) :: intsH 2 x11 ar :: pairsD 2 72 x12 rs :: peaksD 2 76 x6 m3 :: intsH 2 x4 m1 :: pairsD 2 72 x5 m2 :: cellsH b2 [x4, x5] 32 :: cellsH b1 [arv, rsv] 58 :: L)
 refine cX (jz rfl (qb (jv (vF h2) (qx (qc (qa (qg (ii (1)) rfl (qb (qc (qa (qf (x6) rfl (qf (ii (1)) rfl (cX (XOp.lend [_, _, _] _ _ rfl (fun F22 le22 hz13 => ?_)))))))))))))))
 have hf13 : PeaksF _ x6 m3 := peaksD.fz hz13
 refine id (qr (args := [x6, ii (1)]) call42 rfl (heldPeakS_spec (z := 1) hf13 (hzb := (by first | assumption | rfl | omega | simp)) (hxl := (by first | assumption | rfl | omega | simp))) ?_)
 rintro _ _ _ _ ⟨rfl, rfl, rfl⟩
 show XL _ _ _ _ _ _ _ (peaksD 2 76 x6 m3 :: peaksD 2 76 x13 (psR ar rs) :: intsH 2 x11 ar :: pairsD 2 72 x12 rs :: intsH 2 x4 m1 :: pairsD 2 72 x5 m2 :: cellsH b2 [x4, x5] 32 :: cellsH b1 [arv, rsv] 58 :: L)
 refine qg (ii (heldF (m3.flatMap flatPk) 1)) rfl (qb (qc (qc (qa (qf (ii (heldF (m3.flatMap flatPk) 1)) rfl (cX (qK rfl rfl (qb (jv (vF h5) (qx (qc (qc (qa (qf (ii (heldF (m3.flatMap flatPk) 1)) rfl (qf (ii (1 + ((((psR ar rs).flatMap flatPk)).length : Int))) rfl (cX (jI rfl rfl ?_)))))))))))))))))
 refine qb (jv (vF h6) (qx (qc (qa (qg (.bool (true)) rfl (qb (qz (qs (L' := L) [.bool (true)] (.bool (true)) (.tmp rfl .nil) rfl rF (qp (qp (qp le2 le3) le4) le12) (sD (sD (sD (sD (sD (sD (sD (sD sR)))))))) ?_))))))))
 exact ⟨rfl, rfl, rfl⟩
end Go.Proofs.Ytcdjpapjjoldeaa
