/-
  Walks, one after the other (part 4).
-/
import Derived.Test.YthkebalahfalhaaGreatQAFL1
import Derived.Test.YthkebalahfalhaaGreatQAFB2
set_option linter.unusedSimpArgs false
set_option linter.unusedVariables false
namespace Go.Proofs.YthkebalahfalhaaGreat
open Go X M Tryz

/- (impl.Work).system -/
theorem system_spec {F : FH} {L : List HP} {arv : Value} {ar : List Int} (har : IntsF F arv ar) {rkv : Value} {rk : List Int} (hrk : IntsF F rkv rk) {tdv : Value} {td : List (List Int × List Int)} (htd : PairsF F tdv td) {rsv : Value} {rs : List (List Int × List Int)} (hrs : PairsF F rsv rs) :
    Does prog 40 [.agg #[arv, rkv, tdv, rsv]] F (L) (fun v F' L' => ∃ (a : Value), ∃ (b : Value), (.agg #[a, b] : Value) = v ∧ (IntsF F' a ar) ∧ (PairsF F' b rs) ∧ L = L') := by
 refine qH func40 rfl rfl rfl (qc (qa (cX (qY [arv, rkv, tdv, rsv] rfl rfl ?_))))
 intro b1
 refine cX (je [sN, sN] zeroValue77 rfl ?_)
 intro b2
 refine qb (qc (qa (cX (qn (0) qS rfl qB (by decide) rfl rfl (cX (qv [arv] qU qB rfl rfl (Rd.ownN [_] rfl rfl) (cX (qn (3) qS rfl jB (by decide) rfl rfl (cX (qj jS rfl (Rd.own [_] rfl rfl) (cX (qZ [arv, rsv] [sN, sN] [(0, 1), (1, 1)] [(0, [arv]), (1, [rsv])] jc zeroValue77 rfl (.cons rfl qB (.cons rfl jB PlacesAre.nil)) rfl (.cons rfl (.cons (cells_one (PairsF.isSl hrs)) CellsAre.nil)) (cX (qI [] _ [arv, rsv] jQ rfl rfl rfl (qm (qy (qp har)) (qm (qy (PairsF.isSl hrs)) qO)) rfl rfl rfl (qb (qw (qu (L' := L) [.agg #[arv, rsv]] (.agg #[arv, rsv]) (.cell rfl (jA [arv, rsv] yj jQ rfl (Rd.ownN [] rfl rfl)) .nil) rfl rF rF (sD (sD sR)) ?_)))))))))))))))))
 exact ⟨_, _, rfl, har, hrs, rfl⟩

/- impl.WorkOk -/
set_option maxHeartbeats 1000000 in
set_option maxRecDepth 20000 in
theorem WorkOk_spec {F : FH} {L : List HP} {arv : Value} {ar : List Int} (har : IntsF F arv ar) {rkv : Value} {rk : List Int} (hrk : IntsF F rkv rk) {tdv : Value} {td : List (List Int × List Int)} (htd : PairsF F tdv td) {rsv : Value} {rs : List (List Int × List Int)} (hrs : PairsF F rsv rs) :
    Does prog 22 [.agg #[arv, rkv, tdv, rsv]] F (L) (fun v F' L' => (.bool (workB ar rk (td, rs)) : Value) = v ∧ L = L') := by
 refine qH func22 rfl rfl rfl (qc (qa (cX (qY [arv, rkv, tdv, rsv] rfl rfl ?_))))
 intro b1
 refine qh (.bool (false)) rfl (qb (qc (qc (qa (cX (qn (0) qS rfl qB (by decide) rfl rfl (cX (qv [arv] qU qB rfl rfl (Rd.ownN [] rfl rfl) (cX (qn (1) qS rfl qr (by decide) rfl rfl (cX (qj qN rfl (Rd.own [] rfl rfl) (cX (qt (args := [.agg #[arv], rkv]) call17 rfl (RankOk_spec har hrk) ?_))))))))))))))
 rintro _ _ _ _ ⟨rfl, rfl, rfl⟩
 refine cX (ju rfl (qd (.bool (!(rankB ar rk))) rfl ?_))
 by_cases h1 : (!(rankB ar rk)) = true
 ·refine qq (t := 13) rfl (vB h1) (qq (t := 13) rfl (vB h1) (qq (t := 13) rfl (vB h1) (qq (t := 13) rfl (vB h1) (cX (qT (.bool (true)) (vB h1) rfl (qd (.bool (true)) rfl (qq (t := 19) rfl rfl (qq (t := 19) rfl rfl (qq (t := 19) rfl rfl (qq (t := 19) rfl rfl ?_))))))))))
  refine cX (qT (.bool (true)) rfl rfl (qb (jO rfl (qc (qa (qh (.bool (false)) rfl (qb (qw (qo (qu (L' := L) [.bool (false)] (.bool (false)) (.tmp rfl .nil) rfl rF rF (sD sR) ?_))))))))))
  exact ⟨congrArg Value.bool (by first | exact work_no0 (by first | (intro h1 h2 h3; simp_all; done) | (intro h1 h2 h3; omega)) | exact work_no1 (k := k) (by omega) heo | exact work_no2 (k := j) (by omega) hlp), rfl⟩
 rw [Bool.not_eq_true] at h1
 have hrb : rankB ar rk = true := by simpa using h1
 refine qs (t := 13) rfl (vB h1) (qn (2) qS rfl jJ (by decide) rfl rfl (qs (t := 13) rfl (vB h1) (qj isAgg27 rfl (Rd.own [] rfl rfl) (qs (t := 13) rfl (vB h1) (qG qQ rfl htd.slv (qs (t := 13) rfl (vB h1) (jU rfl rfl (cX (qP (.bool (decide (((td.length : Int) : Int) > 120))) (vB h1) rfl (qd (.bool (decide (((td.length : Int) : Int) > 120))) rfl ?_))))))))))
 by_cases h2 : ((td.length : Int) : Int) > 120
 ·refine qq (t := 19) rfl (vT h2) (qq (t := 19) rfl (vT h2) (qq (t := 19) rfl (vT h2) (qq (t := 19) rfl (vT h2) (cX (qT (.bool (true)) (vT h2) rfl (qb (jO rfl (qc (qa (qh (.bool (false)) rfl (qb ?_)))))))))))
  refine qw (qo (qu (L' := L) [.bool (false)] (.bool (false)) (.tmp rfl .nil) rfl rF rF (sD sR) ?_))
  exact ⟨congrArg Value.bool (by first | exact work_no0 (by first | (intro h1 h2 h3; simp_all; done) | (intro h1 h2 h3; omega)) | exact work_no1 (k := k) (by omega) heo | exact work_no2 (k := j) (by omega) hlp), rfl⟩
 refine qs (t := 19) rfl (vF h2) (qv [arv, rkv, tdv, rsv] jE jb rfl rfl (Rd.ownN [] rfl rfl) (qs (t := 19) rfl (vF h2) (qt (args := [.agg #[arv, rkv, tdv, rsv]]) call40 rfl (system_spec har hrk htd hrs) ?_)))
 rintro _ F1 _ le1 ⟨x1, x2, rfl, hr1, hr2, rfl⟩
 replace har := har.mono le1
 replace hrk := hrk.mono le1
 replace htd := htd.mono le1
 replace hrs := hrs.mono le1
 refine qs (t := 19) rfl (vF h2) (qt (args := [.agg #[x1, x2]]) call39 rfl (SystemOk_spec hr1 hr2) ?_)
 rintro _ _ _ _ ⟨rfl, rfl, rfl⟩
 refine qs (t := 19) rfl (vF h2) (ju rfl (cX (qP (.bool (!(sysOk ar rs))) (vF h2) rfl (qb ?_))))
 refine jG (t := !(sysOk ar rs)) rfl (fun h3 => ?_) (fun h3 => ?_)
 ·refine qc (qa (qh (.bool (false)) rfl (qb (qw (qo (qu (L' := L) [.bool (false)] (.bool (false)) (.tmp rfl .nil) rfl le1 rF (sD sR) ?_))))))
  exact ⟨congrArg Value.bool (by first | exact work_no0 (by first | (intro h1 h2 h3; simp_all; done) | (intro h1 h2 h3; omega)) | exact work_no1 (k := k) (by omega) heo | exact work_no2 (k := j) (by omega) hlp), rfl⟩
 have hsys : sysOk ar rs = true := by simpa using h3
 have hRa := fun i (hi : i < rs.length) => ruleOk_iff.1 ((sysOk_iff.1 hsys).2.2 i hi)
 have hrl := (sysOk_iff.1 hsys).2.1
 refine qA (qc (qc (qa (cX (qn (2) qS rfl jJ (by decide) rfl rfl (cX (qj isAgg27 rfl (Rd.own [] rfl rfl) (cX (qG qQ rfl htd.slv (qd (ii (0)) rfl (qb (qJ (jv (α := Nat) (fun k => [(1, ptr b1 0), (26, tdv), (27, ii ((td.length : Int))), (28, ii ((k : Int)))]) (fun k => cellsH b1 [arv, rkv, tdv, rsv] 32 :: L) (fun k F' => F1 = F' ∧ (k ≤ td.length) ∧ (∀ i, i < k → eqOkL ar (td.getD i ([], [])) = true)) (fun k => td.length - k) 0 ⟨rfl, rfl, rfl, rfl, ⟨⟩⟩ (sC sR) ⟨rfl, (by (try dsimp only) <;> omega), (fun i hi => absurd hi (by omega))⟩ ?_)))))))))))))
 rintro k rE _ _ ⟨rfl, hk, hte⟩
 show X _ _ _ _ (envs [(1, ptr b1 0), (26, tdv), (27, ii ((td.length : Int))), (28, ii ((k : Int)))] rE) _ (cellsH b1 [arv, rkv, tdv, rsv] 32 :: L)
 refine qc (qa (cX (qX rfl rfl (qb (qc ?_)))))
 refine qE (p := (k : Int) < (td.length : Int)) rfl (fun h4 => ?_) (fun h4 => ?_)
 ·refine qA (qc (qJ (qc (qa (cX (qx k qQ jF rfl rfl rfl htd.slv (by omega) rfl ?_))))))
  obtain ⟨a1, a2, ha1, ha2, hr3, hr4⟩ := htd.rd (i := k) (by omega)
  refine cX (qv [a1, a2] isAgg53 jF rfl rfl (Rd.two (hr3 _) (hr4 _)) (cX (je [sN, sN] jw rfl ?_)))
  intro b2
  refine cX (qI [] _ [a1, a2] jF rfl rfl rfl (qm (qy (qp ha1)) (qm (qy (qp ha2)) qO)) rfl rfl rfl (qb (qc (qa (cX (qn (0) qS rfl qB (by decide) rfl rfl (cX (qv [arv] qU qB rfl rfl (Rd.ownN [_] rfl rfl) (cX (qv [a1, a2] isAgg53 jF rfl rfl (Rd.ownN [] rfl rfl) (cX (qt (args := [.agg #[arv], .agg #[a1, a2]]) call33 rfl (EqOk_spec har ha1 ha2) ?_))))))))))))
  rintro _ _ _ _ ⟨rfl, rfl, rfl⟩
  refine cX (ju rfl (qb ?_))
  refine jG (t := !(eqOkL ar (((td.getD k ([], [])).1), ((td.getD k ([], [])).2)))) rfl (fun h5 => ?_) (fun h5 => ?_)
  ·have heo := Bool.not_inj (y := false) h5
   refine qc (qa (qh (.bool (false)) rfl (qb (qw (qF (qo (qo (qF (qo (qu (L' := L) [.bool (false)] (.bool (false)) (.tmp rfl .nil) rfl le1 rF (sD (sD sR)) ?_))))))))))
   exact ⟨congrArg Value.bool (by first | exact work_no0 (by first | (intro h1 h2 h3; simp_all; done) | (intro h1 h2 h3; omega)) | exact work_no1 (k := k) (by omega) heo | exact work_no2 (k := j) (by omega) hlp), rfl⟩
  have heo := Bool.not_inj (y := true) h5
  refine qA (qa (cX (qM (((k + 1 : Nat) : Int)) rfl rfl (by omega) (by omega) (qd (ii (((k + 1 : Nat) : Int))) rfl (qb ?_)))))
  exact ⟨k + 1, _, FLe.refl _, rF, ⟨rfl, rfl, rfl, rfl, ⟨⟩⟩, (sD (sC sR)), ⟨rfl, (by (try dsimp only) <;> omega), (fun i hi => (Nat.lt_or_ge i k).elim (fun h => hte i h) (fun h => by obtain rfl : i = k := (by omega); exact heo))⟩, (by omega)⟩
 refine jn (qz (qz (qR (qc (qc (qa (cX (qn (3) qS rfl jB (by decide) rfl rfl (cX (qj jS rfl (Rd.own [] rfl rfl) (cX (qG qV rfl hrs.slv (qd (ii (0)) rfl (qb (qJ (jv (α := Nat × FH) (fun xQ => [(1, ptr b1 0), (39, rsv), (40, ii ((rs.length : Int))), (41, ii (((xQ.1 : Nat) : Int)))]) (fun xQ => cellsH b1 [arv, rkv, tdv, rsv] 32 :: L) (fun xQ F' => xQ.2 = F' ∧ F1 ≤ xQ.2 ∧ (xQ.1 ≤ rs.length) ∧ (∀ i, i < xQ.1 → lpB ar rk (rs.getD i ([], [])).1 (rs.getD i ([], [])).2 = true)) (fun xQ => rs.length - xQ.1) (0, F1) ⟨rfl, rfl, rfl, rfl, ⟨⟩⟩ (sC sR) ⟨rfl, FLe.refl _, (by (try dsimp only) <;> omega), (fun i hi => absurd hi (by omega))⟩ ?_))))))))))))))))
 rintro ⟨j, G1⟩ rE _ _ ⟨rfl, leG, hj, hrd⟩
 show X _ _ _ _ (envs [(1, ptr b1 0), (39, rsv), (40, ii ((rs.length : Int))), (41, ii ((j : Int)))] rE) _ (cellsH b1 [arv, rkv, tdv, rsv] 32 :: L)
 replace leG : F1 ≤ G1 := leG
 dsimp only at hj hrd
 have hRj := hRa j
 have leG1 := leG
 replace har := har.mono leG1
 replace hrk := hrk.mono leG1
 replace hrs := hrs.mono leG1
 refine qc (qa (cX (qX rfl rfl (qb (qc ?_)))))
 refine qE (p := (j : Int) < (rs.length : Int)) rfl (fun h6 => ?_) (fun h6 => ?_)
 ·refine qA (qc (qJ (qc (qa (cX (qx j qV jp rfl rfl rfl hrs.slv (by omega) rfl ?_))))))
  obtain ⟨a3, a4, ha3, ha4, hr5, hr6⟩ := hrs.rd (i := j) (by omega)
  refine cX (qv [a3, a4] isAgg79 jp rfl rfl (Rd.two (hr5 _) (hr6 _)) (cX (je [sN, sN] jM rfl ?_)))
  intro b3
  refine cX (qI [] _ [a3, a4] jp rfl rfl rfl (qm (qy (qp ha3)) (qm (qy (qp ha4)) qO)) rfl rfl rfl (qb (qc (qa (cX (qn (0) qS rfl qB (by decide) rfl rfl (cX (qv [arv] qU qB rfl rfl (Rd.ownN [_] rfl rfl) (cX (qn (1) qS rfl qr (by decide) rfl rfl (cX (qj qN rfl (Rd.own [_] rfl rfl) (cX (qn (1) jf rfl qr (by decide) rfl rfl (cX (qj qN rfl (Rd.own [] rfl rfl) (cX (qn (0) jf rfl qr (by decide) rfl rfl (cX (qj qN rfl (Rd.own [] rfl rfl) ?_))))))))))))))))))))
  refine cX (qt (args := [.agg #[arv], rkv, a4, a3]) call41 rfl (lpoLess_spec har hrk ha4 ha3 (hrb := (by first | assumption | rfl | omega | simp)) (hot := ((hRj (by omega)).left)) (hos := ((hRj (by omega)).right))) ?_)
  rintro _ F2 _ le2 ⟨rfl, rfl⟩
  refine cX (ju rfl (qb ?_))
  refine jG (t := !(lpB ar rk ((rs.getD j ([], [])).1) ((rs.getD j ([], [])).2))) rfl (fun h7 => ?_) (fun h7 => ?_)
  ·have hlp := Bool.not_inj (y := false) h7
   refine qc (qa (qh (.bool (false)) rfl (qb (qw (qF (qo (qo (qF (qo (qu (L' := L) [.bool (false)] (.bool (false)) (.tmp rfl .nil) rfl (qi (qi le1 leG1) le2) rF (sD (sD sR)) ?_))))))))))
   exact ⟨congrArg Value.bool (by first | exact work_no0 (by first | (intro h1 h2 h3; simp_all; done) | (intro h1 h2 h3; omega)) | exact work_no1 (k := k) (by omega) heo | exact work_no2 (k := j) (by omega) hlp), rfl⟩
  have hlp := Bool.not_inj (y := true) h7
  refine qA (qa (cX (qM (((j + 1 : Nat) : Int)) rfl rfl (by omega) (by omega) (qd (ii (((j + 1 : Nat) : Int))) rfl (qb ?_)))))
  exact ⟨(j + 1, F2), _, (qi leG1 le2), rF, ⟨rfl, rfl, rfl, rfl, ⟨⟩⟩, (sD (sC sR)), ⟨rfl, (qi leG1 le2), (by (try dsimp only) <;> omega), (fun i hi => (Nat.lt_or_ge i j).elim (fun h => hrd i h) (fun h => by obtain rfl : i = j := (by omega); exact hlp))⟩, (by omega)⟩
 refine jn (qz (qz (qR (qc (qa (qh (.bool (true)) rfl (qb (qw (qu (L' := L) [.bool (true)] (.bool (true)) (.tmp rfl .nil) rfl (qi le1 leG1) rF (sD sR) ?_)))))))))
 exact ⟨congrArg Value.bool (work_yes hrb (by omega) hsys (fun i hi => hte i (by omega)) (fun i hi => hrd i (by omega))), rfl⟩

/- impl.cloneEqs -/
set_option maxRecDepth 20000 in
theorem cloneEqs_spec {F : FH} {L : List HP} {esv : Value} {es : List (List Int × List Int)} (hes : PairsF F esv es) (hel : es.length ≤ 4000000) (heb : ∀ i, i < es.length → (es.getD i ([], [])).1.length ≤ 4000000 ∧ (es.getD i ([], [])).2.length ≤ 4000000) :
    Does prog 36 [esv] F (L) (fun v F' L' => ∃ (a : Value), (a : Value) = v ∧ (PairsF F' a es) ∧ L = L') := by
 refine qH func36 rfl rfl rfl (qc (qa (qh (sN) rfl (qb (qc (qa (qh (sN) rfl (qb (qc (qc (qa (qd (esv) rfl (cX (qG qQ rfl hes.slv (qd (ii (0)) rfl (qb (qJ ?_)))))))))))))))))
 refine jv (α := Nat × Value × List (List Int × List Int) × List Value × Nat × FH) (fun xQ => [(3, xQ.2.1), (6, esv), (7, ii ((es.length : Int))), (8, ii (((xQ.1 : Nat) : Int)))]) (fun xQ => slH 53 2 xQ.2.1 xQ.2.2.2.2.1 xQ.2.2.2.1 :: L) (fun xQ F' => xQ.2.2.2.2.2 = F' ∧ F ≤ xQ.2.2.2.2.2 ∧ (IsSl xQ.2.1) ∧ (PairsC xQ.2.2.2.2.2 xQ.2.2.2.1 xQ.2.2.1) ∧ (xQ.2.2.2.2.1 = xQ.2.2.1.length) ∧ (xQ.1 ≤ es.length) ∧ (xQ.2.2.1 = es.take xQ.1) ∧ (xQ.2.2.1.length ≤ xQ.1)) (fun xQ => es.length - xQ.1) (0, sN, [], [], 0, F) ⟨rfl, rfl, rfl, rfl, ⟨⟩⟩ (qW (Sub.addNil 53 2 _ _) (sC sR)) ⟨rfl, FLe.refl _, (⟨_, _, _, rfl⟩), (CO.nil), (rfl), (by (try dsimp only) <;> omega), (rfl), (Nat.zero_le _)⟩ ?_
 rintro ⟨k, ov, os, cs, m, G1⟩ rE _ _ ⟨rfl, leG, hov, hC, hm, hk, hos, hol⟩
 show X _ _ _ _ (envs [(3, ov), (6, esv), (7, ii ((es.length : Int))), (8, ii ((k : Int)))] rE) _ (slH 53 2 ov m cs :: L)
 replace leG : F ≤ G1 := leG
 dsimp only at hov hC hm hk hos hol
 have hbk := heb k
 have leG1 := leG
 replace hes := hes.mono leG1
 refine qc (qa (cX (qX rfl rfl (qb (qc ?_)))))
 refine qE (p := (k : Int) < (es.length : Int)) rfl (fun h1 => ?_) (fun h1 => ?_)
 ·refine qA (qc (qJ (qc (qa (cX (qx k qQ jF rfl rfl rfl hes.slv (by omega) rfl ?_))))))
  obtain ⟨a1, a2, ha1, ha2, hr1, hr2⟩ := hes.rd (i := k) (by omega)
  refine cX (qv [a1, a2] isAgg53 jF rfl rfl (Rd.two (hr1 _) (hr2 _)) (cX (je [sN, sN] jw rfl ?_)))
  intro b1
  refine cX (qI [] _ [a1, a2] jF rfl rfl rfl (qm (qy (qp ha1)) (qm (qy (qp ha2)) qO)) rfl rfl rfl (qb ?_))
  refine yc [cellsH b1 [a1, a2] 53, slH 53 2 ov m cs] L 9 [[], [], [], [], [], [], [], [3, 6], [3, 6]] [[], [], [1], [2], [], [4], [5], [3, 6], [3, 6, 7]] [] (phiG [pe ov, pe (ptr b1 0), pe a1, fun FF us v => ((v) : Value) = v ∧ (IntsF FF (v) (((es.getD k ([], [])).1))), pe (ptr b1 1), pe a2, fun FF us v => ((v) : Value) = v ∧ (IntsF FF (v) (((es.getD k ([], [])).2))), fun FF us v => v = (.agg #[((us.getD 0 undef)), ((us.getD 1 undef))] : Value), fun FF us v => ∃ b, v = .slice (some ⟨b, 0, none⟩) 1 1]) (ownL [o0, o0, o0, o0, o0, o0, o0, o0, fun us v => [slH 53 2 v 1 [((us.getD 0 undef)), ((us.getD 1 undef))]]]) mixed rfl rfl (by kernel_rfl) (by kernel_rfl) (MonoG.get (m1 (m1 (m1 (mC (fun le h => ⟨h.1, h.2.mono le⟩) (m1 (m1 (mC (fun le h => ⟨h.1, h.2.mono le⟩) (mC (fun le h => h) (mC (fun le h => h) MonoG.nil)))))))))) ?_ ?_
  ·refine gD (fun W Fs R lF z9 => ?_) ?_
   ·refine qg (ql (ov) rfl ?_)
    exact ⟨rfl, rfl⟩
   refine gD (fun W Fs R lF z9 => ?_) ?_
   ·refine qg (qn (0) jd rfl qr (by decide) rfl rfl ?_)
    exact ⟨rfl, rfl⟩
   refine gD (fun W Fs R lF z9 => ?_) ?_
   ·replace hes := hes.mono lF
    replace hC := hC.mono lF
    replace ha1 := ha1.mono lF
    replace ha2 := ha2.mono lF
    rw [zA 1 (z9 1 rfl)]
    refine qg (qj qN rfl (Rd.own [] rfl rfl) ?_)
    exact ⟨rfl, rfl⟩
   refine gD (fun W Fs R lF z9 => ?_) ?_
   ·replace hes := hes.mono lF
    replace hC := hC.mono lF
    replace ha1 := ha1.mono lF
    replace ha2 := ha2.mono lF
    rw [zA 2 (z9 2 rfl)]
    refine qg (jT <| qt (args := [a1]) call35 rfl (Clone_spec ha1 (hlt := (by first | exact (hbk (by omega)).1 | exact (hbk (by omega)).2))) ?_)
    rintro v4 _ _ _ ⟨rfl, hs3, rfl⟩
    refine ⟨_, _, rfl, fun F1 le1 hz1 => ?_⟩
    replace hes := hes.mono le1
    replace hC := hC.mono le1
    replace ha2 := ha2.mono le1
    have hf1 : IntsF F1 v4 ((((es.getD k ([], [])).1))) := intsH.fz (xs := (((es.getD k ([], [])).1))) hz1.fz
    exact ⟨⟨rfl, hf1⟩, rfl⟩
   refine gD (fun W Fs R lF z9 => ?_) ?_
   ·refine qg (qn (1) jd rfl qr (by decide) rfl rfl ?_)
    exact ⟨rfl, rfl⟩
   refine gD (fun W Fs R lF z9 => ?_) ?_
   ·replace hes := hes.mono lF
    replace hC := hC.mono lF
    replace ha2 := ha2.mono lF
    rw [zA 4 (z9 4 rfl)]
    refine qg (qj qN rfl (Rd.own [] rfl rfl) ?_)
    exact ⟨rfl, rfl⟩
   refine gD (fun W Fs R lF z9 => ?_) ?_
   ·replace hes := hes.mono lF
    replace hC := hC.mono lF
    replace ha2 := ha2.mono lF
    rw [zA 5 (z9 5 rfl)]
    refine qg (jT <| qt (args := [a2]) call35 rfl (Clone_spec ha2 (hlt := (by first | exact (hbk (by omega)).1 | exact (hbk (by omega)).2))) ?_)
    rintro v5 _ _ _ ⟨rfl, hs4, rfl⟩
    refine ⟨_, _, rfl, fun F2 le2 hz2 => ?_⟩
    replace hC := hC.mono le2
    have hf2 : IntsF F2 v5 ((((es.getD k ([], [])).2))) := intsH.fz (xs := (((es.getD k ([], [])).2))) hz2.fz
    exact ⟨⟨rfl, hf2⟩, rfl⟩
   refine gD (fun W Fs R lF z9 => ?_) ?_
   ·obtain ⟨e3, f3_1ha⟩ := z9 3 rfl
    obtain ⟨e6, f6_1ha⟩ := z9 6 rfl
    replace hC := hC.mono lF
    rw [eS (l := [(3, ((W 3))), (6, ((W 6)))]) ⟨(e3).symm, (e6).symm, ⟨⟩⟩]
    refine qg (qZ [((W 3)), ((W 6))] [sN, sN] [(0, 1), (1, 1)] [(0, [((W 3))]), (1, [((W 6))])] jd jw rfl (.cons rfl qr (.cons rfl qr PlacesAre.nil)) rfl (.cons (cells_one (qp f3_1ha)) (.cons (cells_one (qp f6_1ha)) CellsAre.nil)) ?_)
    exact ⟨rfl, rfl⟩
   refine gD (fun W Fs R lF z9 => ?_) ?_
   ·obtain ⟨e3, f3_1ha⟩ := z9 3 rfl
    obtain ⟨e6, f6_1ha⟩ := z9 6 rfl
    have e7 : W 7 = (.agg #[((W 3)), ((W 6))] : Value) := z9 7 rfl
    replace hC := hC.mono lF
    rw [eS (l := [(3, ((W 3))), (6, ((W 6))), (7, (.agg #[((W 3)), ((W 6))]))]) ⟨(e3).symm, (e6).symm, e7, ⟨⟩⟩]
    refine qg (qD (s := 2) [((W 3)), ((W 6))] [sN, sN] [(0, [((W 3)), ((W 6))])] qQ jF jw rfl (by decide) rfl (.cons rfl CellsAre.nil) rfl ?_)
    intro v6 hv2
    exact ⟨hv2, rfl⟩
   exact stepsG.nil
  intro W F3 le3 hphi
  obtain ⟨e3, f3_1ha⟩ := hphi 3 (by decide)
  obtain ⟨e6, f6_1ha⟩ := hphi 6 (by decide)
  have e7 : W 7 = (.agg #[((W 3)), ((W 6))] : Value) := hphi 7 (by decide)
  have f8 : ∃ b, (W 8) = .slice (some ⟨b, 0, none⟩) 1 1 := hphi 8 (by decide)
  generalize hu1 : ((W 3)) = u1 at e3 f3_1ha e6 f6_1ha e7 f8
  generalize hu2 : ((W 6)) = u2 at e3 f3_1ha e6 f6_1ha e7 f8
  generalize huu8 : W 8 = u3 at e3 f3_1ha e6 f6_1ha e7 f8
  rw [eS (l := [(0, _), (3, u1), (6, u2), (8, u3)]) ⟨(hphi 0 (by decide)), hu1, hu2, huu8, ⟨⟩⟩]
  replace hC := hC.mono le3
  show XL _ _ _ _ _ _ _ (slH 53 2 u3 1 [u1, u2] :: cellsH b1 [a1, a2] 53 :: slH 53 2 ov m cs :: L)
  refine cX (yi (m := 1) (bytes := 48) (cs := cs) [_, _] _ [u1, u2] qQ typeInfo53 rfl rfl rfl rfl rfl rfl rfl (SlV.own [] rfl) rfl (Rd.lit [] rfl) (qm (qy (qp f3_1ha)) (qm (qy (qp f6_1ha)) qO)) (by (try simp only [List.length_append, List.length_nil, List.length_cons, List.length_singleton]); omega) (by (try simp only [List.length_append, List.length_nil, List.length_cons, List.length_singleton]); omega) ?_)
  intro v7 hs5 hn1 hm1
  have hc1 := PairsC.snoc hC f3_1ha f6_1ha
  refine qh (v7) rfl (qb (qa (cX (qM (((k + 1 : Nat) : Int)) rfl rfl (by omega) (by omega) (qd (ii (((k + 1 : Nat) : Int))) rfl (qb ?_))))))
  exact ⟨(k + 1, v7, os ++ [((((es.getD k ([], [])).1)), (((es.getD k ([], [])).2)))], cs ++ [u1, u2], (m) + 1, F3), _, (qi leG1 le3), rF, ⟨rfl, rfl, rfl, rfl, ⟨⟩⟩, (sD (sD (sC sR))), ⟨rfl, (qi leG1 le3), (hs5), (hc1), (by (try dsimp only); rw [List.length_append]; simp only [List.length_singleton]; omega), (by (try dsimp only) <;> omega), (by (try dsimp only); rw [hos, take_succ_getD ([], []) (by omega)]), (by (try dsimp only); rw [List.length_append]; simp only [List.length_singleton]; omega)⟩, (by omega)⟩
 refine jn (qz (qz (qR (qc (qa (qd (ov) rfl (qh (ov) rfl (qb (ji [] _ _ rfl (fun F4 le4 hz3 => ?_))))))))))
 replace hC := hC.mono le4
 have hf3 : PairsF F4 ov os := CO.fz hC (by first | rfl | omega | (rw [List.length_set]; omega) | (simp; done) | (rw [List.length_append]; simp only [List.length_singleton]; omega)) hz3.fz
 refine qw (qu (L' := L) [ov] (ov) (.tmp rfl .nil) rfl (qi leG1 le4) rF sR ?_)
 have e9 : os = es := by rw [hos, List.take_of_length_le (by omega)]
 subst e9
 exact ⟨_, rfl, hf3, rfl⟩

/- impl.cloneRules -/
set_option maxRecDepth 20000 in
theorem cloneRules_spec {F : FH} {L : List HP} {esv : Value} {es : List (List Int × List Int)} (hes : PairsF F esv es) (hel : es.length ≤ 4000000) (heb : ∀ i, i < es.length → (es.getD i ([], [])).1.length ≤ 4000000 ∧ (es.getD i ([], [])).2.length ≤ 4000000) :
    Does prog 37 [esv] F (L) (fun v F' L' => ∃ (a : Value), (a : Value) = v ∧ (PairsF F' a es) ∧ L = L') := by
 refine qH func37 rfl rfl rfl (qc (qa (qh (sN) rfl (qb (qc (qa (qh (sN) rfl (qb (qc (qc (qa (qd (esv) rfl (cX (qG qV rfl hes.slv (qd (ii (0)) rfl (qb (qJ ?_)))))))))))))))))
 refine jv (α := Nat × Value × List (List Int × List Int) × List Value × Nat × FH) (fun xQ => [(3, xQ.2.1), (6, esv), (7, ii ((es.length : Int))), (8, ii (((xQ.1 : Nat) : Int)))]) (fun xQ => slH 79 2 xQ.2.1 xQ.2.2.2.2.1 xQ.2.2.2.1 :: L) (fun xQ F' => xQ.2.2.2.2.2 = F' ∧ F ≤ xQ.2.2.2.2.2 ∧ (IsSl xQ.2.1) ∧ (PairsC xQ.2.2.2.2.2 xQ.2.2.2.1 xQ.2.2.1) ∧ (xQ.2.2.2.2.1 = xQ.2.2.1.length) ∧ (xQ.1 ≤ es.length) ∧ (xQ.2.2.1 = es.take xQ.1) ∧ (xQ.2.2.1.length ≤ xQ.1)) (fun xQ => es.length - xQ.1) (0, sN, [], [], 0, F) ⟨rfl, rfl, rfl, rfl, ⟨⟩⟩ (qW (Sub.addNil 79 2 _ _) (sC sR)) ⟨rfl, FLe.refl _, (⟨_, _, _, rfl⟩), (CO.nil), (rfl), (by (try dsimp only) <;> omega), (rfl), (Nat.zero_le _)⟩ ?_
 rintro ⟨k, ov, os, cs, m, G1⟩ rE _ _ ⟨rfl, leG, hov, hC, hm, hk, hos, hol⟩
 show X _ _ _ _ (envs [(3, ov), (6, esv), (7, ii ((es.length : Int))), (8, ii ((k : Int)))] rE) _ (slH 79 2 ov m cs :: L)
 replace leG : F ≤ G1 := leG
 dsimp only at hov hC hm hk hos hol
 have hbk := heb k
 have leG1 := leG
 replace hes := hes.mono leG1
 refine qc (qa (cX (qX rfl rfl (qb (qc ?_)))))
 refine qE (p := (k : Int) < (es.length : Int)) rfl (fun h1 => ?_) (fun h1 => ?_)
 ·refine qA (qc (qJ (qc (qa (cX (qx k qV jp rfl rfl rfl hes.slv (by omega) rfl ?_))))))
  obtain ⟨a1, a2, ha1, ha2, hr1, hr2⟩ := hes.rd (i := k) (by omega)
  refine cX (qv [a1, a2] isAgg79 jp rfl rfl (Rd.two (hr1 _) (hr2 _)) (cX (je [sN, sN] jM rfl ?_)))
  intro b1
  refine cX (qI [] _ [a1, a2] jp rfl rfl rfl (qm (qy (qp ha1)) (qm (qy (qp ha2)) qO)) rfl rfl rfl (qb ?_))
  refine yc [cellsH b1 [a1, a2] 79, slH 79 2 ov m cs] L 9 [[], [], [], [], [], [], [], [3, 6], [3, 6]] [[], [], [1], [2], [], [4], [5], [3, 6], [3, 6, 7]] [] (phiG [pe ov, pe (ptr b1 0), pe a1, fun FF us v => ((v) : Value) = v ∧ (IntsF FF (v) (((es.getD k ([], [])).1))), pe (ptr b1 1), pe a2, fun FF us v => ((v) : Value) = v ∧ (IntsF FF (v) (((es.getD k ([], [])).2))), fun FF us v => v = (.agg #[((us.getD 0 undef)), ((us.getD 1 undef))] : Value), fun FF us v => ∃ b, v = .slice (some ⟨b, 0, none⟩) 1 1]) (ownL [o0, o0, o0, o0, o0, o0, o0, o0, fun us v => [slH 79 2 v 1 [((us.getD 0 undef)), ((us.getD 1 undef))]]]) mixed rfl rfl (by kernel_rfl) (by kernel_rfl) (MonoG.get (m1 (m1 (m1 (mC (fun le h => ⟨h.1, h.2.mono le⟩) (m1 (m1 (mC (fun le h => ⟨h.1, h.2.mono le⟩) (mC (fun le h => h) (mC (fun le h => h) MonoG.nil)))))))))) ?_ ?_
  ·refine gD (fun W Fs R lF z9 => ?_) ?_
   ·refine qg (ql (ov) rfl ?_)
    exact ⟨rfl, rfl⟩
   refine gD (fun W Fs R lF z9 => ?_) ?_
   ·refine qg (qn (0) jf rfl qr (by decide) rfl rfl ?_)
    exact ⟨rfl, rfl⟩
   refine gD (fun W Fs R lF z9 => ?_) ?_
   ·replace hes := hes.mono lF
    replace hC := hC.mono lF
    replace ha1 := ha1.mono lF
    replace ha2 := ha2.mono lF
    rw [zA 1 (z9 1 rfl)]
    refine qg (qj qN rfl (Rd.own [] rfl rfl) ?_)
    exact ⟨rfl, rfl⟩
   refine gD (fun W Fs R lF z9 => ?_) ?_
   ·replace hes := hes.mono lF
    replace hC := hC.mono lF
    replace ha1 := ha1.mono lF
    replace ha2 := ha2.mono lF
    rw [zA 2 (z9 2 rfl)]
    refine qg (jT <| qt (args := [a1]) call35 rfl (Clone_spec ha1 (hlt := (by first | exact (hbk (by omega)).1 | exact (hbk (by omega)).2))) ?_)
    rintro v4 _ _ _ ⟨rfl, hs3, rfl⟩
    refine ⟨_, _, rfl, fun F1 le1 hz1 => ?_⟩
    replace hes := hes.mono le1
    replace hC := hC.mono le1
    replace ha2 := ha2.mono le1
    have hf1 : IntsF F1 v4 ((((es.getD k ([], [])).1))) := intsH.fz (xs := (((es.getD k ([], [])).1))) hz1.fz
    exact ⟨⟨rfl, hf1⟩, rfl⟩
   refine gD (fun W Fs R lF z9 => ?_) ?_
   ·refine qg (qn (1) jf rfl qr (by decide) rfl rfl ?_)
    exact ⟨rfl, rfl⟩
   refine gD (fun W Fs R lF z9 => ?_) ?_
   ·replace hes := hes.mono lF
    replace hC := hC.mono lF
    replace ha2 := ha2.mono lF
    rw [zA 4 (z9 4 rfl)]
    refine qg (qj qN rfl (Rd.own [] rfl rfl) ?_)
    exact ⟨rfl, rfl⟩
   refine gD (fun W Fs R lF z9 => ?_) ?_
   ·replace hes := hes.mono lF
    replace hC := hC.mono lF
    replace ha2 := ha2.mono lF
    rw [zA 5 (z9 5 rfl)]
    refine qg (jT <| qt (args := [a2]) call35 rfl (Clone_spec ha2 (hlt := (by first | exact (hbk (by omega)).1 | exact (hbk (by omega)).2))) ?_)
    rintro v5 _ _ _ ⟨rfl, hs4, rfl⟩
    refine ⟨_, _, rfl, fun F2 le2 hz2 => ?_⟩
    replace hC := hC.mono le2
    have hf2 : IntsF F2 v5 ((((es.getD k ([], [])).2))) := intsH.fz (xs := (((es.getD k ([], [])).2))) hz2.fz
    exact ⟨⟨rfl, hf2⟩, rfl⟩
   refine gD (fun W Fs R lF z9 => ?_) ?_
   ·obtain ⟨e3, f3_1ha⟩ := z9 3 rfl
    obtain ⟨e6, f6_1ha⟩ := z9 6 rfl
    replace hC := hC.mono lF
    rw [eS (l := [(3, ((W 3))), (6, ((W 6)))]) ⟨(e3).symm, (e6).symm, ⟨⟩⟩]
    refine qg (qZ [((W 3)), ((W 6))] [sN, sN] [(0, 1), (1, 1)] [(0, [((W 3))]), (1, [((W 6))])] jf jM rfl (.cons rfl qr (.cons rfl qr PlacesAre.nil)) rfl (.cons (cells_one (qp f3_1ha)) (.cons (cells_one (qp f6_1ha)) CellsAre.nil)) ?_)
    exact ⟨rfl, rfl⟩
   refine gD (fun W Fs R lF z9 => ?_) ?_
   ·obtain ⟨e3, f3_1ha⟩ := z9 3 rfl
    obtain ⟨e6, f6_1ha⟩ := z9 6 rfl
    have e7 : W 7 = (.agg #[((W 3)), ((W 6))] : Value) := z9 7 rfl
    replace hC := hC.mono lF
    rw [eS (l := [(3, ((W 3))), (6, ((W 6))), (7, (.agg #[((W 3)), ((W 6))]))]) ⟨(e3).symm, (e6).symm, e7, ⟨⟩⟩]
    refine qg (qD (s := 2) [((W 3)), ((W 6))] [sN, sN] [(0, [((W 3)), ((W 6))])] qV jp jM rfl (by decide) rfl (.cons rfl CellsAre.nil) rfl ?_)
    intro v6 hv2
    exact ⟨hv2, rfl⟩
   exact stepsG.nil
  intro W F3 le3 hphi
  obtain ⟨e3, f3_1ha⟩ := hphi 3 (by decide)
  obtain ⟨e6, f6_1ha⟩ := hphi 6 (by decide)
  have e7 : W 7 = (.agg #[((W 3)), ((W 6))] : Value) := hphi 7 (by decide)
  have f8 : ∃ b, (W 8) = .slice (some ⟨b, 0, none⟩) 1 1 := hphi 8 (by decide)
  generalize hu1 : ((W 3)) = u1 at e3 f3_1ha e6 f6_1ha e7 f8
  generalize hu2 : ((W 6)) = u2 at e3 f3_1ha e6 f6_1ha e7 f8
  generalize huu8 : W 8 = u3 at e3 f3_1ha e6 f6_1ha e7 f8
  rw [eS (l := [(0, _), (3, u1), (6, u2), (8, u3)]) ⟨(hphi 0 (by decide)), hu1, hu2, huu8, ⟨⟩⟩]
  replace hC := hC.mono le3
  show XL _ _ _ _ _ _ _ (slH 79 2 u3 1 [u1, u2] :: cellsH b1 [a1, a2] 79 :: slH 79 2 ov m cs :: L)
  refine cX (yi (m := 1) (bytes := 48) (cs := cs) [_, _] _ [u1, u2] qV typeInfo79 rfl rfl rfl rfl rfl rfl rfl (SlV.own [] rfl) rfl (Rd.lit [] rfl) (qm (qy (qp f3_1ha)) (qm (qy (qp f6_1ha)) qO)) (by (try simp only [List.length_append, List.length_nil, List.length_cons, List.length_singleton]); omega) (by (try simp only [List.length_append, List.length_nil, List.length_cons, List.length_singleton]); omega) ?_)
  intro v7 hs5 hn1 hm1
  have hc1 := PairsC.snoc hC f3_1ha f6_1ha
  refine qh (v7) rfl (qb (qa (cX (qM (((k + 1 : Nat) : Int)) rfl rfl (by omega) (by omega) (qd (ii (((k + 1 : Nat) : Int))) rfl (qb ?_))))))
  exact ⟨(k + 1, v7, os ++ [((((es.getD k ([], [])).1)), (((es.getD k ([], [])).2)))], cs ++ [u1, u2], (m) + 1, F3), _, (qi leG1 le3), rF, ⟨rfl, rfl, rfl, rfl, ⟨⟩⟩, (sD (sD (sC sR))), ⟨rfl, (qi leG1 le3), (hs5), (hc1), (by (try dsimp only); rw [List.length_append]; simp only [List.length_singleton]; omega), (by (try dsimp only) <;> omega), (by (try dsimp only); rw [hos, take_succ_getD ([], []) (by omega)]), (by (try dsimp only); rw [List.length_append]; simp only [List.length_singleton]; omega)⟩, (by omega)⟩
 refine jn (qz (qz (qR (qc (qa (qd (ov) rfl (qh (ov) rfl (qb (ji [] _ _ rfl (fun F4 le4 hz3 => ?_))))))))))
 replace hC := hC.mono le4
 have hf3 : PairsF F4 ov os := CO.fz hC (by first | rfl | omega | (rw [List.length_set]; omega) | (simp; done) | (rw [List.length_append]; simp only [List.length_singleton]; omega)) hz3.fz
 refine qw (qu (L' := L) [ov] (ov) (.tmp rfl .nil) rfl (qi leG1 le4) rF sR ?_)
 have e9 : os = es := by rw [hos, List.take_of_length_le (by omega)]
 subst e9
 exact ⟨_, rfl, hf3, rfl⟩

/- impl.cloneWork -/
set_option maxRecDepth 20000 in
theorem cloneWork_spec {F : FH} {L : List HP} {arv : Value} {ar : List Int} (har : IntsF F arv ar) {rkv : Value} {rk : List Int} (hrk : IntsF F rkv rk) {tdv : Value} {td : List (List Int × List Int)} (htd : PairsF F tdv td) {rsv : Value} {rs : List (List Int × List Int)} (hrs : PairsF F rsv rs) (hla : ar.length ≤ 4000000) (hlk : rk.length ≤ 4000000) (hlt : td.length ≤ 4000000) (hlr : rs.length ≤ 4000000) (htb : ∀ i, i < td.length → (td.getD i ([], [])).1.length ≤ 4000000 ∧ (td.getD i ([], [])).2.length ≤ 4000000) (hrB : ∀ i, i < rs.length → (rs.getD i ([], [])).1.length ≤ 4000000 ∧ (rs.getD i ([], [])).2.length ≤ 4000000) :
    Does prog 18 [.agg #[arv, rkv, tdv, rsv]] F (L) (fun v F' L' => ∃ (a : Value), ∃ (b : Value), ∃ (c : Value), ∃ (d : Value), (.agg #[a, b, c, d] : Value) = v ∧ (IntsF F' a ar) ∧ (IntsF F' b rk) ∧ (PairsF F' c td) ∧ (PairsF F' d rs) ∧ L = L') := by
 refine qH func18 rfl rfl rfl (qc (qa (cX (qY [arv, rkv, tdv, rsv] rfl rfl ?_))))
 intro b1
 refine cX (je [sN, sN, sN, sN] yh rfl ?_)
 intro b2
 refine qb (qc ?_)
 refine yc [cellsH b2 [sN, sN, sN, sN] 32, cellsH b1 [arv, rkv, tdv, rsv] 32] L 14 [[], [], [], [], [3]] [[], [0], [1], [2], [3], [], [5], [6], [], [8], [9], [], [11], [12]] [] (phiG [pe (ptr b1 0), pe (ptr b1 0), pe arv, fun FF us v => ((v) : Value) = v ∧ (IntsF FF (v) (ar)), fun FF us v => v = (.agg #[((us.getD 0 undef))] : Value), pe (ptr b1 1), pe rkv, fun FF us v => ((v) : Value) = v ∧ (IntsF FF (v) (rk)), pe (ptr b1 2), pe tdv, fun FF us v => ((v) : Value) = v ∧ (PairsF FF (v) td), pe (ptr b1 3), pe rsv, fun FF us v => ((v) : Value) = v ∧ (PairsF FF (v) rs)]) (ownL []) mixed rfl rfl (by kernel_rfl) (by kernel_rfl) (MonoG.get (m1 (m1 (m1 (mC (fun le h => ⟨h.1, h.2.mono le⟩) (mC (fun le h => h) (m1 (m1 (mC (fun le h => ⟨h.1, h.2.mono le⟩) (m1 (m1 (mC (fun le h => ⟨h.1, h.2.mono le⟩) (m1 (m1 (mC (fun le h => ⟨h.1, h.2.mono le⟩) MonoG.nil))))))))))))))) ?_ ?_
 ·refine gD (fun W Fs R lF z9 => ?_) ?_
  ·refine qg (qn (0) qS rfl qB (by decide) rfl rfl ?_)
   exact ⟨rfl, rfl⟩
  refine gD (fun W Fs R lF z9 => ?_) ?_
  ·rw [zA 0 (z9 0 rfl)]
   refine qg (qn (0) jk rfl qr (by decide) rfl rfl ?_)
   exact ⟨rfl, rfl⟩
  refine gD (fun W Fs R lF z9 => ?_) ?_
  ·replace har := har.mono lF
   replace hrk := hrk.mono lF
   replace htd := htd.mono lF
   replace hrs := hrs.mono lF
   rw [zA 1 (z9 1 rfl)]
   refine qg (qj qN rfl (Rd.own [_] rfl rfl) ?_)
   exact ⟨rfl, rfl⟩
  refine gD (fun W Fs R lF z9 => ?_) ?_
  ·replace har := har.mono lF
   replace hrk := hrk.mono lF
   replace htd := htd.mono lF
   replace hrs := hrs.mono lF
   rw [zA 2 (z9 2 rfl)]
   refine qg (jT <| qt (args := [arv]) call35 rfl (Clone_spec har (hlt := (by first | assumption | rfl | omega | simp))) ?_)
   rintro v3 _ _ _ ⟨rfl, hs3, rfl⟩
   refine ⟨_, _, rfl, fun F3 le3 hz1 => ?_⟩
   replace har := har.mono le3
   replace hrk := hrk.mono le3
   replace htd := htd.mono le3
   replace hrs := hrs.mono le3
   have hf1 : IntsF F3 v3 ((ar)) := intsH.fz (xs := (ar)) hz1.fz
   exact ⟨⟨rfl, hf1⟩, rfl⟩
  refine gD (fun W Fs R lF z9 => ?_) ?_
  ·obtain ⟨e3, f3_1ha⟩ := z9 3 rfl
   replace har := har.mono lF
   replace hrk := hrk.mono lF
   replace htd := htd.mono lF
   replace hrs := hrs.mono lF
   rw [eS (l := [(3, ((W 3)))]) ⟨(e3).symm, ⟨⟩⟩]
   refine qg (qZ [((W 3))] [sN] [(0, 1)] [(0, [((W 3))])] jk yl rfl (.cons rfl qr PlacesAre.nil) rfl (.cons (cells_one (qp f3_1ha)) CellsAre.nil) ?_)
   exact ⟨rfl, rfl⟩
  refine gD (fun W Fs R lF z9 => ?_) ?_
  ·refine qg (qn (1) qS rfl qr (by decide) rfl rfl ?_)
   exact ⟨rfl, rfl⟩
  refine gD (fun W Fs R lF z9 => ?_) ?_
  ·replace har := har.mono lF
   replace hrk := hrk.mono lF
   replace htd := htd.mono lF
   replace hrs := hrs.mono lF
   rw [zA 5 (z9 5 rfl)]
   refine qg (qj qN rfl (Rd.own [_] rfl rfl) ?_)
   exact ⟨rfl, rfl⟩
  refine gD (fun W Fs R lF z9 => ?_) ?_
  ·replace har := har.mono lF
   replace hrk := hrk.mono lF
   replace htd := htd.mono lF
   replace hrs := hrs.mono lF
   rw [zA 6 (z9 6 rfl)]
   refine qg (jT <| qt (args := [rkv]) call35 rfl (Clone_spec hrk (hlt := (by first | assumption | rfl | omega | simp))) ?_)
   rintro v4 _ _ _ ⟨rfl, hs4, rfl⟩
   refine ⟨_, _, rfl, fun F4 le4 hz2 => ?_⟩
   replace har := har.mono le4
   replace htd := htd.mono le4
   replace hrs := hrs.mono le4
   have hf2 : IntsF F4 v4 ((rk)) := intsH.fz (xs := (rk)) hz2.fz
   exact ⟨⟨rfl, hf2⟩, rfl⟩
  refine gD (fun W Fs R lF z9 => ?_) ?_
  ·refine qg (qn (2) qS rfl jJ (by decide) rfl rfl ?_)
   exact ⟨rfl, rfl⟩
  refine gD (fun W Fs R lF z9 => ?_) ?_
  ·replace har := har.mono lF
   replace htd := htd.mono lF
   replace hrs := hrs.mono lF
   rw [zA 8 (z9 8 rfl)]
   refine qg (qj isAgg27 rfl (Rd.own [_] rfl rfl) ?_)
   exact ⟨rfl, rfl⟩
  refine gD (fun W Fs R lF z9 => ?_) ?_
  ·replace har := har.mono lF
   replace htd := htd.mono lF
   replace hrs := hrs.mono lF
   rw [zA 9 (z9 9 rfl)]
   refine qg (qt (args := [tdv]) call36 rfl (cloneEqs_spec htd (hel := (by first | assumption | rfl | omega | simp)) (heb := (htb))) ?_)
   rintro _ F5 _ le5 ⟨x3, rfl, hr3, rfl⟩
   replace har := har.mono le5
   replace hrs := hrs.mono le5
   exact ⟨⟨rfl, hr3⟩, rfl⟩
  refine gD (fun W Fs R lF z9 => ?_) ?_
  ·refine qg (qn (3) qS rfl jB (by decide) rfl rfl ?_)
   exact ⟨rfl, rfl⟩
  refine gD (fun W Fs R lF z9 => ?_) ?_
  ·replace har := har.mono lF
   replace hrs := hrs.mono lF
   rw [zA 11 (z9 11 rfl)]
   refine qg (qj jS rfl (Rd.own [_] rfl rfl) ?_)
   exact ⟨rfl, rfl⟩
  refine gD (fun W Fs R lF z9 => ?_) ?_
  ·replace har := har.mono lF
   replace hrs := hrs.mono lF
   rw [zA 12 (z9 12 rfl)]
   refine qg (qt (args := [rsv]) call37 rfl (cloneRules_spec hrs (hel := (by first | assumption | rfl | omega | simp)) (heb := (hrB))) ?_)
   rintro _ F6 _ le6 ⟨x4, rfl, hr4, rfl⟩
   exact ⟨⟨rfl, hr4⟩, rfl⟩
  exact stepsG.nil
 intro W F7 le7 hphi
 obtain ⟨e3, f3_1ha⟩ := hphi 3 (by decide)
 have e4 : W 4 = (.agg #[((W 3))] : Value) := hphi 4 (by decide)
 obtain ⟨e7, f7_1ha⟩ := hphi 7 (by decide)
 obtain ⟨e10, f10_1hr⟩ := hphi 10 (by decide)
 obtain ⟨e13, f13_1hr⟩ := hphi 13 (by decide)
 generalize hu1 : ((W 3)) = u1 at e3 f3_1ha e4 e7 f7_1ha e10 f10_1hr e13 f13_1hr
 generalize hu2 : ((W 7)) = u2 at e3 f3_1ha e4 e7 f7_1ha e10 f10_1hr e13 f13_1hr
 generalize hu3 : ((W 10)) = u3 at e3 f3_1ha e4 e7 f7_1ha e10 f10_1hr e13 f13_1hr
 generalize hu4 : ((W 13)) = u4 at e3 f3_1ha e4 e7 f7_1ha e10 f10_1hr e13 f13_1hr
 rw [eS (l := [(3, u1), (4, (.agg #[u1])), (7, u2), (10, u3), (13, u4)]) ⟨hu1, e4, hu2, hu3, hu4, ⟨⟩⟩]
 show XL _ _ _ _ _ _ _ (cellsH b2 [sN, sN, sN, sN] 32 :: cellsH b1 [arv, rkv, tdv, rsv] 32 :: L)
 refine cX (qZ [u1, u2, u3, u4] [sN, sN, sN, sN] [(0, 1), (1, 1), (2, 1), (3, 1)] [(0, [u1]), (1, [u2]), (2, [u3]), (3, [u4])] qS yh rfl (.cons rfl qB (.cons rfl qr (.cons rfl jJ (.cons rfl jB PlacesAre.nil)))) rfl (.cons rfl (.cons (cells_one (qp f7_1ha)) (.cons (cells_one (PairsF.isSl f10_1hr)) (.cons (cells_one (PairsF.isSl f13_1hr)) CellsAre.nil)))) (cX (qI [] _ [u1, u2, u3, u4] jb rfl rfl rfl (qm (qy (qp f3_1ha)) (qm (qy (qp f7_1ha)) (qm (qy (PairsF.isSl f10_1hr)) (qm (qy (PairsF.isSl f13_1hr)) qO)))) rfl rfl rfl (qb (qw (qu (L' := L) [.agg #[u1, u2, u3, u4]] (.agg #[u1, u2, u3, u4]) (.cell rfl (jA [u1, u2, u3, u4] jE jb rfl (Rd.ownN [] rfl rfl)) .nil) rfl le7 rF (sD (sD sR)) ?_))))))
 exact ⟨_, _, _, _, rfl, f3_1ha, f7_1ha, f10_1hr, f13_1hr, rfl⟩

/- impl.StartWork -/
theorem StartWork_spec {F : FH} {L : List HP} {arv : Value} {ar : List Int} (har : IntsF F arv ar) {esv : Value} {es : List (List Int × List Int)} (hes : PairsF F esv es) {rkv : Value} {rk : List Int} (hrk : IntsF F rkv rk) :
    Does prog 6 [.agg #[arv], esv, rkv] F (L) (fun v F' L' => ∃ (a : Value), ∃ (b : Value), ∃ (c : Value), ∃ (d : Value), (.tuple #[.agg #[a, b, c, d], .bool ((eqsOkL ar es && rankB ar rk))] : Value) = v ∧ (IntsF F' a (if (eqsOkL ar es && rankB ar rk) = true then ar else [])) ∧ (IntsF F' b (if (eqsOkL ar es && rankB ar rk) = true then rk else [])) ∧ (PairsF F' c (if (eqsOkL ar es && rankB ar rk) = true then es else [])) ∧ (PairsF F' d []) ∧ L = L') := by
 refine qH func6 rfl rfl rfl (qc (qa (cX (qY [arv] rfl rfl ?_))))
 intro b1
 refine cX (je [sN, sN, sN, sN] yh rfl ?_)
 intro b2
 refine qh (.bool (false)) rfl (qb (qc (qc (qa (cX (qv [arv] qU qB rfl rfl (Rd.ownN [_] rfl rfl) (qd (esv) rfl (cX (qt (args := [.agg #[arv], esv]) call16 rfl (EqsOk_spec har hes) ?_)))))))))
 rintro _ _ _ _ ⟨rfl, rfl, rfl⟩
 refine cX (ju rfl (qd (.bool (!(eqsOkL ar es))) rfl ?_))
 by_cases h1 : (!(eqsOkL ar es)) = true
 ·have heo : eqsOkL ar es = false := Bool.not_inj (y := false) h1
  have hno : (eqsOkL ar es && rankB ar rk) = false := by rw [heo]; rfl
  refine qq (t := 12) rfl (vB h1) (qq (t := 12) rfl (vB h1) (qq (t := 12) rfl (vB h1) (qq (t := 12) rfl (vB h1) (cX (qT (.bool (true)) (vB h1) rfl (qb (jO rfl (qc (qa (cX (qZ [sN, sN, sN, sN] [sN, sN, sN, sN] [(0, 1), (1, 1), (2, 1), (3, 1)] [] qS yh rfl (.cons rfl qB (.cons rfl qr (.cons rfl jJ (.cons rfl jB PlacesAre.nil)))) rfl CellsAre.nil (cX (qI [] _ [sN, sN, sN, sN] jb rfl rfl rfl (qm rfl (qm rfl (qm rfl (qm rfl qO)))) rfl rfl rfl ?_)))))))))))))
  refine qh (.bool (false)) rfl (qb (qw (qo (qu (L' := L) [.agg #[sN, sN, sN, sN], .bool (false)] (.tuple #[.agg #[sN, sN, sN, sN], .bool (false)]) (.cell rfl (jA [sN, sN, sN, sN] jE jb rfl (Rd.ownN [] rfl rfl)) (.tmp rfl .nil)) rfl rF rF (sD (sD sR)) ?_))))
  exact ⟨_, _, _, _, by rw [hno] <;> rfl, by rw [hno]; exact IntsF.nilV, by rw [hno]; exact IntsF.nilV, by rw [hno]; exact SlOf.nilV, SlOf.nilV, rfl⟩
 rw [Bool.not_eq_true] at h1
 have heo : eqsOkL ar es = true := Bool.not_inj (y := true) h1
 refine qs (t := 12) rfl (vB h1) (qv [arv] qU qB rfl rfl (Rd.ownN [_] rfl rfl) (qs (t := 12) rfl (vB h1) (ql (rkv) rfl (qs (t := 12) rfl (vB h1) (qt (args := [.agg #[arv], rkv]) call17 rfl (RankOk_spec har hrk) ?_)))))
 rintro _ _ _ _ ⟨rfl, rfl, rfl⟩
 refine qs (t := 12) rfl (vB h1) (ju rfl (cX (qP (.bool (!(rankB ar rk))) (vB h1) rfl (qb ?_))))
 refine jG (t := !(rankB ar rk)) rfl (fun h2 => ?_) (fun h2 => ?_)
 ·have hrb : rankB ar rk = false := Bool.not_inj (y := false) h2
  have hno : (eqsOkL ar es && rankB ar rk) = false := by rw [hrb, Bool.and_false]
  refine qc (qa (cX (qZ [sN, sN, sN, sN] [sN, sN, sN, sN] [(0, 1), (1, 1), (2, 1), (3, 1)] [] qS yh rfl (.cons rfl qB (.cons rfl qr (.cons rfl jJ (.cons rfl jB PlacesAre.nil)))) rfl CellsAre.nil (cX (qI [] _ [sN, sN, sN, sN] jb rfl rfl rfl (qm rfl (qm rfl (qm rfl (qm rfl qO)))) rfl rfl rfl (qh (.bool (false)) rfl (qb (qw (qo (qu (L' := L) [.agg #[sN, sN, sN, sN], .bool (false)] (.tuple #[.agg #[sN, sN, sN, sN], .bool (false)]) (.cell rfl (jA [sN, sN, sN, sN] jE jb rfl (Rd.ownN [] rfl rfl)) (.tmp rfl .nil)) rfl rF rF (sD (sD sR)) ?_))))))))))
  exact ⟨_, _, _, _, by rw [hno] <;> rfl, by rw [hno]; exact IntsF.nilV, by rw [hno]; exact IntsF.nilV, by rw [hno]; exact SlOf.nilV, SlOf.nilV, rfl⟩
 have hrb : rankB ar rk = true := Bool.not_inj (y := true) h2
 have hye : (eqsOkL ar es && rankB ar rk) = true := by rw [heo, hrb]; rfl
 have hsl := sigOk_spec (rank_sig hrb)
 have hrl := rank_len hrb
 have hel := eqsOk_len heo
 have heb := fun i (hi : i < es.length) => eqsOk_at heo hi
 refine qA (qc (qa (cX (qv [arv] qU qB rfl rfl (Rd.ownN [_] rfl rfl) (qd (rkv) rfl (qd (esv) rfl (cX (qZ [arv, rkv, esv, sN] [sN, sN, sN, sN] [(0, 1), (1, 1), (2, 1), (3, 1)] [(0, [arv]), (1, [rkv]), (2, [esv])] qS yh rfl (.cons rfl qB (.cons rfl qr (.cons rfl jJ (.cons rfl jB PlacesAre.nil)))) rfl (.cons rfl (.cons (cells_one (qp hrk)) (.cons (cells_one (PairsF.isSl hes)) CellsAre.nil))) (cX (qt (args := [.agg #[arv, rkv, esv, sN]]) call18 rfl (cloneWork_spec har hrk hes ((SlOf.nilV : PairsF _ _ _)) (hla := (by first | assumption | rfl | omega | simp)) (hlk := (by first | assumption | rfl | omega | simp)) (hlt := (by first | assumption | rfl | omega | simp)) (hlr := (by simp)) (htb := (fun i hi => ⟨Nat.le_trans (termOk_len (heb i hi).1).2 (by decide), Nat.le_trans (termOk_len (heb i hi).2).2 (by decide)⟩)) (hrB := (fun i hi => absurd hi (by simp)))) ?_))))))))))
 rintro _ F1 _ le1 ⟨x1, x2, x3, x4, rfl, hr1, hr2, hr3, hr4, rfl⟩
 refine cX (qI [] _ [x1, x2, x3, x4] jb rfl rfl rfl (qm (qy (qp hr1)) (qm (qy (qp hr2)) (qm (qy (PairsF.isSl hr3)) (qm (qy (PairsF.isSl hr4)) qO)))) rfl rfl rfl (qh (.bool (true)) rfl (qb (qw (qu (L' := L) [.agg #[x1, x2, x3, x4], .bool (true)] (.tuple #[.agg #[x1, x2, x3, x4], .bool (true)]) (.cell rfl (jA [x1, x2, x3, x4] jE jb rfl (Rd.ownN [] rfl rfl)) (.tmp rfl .nil)) rfl le1 rF (sD (sD sR)) ?_)))))
 exact ⟨_, _, _, _, by rw [hye] <;> rfl, by rw [hye]; exact hr1, by rw [hye]; exact hr2, by rw [hye]; exact hr3, hr4, rfl⟩

/- impl.renamedRule -/
theorem renamedRule_spec {F : FH} {L : List HP} {lv : Value} {l : List Int} (hl : IntsF F lv l) {rv : Value} {r : List Int} (hr : IntsF F rv r) (hll : l.length ≤ 60) (hlr : r.length ≤ 60) :
    Does prog 58 [.agg #[lv, rv]] F (L) (fun v F' L' => ∃ (a : Value), ∃ (b : Value), (.agg #[a, b] : Value) = v ∧ (IntsF F' a (renR (l, r)).1) ∧ (IntsF F' b (renR (l, r)).2) ∧ L = L') := by
 refine qH func58 rfl rfl rfl (qc (qa (cX (qY [lv, rv] rfl rfl ?_))))
 intro b1
 refine cX (je [sN, sN] jM rfl ?_)
 intro b2
 refine qb (qc (qa (cX (qn (0) jf rfl qr (by decide) rfl rfl (cX (qj qN rfl (Rd.own [_] rfl rfl) (cX (qn (1) jf rfl qr (by decide) rfl rfl (cX (qj qN rfl (Rd.own [_] rfl rfl) (cX (qD (s := 1) [lv, rv] [sN] [(0, [lv]), (1, [rv])] jl qr zeroValue24 rfl (by decide) rfl (.cons (cells_one (qp hl)) (.cons (cells_one (qp hr)) CellsAre.nil)) rfl ?_))))))))))))
 intro v1 hv1
 have hc1 : RowsC F [lv, rv] ([l, r] : List (List Int)) := (RowsC.snoc (RowsC.snoc (CO.nil : RowsC F [] []) hl) hr)
 refine XL.freezeF [] _ _ rfl (fun F1 le1 hz1 => ?_)
 replace hc1 := hc1.mono le1
 have hf1 : RowsF F1 v1 (([l, r] : List (List Int))) := CO.fz hc1 (by first | rfl | omega | (rw [List.length_set]; omega) | (simp; done) | (rw [List.length_append]; simp only [List.length_singleton]; omega)) hz1.fz
 refine cX (qt (args := [v1]) call69 rfl (renumber_spec hf1 (by simp) (fun i hi => by match i, hi with | 0, _ => exact hll | 1, _ => exact hlr)) ?_)
 rintro v2 F2 _ le2 ⟨cs1, Us1, hA1, hC1, hD1, hZ1, rfl⟩
 have hR1 : RowsF F2 v2 (rnL [] (([l, r] : List (List Int)))) := ⟨_, hA1, hC1.2⟩
 refine qh (v2) rfl (qb (qc ?_))
 obtain ⟨a1, ha1, hr1⟩ := hR1.rd (i := 0) (by rw [rnL_len]; simp)
 obtain ⟨a2, ha2, hr2⟩ := hR1.rd (i := 1) (by rw [rnL_len]; simp)
 refine jL [cellsH b2 [sN, sN] 79, cellsH b1 [lv, rv] 79] L 6 [] [[], [0], [1], [], [3], [4]] (phiL [qe v2, qe (.pointer (some (elemA v2 (0)))), qe a1, qe v2, qe (.pointer (some (elemA v2 (1)))), qe a2]) (ownL []) mixed rfl rfl (by kernel_rfl) ?_ ?_
 ·refine pD (fun W R z9 => ?_) ?_
  ·refine qg (ql (v2) rfl ?_)
   exact ⟨rfl, rfl, rfl⟩
  refine pD (fun W R z9 => ?_) ?_
  ·rw [zA 0 (z9 0 rfl)]
   refine qg (qx 0 jl qr rfl rfl rfl hR1.slv (by rw [rnL_len]; simp) (Nat.mul_one _) ?_)
   exact ⟨rfl, rfl, rfl⟩
  refine pD (fun W R z9 => ?_) ?_
  ·rw [zA 1 (z9 1 rfl)]
   refine qg (qj qN rfl (hr1 _) ?_)
   exact ⟨rfl, rfl, rfl⟩
  refine pD (fun W R z9 => ?_) ?_
  ·refine qg (ql (v2) rfl ?_)
   exact ⟨rfl, rfl, rfl⟩
  refine pD (fun W R z9 => ?_) ?_
  ·rw [zA 3 (z9 3 rfl)]
   refine qg (qx 1 jl qr rfl rfl rfl hR1.slv (by rw [rnL_len]; simp) (Nat.mul_one _) ?_)
   exact ⟨rfl, rfl, rfl⟩
  refine pD (fun W R z9 => ?_) ?_
  ·rw [zA 4 (z9 4 rfl)]
   refine qg (qj qN rfl (hr2 _) ?_)
   exact ⟨rfl, rfl, rfl⟩
  exact stepsP.nil
 intro W hphi
 rw [zB 2 5 (hphi 2 (by decide)) (hphi 5 (by decide))]
 show XL _ _ _ _ _ _ _ (cellsH b2 [sN, sN] 79 :: cellsH b1 [lv, rv] 79 :: L)
 refine cX (qZ [a1, a2] [sN, sN] [(0, 1), (1, 1)] [(0, [a1]), (1, [a2])] jf jM rfl (.cons rfl qr (.cons rfl qr PlacesAre.nil)) rfl (.cons (cells_one (qp ha1)) (.cons (cells_one (qp ha2)) CellsAre.nil)) (cX (qI [] _ [a1, a2] jp rfl rfl rfl (qm (qy (qp ha1)) (qm (qy (qp ha2)) qO)) rfl rfl rfl (qb (qw (qu (L' := L) [.agg #[a1, a2]] (.agg #[a1, a2]) (.cell rfl (jA [a1, a2] isAgg79 jp rfl (Rd.ownN [] rfl rfl)) .nil) rfl (qi le1 le2) rF (sD (sD sR)) ?_))))))
 exact ⟨_, _, rfl, ha1, ha2, rfl⟩

/- impl.oriented -/
theorem oriented_spec {F : FH} {L : List HP} {arv : Value} {ar : List Int} (har : IntsF F arv ar) {rkv : Value} {rk : List Int} (hrk : IntsF F rkv rk) {lv : Value} {l : List Int} (hl : IntsF F lv l) {rv : Value} {r : List Int} (hr : IntsF F rv r) (hrb : rankB ar rk = true) (hol : termOk ar l = true) (hor : termOk ar r = true) :
    Does prog 47 [.agg #[arv], rkv, .agg #[lv, rv]] F (L) (fun v F' L' => ∃ (a : Value), ∃ (b : Value), (.tuple #[.agg #[a, b], .bool ((orientR ar rk (l, r)).isSome)] : Value) = v ∧ (IntsF F' a ((orientR ar rk (l, r)).getD ([], [])).1) ∧ (IntsF F' b ((orientR ar rk (l, r)).getD ([], [])).2) ∧ L = L') := by
 refine qH func47 rfl rfl rfl ?_
 have hll := (termOk_len hol).2
 have hlr := (termOk_len hor).2
 refine qc (qa (cX (qY [arv] rfl rfl ?_)))
 intro b1
 refine cX (qY [lv, rv] rfl rfl ?_)
 intro b2
 refine cX (je [sN, sN] jM rfl ?_)
 intro b3
 refine qh (.bool (false)) rfl (qb (qc (qJ (qc (qa (cX (qv [arv] qU qB rfl rfl (Rd.ownN [_, _] rfl rfl) (qd (rkv) rfl (cX (qn (1) jd rfl qr (by decide) rfl rfl (cX (qj qN rfl (Rd.own [_] rfl rfl) (cX (qn (0) jd rfl qr (by decide) rfl rfl (cX (qj qN rfl (Rd.own [_] rfl rfl) (cX (qt (args := [.agg #[arv], rkv, rv, lv]) call41 rfl (lpoLess_spec har hrk hr hl (hrb := (by first | assumption | rfl | omega | simp)) (hot := (by first | exact hol | exact hor)) (hos := (by first | exact hor | exact hol))) ?_))))))))))))))))))
 rintro _ F1 _ le1 ⟨rfl, rfl⟩
 replace har := har.mono le1
 replace hrk := hrk.mono le1
 replace hl := hl.mono le1
 replace hr := hr.mono le1
 refine qh (.bool (lpB ar rk l r)) rfl (qb ?_)
 refine jG (t := lpB ar rk l r) rfl (fun h1 => ?_) (fun h1 => ?_)
 ·have h1 : lpB ar rk l r = true := h1
  refine qc (qa (cX (qn (0) jd rfl qr (by decide) rfl rfl (cX (qj qN rfl (Rd.own [_] rfl rfl) (cX (qn (1) jd rfl qr (by decide) rfl rfl (cX (qj qN rfl (Rd.own [_] rfl rfl) (cX (qZ [lv, rv] [sN, sN] [(0, 1), (1, 1)] [(0, [lv]), (1, [rv])] jf jM rfl (.cons rfl qr (.cons rfl qr PlacesAre.nil)) rfl (.cons (cells_one (qp hl)) (.cons (cells_one (qp hr)) CellsAre.nil)) (cX (qt (args := [.agg #[lv, rv]]) call58 rfl (renamedRule_spec hl hr (hll := (by first | assumption | rfl | omega | simp)) (hlr := (by first | assumption | rfl | omega | simp))) ?_)))))))))))))
  rintro _ F2 _ le2 ⟨x1, x2, rfl, hr1, hr2, rfl⟩
  replace har := har.mono le2
  replace hrk := hrk.mono le2
  replace hl := hl.mono le2
  replace hr := hr.mono le2
  refine cX (qI [] _ [x1, x2] jp rfl rfl rfl (qm (qy (qp hr1)) (qm (qy (qp hr2)) qO)) rfl rfl rfl (qh (.bool (true)) rfl (qb (qw (qF (qo (qu (L' := L) [.agg #[x1, x2], .bool (true)] (.tuple #[.agg #[x1, x2], .bool (true)]) (.cell rfl (jA [x1, x2] isAgg79 jp rfl (Rd.ownN [] rfl rfl)) (.tmp rfl .nil)) rfl (qi le1 le2) rF (sD (sD (sD sR))) ?_)))))))
  have e9 := by first | exact orient_one h1 | exact orient_two h1 h2
  exact ⟨_, _, by rw [e9]; rfl, by rw [e9]; exact hr1, by rw [e9]; exact hr2, rfl⟩
 have h1 : lpB ar rk l r = false := h1
 refine qc (qa (cX (qv [arv] qU qB rfl rfl (Rd.ownN [_, _] rfl rfl) (qd (rkv) rfl (cX (qn (0) jd rfl qr (by decide) rfl rfl (cX (qj qN rfl (Rd.own [_] rfl rfl) (cX (qn (1) jd rfl qr (by decide) rfl rfl (cX (qj qN rfl (Rd.own [_] rfl rfl) (cX (qt (args := [.agg #[arv], rkv, lv, rv]) call41 rfl (lpoLess_spec har hrk hl hr (hrb := (by first | assumption | rfl | omega | simp)) (hot := (by first | exact hol | exact hor)) (hos := (by first | exact hor | exact hol))) ?_))))))))))))))
 rintro _ F3 _ le3 ⟨rfl, rfl⟩
 replace hl := hl.mono le3
 replace hr := hr.mono le3
 refine qh (.bool (lpB ar rk r l)) rfl (qb ?_)
 refine jG (t := lpB ar rk r l) rfl (fun h2 => ?_) (fun h2 => ?_)
 ·have h2 : lpB ar rk r l = true := h2
  refine qc (qa (cX (qn (1) jd rfl qr (by decide) rfl rfl (cX (qj qN rfl (Rd.own [_] rfl rfl) (cX (qn (0) jd rfl qr (by decide) rfl rfl (cX (qj qN rfl (Rd.own [_] rfl rfl) (cX (qZ [rv, lv] [sN, sN] [(0, 1), (1, 1)] [(0, [rv]), (1, [lv])] jf jM rfl (.cons rfl qr (.cons rfl qr PlacesAre.nil)) rfl (.cons (cells_one (qp hr)) (.cons (cells_one (qp hl)) CellsAre.nil)) (cX (qt (args := [.agg #[rv, lv]]) call58 rfl (renamedRule_spec hr hl (hll := (by first | assumption | rfl | omega | simp)) (hlr := (by first | assumption | rfl | omega | simp))) ?_)))))))))))))
  rintro _ F4 _ le4 ⟨x3, x4, rfl, hr3, hr4, rfl⟩
  refine cX (qI [] _ [x3, x4] jp rfl rfl rfl (qm (qy (qp hr3)) (qm (qy (qp hr4)) qO)) rfl rfl rfl (qh (.bool (true)) rfl (qb (qw (qF (qo (qu (L' := L) [.agg #[x3, x4], .bool (true)] (.tuple #[.agg #[x3, x4], .bool (true)]) (.cell rfl (jA [x3, x4] isAgg79 jp rfl (Rd.ownN [] rfl rfl)) (.tmp rfl .nil)) rfl (qi (qi le1 le3) le4) rF (sD (sD (sD sR))) ?_)))))))
  have e9 := by first | exact orient_one h1 | exact orient_two h1 h2
  exact ⟨_, _, by rw [e9]; rfl, by rw [e9]; exact hr3, by rw [e9]; exact hr4, rfl⟩
 have h2 : lpB ar rk r l = false := h2
 refine qA (qc (qa (cX (qZ [sN, sN] [sN, sN] [(0, 1), (1, 1)] [] jf jM rfl (.cons rfl qr (.cons rfl qr PlacesAre.nil)) rfl CellsAre.nil (cX (qI [] _ [sN, sN] jp rfl rfl rfl (qm rfl (qm rfl qO)) rfl rfl rfl (qh (.bool (false)) rfl (qb (qw (qu (L' := L) [.agg #[sN, sN], .bool (false)] (.tuple #[.agg #[sN, sN], .bool (false)]) (.cell rfl (jA [sN, sN] isAgg79 jp rfl (Rd.ownN [] rfl rfl)) (.tmp rfl .nil)) rfl (qi le1 le3) rF (sD (sD (sD sR))) ?_))))))))))
 have e9 : orientR ar rk (l, r) = none := orient_none h1 h2
 exact ⟨_, _, by rw [e9]; rfl, by rw [e9]; exact IntsF.nilV, by rw [e9]; exact IntsF.nilV, rfl⟩

/- (impl.Work).selected -/
theorem selected_spec {F : FH} {L : List HP} {arv : Value} {ar : List Int} (har : IntsF F arv ar) {rkv : Value} {rk : List Int} (hrk : IntsF F rkv rk) {tdv : Value} {td : List (List Int × List Int)} (htd : PairsF F tdv td) {rsv : Value} {rs : List (List Int × List Int)} (hrs : PairsF F rsv rs) (hlt : td.length ≤ 4000000) (htb : ∀ i, i < td.length → (td.getD i ([], [])).1.length ≤ 4000000 ∧ (td.getD i ([], [])).2.length ≤ 4000000) :
    Does prog 42 [.agg #[arv, rkv, tdv, rsv]] F (L) (fun v F' L' => (ii (((selN td td.length : Nat) : Int)) : Value) = v ∧ F = F' ∧ L = L') := by
 refine qH func42 rfl rfl rfl (qc (qa (cX (qY [arv, rkv, tdv, rsv] rfl rfl ?_))))
 intro b1
 refine qh (ii (0)) rfl (qb (qc (qa (qh (ii (0)) rfl (qb (qc (qc (qa (cX (qn (2) qS rfl jJ (by decide) rfl rfl (cX (qj isAgg27 rfl (Rd.own [] rfl rfl) (cX (qG qQ rfl htd.slv (qd (ii (0)) rfl (qb (qJ (jv (α := Nat) (fun k => [(1, ptr b1 0), (3, ii (((selN td k : Nat) : Int))), (7, tdv), (8, ii ((td.length : Int))), (9, ii ((k : Int)))]) (fun k => cellsH b1 [arv, rkv, tdv, rsv] 32 :: L) (fun k F' => F = F' ∧ (k ≤ td.length)) (fun k => td.length - k) 0 ⟨rfl, rfl, rfl, rfl, rfl, ⟨⟩⟩ (sC sR) ⟨rfl, (Nat.zero_le _)⟩ ?_))))))))))))))))))
 rintro k rE _ _ ⟨rfl, hk⟩
 show X _ _ _ _ (envs [(1, ptr b1 0), (3, ii (((selN td k : Nat) : Int))), (7, tdv), (8, ii ((td.length : Int))), (9, ii ((k : Int)))] rE) _ (cellsH b1 [arv, rkv, tdv, rsv] 32 :: L)
 have htk := htb k
 have hsk := fun (h : k < td.length) => selN_lt (td := td) k (by omega) (by omega)
 have hts := fun h => htb (selN td k) (hsk h)
 have hss : selN td (k + 1) = if szE (td.getD k ([], [])) < szE (td.getD (selN td k) ([], [])) then k else selN td k := rfl
 refine qc (qa (cX (qX rfl rfl (qb (qc ?_)))))
 refine qE (p := (k : Int) < (td.length : Int)) rfl (fun h1 => ?_) (fun h1 => ?_)
 ·refine qA (qc (qJ (qc (qa (qd (ii ((k : Int))) rfl (cX (qx k qQ jF rfl rfl rfl htd.slv (by omega) rfl ?_)))))))
  obtain ⟨a1, a2, ha1, ha2, hr1, hr2⟩ := htd.rd (i := k) (by omega)
  refine cX (qv [a1, a2] isAgg53 jF rfl rfl (Rd.two (hr1 _) (hr2 _)) (cX (je [sN, sN] jw rfl ?_)))
  intro b2
  refine qh (ii ((k : Int))) rfl (cX (qI [] _ [a1, a2] jF rfl rfl rfl (qm (qy (qp ha1)) (qm (qy (qp ha2)) qO)) rfl rfl rfl (qb (qc ?_))))
  obtain ⟨a3, a4, ha3, ha4, hr3, hr4⟩ := htd.rd (i := selN td k) (by omega)
  refine jL [cellsH b2 [a1, a2] 53, cellsH b1 [arv, rkv, tdv, rsv] 32] L 22 [] [[], [0], [1], [], [3], [4], [2, 5], [], [7], [], [8, 9], [10], [11], [12], [], [14], [], [15, 16], [17], [18], [19], [13, 20]] (phiL [qe (ptr b2 0), qe a1, qe (ii (((((td.getD k ([], [])).1).length : Nat) : Int)) : Value), qe (ptr b2 1), qe a2, qe (ii (((((td.getD k ([], [])).2).length : Nat) : Int)) : Value), qe (ii ((((((td.getD k ([], [])).1).length) + (((td.getD k ([], [])).2).length) : Nat) : Int)) : Value), qe (ptr b1 2), qe tdv, qe (ii (((selN td k : Nat) : Int)) : Value), qe (.pointer (some (elemA tdv ((selN td k) * 2)))), qe (.pointer (some (elemA tdv ((selN td k) * 2)))), qe a3, qe (ii (((((td.getD (selN td k) ([], [])).1).length : Nat) : Int)) : Value), qe (ptr b1 2), qe tdv, qe (ii (((selN td k : Nat) : Int)) : Value), qe (.pointer (some (elemA tdv ((selN td k) * 2)))), qe (.pointer (some (elemA tdv ((selN td k) * 2 + 1)))), qe a4, qe (ii (((((td.getD (selN td k) ([], [])).2).length : Nat) : Int)) : Value), qe (ii ((((((td.getD (selN td k) ([], [])).1).length) + (((td.getD (selN td k) ([], [])).2).length) : Nat) : Int)) : Value)]) (ownL []) mixed rfl rfl (by kernel_rfl) ?_ ?_
  ·refine pD (fun W R z9 => ?_) ?_
   ·refine qg (qn (0) jd rfl qr (by decide) rfl rfl ?_)
    exact ⟨rfl, rfl, rfl⟩
   refine pD (fun W R z9 => ?_) ?_
   ·rw [zA 0 (z9 0 rfl)]
    refine qg (qj qN rfl (Rd.own [] rfl rfl) ?_)
    exact ⟨rfl, rfl, rfl⟩
   refine pD (fun W R z9 => ?_) ?_
   ·rw [zA 1 (z9 1 rfl)]
    refine qg (qG qf rfl ha1.slv ?_)
    exact ⟨rfl, rfl, rfl⟩
   refine pD (fun W R z9 => ?_) ?_
   ·refine qg (qn (1) jd rfl qr (by decide) rfl rfl ?_)
    exact ⟨rfl, rfl, rfl⟩
   refine pD (fun W R z9 => ?_) ?_
   ·rw [zA 3 (z9 3 rfl)]
    refine qg (qj qN rfl (Rd.own [] rfl rfl) ?_)
    exact ⟨rfl, rfl, rfl⟩
   refine pD (fun W R z9 => ?_) ?_
   ·rw [zA 4 (z9 4 rfl)]
    refine qg (qG qf rfl ha2.slv ?_)
    exact ⟨rfl, rfl, rfl⟩
   refine pD (fun W R z9 => ?_) ?_
   ·rw [zB 2 5 (z9 2 rfl) (z9 5 rfl)]
    refine qg (qM ((((((td.getD k ([], [])).1).length) + (((td.getD k ([], [])).2).length) : Nat) : Int)) rfl rfl (by omega) (by omega) ?_)
    exact ⟨rfl, rfl, rfl⟩
   refine pD (fun W R z9 => ?_) ?_
   ·refine qg (qn (2) qS rfl jJ (by decide) rfl rfl ?_)
    exact ⟨rfl, rfl, rfl⟩
   refine pD (fun W R z9 => ?_) ?_
   ·rw [zA 7 (z9 7 rfl)]
    refine qg (qj isAgg27 rfl (Rd.own [_] rfl rfl) ?_)
    exact ⟨rfl, rfl, rfl⟩
   refine pD (fun W R z9 => ?_) ?_
   ·refine qg (ql (ii (((selN td k : Nat) : Int))) rfl ?_)
    exact ⟨rfl, rfl, rfl⟩
   refine pD (fun W R z9 => ?_) ?_
   ·rw [zB 8 9 (z9 8 rfl) (z9 9 rfl)]
    refine qg (qx (selN td k) qQ jF rfl rfl rfl htd.slv (by omega) rfl ?_)
    exact ⟨rfl, rfl, rfl⟩
   refine pD (fun W R z9 => ?_) ?_
   ·rw [zA 10 (z9 10 rfl)]
    refine qg (XOp.fieldE ((selN td k) * 2) jd rfl qr (by decide) rfl rfl ?_)
    exact ⟨rfl, rfl, rfl⟩
   refine pD (fun W R z9 => ?_) ?_
   ·rw [zA 11 (z9 11 rfl)]
    refine qg (qj qN rfl (hr3 _) ?_)
    exact ⟨rfl, rfl, rfl⟩
   refine pD (fun W R z9 => ?_) ?_
   ·rw [zA 12 (z9 12 rfl)]
    refine qg (qG qf rfl ha3.slv ?_)
    exact ⟨rfl, rfl, rfl⟩
   refine pD (fun W R z9 => ?_) ?_
   ·refine qg (qn (2) qS rfl jJ (by decide) rfl rfl ?_)
    exact ⟨rfl, rfl, rfl⟩
   refine pD (fun W R z9 => ?_) ?_
   ·rw [zA 14 (z9 14 rfl)]
    refine qg (qj isAgg27 rfl (Rd.own [_] rfl rfl) ?_)
    exact ⟨rfl, rfl, rfl⟩
   refine pD (fun W R z9 => ?_) ?_
   ·refine qg (ql (ii (((selN td k : Nat) : Int))) rfl ?_)
    exact ⟨rfl, rfl, rfl⟩
   refine pD (fun W R z9 => ?_) ?_
   ·rw [zB 15 16 (z9 15 rfl) (z9 16 rfl)]
    refine qg (qx (selN td k) qQ jF rfl rfl rfl htd.slv (by omega) rfl ?_)
    exact ⟨rfl, rfl, rfl⟩
   refine pD (fun W R z9 => ?_) ?_
   ·rw [zA 17 (z9 17 rfl)]
    refine qg (XOp.fieldE ((selN td k) * 2 + 1) jd rfl qr (by decide) rfl rfl ?_)
    exact ⟨rfl, rfl, rfl⟩
   refine pD (fun W R z9 => ?_) ?_
   ·rw [zA 18 (z9 18 rfl)]
    refine qg (qj qN rfl (hr4 _) ?_)
    exact ⟨rfl, rfl, rfl⟩
   refine pD (fun W R z9 => ?_) ?_
   ·rw [zA 19 (z9 19 rfl)]
    refine qg (qG qf rfl ha4.slv ?_)
    exact ⟨rfl, rfl, rfl⟩
   refine pD (fun W R z9 => ?_) ?_
   ·rw [zB 13 20 (z9 13 rfl) (z9 20 rfl)]
    refine qg (qM ((((((td.getD (selN td k) ([], [])).1).length) + (((td.getD (selN td k) ([], [])).2).length) : Nat) : Int)) rfl rfl (by omega) (by omega) ?_)
    exact ⟨rfl, rfl, rfl⟩
   exact stepsP.nil
  intro W hphi
  rw [zB 6 21 (hphi 6 (by decide)) (hphi 21 (by decide))]
  show XL _ _ _ _ _ _ _ (cellsH b2 [a1, a2] 53 :: cellsH b1 [arv, rkv, tdv, rsv] 32 :: L)
  refine cX (qX rfl rfl (qb ?_))
  refine qE (p := ((((((td.getD k ([], [])).1).length) + (((td.getD k ([], [])).2).length) : Nat) : Int) : Int) < (((((td.getD (selN td k) ([], [])).1).length) + (((td.getD (selN td k) ([], [])).2).length) : Nat) : Int)) rfl (fun h2 => ?_) (fun h2 => ?_)
  ·refine qa (qd (ii ((k : Int))) rfl (qh (ii ((k : Int))) rfl (qb (qa (cX (qM (((k + 1 : Nat) : Int)) rfl rfl (by omega) (by omega) (qd (ii (((k + 1 : Nat) : Int))) rfl (qb ?_))))))))
   exact ⟨k + 1, _, FLe.refl _, rF, ⟨rfl, (vI (by first | rfl | ((try dsimp only); rw [hss]; first | rw [if_pos (by unfold szE; omega)] | rw [if_neg (by unfold szE; omega)]))), rfl, rfl, rfl, ⟨⟩⟩, (sD (sC sR)), ⟨rfl, (by (try dsimp only) <;> omega)⟩, (by omega)⟩
  refine qA (qa (cX (qM (((k + 1 : Nat) : Int)) rfl rfl (by omega) (by omega) (qd (ii (((k + 1 : Nat) : Int))) rfl (qb ?_)))))
  exact ⟨k + 1, _, FLe.refl _, rF, ⟨rfl, (vI (by first | rfl | ((try dsimp only); rw [hss]; first | rw [if_pos (by unfold szE; omega)] | rw [if_neg (by unfold szE; omega)]))), rfl, rfl, rfl, ⟨⟩⟩, (sD (sC sR)), ⟨rfl, (by (try dsimp only) <;> omega)⟩, (by omega)⟩
 refine jn (qz (qz (qR (qc (qa (qd (ii (((selN td k : Nat) : Int))) rfl (qh (ii (((selN td k : Nat) : Int))) rfl (qb (qw (qu (L' := L) [ii (((selN td k : Nat) : Int))] (ii (((selN td k : Nat) : Int))) (.tmp rfl .nil) rfl rF rF (sD sR) ?_))))))))))
 exact ⟨(vI (by rw [show td.length = k from by omega])), rfl, rfl⟩

/- impl.hasInstance -/
theorem hasInstance_spec {F : FH} {L : List HP} {arv : Value} {ar : List Int} (har : IntsF F arv ar) {tv : Value} {t : List Int} (ht : IntsF F tv t) {pv : Value} {p : List Int} (hp : IntsF F pv p) (hot : termOk ar t = true) (hop : termOk ar p = true) :
    Does prog 59 [.agg #[arv], tv, pv] F (L) (fun v F' L' => (.bool (hasI ar t p) : Value) = v ∧ F = F' ∧ L = L') := by
 refine qH func59 rfl rfl rfl ?_
 have htl := termOk_len hot
 have hnn := jx ht (by omega)
 refine qc (qa (cX (qY [arv] rfl rfl ?_)))
 intro b1
 refine qh (.bool (false)) rfl (qb (qc (qc (qa (qd (tv) rfl (cX (qG qf rfl ht.slv (qd (ii (0)) rfl (qb (qJ (jv (α := Nat) (fun k => [(1, tv), (2, pv), (3, ptr b1 0), (9, ii ((t.length : Int))), (10, ii ((k : Int)))]) (fun k => cellsH b1 [arv] 26 :: L) (fun k F' => F = F' ∧ (k ≤ t.length) ∧ (∀ i, i < k → (matchB ar p (sub ar t i)).isSome = false)) (fun k => t.length - k) 0 ⟨rfl, rfl, rfl, rfl, rfl, ⟨⟩⟩ (sC sR) ⟨rfl, (by (try dsimp only) <;> omega), (fun i hi => absurd hi (by omega))⟩ ?_)))))))))))
 rintro k rE _ _ ⟨rfl, hk, hno⟩
 show X _ _ _ _ (envs [(1, tv), (2, pv), (3, ptr b1 0), (9, ii ((t.length : Int))), (10, ii ((k : Int)))] rE) _ (cellsH b1 [arv] 26 :: L)
 refine qc (qa (cX (qX rfl rfl (qb (qc ?_)))))
 refine qE (p := (k : Int) < (t.length : Int)) rfl (fun h1 => ?_) (fun h1 => ?_)
 ·refine qA (qc (qJ (qc (qa (qd (ii ((k : Int))) rfl (qh (ii ((k : Int))) rfl (qb (qc ?_))))))))
  refine yc [cellsH b1 [arv] 26] L 6 [] [[], [], [], [], [], [2, 3, 4]] [] (phiG [pe (.agg #[arv]), pe pv, pe (.agg #[arv]), pe tv, pe (ii ((k : Int)) : Value), fun FF us v => ((v) : Value) = v ∧ (IntsF FF (v) (sub ar t k)) ∧ (isNil (v) = false)]) (ownL []) mixed rfl rfl (by kernel_rfl) (by kernel_rfl) (MonoG.get (m1 (m1 (m1 (m1 (m1 (mC (fun le h => ⟨h.1, h.2.1.mono le, h.2.2⟩) MonoG.nil))))))) ?_ ?_
  ·refine gD (fun W Fs R lF z9 => ?_) ?_
   ·replace har := har.mono lF
    replace ht := ht.mono lF
    replace hp := hp.mono lF
    refine qg (qv [arv] qU qB rfl rfl (Rd.ownN [] rfl rfl) ?_)
    exact ⟨rfl, rfl⟩
   refine gD (fun W Fs R lF z9 => ?_) ?_
   ·refine qg (ql (pv) rfl ?_)
    exact ⟨rfl, rfl⟩
   refine gD (fun W Fs R lF z9 => ?_) ?_
   ·replace har := har.mono lF
    replace ht := ht.mono lF
    replace hp := hp.mono lF
    refine qg (qv [arv] qU qB rfl rfl (Rd.ownN [] rfl rfl) ?_)
    exact ⟨rfl, rfl⟩
   refine gD (fun W Fs R lF z9 => ?_) ?_
   ·refine qg (ql (tv) rfl ?_)
    exact ⟨rfl, rfl⟩
   refine gD (fun W Fs R lF z9 => ?_) ?_
   ·refine qg (ql (ii ((k : Int))) rfl ?_)
    exact ⟨rfl, rfl⟩
   refine gD (fun W Fs R lF z9 => ?_) ?_
   ·replace har := har.mono lF
    replace ht := ht.mono lF
    replace hp := hp.mono lF
    rw [eS (l := [(2, _), (3, _), (4, _)]) ⟨z9 2 rfl, z9 3 rfl, z9 4 rfl, ⟨⟩⟩]
    refine qg (qt (args := [.agg #[arv], tv, ii (k : Int)]) call71 rfl (subAtW_spec (p := k) har ht (ho := (termW_of hot)) (hp := (by omega)) (hnn := (hnn))) ?_)
    rintro v2 _ _ _ ⟨rfl, rfl, hv2, hn2⟩
    exact ⟨⟨rfl, hv2, hn2⟩, rfl⟩
   exact stepsG.nil
  intro W F1 le1 hphi
  obtain ⟨e5, f5_1ha, f5_1hn⟩ := hphi 5 (by decide)
  generalize hu1 : ((W 5)) = u1 at e5 f5_1ha f5_1hn
  rw [eS (l := [(0, _), (1, _), (5, u1)]) ⟨(hphi 0 (by decide)), (hphi 1 (by decide)), hu1, ⟨⟩⟩]
  replace har := har.mono le1
  replace hp := hp.mono le1
  show XL _ _ _ _ _ _ _ (cellsH b1 [arv] 26 :: L)
  refine cX (qt (args := [.agg #[arv], pv, u1]) call70 rfl (instance_spec har hp f5_1ha (ho := (sub_ok hot (by omega))) (hpo := (hop))) ?_)
  rintro _ _ _ _ ⟨rfl, rfl, rfl⟩
  refine qb ?_
  refine jG (t := (matchB ar p ((sub ar t k))).isSome) rfl (fun h2 => ?_) (fun h2 => ?_)
  ·have hm9 : (matchB ar p (sub ar t k)).isSome = true := h2
   refine qc (qa (qh (.bool (true)) rfl (qb (qw (qF (qo (qo (qF (qo (qu (L' := L) [.bool (true)] (.bool (true)) (.tmp rfl .nil) rfl rF le1 (sD sR) ?_))))))))))
   exact ⟨(vB (has_at (k := k) (by omega) hm9)), rfl, rfl⟩
  have hm9 : (matchB ar p (sub ar t k)).isSome = false := h2
  refine qA (qa (cX (qM (((k + 1 : Nat) : Int)) rfl rfl (by omega) (by omega) (qd (ii (((k + 1 : Nat) : Int))) rfl (qb ?_)))))
  exact ⟨k + 1, _, FLe.refl _, le1, ⟨rfl, rfl, rfl, rfl, rfl, ⟨⟩⟩, (sC sR), ⟨rfl, (by (try dsimp only) <;> omega), (fun i hi => (Nat.lt_or_ge i k).elim (fun h => hno i h) (fun h => by obtain rfl : i = k := (by omega); exact hm9))⟩, (by omega)⟩
 refine jn (qz (qz (qR (qc (qa (qh (.bool (false)) rfl (qb (qw (qu (L' := L) [.bool (false)] (.bool (false)) (.tmp rfl .nil) rfl rF rF (sD sR) ?_)))))))))
 exact ⟨(vB (has_no (fun i hi => hno i (by omega)))), rfl, rfl⟩

/- slices.Clone[[]impl.Eq,impl.Eq] -/
theorem CloneEq_spec {F : FH} {L : List HP} {esv : Value} {es : List (List Int × List Int)} (hes : PairsF F esv es) (h0 : 0 < es.length) (hel : es.length ≤ 4000000) :
    Does prog 45 [esv] F (L) (fun v F' L' => ∃ cs, (IsSl v ∧ PairsC F' cs es) ∧ slH 53 2 v es.length cs :: L = L') := by
 refine qH func45 rfl rfl rfl (qc (qa (qh (sN) rfl (qb (qc (qc (qa (qd (esv) rfl (cX (XOp.eqNil qQ rfl rfl (PairsF.isSl hes) (qb ?_)))))))))))
 refine jG (t := isNil esv) rfl (fun h1 => ?_) (fun h1 => ?_)
 ·exact absurd (h1.symm.trans (pairs_notNil hes h0)) (by decide)
 refine qA (qc (qa (cX (qD (s := 2) [] [sN, sN] [] qQ jF jw rfl (by decide) rfl CellsAre.nil rfl ?_))))
 intro v1 hv1
 refine qd (esv) rfl ?_
 have hc1 : PairsC F [] ([] : List (List Int × List Int)) := (CO.nil : PairsC F [] [])
 skip
 refine cX (XOp.appendPairs (bytes := 48) (cs := []) [] _ qQ typeInfo53 rfl rfl rfl rfl rfl rfl rfl hc1 hes (by omega) (by omega) ?_)
 intro v2 ds1 hs1 hc2
 refine qh (v2) rfl (qb (qw (qu (L' := slH 53 2 v2 es.length (([] ++ ds1)) :: L) [v2] (v2) (.tmp rfl .nil) rfl rF rF (qW (sC sR) (Sub.keep (fun l hl => by simpa using hl) sR)) ?_)))
 exact ⟨_, ⟨hs1, by simpa using hc2⟩, rfl⟩

/- slices.Delete[[]impl.Eq,impl.Eq] -/
set_option maxHeartbeats 1000000 in
set_option maxRecDepth 20000 in
theorem DeleteEq_spec {F : FH} {L : List HP} {sv : Value} {cs : List Value} {n k n9 : Nat} (hk : k < n) (hn : n ≤ 4000000) (h1 : ∀ u ∈ cs, u.oneCell' = true) (h9 : n9 = n - 1) :
    Does prog 44 [sv, ii ((k : Int)), ii (((k + 1 : Nat) : Int))] F (slH 53 2 sv n cs :: L) (fun v F' L' => (F = F' ∧ IsSl v) ∧ slH 53 2 v n9 (cs.take (k * 2) ++ cs.drop ((k + 1) * 2)) :: L = L') := by
 refine qH func44 rfl rfl rfl ?_
 subst h9
 refine X.openSl [] _ rfl (by omega) (fun b cap spare hv hc hsp hl => ?_)
 subst hv
 have hcl : (cs ++ spare).length = cap * 2 := by rw [List.length_append, hl, hsp]; omega
 have ho : ∀ u ∈ ((cs ++ spare).drop ((k + 1) * 2)).take ((n - (k + 1)) * 2), u.oneCell' = true := fun u hu => by rw [List.drop_append_of_le_length (by omega), List.take_append_of_le_length (by rw [List.length_drop]; omega)] at hu; exact h1 u (List.mem_of_mem_drop (List.mem_of_mem_take hu))
 refine qc (qa (qh (sN) rfl (qb (qc (qa (qd ((.slice (some ⟨b, 0, none⟩) n cap)) rfl (qd (ii ((k : Int))) rfl (qd (ii (((k + 1 : Nat) : Int))) rfl (qd ((.slice (some ⟨b, 0, none⟩) n cap)) rfl (cX (qG qQ rfl (slvB (by omega)) (cX (XOp.slice3B (b := b) (n := n) (cap := cap) (l := k) (h := k + 1) (m := n) qQ jF rfl rfl rfl rfl (by omega) (by omega) (by omega) ?_)))))))))))))
 intro v1
 refine qb (qc (qc (qa (qd (ii ((k : Int))) rfl (qd (ii (((k + 1 : Nat) : Int))) rfl (cX (jo rfl rfl (qb ?_))))))))
 refine qE (p := (k : Int) = ((k + 1 : Nat) : Int)) rfl (fun h1 => ?_) (fun h1 => ?_)
 ·exact absurd h1 (by omega)
 refine qA (qc (qa (qd ((.slice (some ⟨b, 0, none⟩) n cap)) rfl (cX (qG qQ rfl (slvB (by omega)) (qh (ii ((n : Int))) rfl (qb (qc ?_))))))))
 refine jL [cellsH b (cs ++ spare) 53] L 6 [] [[], [], [0, 1], [], [], [3, 4]] (phiL [qe (.slice (some ⟨b, 0, none⟩) n cap), qe (ii ((k : Int)) : Value), qe (.slice (some ⟨b, 0, none⟩) k cap), qe (.slice (some ⟨b, 0, none⟩) n cap), qe (ii (((k + 1 : Nat) : Int)) : Value), qe (.slice (if cap = k + 1 then some ⟨b, 0, none⟩ else some ⟨b, (k + 1) * 2, none⟩) (n - (k + 1)) (cap - (k + 1)))]) (ownL []) mixed rfl rfl (by kernel_rfl) ?_ ?_
 ·refine pD (fun W R z9 => ?_) ?_
  ·refine qg (ql ((.slice (some ⟨b, 0, none⟩) n cap)) rfl ?_)
   exact ⟨rfl, rfl, rfl⟩
  refine pD (fun W R z9 => ?_) ?_
  ·refine qg (ql (ii ((k : Int))) rfl ?_)
   exact ⟨rfl, rfl, rfl⟩
  refine pD (fun W R z9 => ?_) ?_
  ·rw [zB 0 1 (z9 0 rfl) (z9 1 rfl)]
   refine qg (XOp.sliceK (b := b) (n := n) (cap := cap) (h := k) qQ jF rfl ⟨_, rfl⟩ (by omega) ?_)
   exact ⟨rfl, rfl, rfl⟩
  refine pD (fun W R z9 => ?_) ?_
  ·refine qg (ql ((.slice (some ⟨b, 0, none⟩) n cap)) rfl ?_)
   exact ⟨rfl, rfl, rfl⟩
  refine pD (fun W R z9 => ?_) ?_
  ·refine qg (ql (ii (((k + 1 : Nat) : Int))) rfl ?_)
   exact ⟨rfl, rfl, rfl⟩
  refine pD (fun W R z9 => ?_) ?_
  ·rw [zB 3 4 (z9 3 rfl) (z9 4 rfl)]
   refine qg (XOp.sliceB (b := b) (n := n) (cap := cap) (l := k + 1) (h := n) qQ jF rfl ⟨_, rfl⟩ rfl (by omega) (by omega) ?_)
   exact ⟨rfl, rfl, rfl⟩
  exact stepsP.nil
 intro W hphi
 rw [zB 2 5 (hphi 2 (by decide)) (hphi 5 (by decide))]
 show XL _ _ _ _ _ _ _ (cellsH b (cs ++ spare) 53 :: L)
 refine cX (XOp.appendDel (b := b) (n := k) (m := n - (k + 1)) (j := k + 1) (cap := cap) (s := 2) [] _ qQ typeInfo53 rfl rfl rfl (by omega) (by omega) rfl hcl ho ?_)
 have hql : (k + (n - (k + 1))) = n - 1 := by omega
 refine qh ((.slice (some ⟨b, 0, none⟩) ((k + (n - (k + 1)))) cap)) rfl (qb (qc (qa (qd ((.slice (some ⟨b, 0, none⟩) ((k + (n - (k + 1)))) cap)) rfl (qd ((.slice (some ⟨b, 0, none⟩) ((k + (n - (k + 1)))) cap)) rfl (cX (qG qQ rfl (slvB (by omega)) (qd (ii ((n : Int))) rfl (cX (XOp.sliceB (b := b) (n := (k + (n - (k + 1)))) (cap := cap) (l := (k + (n - (k + 1)))) (h := n) qQ jF rfl ⟨_, rfl⟩ ⟨_, rfl⟩ (by omega) (by omega) (cX (XOp.clearB (b := b) (o := (k + (n - (k + 1))) * 2) (m := 0) (c := cap - (k + (n - (k + 1)))) (s := 2) [] _ [sN, sN] qQ jw rfl (by decide) (by decide) (by rw [if_neg (show ¬ cap = (k + (n - (k + 1))) by omega), show n - (k + (n - (k + 1))) = 0 + 1 from by omega]; rfl) rfl (by simp only [List.length_append, List.length_take, List.length_drop, hl, hsp]; omega) ?_))))))))))))
 intro Z hZ
 refine qb (qc (qa (qd ((.slice (some ⟨b, 0, none⟩) ((k + (n - (k + 1)))) cap)) rfl (qh ((.slice (some ⟨b, 0, none⟩) ((k + (n - (k + 1)))) cap)) rfl (qb ?_)))))
 obtain ⟨sp2, hs1, hs2, hs3⟩ := del_cells (Z := Z) hk hc hl hsp (by simpa using hZ)
 simp only at hs3
 simp only [Nat.zero_add]
 rw [hs3]
 refine qw (qu (L' := slH 53 2 (.slice (some ⟨b, 0, none⟩) (k + (n - (k + 1))) cap) (n - 1) (cs.take (k * 2) ++ cs.drop ((k + 1) * 2)) :: L) [(.slice (some ⟨b, 0, none⟩) ((k + (n - (k + 1)))) cap)] ((.slice (some ⟨b, 0, none⟩) ((k + (n - (k + 1)))) cap)) (.tmp rfl .nil) rfl rF rF ((by rw [hql]; exact Sub.mkSl (A := []) hs2 (by omega) hs1)) ?_)
 exact ⟨⟨rfl, ⟨_, _, _, rfl⟩⟩, rfl⟩

/- (impl.Work).withRule -/
set_option maxHeartbeats 4000000 in
set_option maxRecDepth 20000 in
theorem withRule_spec {F : FH} {L : List HP} {arv rkv tdv rsv nlv nrv : Value} {ar rk nl nr : List Int} {td rs : List (List Int × List Int)} {tcs : List Value} (har : IntsF F arv ar) (hrk : IntsF F rkv rk) (hts : IsSl tdv) (hC : PairsC F tcs td) (hrs : PairsF F rsv rs) (hnl : IntsF F nlv nl) (hnr : IntsF F nrv nr) (hw : WorkOk ar rk (td, rs)) (hm : ruleOk ar nl nr = true) (hlp : Lp ar rk nl nr) :
    Does prog 48 [.agg #[arv, rkv, tdv, rsv], .agg #[nlv, nrv]] F (slH 53 2 tdv td.length tcs :: L) (fun v F' L' => ∃ a b c d : Value, ((.tuple #[.agg #[a, b, c, d], ii (withR ar td rs (nl, nr)).2] : Value) = v ∧ IntsF F' a ar ∧ IntsF F' b rk ∧ PairsF F' c (withR ar td rs (nl, nr)).1.1 ∧ PairsF F' d (withR ar td rs (nl, nr)).1.2) ∧ L = L') := by
 refine qH func48 rfl rfl rfl ?_
 have hR := ruleOk_iff.1 hm
 have hbw := hw.bounds
 have hfw := hw.few
 have hrw := (sysOk_iff.1 hw.sys).2.1
 simp only at hfw hrw
 refine qc (qa (cX (qY [arv, rkv, tdv, rsv] rfl rfl ?_)))
 intro b1
 refine cX (qY [nlv, nrv] rfl rfl ?_)
 intro b2
 refine cX (je [sN, sN, sN, sN] yh rfl ?_)
 intro b3
 refine qh (ii (0)) rfl (qb (qc (qa (qh (sN) rfl (qh (sN) rfl (qb (qc (qc (qa (cX (qn (3) qS rfl jB (by decide) rfl rfl (cX (qj jS rfl (Rd.own [_, _] rfl rfl) (cX (qG qV rfl hrs.slv (qd (ii (0)) rfl (qb (qJ ?_))))))))))))))))))
 refine jv (α := Nat × Value × List (List Int × List Int) × List Value × Nat × Value × List (List Int × List Int) × List Value × Nat × FH) (fun xQ => [(2, ptr b1 0), (3, ptr b2 0), (4, ptr b3 0), (6, xQ.2.1), (7, xQ.2.2.2.2.2.1), (24, rsv), (25, ii ((rs.length : Int))), (26, ii (((xQ.1 : Nat) : Int)))]) (fun xQ => slH 79 2 xQ.2.1 xQ.2.2.2.2.1 xQ.2.2.2.1 :: slH 79 2 xQ.2.2.2.2.2.1 xQ.2.2.2.2.2.2.2.2.1 xQ.2.2.2.2.2.2.2.1 :: cellsH b3 [sN, sN, sN, sN] 32 :: cellsH b2 [nlv, nrv] 79 :: cellsH b1 [arv, rkv, tdv, rsv] 32 :: slH 53 2 tdv td.length tcs :: L) (fun xQ F' => xQ.2.2.2.2.2.2.2.2.2 = F' ∧ F ≤ xQ.2.2.2.2.2.2.2.2.2 ∧ (IsSl xQ.2.1) ∧ (PairsC xQ.2.2.2.2.2.2.2.2.2 xQ.2.2.2.1 xQ.2.2.1) ∧ (xQ.2.2.2.2.1 = xQ.2.2.1.length) ∧ (IsSl xQ.2.2.2.2.2.1) ∧ (PairsC xQ.2.2.2.2.2.2.2.2.2 xQ.2.2.2.2.2.2.2.1 xQ.2.2.2.2.2.2.1) ∧ (xQ.2.2.2.2.2.2.2.2.1 = xQ.2.2.2.2.2.2.1.length) ∧ (xQ.1 ≤ rs.length) ∧ (xQ.2.2.1 = keptR ar (rs.take xQ.1) nl) ∧ (xQ.2.2.2.2.2.2.1 = goneR ar (rs.take xQ.1) nl) ∧ (xQ.2.2.1.length ≤ xQ.1) ∧ (xQ.2.2.2.2.2.2.1.length ≤ xQ.1)) (fun xQ => rs.length - xQ.1) (0, sN, [], [], 0, sN, [], [], 0, F) ⟨rfl, rfl, rfl, rfl, rfl, rfl, rfl, rfl, ⟨⟩⟩ (qW (Sub.addNil 79 2 _ _) (sC (qW (Sub.addNil 79 2 _ _) (sC (sC (sC (sC (sC sR)))))))) ⟨rfl, FLe.refl _, (⟨_, _, _, rfl⟩), (CO.nil), (rfl), (⟨_, _, _, rfl⟩), (CO.nil), (rfl), (by (try dsimp only) <;> omega), (rfl), (rfl), (Nat.zero_le _), (Nat.zero_le _)⟩ ?_
 rintro ⟨k, kv, kp, kcs, km, gv, gn, gcs, gm, G1⟩ rE _ _ ⟨rfl, leG, hkv, hK, hkm, hgv, hG, hgm, hk, hkp, hgn, hkl, hgl⟩
 show X _ _ _ _ (envs [(2, ptr b1 0), (3, ptr b2 0), (4, ptr b3 0), (6, kv), (7, gv), (24, rsv), (25, ii ((rs.length : Int))), (26, ii ((k : Int)))] rE) _ (slH 79 2 kv km kcs :: slH 79 2 gv gm gcs :: cellsH b3 [sN, sN, sN, sN] 32 :: cellsH b2 [nlv, nrv] 79 :: cellsH b1 [arv, rkv, tdv, rsv] 32 :: slH 53 2 tdv td.length tcs :: L)
 replace leG : F ≤ G1 := leG
 dsimp only at hkv hK hkm hgv hG hgm hk hkp hgn hkl hgl
 have hRk := fun h => hw.ruleAt (i := k) h
 have leG1 := leG
 replace har := har.mono leG1
 replace hrk := hrk.mono leG1
 replace hC := hC.mono leG1
 replace hrs := hrs.mono leG1
 replace hnl := hnl.mono leG1
 replace hnr := hnr.mono leG1
 refine qc (qa (cX (qX rfl rfl (qb (qc ?_)))))
 refine qE (p := (k : Int) < (rs.length : Int)) rfl (fun h1 => ?_) (fun h1 => ?_)
 ·refine qA (qc (qJ (qc (qa (cX (qx k qV jp rfl rfl rfl hrs.slv (by omega) rfl ?_))))))
  obtain ⟨a1, a2, ha1, ha2, hr1, hr2⟩ := hrs.rd (i := k) (by omega)
  refine cX (qv [a1, a2] isAgg79 jp rfl rfl (Rd.two (hr1 _) (hr2 _)) (cX (je [sN, sN] jM rfl ?_)))
  intro b4
  refine cX (qI [] _ [a1, a2] jp rfl rfl rfl (qm (qy (qp ha1)) (qm (qy (qp ha2)) qO)) rfl rfl rfl (qb (qc (qa (cX (qn (0) qS rfl qB (by decide) rfl rfl (cX (qv [arv] qU qB rfl rfl (Rd.ownN [_, _, _, _, _] rfl rfl) (cX (qn (0) jf rfl qr (by decide) rfl rfl (cX (qj qN rfl (Rd.own [] rfl rfl) (cX (qn (0) jf rfl qr (by decide) rfl rfl (cX (qj qN rfl (Rd.own [_, _, _, _] rfl rfl) (cX (qt (args := [.agg #[arv], a1, nlv]) call59 rfl (hasInstance_spec har ha1 hnl (hot := ((hRk (by omega)).left)) (hop := (hR.left))) ?_))))))))))))))))))
  rintro _ _ _ _ ⟨rfl, rfl, rfl⟩
  refine qb ?_
  refine jG (t := hasI ar ((rs.getD k ([], [])).1) nl) rfl (fun h2 => ?_) (fun h2 => ?_)
  ·have hh9 : hasI ar (rs.getD k ([], [])).1 nl = true := h2
   refine qa (qd (gv) rfl (cX (qv [a1, a2] isAgg79 jp rfl rfl (Rd.ownN [] rfl rfl) (cX (qD (s := 2) [a1, a2] [sN, sN] [(0, [a1, a2])] qV jp jM rfl (by decide) rfl (.cons rfl CellsAre.nil) rfl ?_)))))
   intro v1 hv1
   refine cX (yi (m := 1) (bytes := 48) (cs := gcs) [_, _, _] _ [a1, a2] qV typeInfo79 rfl rfl rfl rfl rfl rfl rfl (SlV.own [] rfl) rfl (Rd.lit [] rfl) (qm (qy (qp ha1)) (qm (qy (qp ha2)) qO)) (by (try simp only [List.length_append, List.length_nil, List.length_cons, List.length_singleton]); omega) (by (try simp only [List.length_append, List.length_nil, List.length_cons, List.length_singleton]); omega) ?_)
   intro v2 hs1 hn1 hm1
   have hc1 := PairsC.snoc hG ha1 ha2
   refine qh (v2) rfl (qb (qa (cX (qM (((k + 1 : Nat) : Int)) rfl rfl (by omega) (by omega) (qd (ii (((k + 1 : Nat) : Int))) rfl (qb ?_))))))
   exact ⟨(k + 1, kv, kp, kcs, km, v2, gn ++ [((rs.getD k ([], [])).1, (rs.getD k ([], [])).2)], gcs ++ [a1, a2], (gm) + 1, G1), _, leG1, rF, ⟨rfl, rfl, rfl, rfl, rfl, rfl, rfl, rfl, ⟨⟩⟩, (sD (sD (sC (sC (sC (sC (sC (sC sR)))))))), ⟨rfl, leG1, (hkv), (hK), (by (try dsimp only); (try rw [List.length_append]; simp only [List.length_singleton]); omega), (hs1), (hc1), (by (try dsimp only); (try rw [List.length_append]; simp only [List.length_singleton]); omega), (by (try dsimp only) <;> omega), (by (try dsimp only); rw [kept_take (by omega)]; first | (rw [if_pos hh9]; exact hkp) | (rw [if_neg (by rw [hh9]; decide), hkp])), (by (try dsimp only); rw [gone_take (by omega)]; first | (rw [if_pos hh9, hgn]) | (rw [if_neg (by rw [hh9]; decide)]; exact hgn)), (by (try dsimp only); (try rw [List.length_append]; simp only [List.length_singleton]); omega), (by (try dsimp only); (try rw [List.length_append]; simp only [List.length_singleton]); omega)⟩, (by omega)⟩
  have hh9 : hasI ar (rs.getD k ([], [])).1 nl = false := h2
  refine qa (qd (kv) rfl (cX (qv [a1, a2] isAgg79 jp rfl rfl (Rd.ownN [] rfl rfl) (cX (qD (s := 2) [a1, a2] [sN, sN] [(0, [a1, a2])] qV jp jM rfl (by decide) rfl (.cons rfl CellsAre.nil) rfl ?_)))))
  intro v3 hv2
  refine cX (yi (m := 1) (bytes := 48) (cs := kcs) [_, _] _ [a1, a2] qV typeInfo79 rfl rfl rfl rfl rfl rfl rfl (SlV.own [] rfl) rfl (Rd.lit [] rfl) (qm (qy (qp ha1)) (qm (qy (qp ha2)) qO)) (by (try simp only [List.length_append, List.length_nil, List.length_cons, List.length_singleton]); omega) (by (try simp only [List.length_append, List.length_nil, List.length_cons, List.length_singleton]); omega) ?_)
  intro v4 hs2 hn2 hm2
  have hc2 := PairsC.snoc hK ha1 ha2
  refine qh (v4) rfl (qb (qa (cX (qM (((k + 1 : Nat) : Int)) rfl rfl (by omega) (by omega) (qd (ii (((k + 1 : Nat) : Int))) rfl (qb ?_))))))
  exact ⟨(k + 1, v4, kp ++ [((rs.getD k ([], [])).1, (rs.getD k ([], [])).2)], kcs ++ [a1, a2], (km) + 1, gv, gn, gcs, gm, G1), _, leG1, rF, ⟨rfl, rfl, rfl, rfl, rfl, rfl, rfl, rfl, ⟨⟩⟩, (sD (sD (sC (sC (sC (sC (sC (sC sR)))))))), ⟨rfl, leG1, (hs2), (hc2), (by (try dsimp only); (try rw [List.length_append]; simp only [List.length_singleton]); omega), (hgv), (hG), (by (try dsimp only); (try rw [List.length_append]; simp only [List.length_singleton]); omega), (by (try dsimp only) <;> omega), (by (try dsimp only); rw [kept_take (by omega)]; first | (rw [if_pos hh9]; exact hkp) | (rw [if_neg (by rw [hh9]; decide), hkp])), (by (try dsimp only); rw [gone_take (by omega)]; first | (rw [if_pos hh9, hgn]) | (rw [if_neg (by rw [hh9]; decide)]; exact hgn)), (by (try dsimp only); (try rw [List.length_append]; simp only [List.length_singleton]); omega), (by (try dsimp only); (try rw [List.length_append]; simp only [List.length_singleton]); omega)⟩, (by omega)⟩
 refine jn (qz (qz (qR (qc ?_))))
 show X _ _ _ _ _ _ (slH 79 2 kv km kcs :: slH 79 2 gv gm gcs :: cellsH b3 [sN, sN, sN, sN] 32 :: cellsH b2 [nlv, nrv] 79 :: cellsH b1 [arv, rkv, tdv, rsv] 32 :: slH 53 2 tdv td.length tcs :: L)
 refine X.drawH [slH 79 2 gv gm gcs, cellsH b3 [sN, sN, sN, sN] 32, cellsH b2 [nlv, nrv] 79, cellsH b1 [arv, rkv, tdv, rsv] 32, slH 53 2 tdv td.length tcs] L 8 [[], [], [], [], [], [4], [5]] [[], [0], [], [], [3], [2, 4], [1, 4, 5]] [[], [], [], [], [], [4]] (phiG [pe (ptr b1 0), pe (.agg #[arv]), pe kv, pe (.agg #[nlv, nrv]), fun FF us v => ∃ b, v = .slice (some ⟨b, 0, none⟩) 1 1, fun FF us v => IsSl v, fun FF us v => v = (.agg #[arv, (us.getD 0 undef)] : Value), fun FF us v => v = ptr (blk v) 0]) (ownL [o0, o0, o0, o0, fun us v => [slH 79 2 v 1 [nlv, nrv]], fun us v => [slH 79 2 (us.getD 0 undef) 1 [nlv, nrv], slH 79 2 (v) ((km) + 1) (kcs ++ [nlv, nrv])], o0, fun us v => [cellsH (blk v) [sN, sN] 77]]) (fun i => ([[], [], [], [], [], [slH 79 2 kv km kcs], [], []] : List (List HP)).getD i []) mixed rfl rfl (by kernel_rfl) (by kernel_rfl) (MonoG.get (m1 (m1 (m1 (m1 (mC (fun le h => h) (mC (fun le h => h) (mC (fun le h => h) (mC (fun le h => h) MonoG.nil))))))))) ?_ ?_
 ·refine tD (fun W Fs R lF z9 => ?_) ?_
  ·refine qg (qn (0) qS rfl qB (by decide) rfl rfl ?_)
   exact ⟨rfl, rfl⟩
  refine tD (fun W Fs R lF z9 => ?_) ?_
  ·replace har := har.mono lF
   replace hrk := hrk.mono lF
   replace hC := hC.mono lF
   replace hrs := hrs.mono lF
   replace hnl := hnl.mono lF
   replace hnr := hnr.mono lF
   replace hK := hK.mono lF
   replace hG := hG.mono lF
   rw [zA 0 (z9 0 rfl)]
   refine qg (qv [arv] qU qB rfl rfl (Rd.ownN [_, _, _] rfl rfl) ?_)
   exact ⟨rfl, rfl⟩
  refine tD (fun W Fs R lF z9 => ?_) ?_
  ·refine qg (ql (kv) rfl ?_)
   exact ⟨rfl, rfl⟩
  refine tD (fun W Fs R lF z9 => ?_) ?_
  ·replace har := har.mono lF
   replace hrk := hrk.mono lF
   replace hC := hC.mono lF
   replace hrs := hrs.mono lF
   replace hnl := hnl.mono lF
   replace hnr := hnr.mono lF
   replace hK := hK.mono lF
   replace hG := hG.mono lF
   refine qg (qv [nlv, nrv] isAgg79 jp rfl rfl (Rd.ownN [_, _] rfl rfl) ?_)
   exact ⟨rfl, rfl⟩
  refine tD (fun W Fs R lF z9 => ?_) ?_
  ·replace har := har.mono lF
   replace hrk := hrk.mono lF
   replace hC := hC.mono lF
   replace hrs := hrs.mono lF
   replace hnl := hnl.mono lF
   replace hnr := hnr.mono lF
   replace hK := hK.mono lF
   replace hG := hG.mono lF
   rw [zA 3 (z9 3 rfl)]
   refine qg (qD (s := 2) [nlv, nrv] [sN, sN] [(0, [nlv, nrv])] qV jp jM rfl (by decide) rfl (.cons rfl CellsAre.nil) rfl ?_)
   intro v7 hv4
   exact ⟨hv4, rfl⟩
  refine tD (fun W Fs R lF z9 => ?_) ?_
  ·have f4 : ∃ b, (W 4) = .slice (some ⟨b, 0, none⟩) 1 1 := z9 4 rfl
   replace har := har.mono lF
   replace hrk := hrk.mono lF
   replace hC := hC.mono lF
   replace hrs := hrs.mono lF
   replace hnl := hnl.mono lF
   replace hnr := hnr.mono lF
   replace hK := hK.mono lF
   replace hG := hG.mono lF
   rw [zA 2 (z9 2 rfl)]
   show XG _ _ _ _ _ (slH 79 2 (W 4) 1 [nlv, nrv] :: slH 79 2 kv km kcs :: ([slH 79 2 gv gm gcs, cellsH b3 [sN, sN, sN, sN] 32, cellsH b2 [nlv, nrv] 79, cellsH b1 [arv, rkv, tdv, rsv] 32, slH 53 2 tdv td.length tcs] ++ R)) _
   refine qg (yi (m := 1) (bytes := 48) (cs := kcs) [_] _ [nlv, nrv] qV typeInfo79 rfl rfl rfl rfl rfl rfl rfl (SlV.own [] rfl) rfl (Rd.lit [] rfl) (qm (qy (qp hnl)) (qm (qy (qp hnr)) qO)) (by (try simp only [List.length_append, List.length_nil, List.length_cons, List.length_singleton]); omega) (by (try simp only [List.length_append, List.length_nil, List.length_cons, List.length_singleton]); omega) ?_)
   intro v8 hs4 hn4 hm4
   have hc4 := PairsC.snoc hK hnl hnr
   exact ⟨hs4, rfl⟩
  refine tD (fun W Fs R lF z9 => ?_) ?_
  ·have f4 : ∃ b, (W 4) = .slice (some ⟨b, 0, none⟩) 1 1 := z9 4 rfl
   have f5 : IsSl (W 5) := z9 5 rfl
   replace har := har.mono lF
   replace hrk := hrk.mono lF
   replace hC := hC.mono lF
   replace hrs := hrs.mono lF
   replace hnl := hnl.mono lF
   replace hnr := hnr.mono lF
   replace hK := hK.mono lF
   replace hG := hG.mono lF
   rw [zA 1 (z9 1 rfl)]
   refine qg (qZ [arv, (W 5)] [sN, sN] [(0, 1), (1, 1)] [(0, [arv]), (1, [(W 5)])] jc zeroValue77 rfl (.cons rfl qB (.cons rfl jB PlacesAre.nil)) rfl (.cons rfl (.cons (cells_one f5) CellsAre.nil)) ?_)
   exact ⟨rfl, rfl⟩
  refine tD (fun W Fs R lF z9 => ?_) ?_
  ·replace har := har.mono lF
   replace hrk := hrk.mono lF
   replace hC := hC.mono lF
   replace hrs := hrs.mono lF
   replace hnl := hnl.mono lF
   replace hnr := hnr.mono lF
   replace hK := hK.mono lF
   replace hG := hG.mono lF
   refine qg (je [sN, sN] zeroValue77 rfl ?_)
   intro b6
   exact ⟨rfl, rfl⟩
  exact stepsT.nil
 intro W F1 le1 hphi
 have f4 : ∃ b, (W 4) = .slice (some ⟨b, 0, none⟩) 1 1 := hphi 4 (by decide)
 have f5 : IsSl (W 5) := hphi 5 (by decide)
 have e6 : W 6 = (.agg #[arv, (W 5)] : Value) := hphi 6 (by decide)
 have e7 : W 7 = ptr (blk (W 7)) 0 := hphi 7 (by decide)
 generalize huu4 : W 4 = u1 at f4 f5 e6 e7
 generalize huu5 : W 5 = u2 at f4 f5 e6 e7
 generalize hu1 : blk (W 7) = b7 at f4 f5 e6 e7
 rw [eS (l := [(4, u1), (5, u2), (6, (.agg #[arv, u2])), (7, ptr b7 0)]) ⟨huu4, huu5, e6, e7, ⟨⟩⟩]
 replace har := har.mono le1
 replace hrk := hrk.mono le1
 replace hC := hC.mono le1
 replace hrs := hrs.mono le1
 replace hnl := hnl.mono le1
 replace hnr := hnr.mono le1
 replace hK := hK.mono le1
 replace hG := hG.mono le1
 have hc5 := PairsC.snoc hK hnl hnr
 show XL _ _ _ _ _ _ _ (slH 79 2 u1 1 [nlv, nrv] :: slH 79 2 u2 ((km) + 1) (kcs ++ [nlv, nrv]) :: cellsH b7 [sN, sN] 77 :: slH 79 2 gv gm gcs :: cellsH b3 [sN, sN, sN, sN] 32 :: cellsH b2 [nlv, nrv] 79 :: cellsH b1 [arv, rkv, tdv, rsv] 32 :: slH 53 2 tdv td.length tcs :: L)
 refine cX (qI [_, _] _ [arv, u2] jQ rfl rfl rfl (qm (qy (qp har)) (qm (qy f5) qO)) rfl rfl rfl (qb (qc (qc (qa ?_)))))
 have hkq : kp = keptR ar rs nl := by rw [hkp, List.take_of_length_le (by omega)]
 have hgq : gn = goneR ar rs nl := by rw [hgn, List.take_of_length_le (by omega)]
 refine cX (qn (1) jc rfl jB (by decide) rfl rfl (cX (qj jS rfl (Rd.own [_, _] rfl rfl) (cX (qG qV rfl (SlV.own [_] rfl) (cX (jU rfl rfl (qb ?_))))))))
 refine qE (p := ((((km) + 1 : Nat) : Int) : Int) > 12) rfl (fun h3 => ?_) (fun h3 => ?_)
 ·have hl12 : 12 < (kp ++ [(nl, nr)]).length := by simp only [List.length_append, List.length_singleton]; omega
  refine qc (qa (cX (qv [arv, rkv, tdv, rsv] jE jb rfl rfl (Rd.ownN [_, _, _, _, _, _] rfl rfl) (cX (qI [_, _, _, _] _ [arv, rkv, tdv, rsv] jb rfl rfl rfl (qm (qy (qp har)) (qm (qy (qp hrk)) (qm (qy hts) (qm (qy (PairsF.isSl hrs)) qO)))) rfl rfl rfl (qh (ii (6)) rfl (qb (ji [_, _, _, _, _, _, _] _ _ rfl (fun F2 le2 hz1 => ?_)))))))))
  replace har := har.mono le2
  replace hrk := hrk.mono le2
  replace hC := hC.mono le2
  replace hrs := hrs.mono le2
  replace hG := hG.mono le2
  replace hc5 := hc5.mono le2
  have hf1 : PairsF F2 tdv td := CO.fz hC (by first | rfl | omega | (rw [List.length_set]; omega) | (simp; done) | (rw [List.length_append]; simp only [List.length_singleton]; omega)) hz1.fz
  refine qw (qo (qu (L' := L) [.agg #[arv, rkv, tdv, rsv], ii (6)] (.tuple #[.agg #[arv, rkv, tdv, rsv], ii (6)]) (.cell rfl (jA [arv, rkv, tdv, rsv] jE jb rfl (Rd.ownN [_, _, _, _] rfl rfl)) (.tmp rfl .nil)) rfl (qi (qi leG1 le1) le2) rF (sD (sD (sD (sD (sD (sD (sD sR))))))) ?_))
  have e9 : (withR ar td rs (nl, nr)) = ((td, rs), 6) := by exact withE_full hkq hl12
  rw [e9]
  exact ⟨_, _, _, _, ⟨rfl, har, hrk, hf1, hrs⟩, rfl⟩
 have hl12 : (kp ++ [(nl, nr)]).length ≤ 12 := by simp only [List.length_append, List.length_singleton]; omega
 refine qA (qc (qa (XL.freezeF [_] _ _ rfl (fun F3 le3 hz2 => ?_))))
 replace har := har.mono le3
 replace hrk := hrk.mono le3
 replace hC := hC.mono le3
 replace hrs := hrs.mono le3
 replace hG := hG.mono le3
 replace hc5 := hc5.mono le3
 have hf2 : PairsF F3 u2 (kp ++ [(nl, nr)]) := CO.fz hc5 (by first | rfl | omega | (rw [List.length_set]; omega) | (simp; done) | (rw [List.length_append]; simp only [List.length_singleton]; omega)) hz2.fz
 have hsy := withE_sys (td := td) hkq hw hm hlp hl12
 refine cX (qn (0) qS rfl qB (by decide) rfl rfl (cX (qv [arv] qU qB rfl rfl (Rd.ownN [_, _, _, _, _] rfl rfl) (cX (qZ [arv, sN] [sN, sN] [(0, 1), (1, 1)] [(0, [arv])] jc zeroValue77 rfl (.cons rfl qB (.cons rfl jB PlacesAre.nil)) rfl (.cons rfl CellsAre.nil) (cX (je [sN, sN] zeroValue77 rfl ?_)))))))
 intro b8
 refine cX (qI [] _ [arv, sN] jQ rfl rfl rfl (qm (qy (qp har)) (qm rfl qO)) rfl rfl rfl (qb (qc (qc (qa (cX (qn (1) jc rfl jB (by decide) rfl rfl (cX (qj jS rfl (Rd.own [_, _] rfl rfl) (cX (qG qV rfl hf2.slv (qd (ii (0)) rfl (qb (qJ (jv (α := Nat × Value × List (List Int × List Int) × List Value × Nat × FH) (fun xQ => [(2, ptr b1 0), (4, ptr b3 0), (7, gv), (10, ptr b7 0), (11, ptr b8 0), (62, u2), (63, ii ((((kp ++ [(nl, nr)]).length : Nat) : Int))), (64, ii (((xQ.1 : Nat) : Int)))]) (fun xQ => slH 79 2 xQ.2.1 xQ.2.2.2.2.1 xQ.2.2.2.1 :: cellsH b8 [arv, xQ.2.1] 77 :: slH 79 2 u1 1 [nlv, nrv] :: cellsH b7 [arv, u2] 77 :: slH 79 2 gv gm gcs :: cellsH b3 [sN, sN, sN, sN] 32 :: cellsH b2 [nlv, nrv] 79 :: cellsH b1 [arv, rkv, tdv, rsv] 32 :: slH 53 2 tdv td.length tcs :: L) (fun xQ F' => xQ.2.2.2.2.2 = F' ∧ F3 ≤ xQ.2.2.2.2.2 ∧ (IsSl xQ.2.1) ∧ (PairsC xQ.2.2.2.2.2 xQ.2.2.2.1 xQ.2.2.1) ∧ (xQ.2.2.2.2.1 = xQ.2.2.1.length) ∧ (xQ.1 ≤ (kp ++ [(nl, nr)]).length) ∧ (xQ.2.2.1 = dnR ar (kp ++ [(nl, nr)]) xQ.1) ∧ (xQ.2.2.1.length ≤ xQ.1) ∧ (∀ i, i < xQ.1 → nfB ar (kp ++ [(nl, nr)]) ((kp ++ [(nl, nr)]).getD i ([], [])).2 = true)) (fun xQ => (kp ++ [(nl, nr)]).length - xQ.1) (0, sN, [], [], 0, F3) ⟨rfl, rfl, rfl, rfl, rfl, rfl, rfl, rfl, ⟨⟩⟩ (qW (Sub.addNil 79 2 _ _) (sC (sC (sC (sC (sC (sC (sC (sC (sC sR)))))))))) ⟨rfl, FLe.refl _, (⟨_, _, _, rfl⟩), (CO.nil), (rfl), (Nat.zero_le _), (rfl), (Nat.zero_le _), (fun i hi => absurd hi (by omega))⟩ ?_)))))))))))))))
 rintro ⟨j, dv, dn, dcs, dm, G2⟩ rE _ _ ⟨rfl, leG, hdv, hD, hdm, hj, hdn, hdl, hnb⟩
 show X _ _ _ _ (envs [(2, ptr b1 0), (4, ptr b3 0), (7, gv), (10, ptr b7 0), (11, ptr b8 0), (62, u2), (63, ii ((((kp ++ [(nl, nr)]).length : Nat) : Int))), (64, ii ((j : Int)))] rE) _ (slH 79 2 dv dm dcs :: cellsH b8 [arv, dv] 77 :: slH 79 2 u1 1 [nlv, nrv] :: cellsH b7 [arv, u2] 77 :: slH 79 2 gv gm gcs :: cellsH b3 [sN, sN, sN, sN] 32 :: cellsH b2 [nlv, nrv] 79 :: cellsH b1 [arv, rkv, tdv, rsv] 32 :: slH 53 2 tdv td.length tcs :: L)
 replace leG : F3 ≤ G2 := leG
 dsimp only at hdv hD hdm hj hdn hdl hnb
 have hSj := fun (h : j < (kp ++ [(nl, nr)]).length) => ruleOk_iff.1 ((sysOk_iff.1 hsy.1).2.2 j h)
 have leG2 := leG
 replace har := har.mono leG2
 replace hrk := hrk.mono leG2
 replace hC := hC.mono leG2
 replace hrs := hrs.mono leG2
 replace hG := hG.mono leG2
 replace hf2 := hf2.mono leG2
 refine qc (qa (cX (qX rfl rfl (qb (qc ?_)))))
 refine qE (p := (j : Int) < (((kp ++ [(nl, nr)]).length : Nat) : Int)) rfl (fun h4 => ?_) (fun h4 => ?_)
 ·refine qA (qc (qJ (qc (qa (cX (qx j qV jp rfl rfl rfl hf2.slv (by omega) rfl ?_))))))
  obtain ⟨a3, a4, ha3, ha4, hr3, hr4⟩ := hf2.rd (i := j) (by omega)
  refine cX (qv [a3, a4] isAgg79 jp rfl rfl (Rd.two (hr3 _) (hr4 _)) (cX (je [sN, sN] jM rfl ?_)))
  intro b9
  refine cX (qI [] _ [a3, a4] jp rfl rfl rfl (qm (qy (qp ha3)) (qm (qy (qp ha4)) qO)) rfl rfl rfl (qb (qc (qa (cX (qv [arv, u2] yj jQ rfl rfl (Rd.ownN [_, _, _, _] rfl rfl) (cX (qn (1) jf rfl qr (by decide) rfl rfl (cX (qj qN rfl (Rd.own [] rfl rfl) (cX (qt (args := [.agg #[arv, u2], a4, ii ((60 : Nat) : Int)]) call43 rfl (normalOf_spec (n := 60) har hf2 ha4 (hsys := (hsy.1)) (ho := ((hSj (by omega)).right)) (hn := (by decide))) ?_))))))))))))
  rintro _ F4 _ le4 ⟨x1, rfl, hr5, rfl⟩
  replace har := har.mono le4
  replace hrk := hrk.mono le4
  replace hC := hC.mono le4
  replace hrs := hrs.mono le4
  replace hG := hG.mono le4
  replace hD := hD.mono le4
  replace ha3 := ha3.mono le4
  refine qd (.tuple #[x1, .bool ((walkGo ar (kp ++ [(nl, nr)]) 1 60 (((kp ++ [(nl, nr)]).getD j ([], [])).2)).2)]) rfl (cX (qK (x1) rfl rfl (cX (qK (.bool ((walkGo ar (kp ++ [(nl, nr)]) 1 60 (((kp ++ [(nl, nr)]).getD j ([], [])).2)).2)) rfl rfl (qh (x1) rfl (qh (.bool ((walkGo ar (kp ++ [(nl, nr)]) 1 60 (((kp ++ [(nl, nr)]).getD j ([], [])).2)).2)) rfl (qb (qc (qc (qa (qd (.bool ((walkGo ar (kp ++ [(nl, nr)]) 1 60 (((kp ++ [(nl, nr)]).getD j ([], [])).2)).2)) rfl (cX (ju rfl (qb ?_))))))))))))))
  refine jG (t := !((walkGo ar (kp ++ [(nl, nr)]) 1 60 (((kp ++ [(nl, nr)]).getD j ([], [])).2)).2)) rfl (fun h5 => ?_) (fun h5 => ?_)
  ·have hb9 : nfB ar (kp ++ [(nl, nr)]) ((kp ++ [(nl, nr)]).getD j ([], [])).2 = false := Bool.not_inj (y := false) h5
   refine qc (qa (cX (qv [arv, rkv, tdv, rsv] jE jb rfl rfl (Rd.ownN [_, _, _, _, _, _, _, _] rfl rfl) (cX (qI [_, _, _, _, _, _] _ [arv, rkv, tdv, rsv] jb rfl rfl rfl (qm (qy (qp har)) (qm (qy (qp hrk)) (qm (qy hts) (qm (qy (PairsF.isSl hrs)) qO)))) rfl rfl rfl (qh (ii (4)) rfl (qb (ji [_, _, _, _, _, _, _, _, _] _ _ rfl (fun F5 le5 hz3 => ?_)))))))))
   replace har := har.mono le5
   replace hrk := hrk.mono le5
   replace hC := hC.mono le5
   replace hrs := hrs.mono le5
   replace hG := hG.mono le5
   replace hD := hD.mono le5
   replace ha3 := ha3.mono le5
   replace hr5 := hr5.mono le5
   have hf3 : PairsF F5 tdv td := CO.fz hC (by first | rfl | omega | (rw [List.length_set]; omega) | (simp; done) | (rw [List.length_append]; simp only [List.length_singleton]; omega)) hz3.fz
   refine qw (qo (qF (qo (qo (qF (qo (qu (L' := L) [.agg #[arv, rkv, tdv, rsv], ii (4)] (.tuple #[.agg #[arv, rkv, tdv, rsv], ii (4)]) (.cell rfl (jA [arv, rkv, tdv, rsv] jE jb rfl (Rd.ownN [_, _, _, _, _, _] rfl rfl)) (.tmp rfl .nil)) rfl (qi (qi (qi (qi (qi leG1 le1) le3) leG2) le4) le5) rF (sD (sD (sD (sD (sD (sD (sD (sD (sD sR))))))))) ?_)))))))
   have e9 : (withR ar td rs (nl, nr)) = ((td, rs), 4) := by first | exact withE_stuck hkq hl12 (by omega) hb9 | exact withE_nopeaks hkq hdq hl12 hnl9 hpo
   rw [e9]
   exact ⟨_, _, _, _, ⟨rfl, har, hrk, hf3, hrs⟩, rfl⟩
  have hb9 : nfB ar (kp ++ [(nl, nr)]) ((kp ++ [(nl, nr)]).getD j ([], [])).2 = true := Bool.not_inj (y := true) h5
  refine qA (qa (cX (qn (1) jc rfl jB (by decide) rfl rfl (cX (qj jS rfl (Rd.own [_, _] rfl rfl) (cX (qn (0) jf rfl qr (by decide) rfl rfl (cX (qj qN rfl (Rd.own [] rfl rfl) (qd (x1) rfl (cX (qZ [a3, x1] [sN, sN] [(0, 1), (1, 1)] [(0, [a3]), (1, [x1])] jf jM rfl (.cons rfl qr (.cons rfl qr PlacesAre.nil)) rfl (.cons (cells_one (qp ha3)) (.cons (cells_one (qp hr5)) CellsAre.nil)) (cX (qD (s := 2) [a3, x1] [sN, sN] [(0, [a3, x1])] qV jp jM rfl (by decide) rfl (.cons rfl CellsAre.nil) rfl ?_))))))))))))))
  intro v9 hv5
  refine cX (yi (m := 1) (bytes := 48) (cs := dcs) [_, _] _ [a3, x1] qV typeInfo79 rfl rfl rfl rfl rfl rfl rfl (SlV.own [] rfl) rfl (Rd.lit [] rfl) (qm (qy (qp ha3)) (qm (qy (qp hr5)) qO)) (by (try simp only [List.length_append, List.length_nil, List.length_cons, List.length_singleton]); omega) (by (try simp only [List.length_append, List.length_nil, List.length_cons, List.length_singleton]); omega) ?_)
  intro v10 hs5 hn5 hm5
  have hc6 := PairsC.snoc hD ha3 hr5
  refine cX (qn (1) jc rfl jB (by decide) rfl rfl (cX (jz [_, _, _] _ [arv, v10] jB rfl rfl (qy hs5) rfl rfl rfl (qb (qa (cX (qM (((j + 1 : Nat) : Int)) rfl rfl (by omega) (by omega) (qd (ii (((j + 1 : Nat) : Int))) rfl (qb ?_)))))))))
  exact ⟨(j + 1, v10, dn ++ [(((kp ++ [(nl, nr)]).getD j ([], [])).1, endL (((kp ++ [(nl, nr)]).getD j ([], [])).2) (walkGo ar (kp ++ [(nl, nr)]) 1 60 (((kp ++ [(nl, nr)]).getD j ([], [])).2)).1)], dcs ++ [a3, x1], (dm) + 1, F4), _, (qi leG2 le4), rF, ⟨rfl, rfl, rfl, rfl, rfl, rfl, rfl, rfl, ⟨⟩⟩, (sD (sD (sC (sC (sC (sC (sC (sC (sC (sC (sC sR))))))))))), ⟨rfl, (qi leG2 le4), (hs5), (hc6), (by (try dsimp only); rw [List.length_append]; simp only [List.length_singleton]; omega), (by (try dsimp only) <;> omega), (by (try dsimp only); rw [dn_next (by omega), hdn]; rfl), (by (try dsimp only); rw [List.length_append]; simp only [List.length_singleton]; omega), (fun i hi => (Nat.lt_or_ge i j).elim (fun h => hnb i h) (fun h => by obtain rfl : i = j := (by omega); exact hb9))⟩, (by omega)⟩
 refine jn (qz (qz (qR (qc (qa ?_)))))
 have hdq : dn = doneR ar (kp ++ [(nl, nr)]) := by rw [hdn, dn_all (by omega)]
 have hnl9 : ∀ i, i < (kp ++ [(nl, nr)]).length → nfB ar (kp ++ [(nl, nr)]) ((kp ++ [(nl, nr)]).getD i ([], [])).2 = true := fun i hi => hnb i (by omega)
 have hsd : sysOk ar dn = true := by rw [hdq]; exact hsy.2
 have hdle : dn.length = kp.length + 1 := by rw [hdq, done_len, List.length_append]; rfl
 refine cX (qv [arv, dv] yj jQ rfl rfl (Rd.ownN [_] rfl rfl) (XL.freezeF [] _ _ rfl (fun F6 le6 hz4 => ?_)))
 replace har := har.mono le6
 replace hrk := hrk.mono le6
 replace hC := hC.mono le6
 replace hrs := hrs.mono le6
 replace hG := hG.mono le6
 replace hD := hD.mono le6
 have hf4 : PairsF F6 dv dn := CO.fz hD (by first | rfl | omega | (rw [List.length_set]; omega) | (simp; done) | (rw [List.length_append]; simp only [List.length_singleton]; omega)) hz4.fz
 refine cX (qt (args := [.agg #[arv, dv]]) call60 rfl (peaks_spec har hf4 (hsys := (hsd))) ?_)
 rintro _ F7 _ le7 ⟨x2, rfl, hr6, hr7, rfl⟩
 replace har := har.mono le7
 replace hrk := hrk.mono le7
 replace hC := hC.mono le7
 replace hrs := hrs.mono le7
 replace hG := hG.mono le7
 replace hf4 := hf4.mono le7
 refine qd (.tuple #[x2, .bool ((peaksF ar dn).isSome)]) rfl (cX (qK (x2) rfl rfl (cX (qK (.bool ((peaksF ar dn).isSome)) rfl rfl (qh (x2) rfl (qh (.bool ((peaksF ar dn).isSome)) rfl (qb (qc (qc (qa (qd (.bool ((peaksF ar dn).isSome)) rfl (cX (ju rfl (qb ?_))))))))))))))
 refine jG (t := !((peaksF ar dn).isSome)) rfl (fun h6 => ?_) (fun h6 => ?_)
 ·have hpo : (peaksF ar dn).isSome = false := Bool.not_inj (y := false) h6
  refine qc (qa (cX (qv [arv, rkv, tdv, rsv] jE jb rfl rfl (Rd.ownN [_, _, _, _, _, _] rfl rfl) (cX (qI [_, _, _, _] _ [arv, rkv, tdv, rsv] jb rfl rfl rfl (qm (qy (qp har)) (qm (qy (qp hrk)) (qm (qy hts) (qm (qy (PairsF.isSl hrs)) qO)))) rfl rfl rfl (qh (ii (4)) rfl (qb (ji [_, _, _, _, _, _, _] _ _ rfl (fun F8 le8 hz5 => ?_)))))))))
  replace har := har.mono le8
  replace hrk := hrk.mono le8
  replace hC := hC.mono le8
  replace hrs := hrs.mono le8
  replace hG := hG.mono le8
  replace hf4 := hf4.mono le8
  replace hr6 := hr6.mono le8
  have hf5 : PairsF F8 tdv td := CO.fz hC (by first | rfl | omega | (rw [List.length_set]; omega) | (simp; done) | (rw [List.length_append]; simp only [List.length_singleton]; omega)) hz5.fz
  refine qw (qo (qu (L' := L) [.agg #[arv, rkv, tdv, rsv], ii (4)] (.tuple #[.agg #[arv, rkv, tdv, rsv], ii (4)]) (.cell rfl (jA [arv, rkv, tdv, rsv] jE jb rfl (Rd.ownN [_, _, _, _] rfl rfl)) (.tmp rfl .nil)) rfl (qi (qi (qi (qi (qi (qi leG1 le1) le3) leG2) le6) le7) le8) rF (sD (sD (sD (sD (sD (sD (sD sR))))))) ?_))
  have e9 : (withR ar td rs (nl, nr)) = ((td, rs), 4) := by first | exact withE_stuck hkq hl12 (by omega) hb9 | exact withE_nopeaks hkq hdq hl12 hnl9 hpo
  rw [e9]
  exact ⟨_, _, _, _, ⟨rfl, har, hrk, hf5, hrs⟩, rfl⟩
 have hpo : (peaksF ar dn).isSome = true := Bool.not_inj (y := true) h6
 have hpn := (peaks_ok hsd).1
 have hpk := (peaks_ok hsd).2
 refine qA (qc (qc (qa (XL.freezeF [_, _, _] _ _ rfl (fun F9 le9 hz6 => ?_)))))
 replace har := har.mono le9
 replace hrk := hrk.mono le9
 replace hC := hC.mono le9
 replace hrs := hrs.mono le9
 replace hG := hG.mono le9
 replace hf4 := hf4.mono le9
 replace hr6 := hr6.mono le9
 have hf6 : PairsF F9 gv gn := CO.fz hG (by first | rfl | omega | (rw [List.length_set]; omega) | (simp; done) | (rw [List.length_append]; simp only [List.length_singleton]; omega)) hz6.fz
 skip
 refine qd (gv) rfl (cX (qG qV rfl hf6.slv (qd (ii (0)) rfl (qb (qJ (jv (α := Nat × Value × List (List Int × List Int) × List Value × Nat × FH) (fun xQ => [(2, ptr b1 0), (4, ptr b3 0), (11, ptr b8 0), (16, x2), (96, gv), (97, ii ((gn.length : Int))), (98, ii (((xQ.1 : Nat) : Int)))]) (fun xQ => cellsH b8 [arv, dv] 77 :: slH 79 2 u1 1 [nlv, nrv] :: cellsH b7 [arv, u2] 77 :: cellsH b3 [sN, sN, sN, sN] 32 :: cellsH b2 [nlv, nrv] 79 :: cellsH b1 [arv, rkv, xQ.2.1, rsv] 32 :: slH 53 2 xQ.2.1 xQ.2.2.2.2.1 xQ.2.2.2.1 :: L) (fun xQ F' => xQ.2.2.2.2.2 = F' ∧ F9 ≤ xQ.2.2.2.2.2 ∧ (IsSl xQ.2.1) ∧ (PairsC xQ.2.2.2.2.2 xQ.2.2.2.1 xQ.2.2.1) ∧ (xQ.2.2.2.2.1 = xQ.2.2.1.length) ∧ (xQ.1 ≤ gn.length) ∧ (xQ.2.2.1 = td ++ gn.take xQ.1) ∧ (xQ.2.2.1.length ≤ td.length + xQ.1)) (fun xQ => gn.length - xQ.1) (0, tdv, td, tcs, td.length, F9) ⟨rfl, rfl, rfl, rfl, rfl, rfl, rfl, ⟨⟩⟩ (sC (sC (sC (sC (sC (sC (sC sR))))))) ⟨rfl, FLe.refl _, (hts), (hC), (by first | rfl | (try dsimp only; omega)), (Nat.zero_le _), (by simp), (by (try dsimp only) <;> omega)⟩ ?_))))))
 rintro ⟨q, tv2, t2, tcs2, tm2, G3⟩ rE _ _ ⟨rfl, leG, hstv2, hT2, hmtv2, hn9q, het2, hlt2⟩
 show X _ _ _ _ (envs [(2, ptr b1 0), (4, ptr b3 0), (11, ptr b8 0), (16, x2), (96, gv), (97, ii ((gn.length : Int))), (98, ii ((q : Int)))] rE) _ (cellsH b8 [arv, dv] 77 :: slH 79 2 u1 1 [nlv, nrv] :: cellsH b7 [arv, u2] 77 :: cellsH b3 [sN, sN, sN, sN] 32 :: cellsH b2 [nlv, nrv] 79 :: cellsH b1 [arv, rkv, tv2, rsv] 32 :: slH 53 2 tv2 tm2 tcs2 :: L)
 replace leG : F9 ≤ G3 := leG
 dsimp only at hstv2 hT2 hmtv2 hn9q het2 hlt2
 have leG3 := leG
 replace har := har.mono leG3
 replace hrk := hrk.mono leG3
 replace hrs := hrs.mono leG3
 replace hf4 := hf4.mono leG3
 replace hr6 := hr6.mono leG3
 replace hf6 := hf6.mono leG3
 refine qc (qa (cX (qX rfl rfl (qb (qc ?_)))))
 refine qE (p := (q : Int) < (gn.length : Int)) rfl (fun h7 => ?_) (fun h7 => ?_)
 ·refine qA (qc (qJ (qc (qa (cX (qx q qV jp rfl rfl rfl hf6.slv (by omega) rfl ?_))))))
  obtain ⟨a5, a6, ha5, ha6, hr8, hr9⟩ := hf6.rd (i := q) (by omega)
  refine cX (qv [a5, a6] isAgg79 jp rfl rfl (Rd.two (hr8 _) (hr9 _)) (cX (je [sN, sN] jM rfl ?_)))
  intro b10
  refine cX (qI [] _ [a5, a6] jp rfl rfl rfl (qm (qy (qp ha5)) (qm (qy (qp ha6)) qO)) rfl rfl rfl (qb (qa (cX (qn (2) qS rfl jJ (by decide) rfl rfl (cX (qj isAgg27 rfl (Rd.own [_, _, _, _, _, _] rfl rfl) (cX (qn (0) jf rfl qr (by decide) rfl rfl (cX (qj qN rfl (Rd.own [] rfl rfl) (cX (qn (1) jf rfl qr (by decide) rfl rfl (cX (qj qN rfl (Rd.own [] rfl rfl) (cX (qZ [a5, a6] [sN, sN] [(0, 1), (1, 1)] [(0, [a5]), (1, [a6])] jd jw rfl (.cons rfl qr (.cons rfl qr PlacesAre.nil)) rfl (.cons (cells_one (qp ha5)) (.cons (cells_one (qp ha6)) CellsAre.nil)) (cX (qD (s := 2) [a5, a6] [sN, sN] [(0, [a5, a6])] qQ jF jw rfl (by decide) rfl (.cons rfl CellsAre.nil) rfl ?_)))))))))))))))))))
  intro v11 hv6
  refine cX (yi (m := 1) (bytes := 48) (cs := tcs2) [_, _, _, _, _, _, _, _] _ [a5, a6] qQ typeInfo53 rfl rfl rfl rfl rfl rfl rfl (SlV.own [] rfl) rfl (Rd.lit [] rfl) (qm (qy (qp ha5)) (qm (qy (qp ha6)) qO)) (by (try simp only [List.length_append, List.length_nil, List.length_cons, List.length_singleton]); omega) (by (try simp only [List.length_append, List.length_nil, List.length_cons, List.length_singleton]); omega) ?_)
  intro v12 hs6 hn6 hm6
  have hc7 := PairsC.snoc hT2 ha5 ha6
  refine cX (qn (2) qS rfl jJ (by decide) rfl rfl (cX (jz [_, _, _, _, _, _, _] _ [arv, rkv, v12, rsv] jJ rfl rfl (qy hs6) rfl rfl rfl (qb (qa (cX (qM (((q + 1 : Nat) : Int)) rfl rfl (by omega) (by omega) (qd (ii (((q + 1 : Nat) : Int))) rfl (qb ?_)))))))))
  exact ⟨(q + 1, v12, t2 ++ [((gn.getD q ([], [])).1, (gn.getD q ([], [])).2)], tcs2 ++ [a5, a6], (tm2) + 1, G3), _, leG3, rF, ⟨rfl, rfl, rfl, rfl, rfl, rfl, rfl, ⟨⟩⟩, (sD (sD (sC (sC (sC (sC (sC (sC (sC sR))))))))), ⟨rfl, leG3, (hs6), (hc7), (by (try dsimp only); (try rw [List.length_append]; simp only [List.length_singleton]); omega), (by (try dsimp only) <;> omega), (by (try dsimp only); rw [take_succ_getD ([], []) (show q < gn.length by omega), ← List.append_assoc, ← het2]), (by (try dsimp only); (try rw [List.length_append]; simp only [List.length_singleton]); omega)⟩, (by omega)⟩
 refine jn (qz (qz (qR (qc (qa (cX (qn (1) jc rfl jB (by decide) rfl rfl (cX (qj jS rfl (Rd.own [] rfl rfl) (cX (qG qV rfl hf4.slv (cX (jq (((dn.length : Int)) - 1) rfl rfl (by omega) (by omega) (qh (ii (((dn.length : Int)) - 1)) rfl (qb (qc (qc (qa (qd (x2) rfl (cX (qG runUnderlying105 rfl hr6.slv ?_)))))))))))))))))))))
 refine qd (ii (0)) rfl (qb (qJ (jv (α := Nat × Value × List (List Int × List Int) × List Value × Nat × FH) (fun xQ => [(2, ptr b1 0), (4, ptr b3 0), (11, ptr b8 0), (20, ii (((dn.length : Int)) - 1)), (117, x2), (118, ii ((((((peaksF ar dn).getD [])).length : Nat) : Int))), (119, ii (((xQ.1 : Nat) : Int)))]) (fun xQ => cellsH b8 [arv, dv] 77 :: slH 79 2 u1 1 [nlv, nrv] :: cellsH b7 [arv, u2] 77 :: cellsH b3 [sN, sN, sN, sN] 32 :: cellsH b2 [nlv, nrv] 79 :: cellsH b1 [arv, rkv, xQ.2.1, rsv] 32 :: slH 53 2 xQ.2.1 xQ.2.2.2.2.1 xQ.2.2.2.1 :: L) (fun xQ F' => xQ.2.2.2.2.2 = F' ∧ G3 ≤ xQ.2.2.2.2.2 ∧ (IsSl xQ.2.1) ∧ (PairsC xQ.2.2.2.2.2 xQ.2.2.2.1 xQ.2.2.1) ∧ (xQ.2.2.2.2.1 = xQ.2.2.1.length) ∧ (xQ.1 ≤ ((peaksF ar dn).getD []).length) ∧ (xQ.2.2.1 = td ++ gn ++ newP (((peaksF ar dn).getD []).take xQ.1) (kp.length : Int)) ∧ (xQ.2.2.1.length ≤ t2.length + xQ.1)) (fun xQ => ((peaksF ar dn).getD []).length - xQ.1) (0, tv2, t2, tcs2, tm2, G3) ⟨rfl, rfl, rfl, rfl, rfl, rfl, rfl, ⟨⟩⟩ (sC (sC (sC (sC (sC (sC (sC sR))))))) ⟨rfl, FLe.refl _, (hstv2), (hT2), (by first | rfl | (try dsimp only; omega)), (Nat.zero_le _), (by (try dsimp only); rw [show newP (((peaksF ar dn).getD []).take 0) (kp.length : Int) = [] from rfl, List.append_nil, het2, List.take_of_length_le (by omega)]), (by (try dsimp only) <;> omega)⟩ ?_)))
 rintro ⟨i, tv3, t3, tcs3, tm3, G4⟩ rE _ _ ⟨rfl, leG, hstv3, hT3, hmtv3, hn9i, het3, hlt3⟩
 show X _ _ _ _ (envs [(2, ptr b1 0), (4, ptr b3 0), (11, ptr b8 0), (20, ii (((dn.length : Int)) - 1)), (117, x2), (118, ii ((((((peaksF ar dn).getD [])).length : Nat) : Int))), (119, ii ((i : Int)))] rE) _ (cellsH b8 [arv, dv] 77 :: slH 79 2 u1 1 [nlv, nrv] :: cellsH b7 [arv, u2] 77 :: cellsH b3 [sN, sN, sN, sN] 32 :: cellsH b2 [nlv, nrv] 79 :: cellsH b1 [arv, rkv, tv3, rsv] 32 :: slH 53 2 tv3 tm3 tcs3 :: L)
 replace leG : G3 ≤ G4 := leG
 dsimp only at hstv3 hT3 hmtv3 hn9i het3 hlt3
 have leG4 := leG
 replace har := har.mono leG4
 replace hrk := hrk.mono leG4
 replace hrs := hrs.mono leG4
 replace hf4 := hf4.mono leG4
 replace hr6 := hr6.mono leG4
 refine qc (qa (cX (qX rfl rfl (qb (qc ?_)))))
 refine qE (p := (i : Int) < (((((peaksF ar dn).getD [])).length : Nat) : Int)) rfl (fun h8 => ?_) (fun h8 => ?_)
 ·refine qA (qc (qJ (qc (qa (cX (qx i runUnderlying105 jR rfl rfl rfl hr6.slv (by omega) rfl ?_))))))
  obtain ⟨a7, a8, a9, ha7, ha8, ha9, hrg1, hq1⟩ := hr6.rd (i := i) (by omega)
  refine cX (qv [a7, a8, a9, ii (((((peaksF ar dn).getD [])).getD i ([], [], [], 0, 0, 0)).2.2.2.1), ii (((((peaksF ar dn).getD [])).getD i ([], [], [], 0, 0, 0)).2.2.2.2.1), ii (((((peaksF ar dn).getD [])).getD i ([], [], [], 0, 0, 0)).2.2.2.2.2)] isAgg109 jR rfl rfl (Rd.all (hrg1 _)) (cX (je [sN, sN, sN, ii (0), ii (0), ii (0)] yk rfl ?_)))
  intro b11
  refine cX (qI [] _ [a7, a8, a9, ii (((((peaksF ar dn).getD [])).getD i ([], [], [], 0, 0, 0)).2.2.2.1), ii (((((peaksF ar dn).getD [])).getD i ([], [], [], 0, 0, 0)).2.2.2.2.1), ii (((((peaksF ar dn).getD [])).getD i ([], [], [], 0, 0, 0)).2.2.2.2.2)] jR rfl rfl rfl (qm (qy (qp ha7)) (qm (qy (qp ha8)) (qm (qy (qp ha9)) (qm rfl (qm rfl (qm rfl qO)))))) rfl rfl rfl (qb (qc (qa (cX (qn (5) jI rfl qC (by decide) rfl rfl (cX (qj jh rfl (Rd.own [] rfl rfl) (qd (ii (((dn.length : Int)) - 1)) rfl (cX (jo rfl rfl (qd (.bool (decide ((((((peaksF ar dn).getD [])).getD i ([], [], [], 0, 0, 0)).2.2.2.2.2 : Int) = ((dn.length : Int)) - 1))) rfl ?_))))))))))))
  by_cases h9 : (((((peaksF ar dn).getD [])).getD i ([], [], [], 0, 0, 0)).2.2.2.2.2 : Int) = ((dn.length : Int)) - 1
  ·refine qq (t := 127) rfl (vT h9) (qq (t := 127) rfl (vT h9) (qq (t := 127) rfl (vT h9) (qq (t := 127) rfl (vT h9) (cX (qT (.bool (true)) (vT h9) rfl (qd (.bool (true)) rfl (qs (t := 133) rfl rfl (qv [a7, a8, a9, ii (((((peaksF ar dn).getD [])).getD i ([], [], [], 0, 0, 0)).2.2.2.1), ii (((((peaksF ar dn).getD [])).getD i ([], [], [], 0, 0, 0)).2.2.2.2.1), ii (((((peaksF ar dn).getD [])).getD i ([], [], [], 0, 0, 0)).2.2.2.2.2)] isAgg109 jR rfl rfl (Rd.ownN [] rfl rfl) (qs (t := 133) rfl rfl (qt (args := [.agg #[a7, a8, a9, ii (((((peaksF ar dn).getD [])).getD i ([], [], [], 0, 0, 0)).2.2.2.1), ii (((((peaksF ar dn).getD [])).getD i ([], [], [], 0, 0, 0)).2.2.2.2.1), ii (((((peaksF ar dn).getD [])).getD i ([], [], [], 0, 0, 0)).2.2.2.2.2)]]) call61 rfl (TrivialPeak_spec ha7 ha8 ha9 (hb2 := (Nat.le_trans (termOk_len (hpk i (by omega)).1).2 (by decide))) (hb3 := (Nat.le_trans (termOk_len (hpk i (by omega)).2).2 (by decide)))) ?_))))))))))
   rintro _ _ _ _ ⟨rfl, rfl, rfl⟩
   refine qs (t := 133) rfl rfl (ju rfl (cX (qT (.bool (!(trivB ((((((peaksF ar dn).getD [])).getD i ([], [], [], 0, 0, 0)).1), (((((peaksF ar dn).getD [])).getD i ([], [], [], 0, 0, 0)).2.1), (((((peaksF ar dn).getD [])).getD i ([], [], [], 0, 0, 0)).2.2.1), (((((peaksF ar dn).getD [])).getD i ([], [], [], 0, 0, 0)).2.2.2.1), (((((peaksF ar dn).getD [])).getD i ([], [], [], 0, 0, 0)).2.2.2.2.1), (((((peaksF ar dn).getD [])).getD i ([], [], [], 0, 0, 0)).2.2.2.2.2))))) rfl rfl (qb ?_))))
   refine jG (t := !(trivB ((((((peaksF ar dn).getD [])).getD i ([], [], [], 0, 0, 0)).1), (((((peaksF ar dn).getD [])).getD i ([], [], [], 0, 0, 0)).2.1), (((((peaksF ar dn).getD [])).getD i ([], [], [], 0, 0, 0)).2.2.1), (((((peaksF ar dn).getD [])).getD i ([], [], [], 0, 0, 0)).2.2.2.1), (((((peaksF ar dn).getD [])).getD i ([], [], [], 0, 0, 0)).2.2.2.2.1), (((((peaksF ar dn).getD [])).getD i ([], [], [], 0, 0, 0)).2.2.2.2.2)))) rfl (fun h10 => ?_) (fun h10 => ?_)
   ·have htr : trivB (((peaksF ar dn).getD []).getD i ([], [], [], 0, 0, 0)) = false := Bool.not_inj (y := false) h10
    refine qa (cX (qn (2) qS rfl jJ (by decide) rfl rfl (cX (qj isAgg27 rfl (Rd.own [_, _, _, _, _, _] rfl rfl) (cX (qn (1) jI rfl qr (by decide) rfl rfl (cX (qj qN rfl (Rd.own [] rfl rfl) (cX (qn (2) jI rfl qr (by decide) rfl rfl (cX (qj qN rfl (Rd.own [] rfl rfl) (cX (qZ [a8, a9] [sN, sN] [(0, 1), (1, 1)] [(0, [a8]), (1, [a9])] jd jw rfl (.cons rfl qr (.cons rfl qr PlacesAre.nil)) rfl (.cons (cells_one (qp ha8)) (.cons (cells_one (qp ha9)) CellsAre.nil)) (cX (qD (s := 2) [a8, a9] [sN, sN] [(0, [a8, a9])] qQ jF jw rfl (by decide) rfl (.cons rfl CellsAre.nil) rfl ?_))))))))))))))))
    intro v13 hv7
    refine cX (yi (m := 1) (bytes := 48) (cs := tcs3) [_, _, _, _, _, _, _, _] _ [a8, a9] qQ typeInfo53 rfl rfl rfl rfl rfl rfl rfl (SlV.own [] rfl) rfl (Rd.lit [] rfl) (qm (qy (qp ha8)) (qm (qy (qp ha9)) qO)) (by (try simp only [List.length_append, List.length_nil, List.length_cons, List.length_singleton]); omega) (by (try simp only [List.length_append, List.length_nil, List.length_cons, List.length_singleton]); omega) ?_)
    intro v14 hs7 hn7 hm7
    have hc8 := PairsC.snoc hT3 ha8 ha9
    refine cX (qn (2) qS rfl jJ (by decide) rfl rfl (cX (jz [_, _, _, _, _, _, _] _ [arv, rkv, v14, rsv] jJ rfl rfl (qy hs7) rfl rfl rfl (qb (qa (cX (qM (((i + 1 : Nat) : Int)) rfl rfl (by omega) (by omega) (qd (ii (((i + 1 : Nat) : Int))) rfl (qb ?_)))))))))
    exact ⟨(i + 1, v14, t3 ++ [(((((peaksF ar dn).getD [])).getD i ([], [], [], 0, 0, 0)).2.1, ((((peaksF ar dn).getD [])).getD i ([], [], [], 0, 0, 0)).2.2.1)], tcs3 ++ [a8, a9], (tm3) + 1, G4), _, leG4, rF, ⟨rfl, rfl, rfl, rfl, rfl, rfl, rfl, ⟨⟩⟩, (sD (sD (sC (sC (sC (sC (sC (sC (sC sR))))))))), ⟨rfl, leG4, (hs7), (hc8), (by (try dsimp only); (try rw [List.length_append]; simp only [List.length_singleton]); omega), (by (try dsimp only) <;> omega), (by (try dsimp only); rw [newP_take (show i < ((peaksF ar dn).getD []).length by omega)]; first | (rw [if_pos (show (decide ((((peaksF ar dn).getD []).getD i ([], [], [], 0, 0, 0)).2.2.2.2.2 = (kp.length : Int) ∨ (((peaksF ar dn).getD []).getD i ([], [], [], 0, 0, 0)).2.2.2.2.1 = (kp.length : Int)) && !trivB (((peaksF ar dn).getD []).getD i ([], [], [], 0, 0, 0))) = true by rw [htr, decide_eq_true (by omega)]; rfl), ← List.append_assoc, ← het3]; done) | (rw [if_neg (fun hc => by simp only [Bool.and_eq_true, decide_eq_true_eq] at hc; first | omega | (have h7 := hc.2; rw [htr] at h7; cases h7))]; exact het3)), (by (try dsimp only); (try rw [List.length_append]; simp only [List.length_singleton]); omega)⟩, (by omega)⟩
   have htr : trivB (((peaksF ar dn).getD []).getD i ([], [], [], 0, 0, 0)) = true := Bool.not_inj (y := true) h10
   refine qA (qa (cX (qM (((i + 1 : Nat) : Int)) rfl rfl (by omega) (by omega) (qd (ii (((i + 1 : Nat) : Int))) rfl (qb ?_)))))
   exact ⟨(i + 1, tv3, t3, tcs3, tm3, G4), _, leG4, rF, ⟨rfl, rfl, rfl, rfl, rfl, rfl, rfl, ⟨⟩⟩, (sD (sC (sC (sC (sC (sC (sC (sC sR)))))))), ⟨rfl, leG4, (hstv3), (hT3), (by (try dsimp only); (try rw [List.length_append]; simp only [List.length_singleton]); omega), (by (try dsimp only) <;> omega), (by (try dsimp only); rw [newP_take (show i < ((peaksF ar dn).getD []).length by omega)]; first | (rw [if_pos (show (decide ((((peaksF ar dn).getD []).getD i ([], [], [], 0, 0, 0)).2.2.2.2.2 = (kp.length : Int) ∨ (((peaksF ar dn).getD []).getD i ([], [], [], 0, 0, 0)).2.2.2.2.1 = (kp.length : Int)) && !trivB (((peaksF ar dn).getD []).getD i ([], [], [], 0, 0, 0))) = true by rw [htr, decide_eq_true (by omega)]; rfl), ← List.append_assoc, ← het3]; done) | (rw [if_neg (fun hc => by simp only [Bool.and_eq_true, decide_eq_true_eq] at hc; first | omega | (have h7 := hc.2; rw [htr] at h7; cases h7))]; exact het3)), (by (try dsimp only); (try rw [List.length_append]; simp only [List.length_singleton]); omega)⟩, (by omega)⟩
  refine qs (t := 127) rfl (vF h9) (qn (4) jI rfl qC (by decide) rfl rfl (qs (t := 127) rfl (vF h9) (qj jh rfl (Rd.own [] rfl rfl) (qs (t := 127) rfl (vF h9) (ql (ii (((dn.length : Int)) - 1)) rfl (qs (t := 127) rfl (vF h9) (jo rfl rfl (cX (qP (.bool (decide ((((((peaksF ar dn).getD [])).getD i ([], [], [], 0, 0, 0)).2.2.2.2.1 : Int) = ((dn.length : Int)) - 1))) (vF h9) rfl (qd (.bool (decide ((((((peaksF ar dn).getD [])).getD i ([], [], [], 0, 0, 0)).2.2.2.2.1 : Int) = ((dn.length : Int)) - 1))) rfl ?_))))))))))
  by_cases h11 : (((((peaksF ar dn).getD [])).getD i ([], [], [], 0, 0, 0)).2.2.2.2.1 : Int) = ((dn.length : Int)) - 1
  ·refine qs (t := 133) rfl (vT h11) (qv [a7, a8, a9, ii (((((peaksF ar dn).getD [])).getD i ([], [], [], 0, 0, 0)).2.2.2.1), ii (((((peaksF ar dn).getD [])).getD i ([], [], [], 0, 0, 0)).2.2.2.2.1), ii (((((peaksF ar dn).getD [])).getD i ([], [], [], 0, 0, 0)).2.2.2.2.2)] isAgg109 jR rfl rfl (Rd.ownN [] rfl rfl) (qs (t := 133) rfl (vT h11) (qt (args := [.agg #[a7, a8, a9, ii (((((peaksF ar dn).getD [])).getD i ([], [], [], 0, 0, 0)).2.2.2.1), ii (((((peaksF ar dn).getD [])).getD i ([], [], [], 0, 0, 0)).2.2.2.2.1), ii (((((peaksF ar dn).getD [])).getD i ([], [], [], 0, 0, 0)).2.2.2.2.2)]]) call61 rfl (TrivialPeak_spec ha7 ha8 ha9 (hb2 := (Nat.le_trans (termOk_len (hpk i (by omega)).1).2 (by decide))) (hb3 := (Nat.le_trans (termOk_len (hpk i (by omega)).2).2 (by decide)))) ?_)))
   rintro _ _ _ _ ⟨rfl, rfl, rfl⟩
   refine qs (t := 133) rfl (vT h11) (ju rfl (cX (qT (.bool (!(trivB ((((((peaksF ar dn).getD [])).getD i ([], [], [], 0, 0, 0)).1), (((((peaksF ar dn).getD [])).getD i ([], [], [], 0, 0, 0)).2.1), (((((peaksF ar dn).getD [])).getD i ([], [], [], 0, 0, 0)).2.2.1), (((((peaksF ar dn).getD [])).getD i ([], [], [], 0, 0, 0)).2.2.2.1), (((((peaksF ar dn).getD [])).getD i ([], [], [], 0, 0, 0)).2.2.2.2.1), (((((peaksF ar dn).getD [])).getD i ([], [], [], 0, 0, 0)).2.2.2.2.2))))) (vT h11) rfl (qb ?_))))
   refine jG (t := !(trivB ((((((peaksF ar dn).getD [])).getD i ([], [], [], 0, 0, 0)).1), (((((peaksF ar dn).getD [])).getD i ([], [], [], 0, 0, 0)).2.1), (((((peaksF ar dn).getD [])).getD i ([], [], [], 0, 0, 0)).2.2.1), (((((peaksF ar dn).getD [])).getD i ([], [], [], 0, 0, 0)).2.2.2.1), (((((peaksF ar dn).getD [])).getD i ([], [], [], 0, 0, 0)).2.2.2.2.1), (((((peaksF ar dn).getD [])).getD i ([], [], [], 0, 0, 0)).2.2.2.2.2)))) rfl (fun h12 => ?_) (fun h12 => ?_)
   ·have htr : trivB (((peaksF ar dn).getD []).getD i ([], [], [], 0, 0, 0)) = false := Bool.not_inj (y := false) h12
    refine qa (cX (qn (2) qS rfl jJ (by decide) rfl rfl (cX (qj isAgg27 rfl (Rd.own [_, _, _, _, _, _] rfl rfl) (cX (qn (1) jI rfl qr (by decide) rfl rfl (cX (qj qN rfl (Rd.own [] rfl rfl) (cX (qn (2) jI rfl qr (by decide) rfl rfl (cX (qj qN rfl (Rd.own [] rfl rfl) (cX (qZ [a8, a9] [sN, sN] [(0, 1), (1, 1)] [(0, [a8]), (1, [a9])] jd jw rfl (.cons rfl qr (.cons rfl qr PlacesAre.nil)) rfl (.cons (cells_one (qp ha8)) (.cons (cells_one (qp ha9)) CellsAre.nil)) (cX (qD (s := 2) [a8, a9] [sN, sN] [(0, [a8, a9])] qQ jF jw rfl (by decide) rfl (.cons rfl CellsAre.nil) rfl ?_))))))))))))))))
    intro v15 hv8
    refine cX (yi (m := 1) (bytes := 48) (cs := tcs3) [_, _, _, _, _, _, _, _] _ [a8, a9] qQ typeInfo53 rfl rfl rfl rfl rfl rfl rfl (SlV.own [] rfl) rfl (Rd.lit [] rfl) (qm (qy (qp ha8)) (qm (qy (qp ha9)) qO)) (by (try simp only [List.length_append, List.length_nil, List.length_cons, List.length_singleton]); omega) (by (try simp only [List.length_append, List.length_nil, List.length_cons, List.length_singleton]); omega) ?_)
    intro v16 hs8 hn8 hm8
    have hc9 := PairsC.snoc hT3 ha8 ha9
    refine cX (qn (2) qS rfl jJ (by decide) rfl rfl (cX (jz [_, _, _, _, _, _, _] _ [arv, rkv, v16, rsv] jJ rfl rfl (qy hs8) rfl rfl rfl (qb (qa (cX (qM (((i + 1 : Nat) : Int)) rfl rfl (by omega) (by omega) (qd (ii (((i + 1 : Nat) : Int))) rfl (qb ?_)))))))))
    exact ⟨(i + 1, v16, t3 ++ [(((((peaksF ar dn).getD [])).getD i ([], [], [], 0, 0, 0)).2.1, ((((peaksF ar dn).getD [])).getD i ([], [], [], 0, 0, 0)).2.2.1)], tcs3 ++ [a8, a9], (tm3) + 1, G4), _, leG4, rF, ⟨rfl, rfl, rfl, rfl, rfl, rfl, rfl, ⟨⟩⟩, (sD (sD (sC (sC (sC (sC (sC (sC (sC sR))))))))), ⟨rfl, leG4, (hs8), (hc9), (by (try dsimp only); (try rw [List.length_append]; simp only [List.length_singleton]); omega), (by (try dsimp only) <;> omega), (by (try dsimp only); rw [newP_take (show i < ((peaksF ar dn).getD []).length by omega)]; first | (rw [if_pos (show (decide ((((peaksF ar dn).getD []).getD i ([], [], [], 0, 0, 0)).2.2.2.2.2 = (kp.length : Int) ∨ (((peaksF ar dn).getD []).getD i ([], [], [], 0, 0, 0)).2.2.2.2.1 = (kp.length : Int)) && !trivB (((peaksF ar dn).getD []).getD i ([], [], [], 0, 0, 0))) = true by rw [htr, decide_eq_true (by omega)]; rfl), ← List.append_assoc, ← het3]; done) | (rw [if_neg (fun hc => by simp only [Bool.and_eq_true, decide_eq_true_eq] at hc; first | omega | (have h7 := hc.2; rw [htr] at h7; cases h7))]; exact het3)), (by (try dsimp only); (try rw [List.length_append]; simp only [List.length_singleton]); omega)⟩, (by omega)⟩
   have htr : trivB (((peaksF ar dn).getD []).getD i ([], [], [], 0, 0, 0)) = true := Bool.not_inj (y := true) h12
   refine qA (qa (cX (qM (((i + 1 : Nat) : Int)) rfl rfl (by omega) (by omega) (qd (ii (((i + 1 : Nat) : Int))) rfl (qb ?_)))))
   exact ⟨(i + 1, tv3, t3, tcs3, tm3, G4), _, leG4, rF, ⟨rfl, rfl, rfl, rfl, rfl, rfl, rfl, ⟨⟩⟩, (sD (sC (sC (sC (sC (sC (sC (sC sR)))))))), ⟨rfl, leG4, (hstv3), (hT3), (by (try dsimp only); (try rw [List.length_append]; simp only [List.length_singleton]); omega), (by (try dsimp only) <;> omega), (by (try dsimp only); rw [newP_take (show i < ((peaksF ar dn).getD []).length by omega)]; first | (rw [if_pos (show (decide ((((peaksF ar dn).getD []).getD i ([], [], [], 0, 0, 0)).2.2.2.2.2 = (kp.length : Int) ∨ (((peaksF ar dn).getD []).getD i ([], [], [], 0, 0, 0)).2.2.2.2.1 = (kp.length : Int)) && !trivB (((peaksF ar dn).getD []).getD i ([], [], [], 0, 0, 0))) = true by rw [htr, decide_eq_true (by omega)]; rfl), ← List.append_assoc, ← het3]; done) | (rw [if_neg (fun hc => by simp only [Bool.and_eq_true, decide_eq_true_eq] at hc; first | omega | (have h7 := hc.2; rw [htr] at h7; cases h7))]; exact het3)), (by (try dsimp only); (try rw [List.length_append]; simp only [List.length_singleton]); omega)⟩, (by omega)⟩
  refine qq (t := 133) rfl (vF h11) (qq (t := 133) rfl (vF h11) (qq (t := 133) rfl (vF h11) (cX (qP (.bool (false)) (vF h11) rfl (qb (jW rfl (qA (qa (cX (qM (((i + 1 : Nat) : Int)) rfl rfl (by omega) (by omega) (qd (ii (((i + 1 : Nat) : Int))) rfl (qb ?_))))))))))))
  exact ⟨(i + 1, tv3, t3, tcs3, tm3, G4), _, leG4, rF, ⟨rfl, rfl, rfl, rfl, rfl, rfl, rfl, ⟨⟩⟩, (sD (sC (sC (sC (sC (sC (sC (sC sR)))))))), ⟨rfl, leG4, (hstv3), (hT3), (by (try dsimp only); (try rw [List.length_append]; simp only [List.length_singleton]); omega), (by (try dsimp only) <;> omega), (by (try dsimp only); rw [newP_take (show i < ((peaksF ar dn).getD []).length by omega)]; first | (rw [if_pos (show (decide ((((peaksF ar dn).getD []).getD i ([], [], [], 0, 0, 0)).2.2.2.2.2 = (kp.length : Int) ∨ (((peaksF ar dn).getD []).getD i ([], [], [], 0, 0, 0)).2.2.2.2.1 = (kp.length : Int)) && !trivB (((peaksF ar dn).getD []).getD i ([], [], [], 0, 0, 0))) = true by rw [htr, decide_eq_true (by omega)]; rfl), ← List.append_assoc, ← het3]; done) | (rw [if_neg (fun hc => by simp only [Bool.and_eq_true, decide_eq_true_eq] at hc; first | omega | (have h7 := hc.2; rw [htr] at h7; cases h7))]; exact het3)), (by (try dsimp only); (try rw [List.length_append]; simp only [List.length_singleton]); omega)⟩, (by omega)⟩
 refine jn (qz (qz (qR (qc (qc (qa (cX (qn (2) qS rfl jJ (by decide) rfl rfl (cX (qj isAgg27 rfl (Rd.own [_, _, _, _, _] rfl rfl) (cX (qG qQ rfl (SlV.own [_, _, _, _, _, _] rfl) (cX (jU rfl rfl (qb ?_)))))))))))))))
 refine qE (p := (((tm3 : Nat) : Int) : Int) > 120) rfl (fun h13 => ?_) (fun h13 => ?_)
 ·refine qc (qa (cX (qv [arv, rkv, tv3, rsv] jE jb rfl rfl (Rd.ownN [_, _, _, _, _] rfl rfl) (cX (qI [_, _, _] _ [arv, rkv, tv3, rsv] jb rfl rfl rfl (qm (qy (qp har)) (qm (qy (qp hrk)) (qm (qy hstv3) (qm (qy (PairsF.isSl hrs)) qO)))) rfl rfl rfl (qh (ii (6)) rfl (qb (ji [_, _, _, _, _, _] _ _ rfl (fun F10 le10 hz7 => ?_)))))))))
  replace har := har.mono le10
  replace hrk := hrk.mono le10
  replace hrs := hrs.mono le10
  replace hf4 := hf4.mono le10
  replace hT3 := hT3.mono le10
  have hf7 : PairsF F10 tv3 t3 := CO.fz hT3 (by first | rfl | omega | (rw [List.length_set]; omega) | (simp; done) | (rw [List.length_append]; simp only [List.length_singleton]; omega)) hz7.fz
  refine qw (qo (qu (L' := L) [.agg #[arv, rkv, tv3, rsv], ii (6)] (.tuple #[.agg #[arv, rkv, tv3, rsv], ii (6)]) (.cell rfl (jA [arv, rkv, tv3, rsv] jE jb rfl (Rd.ownN [_, _, _] rfl rfl)) (.tmp rfl .nil)) rfl (qi (qi (qi (qi (qi (qi (qi (qi (qi leG1 le1) le3) leG2) le6) le7) le9) leG3) leG4) le10) rF (sD (sD (sD (sD (sD (sD sR)))))) ?_))
  have e9 : (withR ar td rs (nl, nr)) = ((t3, rs), 6) := by exact withE_many hkq hgq hdq hl12 hnl9 hpo (by rw [het3, List.take_of_length_le (by omega)]) (by omega)
  rw [e9]
  exact ⟨_, _, _, _, ⟨rfl, har, hrk, hf7, hrs⟩, rfl⟩
 refine qA (qc (qa (cX (qn (1) jc rfl jB (by decide) rfl rfl (cX (qj jS rfl (Rd.own [] rfl rfl) (cX (qn (3) qS rfl jB (by decide) rfl rfl (cX (jz [_, _, _, _, _] _ [arv, rkv, tv3, dv] jB rfl rfl (qy (PairsF.isSl hf4)) rfl rfl rfl (qb (qc (qa (cX (qv [arv, rkv, tv3, dv] jE jb rfl rfl (Rd.ownN [_, _, _, _, _] rfl rfl) (cX (qI [_, _, _] _ [arv, rkv, tv3, dv] jb rfl rfl rfl (qm (qy (qp har)) (qm (qy (qp hrk)) (qm (qy hstv3) (qm (qy (PairsF.isSl hf4)) qO)))) rfl rfl rfl (qh (ii (2)) rfl (qb ?_)))))))))))))))))))
 refine ji [_, _, _, _, _, _] _ _ rfl (fun F11 le11 hz8 => ?_)
 replace har := har.mono le11
 replace hrk := hrk.mono le11
 replace hf4 := hf4.mono le11
 replace hT3 := hT3.mono le11
 have hf8 : PairsF F11 tv3 t3 := CO.fz hT3 (by first | rfl | omega | (rw [List.length_set]; omega) | (simp; done) | (rw [List.length_append]; simp only [List.length_singleton]; omega)) hz8.fz
 refine qw (qu (L' := L) [.agg #[arv, rkv, tv3, dv], ii (2)] (.tuple #[.agg #[arv, rkv, tv3, dv], ii (2)]) (.cell rfl (jA [arv, rkv, tv3, dv] jE jb rfl (Rd.ownN [_, _, _] rfl rfl)) (.tmp rfl .nil)) rfl (qi (qi (qi (qi (qi (qi (qi (qi (qi leG1 le1) le3) leG2) le6) le7) le9) leG3) leG4) le11) rF (sD (sD (sD (sD (sD (sD sR)))))) ?_)
 have e9 : (withR ar td rs (nl, nr)) = ((t3, dn), 2) := by exact withE_yes hkq hgq hdq hl12 hnl9 hpo (by rw [het3, List.take_of_length_le (by omega)]) (by omega)
 rw [e9]
 exact ⟨_, _, _, _, ⟨rfl, har, hrk, hf8, hf4⟩, rfl⟩

/- impl.workStep -/
set_option maxHeartbeats 4000000 in
set_option maxRecDepth 20000 in
theorem workStep_spec {F : FH} {L : List HP} {arv : Value} {ar : List Int} (har : IntsF F arv ar) {rkv : Value} {rk : List Int} (hrk : IntsF F rkv rk) {tdv : Value} {td : List (List Int × List Int)} (htd : PairsF F tdv td) {rsv : Value} {rs : List (List Int × List Int)} (hrs : PairsF F rsv rs) (hw : WorkOk ar rk (td, rs)) :
    Does prog 23 [.agg #[arv, rkv, tdv, rsv]] F (L) (fun v F' L' => ∃ (a : Value), ∃ (b : Value), ∃ (c : Value), ∃ (d : Value), (.tuple #[.agg #[a, b, c, d], ii ((stepW ar rk (td, rs)).2)] : Value) = v ∧ (IntsF F' a ar) ∧ (IntsF F' b rk) ∧ (PairsF F' c (stepW ar rk (td, rs)).1.1) ∧ (PairsF F' d (stepW ar rk (td, rs)).1.2) ∧ L = L') := by
 refine qH func23 rfl rfl rfl ?_
 have hbw := hw.bounds
 have hfw := hw.few
 simp only at hfw
 refine qc (qa (cX (qY [arv, rkv, tdv, rsv] rfl rfl ?_)))
 intro b1
 refine cX (je [sN, sN, sN, sN] yh rfl ?_)
 intro b2
 refine qh (ii (0)) rfl (qb (qc (qc (qa (cX (qn (2) qS rfl jJ (by decide) rfl rfl (cX (qj isAgg27 rfl (Rd.own [_] rfl rfl) (cX (qG qQ rfl htd.slv (cX (jo rfl rfl (qb ?_)))))))))))))
 refine qE (p := ((td.length : Int) : Int) = 0) rfl (fun h1 => ?_) (fun h1 => ?_)
 ·have h0 : td.length = 0 := by omega
  refine qc (qa (cX (qv [arv, rkv, tdv, rsv] jE jb rfl rfl (Rd.ownN [_] rfl rfl) (cX (qI [] _ [arv, rkv, tdv, rsv] jb rfl rfl rfl (qm (qy (qp har)) (qm (qy (qp hrk)) (qm (qy (PairsF.isSl htd)) (qm (qy (PairsF.isSl hrs)) qO)))) rfl rfl rfl (qh (ii (3)) rfl (qb (qw (qo (qu (L' := L) [.agg #[arv, rkv, tdv, rsv], ii (3)] (.tuple #[.agg #[arv, rkv, tdv, rsv], ii (3)]) (.cell rfl (jA [arv, rkv, tdv, rsv] jE jb rfl (Rd.ownN [] rfl rfl)) (.tmp rfl .nil)) rfl rF rF (sD (sD sR)) ?_))))))))))
  have e9 : (stepW ar rk (td, rs)) = ((td, rs), 3) := step_done (s := (td, rs)) h0
  exact ⟨_, _, _, _, by rw [e9], har, hrk, by rw [e9]; exact htd, by rw [e9]; exact hrs, rfl⟩
 have h0 : td.length ≠ 0 := by omega
 have hsl := selN_lt (td := td) td.length (Nat.le_refl _) (by omega)
 have heq := hw.eqAt hsl
 have hn1 := nfT_ok hw.sys heq.1
 have hn2 := nfT_ok hw.sys heq.2
 have hq1 := termOk_len hn1
 have hq2 := termOk_len hn2
 simp only [nfT] at hq1 hq2
 refine qA (qc (qa (cX (qv [arv, rkv, tdv, rsv] jE jb rfl rfl (Rd.ownN [_] rfl rfl) (cX (qt (args := [.agg #[arv, rkv, tdv, rsv]]) call42 rfl (selected_spec har hrk htd hrs (hlt := (by first | assumption | rfl | omega | simp)) (htb := (hbw.2.2.1))) ?_))))))
 rintro _ _ _ _ ⟨rfl, rfl, rfl⟩
 refine qh (ii (((selN td td.length : Nat) : Int))) rfl (qb (qc ?_))
 obtain ⟨a1, a2, ha1, ha2, hr3, hr4⟩ := htd.rd (i := selN td td.length) (by omega)
 refine yc [cellsH b2 [sN, sN, sN, sN] 32, cellsH b1 [arv, rkv, tdv, rsv] 32] L 13 [[], [], [], [], [], [], [], [], [], [8], [8], [], [8]] [[], [0], [], [2], [], [3, 4], [5], [6], [1, 7], [8], [8, 9], [8, 9], [8, 10]] [] (phiG [pe (.agg #[arv, rkv, tdv, rsv]), fun FF us v => (.agg #[((aggAt v 0)), ((aggAt v 1))] : Value) = v ∧ (IntsF FF ((aggAt v 0)) ar) ∧ (PairsF FF ((aggAt v 1)) rs), pe (ptr b1 2), pe tdv, pe (ii (((selN td td.length : Nat) : Int)) : Value), pe (.pointer (some (elemA tdv ((selN td td.length) * 2)))), pe (.pointer (some (elemA tdv ((selN td td.length) * 2)))), pe a1, fun FF us v => (.tuple #[((tupAt v 0)), .bool ((walkGo ar rs 1 60 ((td.getD (selN td td.length) ([], [])).1)).2)] : Value) = v ∧ (IntsF FF ((tupAt v 0)) (endL ((td.getD (selN td td.length) ([], [])).1) (walkGo ar rs 1 60 ((td.getD (selN td td.length) ([], [])).1)).1)), fun FF us v => v = (.tuple #[((tupAt (us.getD 0 undef) 0)), .bool ((walkGo ar rs 1 60 ((td.getD (selN td td.length) ([], [])).1)).2)] : Value), fun FF us v => v = ((tupAt (us.getD 0 undef) 0)), pe (.bool ((walkGo ar rs 1 60 ((td.getD (selN td td.length) ([], [])).1)).2)), fun FF us v => v = ((tupAt (us.getD 0 undef) 0))]) (ownL []) mixed rfl rfl (by kernel_rfl) (by kernel_rfl) (MonoG.get (m1 (mC (fun le h => ⟨h.1, h.2.1.mono le, h.2.2.mono le⟩) (m1 (m1 (m1 (m1 (m1 (m1 (mC (fun le h => ⟨h.1, h.2.mono le⟩) (mC (fun le h => h) (mC (fun le h => h) (m1 (mC (fun le h => h) MonoG.nil)))))))))))))) ?_ ?_
 ·refine gD (fun W Fs R lF z9 => ?_) ?_
  ·replace har := har.mono lF
   replace hrk := hrk.mono lF
   replace htd := htd.mono lF
   replace hrs := hrs.mono lF
   replace ha1 := ha1.mono lF
   replace ha2 := ha2.mono lF
   replace hr3 := Rd.monoA hr3 lF
   replace hr4 := Rd.monoA hr4 lF
   refine qg (qv [arv, rkv, tdv, rsv] jE jb rfl rfl (Rd.ownN [_] rfl rfl) ?_)
   exact ⟨rfl, rfl⟩
  refine gD (fun W Fs R lF z9 => ?_) ?_
  ·replace har := har.mono lF
   replace hrk := hrk.mono lF
   replace htd := htd.mono lF
   replace hrs := hrs.mono lF
   replace ha1 := ha1.mono lF
   replace ha2 := ha2.mono lF
   replace hr3 := Rd.monoA hr3 lF
   replace hr4 := Rd.monoA hr4 lF
   rw [zA 0 (z9 0 rfl)]
   refine qg (qt (args := [.agg #[arv, rkv, tdv, rsv]]) call40 rfl (system_spec har hrk htd hrs) ?_)
   rintro _ F3 _ le3 ⟨x4, x5, rfl, hr6, hr7, rfl⟩
   replace har := har.mono le3
   replace hrk := hrk.mono le3
   replace htd := htd.mono le3
   replace hrs := hrs.mono le3
   replace ha1 := ha1.mono le3
   replace ha2 := ha2.mono le3
   replace hr3 := Rd.monoA hr3 le3
   replace hr4 := Rd.monoA hr4 le3
   exact ⟨⟨rfl, hr6, hr7⟩, rfl⟩
  refine gD (fun W Fs R lF z9 => ?_) ?_
  ·refine qg (qn (2) qS rfl jJ (by decide) rfl rfl ?_)
   exact ⟨rfl, rfl⟩
  refine gD (fun W Fs R lF z9 => ?_) ?_
  ·replace har := har.mono lF
   replace hrk := hrk.mono lF
   replace htd := htd.mono lF
   replace hrs := hrs.mono lF
   replace ha1 := ha1.mono lF
   replace ha2 := ha2.mono lF
   replace hr3 := Rd.monoA hr3 lF
   replace hr4 := Rd.monoA hr4 lF
   rw [zA 2 (z9 2 rfl)]
   refine qg (qj isAgg27 rfl (Rd.own [_] rfl rfl) ?_)
   exact ⟨rfl, rfl⟩
  refine gD (fun W Fs R lF z9 => ?_) ?_
  ·refine qg (ql (ii (((selN td td.length : Nat) : Int))) rfl ?_)
   exact ⟨rfl, rfl⟩
  refine gD (fun W Fs R lF z9 => ?_) ?_
  ·replace har := har.mono lF
   replace hrk := hrk.mono lF
   replace htd := htd.mono lF
   replace hrs := hrs.mono lF
   replace ha1 := ha1.mono lF
   replace ha2 := ha2.mono lF
   replace hr3 := Rd.monoA hr3 lF
   replace hr4 := Rd.monoA hr4 lF
   rw [zB 3 4 (z9 3 rfl) (z9 4 rfl)]
   refine qg (qx (selN td td.length) qQ jF rfl rfl rfl htd.slv (by omega) rfl ?_)
   exact ⟨rfl, rfl⟩
  refine gD (fun W Fs R lF z9 => ?_) ?_
  ·rw [zA 5 (z9 5 rfl)]
   refine qg (XOp.fieldE ((selN td td.length) * 2) jd rfl qr (by decide) rfl rfl ?_)
   exact ⟨rfl, rfl⟩
  refine gD (fun W Fs R lF z9 => ?_) ?_
  ·replace har := har.mono lF
   replace hrk := hrk.mono lF
   replace htd := htd.mono lF
   replace hrs := hrs.mono lF
   replace ha1 := ha1.mono lF
   replace ha2 := ha2.mono lF
   replace hr3 := Rd.monoA hr3 lF
   replace hr4 := Rd.monoA hr4 lF
   rw [zA 6 (z9 6 rfl)]
   refine qg (qj qN rfl (hr3 _) ?_)
   exact ⟨rfl, rfl⟩
  refine gD (fun W Fs R lF z9 => ?_) ?_
  ·obtain ⟨e1, f1_1hr1, f1_1hr2⟩ := z9 1 rfl
   replace har := har.mono lF
   replace hrk := hrk.mono lF
   replace htd := htd.mono lF
   replace hrs := hrs.mono lF
   replace ha1 := ha1.mono lF
   replace ha2 := ha2.mono lF
   replace hr4 := Rd.monoA hr4 lF
   rw [eS (l := [(1, (.agg #[((aggAt (W 1) 0)), ((aggAt (W 1) 1))])), (7, _)]) ⟨(e1).symm, z9 7 rfl, ⟨⟩⟩]
   refine qg (qt (args := [.agg #[((aggAt (W 1) 0)), ((aggAt (W 1) 1))], a1, ii ((60 : Nat) : Int)]) call43 rfl (normalOf_spec (n := 60) f1_1hr1 f1_1hr2 ha1 (hsys := (hw.sys)) (ho := (by first | exact heq.1 | exact heq.2)) (hn := (by decide))) ?_)
   rintro _ F4 _ le4 ⟨x6, rfl, hr8, rfl⟩
   replace har := har.mono le4
   replace hrk := hrk.mono le4
   replace htd := htd.mono le4
   replace hrs := hrs.mono le4
   replace ha2 := ha2.mono le4
   replace f1_1hr1 := f1_1hr1.mono le4
   replace f1_1hr2 := f1_1hr2.mono le4
   replace hr4 := Rd.monoA hr4 le4
   exact ⟨⟨rfl, hr8⟩, rfl⟩
  refine gD (fun W Fs R lF z9 => ?_) ?_
  ·obtain ⟨e8, f8_1hr⟩ := z9 8 rfl
   rw [eS (l := [(8, (.tuple #[((tupAt (W 8) 0)), .bool ((walkGo ar rs 1 60 ((td.getD (selN td td.length) ([], [])).1)).2)]))]) ⟨(e8).symm, ⟨⟩⟩]
   refine qg (ql (.tuple #[((tupAt (W 8) 0)), .bool ((walkGo ar rs 1 60 ((td.getD (selN td td.length) ([], [])).1)).2)]) rfl ?_)
   exact ⟨rfl, rfl⟩
  refine gD (fun W Fs R lF z9 => ?_) ?_
  ·obtain ⟨e8, f8_1hr⟩ := z9 8 rfl
   have e9 : W 9 = (.tuple #[((tupAt (W 8) 0)), .bool ((walkGo ar rs 1 60 ((td.getD (selN td td.length) ([], [])).1)).2)] : Value) := z9 9 rfl
   rw [eS (l := [(8, (.tuple #[((tupAt (W 8) 0)), .bool ((walkGo ar rs 1 60 ((td.getD (selN td td.length) ([], [])).1)).2)])), (9, (.tuple #[((tupAt (W 8) 0)), .bool ((walkGo ar rs 1 60 ((td.getD (selN td td.length) ([], [])).1)).2)]))]) ⟨(e8).symm, e9, ⟨⟩⟩]
   refine qg (qK (((tupAt (W 8) 0))) rfl rfl ?_)
   exact ⟨rfl, rfl⟩
  refine gD (fun W Fs R lF z9 => ?_) ?_
  ·obtain ⟨e8, f8_1hr⟩ := z9 8 rfl
   have e9 : W 9 = (.tuple #[((tupAt (W 8) 0)), .bool ((walkGo ar rs 1 60 ((td.getD (selN td td.length) ([], [])).1)).2)] : Value) := z9 9 rfl
   rw [eS (l := [(8, (.tuple #[((tupAt (W 8) 0)), .bool ((walkGo ar rs 1 60 ((td.getD (selN td td.length) ([], [])).1)).2)])), (9, (.tuple #[((tupAt (W 8) 0)), .bool ((walkGo ar rs 1 60 ((td.getD (selN td td.length) ([], [])).1)).2)]))]) ⟨(e8).symm, e9, ⟨⟩⟩]
   refine qg (qK (.bool ((walkGo ar rs 1 60 ((td.getD (selN td td.length) ([], [])).1)).2)) rfl rfl ?_)
   exact ⟨rfl, rfl⟩
  refine gD (fun W Fs R lF z9 => ?_) ?_
  ·obtain ⟨e8, f8_1hr⟩ := z9 8 rfl
   have e10 : W 10 = ((tupAt (W 8) 0)) := z9 10 rfl
   rw [eS (l := [(8, (.tuple #[((tupAt (W 8) 0)), .bool ((walkGo ar rs 1 60 ((td.getD (selN td td.length) ([], [])).1)).2)])), (10, ((tupAt (W 8) 0)))]) ⟨(e8).symm, e10, ⟨⟩⟩]
   refine qg (XOp.assign (((tupAt (W 8) 0))) rfl ?_)
   exact ⟨rfl, rfl⟩
  exact stepsG.nil
 intro W F5 le5 hphi
 obtain ⟨e1, f1_1hr1, f1_1hr2⟩ := hphi 1 (by decide)
 obtain ⟨e8, f8_1hr⟩ := hphi 8 (by decide)
 have e9 : W 9 = (.tuple #[((tupAt (W 8) 0)), .bool ((walkGo ar rs 1 60 ((td.getD (selN td td.length) ([], [])).1)).2)] : Value) := hphi 9 (by decide)
 have e10 : W 10 = ((tupAt (W 8) 0)) := hphi 10 (by decide)
 have e12 : W 12 = ((tupAt (W 8) 0)) := hphi 12 (by decide)
 generalize hu1 : ((aggAt (W 1) 0)) = u1 at e1 f1_1hr1 f1_1hr2 e8 f8_1hr e9 e10 e12
 generalize hu2 : ((aggAt (W 1) 1)) = u2 at e1 f1_1hr1 f1_1hr2 e8 f8_1hr e9 e10 e12
 generalize hu3 : ((tupAt (W 8) 0)) = u3 at e1 f1_1hr1 f1_1hr2 e8 f8_1hr e9 e10 e12
 rw [eS (l := [(8, (.tuple #[u3, .bool ((walkGo ar rs 1 60 ((td.getD (selN td td.length) ([], [])).1)).2)])), (11, _), (12, u3)]) ⟨(e8).symm, (hphi 11 (by decide)), e12, ⟨⟩⟩]
 replace har := har.mono le5
 replace hrk := hrk.mono le5
 replace htd := htd.mono le5
 replace hrs := hrs.mono le5
 replace ha2 := ha2.mono le5
 replace hr4 := Rd.monoA hr4 le5
 show XL _ _ _ _ _ _ _ (cellsH b2 [sN, sN, sN, sN] 32 :: cellsH b1 [arv, rkv, tdv, rsv] 32 :: L)
 refine qh (.bool ((walkGo ar rs 1 60 ((td.getD (selN td td.length) ([], [])).1)).2)) rfl (qb (qc ?_))
 refine yc [cellsH b2 [sN, sN, sN, sN] 32, cellsH b1 [arv, rkv, tdv, rsv] 32] L 13 [[], [], [], [], [], [], [], [], [], [8], [8], [], [8]] [[], [0], [], [2], [], [3, 4], [5], [6], [1, 7], [8], [8, 9], [8, 9], [8, 10]] [] (phiG [pe (.agg #[arv, rkv, tdv, rsv]), fun FF us v => (.agg #[((aggAt v 0)), ((aggAt v 1))] : Value) = v ∧ (IntsF FF ((aggAt v 0)) ar) ∧ (PairsF FF ((aggAt v 1)) rs), pe (ptr b1 2), pe tdv, pe (ii (((selN td td.length : Nat) : Int)) : Value), pe (.pointer (some (elemA tdv ((selN td td.length) * 2)))), pe (.pointer (some (elemA tdv ((selN td td.length) * 2 + 1)))), pe a2, fun FF us v => (.tuple #[((tupAt v 0)), .bool ((walkGo ar rs 1 60 ((td.getD (selN td td.length) ([], [])).2)).2)] : Value) = v ∧ (IntsF FF ((tupAt v 0)) (endL ((td.getD (selN td td.length) ([], [])).2) (walkGo ar rs 1 60 ((td.getD (selN td td.length) ([], [])).2)).1)), fun FF us v => v = (.tuple #[((tupAt (us.getD 0 undef) 0)), .bool ((walkGo ar rs 1 60 ((td.getD (selN td td.length) ([], [])).2)).2)] : Value), fun FF us v => v = ((tupAt (us.getD 0 undef) 0)), pe (.bool ((walkGo ar rs 1 60 ((td.getD (selN td td.length) ([], [])).2)).2)), fun FF us v => v = ((tupAt (us.getD 0 undef) 0))]) (ownL []) mixed rfl rfl (by kernel_rfl) (by kernel_rfl) (MonoG.get (m1 (mC (fun le h => ⟨h.1, h.2.1.mono le, h.2.2.mono le⟩) (m1 (m1 (m1 (m1 (m1 (m1 (mC (fun le h => ⟨h.1, h.2.mono le⟩) (mC (fun le h => h) (mC (fun le h => h) (m1 (mC (fun le h => h) MonoG.nil)))))))))))))) ?_ ?_
 ·refine gD (fun W Fs R lF z9 => ?_) ?_
  ·replace har := har.mono lF
   replace hrk := hrk.mono lF
   replace htd := htd.mono lF
   replace hrs := hrs.mono lF
   replace ha2 := ha2.mono lF
   replace f8_1hr := f8_1hr.mono lF
   replace hr4 := Rd.monoA hr4 lF
   refine qg (qv [arv, rkv, tdv, rsv] jE jb rfl rfl (Rd.ownN [_] rfl rfl) ?_)
   exact ⟨rfl, rfl⟩
  refine gD (fun W Fs R lF z9 => ?_) ?_
  ·replace har := har.mono lF
   replace hrk := hrk.mono lF
   replace htd := htd.mono lF
   replace hrs := hrs.mono lF
   replace ha2 := ha2.mono lF
   replace f8_1hr := f8_1hr.mono lF
   replace hr4 := Rd.monoA hr4 lF
   rw [zA 0 (z9 0 rfl)]
   refine qg (qt (args := [.agg #[arv, rkv, tdv, rsv]]) call40 rfl (system_spec har hrk htd hrs) ?_)
   rintro _ F8 _ le8 ⟨x10, x11, rfl, hr12, hr13, rfl⟩
   replace har := har.mono le8
   replace hrk := hrk.mono le8
   replace htd := htd.mono le8
   replace hrs := hrs.mono le8
   replace ha2 := ha2.mono le8
   replace f8_1hr := f8_1hr.mono le8
   replace hr4 := Rd.monoA hr4 le8
   exact ⟨⟨rfl, hr12, hr13⟩, rfl⟩
  refine gD (fun W Fs R lF z9 => ?_) ?_
  ·refine qg (qn (2) qS rfl jJ (by decide) rfl rfl ?_)
   exact ⟨rfl, rfl⟩
  refine gD (fun W Fs R lF z9 => ?_) ?_
  ·replace har := har.mono lF
   replace hrk := hrk.mono lF
   replace htd := htd.mono lF
   replace hrs := hrs.mono lF
   replace ha2 := ha2.mono lF
   replace f8_1hr := f8_1hr.mono lF
   replace hr4 := Rd.monoA hr4 lF
   rw [zA 2 (z9 2 rfl)]
   refine qg (qj isAgg27 rfl (Rd.own [_] rfl rfl) ?_)
   exact ⟨rfl, rfl⟩
  refine gD (fun W Fs R lF z9 => ?_) ?_
  ·refine qg (ql (ii (((selN td td.length : Nat) : Int))) rfl ?_)
   exact ⟨rfl, rfl⟩
  refine gD (fun W Fs R lF z9 => ?_) ?_
  ·replace har := har.mono lF
   replace hrk := hrk.mono lF
   replace htd := htd.mono lF
   replace hrs := hrs.mono lF
   replace ha2 := ha2.mono lF
   replace f8_1hr := f8_1hr.mono lF
   replace hr4 := Rd.monoA hr4 lF
   rw [zB 3 4 (z9 3 rfl) (z9 4 rfl)]
   refine qg (qx (selN td td.length) qQ jF rfl rfl rfl htd.slv (by omega) rfl ?_)
   exact ⟨rfl, rfl⟩
  refine gD (fun W Fs R lF z9 => ?_) ?_
  ·rw [zA 5 (z9 5 rfl)]
   refine qg (XOp.fieldE ((selN td td.length) * 2 + 1) jd rfl qr (by decide) rfl rfl ?_)
   exact ⟨rfl, rfl⟩
  refine gD (fun W Fs R lF z9 => ?_) ?_
  ·replace har := har.mono lF
   replace hrk := hrk.mono lF
   replace htd := htd.mono lF
   replace hrs := hrs.mono lF
   replace ha2 := ha2.mono lF
   replace f8_1hr := f8_1hr.mono lF
   replace hr4 := Rd.monoA hr4 lF
   rw [zA 6 (z9 6 rfl)]
   refine qg (qj qN rfl (hr4 _) ?_)
   exact ⟨rfl, rfl⟩
  refine gD (fun W Fs R lF z9 => ?_) ?_
  ·obtain ⟨e1, f1_2hr1, f1_2hr2⟩ := z9 1 rfl
   replace har := har.mono lF
   replace hrk := hrk.mono lF
   replace htd := htd.mono lF
   replace hrs := hrs.mono lF
   replace ha2 := ha2.mono lF
   replace f8_1hr := f8_1hr.mono lF
   rw [eS (l := [(1, (.agg #[((aggAt (W 1) 0)), ((aggAt (W 1) 1))])), (7, _)]) ⟨(e1).symm, z9 7 rfl, ⟨⟩⟩]
   refine qg (qt (args := [.agg #[((aggAt (W 1) 0)), ((aggAt (W 1) 1))], a2, ii ((60 : Nat) : Int)]) call43 rfl (normalOf_spec (n := 60) f1_2hr1 f1_2hr2 ha2 (hsys := (hw.sys)) (ho := (by first | exact heq.1 | exact heq.2)) (hn := (by decide))) ?_)
   rintro _ F9 _ le9 ⟨x12, rfl, hr14, rfl⟩
   replace har := har.mono le9
   replace hrk := hrk.mono le9
   replace htd := htd.mono le9
   replace hrs := hrs.mono le9
   replace f8_1hr := f8_1hr.mono le9
   replace f1_2hr1 := f1_2hr1.mono le9
   replace f1_2hr2 := f1_2hr2.mono le9
   exact ⟨⟨rfl, hr14⟩, rfl⟩
  refine gD (fun W Fs R lF z9 => ?_) ?_
  ·obtain ⟨e8, f8_2hr⟩ := z9 8 rfl
   rw [eS (l := [(8, (.tuple #[((tupAt (W 8) 0)), .bool ((walkGo ar rs 1 60 ((td.getD (selN td td.length) ([], [])).2)).2)]))]) ⟨(e8).symm, ⟨⟩⟩]
   refine qg (ql (.tuple #[((tupAt (W 8) 0)), .bool ((walkGo ar rs 1 60 ((td.getD (selN td td.length) ([], [])).2)).2)]) rfl ?_)
   exact ⟨rfl, rfl⟩
  refine gD (fun W Fs R lF z9 => ?_) ?_
  ·obtain ⟨e8, f8_2hr⟩ := z9 8 rfl
   have e9 : W 9 = (.tuple #[((tupAt (W 8) 0)), .bool ((walkGo ar rs 1 60 ((td.getD (selN td td.length) ([], [])).2)).2)] : Value) := z9 9 rfl
   rw [eS (l := [(8, (.tuple #[((tupAt (W 8) 0)), .bool ((walkGo ar rs 1 60 ((td.getD (selN td td.length) ([], [])).2)).2)])), (9, (.tuple #[((tupAt (W 8) 0)), .bool ((walkGo ar rs 1 60 ((td.getD (selN td td.length) ([], [])).2)).2)]))]) ⟨(e8).symm, e9, ⟨⟩⟩]
   refine qg (qK (((tupAt (W 8) 0))) rfl rfl ?_)
   exact ⟨rfl, rfl⟩
  refine gD (fun W Fs R lF z9 => ?_) ?_
  ·obtain ⟨e8, f8_2hr⟩ := z9 8 rfl
   have e9 : W 9 = (.tuple #[((tupAt (W 8) 0)), .bool ((walkGo ar rs 1 60 ((td.getD (selN td td.length) ([], [])).2)).2)] : Value) := z9 9 rfl
   rw [eS (l := [(8, (.tuple #[((tupAt (W 8) 0)), .bool ((walkGo ar rs 1 60 ((td.getD (selN td td.length) ([], [])).2)).2)])), (9, (.tuple #[((tupAt (W 8) 0)), .bool ((walkGo ar rs 1 60 ((td.getD (selN td td.length) ([], [])).2)).2)]))]) ⟨(e8).symm, e9, ⟨⟩⟩]
   refine qg (qK (.bool ((walkGo ar rs 1 60 ((td.getD (selN td td.length) ([], [])).2)).2)) rfl rfl ?_)
   exact ⟨rfl, rfl⟩
  refine gD (fun W Fs R lF z9 => ?_) ?_
  ·obtain ⟨e8, f8_2hr⟩ := z9 8 rfl
   have e10 : W 10 = ((tupAt (W 8) 0)) := z9 10 rfl
   rw [eS (l := [(8, (.tuple #[((tupAt (W 8) 0)), .bool ((walkGo ar rs 1 60 ((td.getD (selN td td.length) ([], [])).2)).2)])), (10, ((tupAt (W 8) 0)))]) ⟨(e8).symm, e10, ⟨⟩⟩]
   refine qg (XOp.assign (((tupAt (W 8) 0))) rfl ?_)
   exact ⟨rfl, rfl⟩
  exact stepsG.nil
 intro W F10 le10 hphi
 obtain ⟨e1, f1_2hr1, f1_2hr2⟩ := hphi 1 (by decide)
 obtain ⟨e8, f8_2hr⟩ := hphi 8 (by decide)
 have e9 : W 9 = (.tuple #[((tupAt (W 8) 0)), .bool ((walkGo ar rs 1 60 ((td.getD (selN td td.length) ([], [])).2)).2)] : Value) := hphi 9 (by decide)
 have e10 : W 10 = ((tupAt (W 8) 0)) := hphi 10 (by decide)
 have e12 : W 12 = ((tupAt (W 8) 0)) := hphi 12 (by decide)
 generalize hu4 : ((aggAt (W 1) 0)) = u4 at e1 f1_2hr1 f1_2hr2 e8 f8_2hr e9 e10 e12
 generalize hu5 : ((aggAt (W 1) 1)) = u5 at e1 f1_2hr1 f1_2hr2 e8 f8_2hr e9 e10 e12
 generalize hu6 : ((tupAt (W 8) 0)) = u6 at e1 f1_2hr1 f1_2hr2 e8 f8_2hr e9 e10 e12
 rw [eS (l := [(8, (.tuple #[u6, .bool ((walkGo ar rs 1 60 ((td.getD (selN td td.length) ([], [])).2)).2)])), (11, _), (12, u6)]) ⟨(e8).symm, (hphi 11 (by decide)), e12, ⟨⟩⟩]
 replace har := har.mono le10
 replace hrk := hrk.mono le10
 replace htd := htd.mono le10
 replace hrs := hrs.mono le10
 replace f8_1hr := f8_1hr.mono le10
 show XL _ _ _ _ _ _ _ (cellsH b2 [sN, sN, sN, sN] 32 :: cellsH b1 [arv, rkv, tdv, rsv] 32 :: L)
 refine qh (.bool ((walkGo ar rs 1 60 ((td.getD (selN td td.length) ([], [])).2)).2)) rfl (qb (qc (qc (qa (qd (.bool ((walkGo ar rs 1 60 ((td.getD (selN td td.length) ([], [])).1)).2)) rfl (cX (ju rfl (qd (.bool (!((walkGo ar rs 1 60 ((td.getD (selN td td.length) ([], [])).1)).2))) rfl ?_))))))))
 by_cases h2 : (!((walkGo ar rs 1 60 ((td.getD (selN td td.length) ([], [])).1)).2)) = true
 ·have hst1 : nfB ar rs (td.getD (selN td td.length) ([], [])).1 = false := Bool.not_inj (y := false) h2
  refine qq (t := 46) rfl (vB h2) (qq (t := 46) rfl (vB h2) (cX (qT (.bool (true)) (vB h2) rfl (qb (jO rfl (qc (qa (cX (qv [arv, rkv, tdv, rsv] jE jb rfl rfl (Rd.ownN [_] rfl rfl) (cX (qI [] _ [arv, rkv, tdv, rsv] jb rfl rfl rfl (qm (qy (qp har)) (qm (qy (qp hrk)) (qm (qy (PairsF.isSl htd)) (qm (qy (PairsF.isSl hrs)) qO)))) rfl rfl rfl (qh (ii (4)) rfl (qb ?_)))))))))))))
  refine qw (qo (qu (L' := L) [.agg #[arv, rkv, tdv, rsv], ii (4)] (.tuple #[.agg #[arv, rkv, tdv, rsv], ii (4)]) (.cell rfl (jA [arv, rkv, tdv, rsv] jE jb rfl (Rd.ownN [] rfl rfl)) (.tmp rfl .nil)) rfl (qi le5 le10) rF (sD (sD sR)) ?_))
  have e9 : (stepW ar rk (td, rs)) = ((td, rs), 4) := step_stuck (s := (td, rs)) h0 (by first | exact .inl hst1 | exact .inr hst2)
  exact ⟨_, _, _, _, by rw [e9], har, hrk, by rw [e9]; exact htd, by rw [e9]; exact hrs, rfl⟩
 rw [Bool.not_eq_true] at h2
 have hst1 : nfB ar rs (td.getD (selN td td.length) ([], [])).1 = true := Bool.not_inj (y := true) h2
 refine qs (t := 46) rfl (vB h2) (ql (.bool ((walkGo ar rs 1 60 ((td.getD (selN td td.length) ([], [])).2)).2)) rfl (qs (t := 46) rfl (vB h2) (ju rfl (cX (qP (.bool (!((walkGo ar rs 1 60 ((td.getD (selN td td.length) ([], [])).2)).2))) (vB h2) rfl (qb ?_))))))
 refine jG (t := !((walkGo ar rs 1 60 ((td.getD (selN td td.length) ([], [])).2)).2)) rfl (fun h3 => ?_) (fun h3 => ?_)
 ·have hst2 : nfB ar rs (td.getD (selN td td.length) ([], [])).2 = false := Bool.not_inj (y := false) h3
  refine qc (qa (cX (qv [arv, rkv, tdv, rsv] jE jb rfl rfl (Rd.ownN [_] rfl rfl) (cX (qI [] _ [arv, rkv, tdv, rsv] jb rfl rfl rfl (qm (qy (qp har)) (qm (qy (qp hrk)) (qm (qy (PairsF.isSl htd)) (qm (qy (PairsF.isSl hrs)) qO)))) rfl rfl rfl (qh (ii (4)) rfl (qb (qw (qo (qu (L' := L) [.agg #[arv, rkv, tdv, rsv], ii (4)] (.tuple #[.agg #[arv, rkv, tdv, rsv], ii (4)]) (.cell rfl (jA [arv, rkv, tdv, rsv] jE jb rfl (Rd.ownN [] rfl rfl)) (.tmp rfl .nil)) rfl (qi le5 le10) rF (sD (sD sR)) ?_))))))))))
  have e9 : (stepW ar rk (td, rs)) = ((td, rs), 4) := step_stuck (s := (td, rs)) h0 (by first | exact .inl hst1 | exact .inr hst2)
  exact ⟨_, _, _, _, by rw [e9], har, hrk, by rw [e9]; exact htd, by rw [e9]; exact hrs, rfl⟩
 have hst2 : nfB ar rs (td.getD (selN td td.length) ([], [])).2 = true := Bool.not_inj (y := true) h3
 refine qA (qc (qa (cX (qv [arv, rkv, tdv, rsv] jE jb rfl rfl (Rd.ownN [_] rfl rfl) (cX (je [sN, sN, sN, sN] yh rfl ?_))))))
 intro b3
 refine cX (qI [] _ [arv, rkv, tdv, rsv] jb rfl rfl rfl (qm (qy (qp har)) (qm (qy (qp hrk)) (qm (qy (PairsF.isSl htd)) (qm (qy (PairsF.isSl hrs)) qO)))) rfl rfl rfl (qb (qc (qa (cX (qn (2) qS rfl jJ (by decide) rfl rfl (cX (qj isAgg27 rfl (Rd.own [_, _] rfl rfl) (cX (qt (args := [tdv]) call45 rfl (CloneEq_spec htd (by omega) (by omega)) ?_))))))))))
 rintro v1 F11 _ le11 ⟨cs1, ⟨hs1, hC1⟩, rfl⟩
 replace har := har.mono le11
 replace hrk := hrk.mono le11
 replace htd := htd.mono le11
 replace hrs := hrs.mono le11
 replace f8_1hr := f8_1hr.mono le11
 replace f8_2hr := f8_2hr.mono le11
 show XL _ _ _ _ _ _ _ (slH 53 2 v1 td.length cs1 :: cellsH b3 [arv, rkv, tdv, rsv] 32 :: cellsH b2 [sN, sN, sN, sN] 32 :: cellsH b1 [arv, rkv, tdv, rsv] 32 :: L)
 refine qd (ii (((selN td td.length : Nat) : Int))) rfl (qd (ii (((selN td td.length : Nat) : Int))) rfl (cX (qM ((((selN td td.length) + 1 : Nat) : Int)) rfl rfl (by omega) (by omega) (cX (qt (args := [v1, ii ((selN td td.length : Nat) : Int), ii ((selN td td.length + 1 : Nat) : Int)]) call44 rfl (DeleteEq_spec (sv := v1) (cs := cs1) (n := td.length) (k := selN td td.length) (by omega) (by omega) (PairsC.ones hC1) (n9 := (td.eraseIdx (selN td td.length)).length) (by rw [List.length_eraseIdx, if_pos (by omega)])) ?_)))))
 rintro v2 _ _ _ ⟨⟨rfl, hs2⟩, rfl⟩
 have hC2 := PairsC.erase (k := selN td td.length) hC1 (by omega)
 show XL _ _ _ _ _ _ _ (slH 53 2 v2 ((td.eraseIdx (selN td td.length)).length) ((cs1.take ((selN td td.length) * 2) ++ cs1.drop (((selN td td.length) + 1) * 2))) :: cellsH b3 [arv, rkv, tdv, rsv] 32 :: cellsH b2 [sN, sN, sN, sN] 32 :: cellsH b1 [arv, rkv, tdv, rsv] 32 :: L)
 refine cX (qn (2) qS rfl jJ (by decide) rfl rfl (cX (jz [_] _ [arv, rkv, v2, rsv] jJ rfl rfl (qy hs2) rfl rfl rfl (qb (qc (qc (qa (qd (u3) rfl (qd (u6) rfl (cX (qt (args := [u3, u6]) call46 rfl (Equal_spec f8_1hr f8_2hr (hbd := (by first | assumption | rfl | omega | (left; simp; done) | (right; simp; done)))) ?_)))))))))))
 rintro _ _ _ _ ⟨rfl, rfl, rfl⟩
 refine qb ?_
 refine qE (p := (endL ((td.getD (selN td td.length) ([], [])).1) (walkGo ar rs 1 60 ((td.getD (selN td td.length) ([], [])).1)).1) = (endL ((td.getD (selN td td.length) ([], [])).2) (walkGo ar rs 1 60 ((td.getD (selN td td.length) ([], [])).2)).1)) rfl (fun h4 => ?_) (fun h4 => ?_)
 ·have hee : nfT ar rs (td.getD (selN td td.length) ([], [])).1 = nfT ar rs (td.getD (selN td td.length) ([], [])).2 := by have h8 := h4; unfold nfT; exact h8
  refine qc (qa (XL.freezeF [] _ _ rfl (fun F12 le12 hz1 => ?_)))
  replace har := har.mono le12
  replace hrk := hrk.mono le12
  replace htd := htd.mono le12
  replace hrs := hrs.mono le12
  replace f8_1hr := f8_1hr.mono le12
  replace f8_2hr := f8_2hr.mono le12
  replace hC2 := hC2.mono le12
  have hf1 : PairsF F12 v2 ((td.eraseIdx (selN td td.length))) := CO.fz hC2 (by first | rfl | omega | (rw [List.length_set]; omega) | (simp; done) | (rw [List.length_append]; simp only [List.length_singleton]; omega)) hz1.fz
  skip
  refine cX (qv [arv, rkv, v2, rsv] jE jb rfl rfl (Rd.ownN [] rfl rfl) (cX (qI [_] _ [arv, rkv, v2, rsv] jb rfl rfl rfl (qm (qy (qp har)) (qm (qy (qp hrk)) (qm (qy (PairsF.isSl hf1)) (qm (qy (PairsF.isSl hrs)) qO)))) rfl rfl rfl (qh (ii (1)) rfl (qb (qw (qo (qu (L' := L) [.agg #[arv, rkv, v2, rsv], ii (1)] (.tuple #[.agg #[arv, rkv, v2, rsv], ii (1)]) (.cell rfl (jA [arv, rkv, v2, rsv] jE jb rfl (Rd.ownN [_] rfl rfl)) (.tmp rfl .nil)) rfl (qi (qi (qi le5 le10) le11) le12) rF (sD (sD (sD sR))) ?_))))))))
  have e9 : (stepW ar rk (td, rs)) = (((td.eraseIdx (selN td td.length)), rs), 1) := step_gone (s := (td, rs)) h0 hst1 hst2 hee
  exact ⟨_, _, _, _, by rw [e9], har, hrk, by rw [e9]; exact hf1, by rw [e9]; exact hrs, rfl⟩
 have hee : nfT ar rs (td.getD (selN td td.length) ([], [])).1 ≠ nfT ar rs (td.getD (selN td td.length) ([], [])).2 := by have h8 := h4; unfold nfT; exact h8
 refine qA (qc (qa (cX (qn (0) qS rfl qB (by decide) rfl rfl (cX (qv [arv] qU qB rfl rfl (Rd.ownN [_, _, _] rfl rfl) (cX (qn (1) qS rfl qr (by decide) rfl rfl (cX (qj qN rfl (Rd.own [_, _, _] rfl rfl) (qd (u3) rfl (qd (u6) rfl (cX (qZ [u3, u6] [sN, sN] [(0, 1), (1, 1)] [(0, [u3]), (1, [u6])] jd jw rfl (.cons rfl qr (.cons rfl qr PlacesAre.nil)) rfl (.cons (cells_one (qp f8_1hr)) (.cons (cells_one (qp f8_2hr)) CellsAre.nil)) (cX (qt (args := [.agg #[arv], rkv, .agg #[u3, u6]]) call47 rfl (oriented_spec har hrk f8_1hr f8_2hr (hrb := (hw.rank)) (hol := (hn1)) (hor := (hn2))) ?_))))))))))))))))
 rintro _ F13 _ le13 ⟨x13, x14, rfl, hr15, hr16, rfl⟩
 replace har := har.mono le13
 replace hrk := hrk.mono le13
 replace htd := htd.mono le13
 replace hrs := hrs.mono le13
 replace hC2 := hC2.mono le13
 refine qd (.tuple #[.agg #[x13, x14], .bool ((orientR ar rk ((endL ((td.getD (selN td td.length) ([], [])).1) (walkGo ar rs 1 60 ((td.getD (selN td td.length) ([], [])).1)).1), (endL ((td.getD (selN td td.length) ([], [])).2) (walkGo ar rs 1 60 ((td.getD (selN td td.length) ([], [])).2)).1))).isSome)]) rfl (cX (qK (.agg #[x13, x14]) rfl rfl (cX (qK (.bool ((orientR ar rk ((endL ((td.getD (selN td td.length) ([], [])).1) (walkGo ar rs 1 60 ((td.getD (selN td td.length) ([], [])).1)).1), (endL ((td.getD (selN td td.length) ([], [])).2) (walkGo ar rs 1 60 ((td.getD (selN td td.length) ([], [])).2)).1))).isSome)) rfl rfl (cX (je [sN, sN] jM rfl ?_))))))
 intro b4
 refine cX (qI [] _ [x13, x14] jp rfl rfl rfl (qm (qy (qp hr15)) (qm (qy (qp hr16)) qO)) rfl rfl rfl (qh (.bool ((orientR ar rk ((endL ((td.getD (selN td td.length) ([], [])).1) (walkGo ar rs 1 60 ((td.getD (selN td td.length) ([], [])).1)).1), (endL ((td.getD (selN td td.length) ([], [])).2) (walkGo ar rs 1 60 ((td.getD (selN td td.length) ([], [])).2)).1))).isSome)) rfl (qb (qc (qc (qa (qd (.bool ((orientR ar rk ((endL ((td.getD (selN td td.length) ([], [])).1) (walkGo ar rs 1 60 ((td.getD (selN td td.length) ([], [])).1)).1), (endL ((td.getD (selN td td.length) ([], [])).2) (walkGo ar rs 1 60 ((td.getD (selN td td.length) ([], [])).2)).1))).isSome)) rfl (cX (ju rfl (qb ?_))))))))))
 refine jG (t := !((orientR ar rk ((endL ((td.getD (selN td td.length) ([], [])).1) (walkGo ar rs 1 60 ((td.getD (selN td td.length) ([], [])).1)).1), (endL ((td.getD (selN td td.length) ([], [])).2) (walkGo ar rs 1 60 ((td.getD (selN td td.length) ([], [])).2)).1))).isSome)) rfl (fun h5 => ?_) (fun h5 => ?_)
 ·have hos : (orientR ar rk (nfT ar rs (td.getD (selN td td.length) ([], [])).1, nfT ar rs (td.getD (selN td td.length) ([], [])).2)).isSome = false := Bool.not_inj (y := false) h5
  refine qc (qa (cX (qv [arv, rkv, tdv, rsv] jE jb rfl rfl (Rd.ownN [_, _, _, _] rfl rfl) (cX (qI [_, _, _] _ [arv, rkv, tdv, rsv] jb rfl rfl rfl (qm (qy (qp har)) (qm (qy (qp hrk)) (qm (qy (PairsF.isSl htd)) (qm (qy (PairsF.isSl hrs)) qO)))) rfl rfl rfl (qh (ii (5)) rfl (qb (qw (qo (qu (L' := L) [.agg #[arv, rkv, tdv, rsv], ii (5)] (.tuple #[.agg #[arv, rkv, tdv, rsv], ii (5)]) (.cell rfl (jA [arv, rkv, tdv, rsv] jE jb rfl (Rd.ownN [_, _, _] rfl rfl)) (.tmp rfl .nil)) rfl (qi (qi (qi le5 le10) le11) le13) rF (sD (sD (sD (sD (sD sR))))) ?_))))))))))
  have e9 : (stepW ar rk (td, rs)) = ((td, rs), 5) := step_fail (s := (td, rs)) h0 hst1 hst2 hee hos
  exact ⟨_, _, _, _, by rw [e9], har, hrk, by rw [e9]; exact htd, by rw [e9]; exact hrs, rfl⟩
 have hos : (orientR ar rk (nfT ar rs (td.getD (selN td td.length) ([], [])).1, nfT ar rs (td.getD (selN td td.length) ([], [])).2)).isSome = true := Bool.not_inj (y := true) h5
 have hgd := orient_good (rank_sig hw.rank) hn1 hn2 hos
 refine qA (qc (qa (cX (qv [arv, rkv, v2, rsv] jE jb rfl rfl (Rd.ownN [_, _] rfl rfl) (cX (qv [x13, x14] isAgg79 jp rfl rfl (Rd.ownN [] rfl rfl) (jK (jg (A := [_])) ?_)))))))
 show XL _ _ _ _ _ _ _ (slH 53 2 v2 ((td.eraseIdx (selN td td.length)).length) ((cs1.take ((selN td td.length) * 2) ++ cs1.drop (((selN td td.length) + 1) * 2))) :: cellsH b4 [x13, x14] 79 :: cellsH b3 [arv, rkv, v2, rsv] 32 :: cellsH b2 [sN, sN, sN, sN] 32 :: cellsH b1 [arv, rkv, tdv, rsv] 32 :: L)
 refine cX (qt (args := [.agg #[arv, rkv, v2, rsv], .agg #[x13, x14]]) call48 rfl (withRule_spec (td := (td.eraseIdx (selN td td.length))) (tcs := (cs1.take ((selN td td.length) * 2) ++ cs1.drop (((selN td td.length) + 1) * 2))) har hrk hs2 hC2 hrs hr15 hr16 (WorkOk.erase hw) (hgd.1) (hgd.2)) ?_)
 rintro _ F14 _ le14 ⟨x15, x16, x17, x18, ⟨rfl, hr17, hr18, hr19, hr20⟩, rfl⟩
 replace har := har.mono le14
 replace hrk := hrk.mono le14
 replace htd := htd.mono le14
 replace hrs := hrs.mono le14
 show XL _ _ _ _ _ _ _ (cellsH b4 [x13, x14] 79 :: cellsH b3 [arv, rkv, v2, rsv] 32 :: cellsH b2 [sN, sN, sN, sN] 32 :: cellsH b1 [arv, rkv, tdv, rsv] 32 :: L)
 refine qd (.tuple #[.agg #[x15, x16, x17, x18], ii ((withR ar ((td.eraseIdx (selN td td.length))) rs (((orientR ar rk ((endL ((td.getD (selN td td.length) ([], [])).1) (walkGo ar rs 1 60 ((td.getD (selN td td.length) ([], [])).1)).1), (endL ((td.getD (selN td td.length) ([], [])).2) (walkGo ar rs 1 60 ((td.getD (selN td td.length) ([], [])).2)).1))).getD ([], [])).1, ((orientR ar rk ((endL ((td.getD (selN td td.length) ([], [])).1) (walkGo ar rs 1 60 ((td.getD (selN td td.length) ([], [])).1)).1), (endL ((td.getD (selN td td.length) ([], [])).2) (walkGo ar rs 1 60 ((td.getD (selN td td.length) ([], [])).2)).1))).getD ([], [])).2)).2)]) rfl (cX (qK (.agg #[x15, x16, x17, x18]) rfl rfl (cX (qK (ii ((withR ar ((td.eraseIdx (selN td td.length))) rs (((orientR ar rk ((endL ((td.getD (selN td td.length) ([], [])).1) (walkGo ar rs 1 60 ((td.getD (selN td td.length) ([], [])).1)).1), (endL ((td.getD (selN td td.length) ([], [])).2) (walkGo ar rs 1 60 ((td.getD (selN td td.length) ([], [])).2)).1))).getD ([], [])).1, ((orientR ar rk ((endL ((td.getD (selN td td.length) ([], [])).1) (walkGo ar rs 1 60 ((td.getD (selN td td.length) ([], [])).1)).1), (endL ((td.getD (selN td td.length) ([], [])).2) (walkGo ar rs 1 60 ((td.getD (selN td td.length) ([], [])).2)).1))).getD ([], [])).2)).2)) rfl rfl (cX (qI [_] _ [x15, x16, x17, x18] jb rfl rfl rfl (qm (qy (qp hr17)) (qm (qy (qp hr18)) (qm (qy (PairsF.isSl hr19)) (qm (qy (PairsF.isSl hr20)) qO)))) rfl rfl rfl ?_))))))
 refine qh (ii ((withR ar ((td.eraseIdx (selN td td.length))) rs (((orientR ar rk ((endL ((td.getD (selN td td.length) ([], [])).1) (walkGo ar rs 1 60 ((td.getD (selN td td.length) ([], [])).1)).1), (endL ((td.getD (selN td td.length) ([], [])).2) (walkGo ar rs 1 60 ((td.getD (selN td td.length) ([], [])).2)).1))).getD ([], [])).1, ((orientR ar rk ((endL ((td.getD (selN td td.length) ([], [])).1) (walkGo ar rs 1 60 ((td.getD (selN td td.length) ([], [])).1)).1), (endL ((td.getD (selN td td.length) ([], [])).2) (walkGo ar rs 1 60 ((td.getD (selN td td.length) ([], [])).2)).1))).getD ([], [])).2)).2)) rfl (qb (qc (qc (qa (qd (ii ((withR ar ((td.eraseIdx (selN td td.length))) rs (((orientR ar rk ((endL ((td.getD (selN td td.length) ([], [])).1) (walkGo ar rs 1 60 ((td.getD (selN td td.length) ([], [])).1)).1), (endL ((td.getD (selN td td.length) ([], [])).2) (walkGo ar rs 1 60 ((td.getD (selN td td.length) ([], [])).2)).1))).getD ([], [])).1, ((orientR ar rk ((endL ((td.getD (selN td td.length) ([], [])).1) (walkGo ar rs 1 60 ((td.getD (selN td td.length) ([], [])).1)).1), (endL ((td.getD (selN td td.length) ([], [])).2) (walkGo ar rs 1 60 ((td.getD (selN td td.length) ([], [])).2)).1))).getD ([], [])).2)).2)) rfl (cX (XOp.neq rfl rfl (qb ?_))))))))
 refine qE (p := ((withR ar ((td.eraseIdx (selN td td.length))) rs (((orientR ar rk ((endL ((td.getD (selN td td.length) ([], [])).1) (walkGo ar rs 1 60 ((td.getD (selN td td.length) ([], [])).1)).1), (endL ((td.getD (selN td td.length) ([], [])).2) (walkGo ar rs 1 60 ((td.getD (selN td td.length) ([], [])).2)).1))).getD ([], [])).1, ((orientR ar rk ((endL ((td.getD (selN td td.length) ([], [])).1) (walkGo ar rs 1 60 ((td.getD (selN td td.length) ([], [])).1)).1), (endL ((td.getD (selN td td.length) ([], [])).2) (walkGo ar rs 1 60 ((td.getD (selN td td.length) ([], [])).2)).1))).getD ([], [])).2)).2 : Int) ≠ 2) rfl (fun h6 => ?_) (fun h6 => ?_)
 ·have hw2 : ¬ (withR ar (td.eraseIdx (selN td td.length)) rs ((orientR ar rk (nfT ar rs (td.getD (selN td td.length) ([], [])).1, nfT ar rs (td.getD (selN td td.length) ([], [])).2)).getD ([], []))).2 = 2 := h6
  refine qc (qa (cX (qv [arv, rkv, tdv, rsv] jE jb rfl rfl (Rd.ownN [_, _, _] rfl rfl) (qd (ii ((withR ar ((td.eraseIdx (selN td td.length))) rs (((orientR ar rk ((endL ((td.getD (selN td td.length) ([], [])).1) (walkGo ar rs 1 60 ((td.getD (selN td td.length) ([], [])).1)).1), (endL ((td.getD (selN td td.length) ([], [])).2) (walkGo ar rs 1 60 ((td.getD (selN td td.length) ([], [])).2)).1))).getD ([], [])).1, ((orientR ar rk ((endL ((td.getD (selN td td.length) ([], [])).1) (walkGo ar rs 1 60 ((td.getD (selN td td.length) ([], [])).1)).1), (endL ((td.getD (selN td td.length) ([], [])).2) (walkGo ar rs 1 60 ((td.getD (selN td td.length) ([], [])).2)).1))).getD ([], [])).2)).2)) rfl (cX (qI [_, _] _ [arv, rkv, tdv, rsv] jb rfl rfl rfl (qm (qy (qp har)) (qm (qy (qp hrk)) (qm (qy (PairsF.isSl htd)) (qm (qy (PairsF.isSl hrs)) qO)))) rfl rfl rfl (qh (ii ((withR ar ((td.eraseIdx (selN td td.length))) rs (((orientR ar rk ((endL ((td.getD (selN td td.length) ([], [])).1) (walkGo ar rs 1 60 ((td.getD (selN td td.length) ([], [])).1)).1), (endL ((td.getD (selN td td.length) ([], [])).2) (walkGo ar rs 1 60 ((td.getD (selN td td.length) ([], [])).2)).1))).getD ([], [])).1, ((orientR ar rk ((endL ((td.getD (selN td td.length) ([], [])).1) (walkGo ar rs 1 60 ((td.getD (selN td td.length) ([], [])).1)).1), (endL ((td.getD (selN td td.length) ([], [])).2) (walkGo ar rs 1 60 ((td.getD (selN td td.length) ([], [])).2)).1))).getD ([], [])).2)).2)) rfl ?_)))))))
  refine qb (qw (qo (qu (L' := L) [.agg #[arv, rkv, tdv, rsv], ii ((withR ar ((td.eraseIdx (selN td td.length))) rs (((orientR ar rk ((endL ((td.getD (selN td td.length) ([], [])).1) (walkGo ar rs 1 60 ((td.getD (selN td td.length) ([], [])).1)).1), (endL ((td.getD (selN td td.length) ([], [])).2) (walkGo ar rs 1 60 ((td.getD (selN td td.length) ([], [])).2)).1))).getD ([], [])).1, ((orientR ar rk ((endL ((td.getD (selN td td.length) ([], [])).1) (walkGo ar rs 1 60 ((td.getD (selN td td.length) ([], [])).1)).1), (endL ((td.getD (selN td td.length) ([], [])).2) (walkGo ar rs 1 60 ((td.getD (selN td td.length) ([], [])).2)).1))).getD ([], [])).2)).2)] (.tuple #[.agg #[arv, rkv, tdv, rsv], ii ((withR ar ((td.eraseIdx (selN td td.length))) rs (((orientR ar rk ((endL ((td.getD (selN td td.length) ([], [])).1) (walkGo ar rs 1 60 ((td.getD (selN td td.length) ([], [])).1)).1), (endL ((td.getD (selN td td.length) ([], [])).2) (walkGo ar rs 1 60 ((td.getD (selN td td.length) ([], [])).2)).1))).getD ([], [])).1, ((orientR ar rk ((endL ((td.getD (selN td td.length) ([], [])).1) (walkGo ar rs 1 60 ((td.getD (selN td td.length) ([], [])).1)).1), (endL ((td.getD (selN td td.length) ([], [])).2) (walkGo ar rs 1 60 ((td.getD (selN td td.length) ([], [])).2)).1))).getD ([], [])).2)).2)]) (.cell rfl (jA [arv, rkv, tdv, rsv] jE jb rfl (Rd.ownN [_, _] rfl rfl)) (.tmp rfl .nil)) rfl (qi (qi (qi (qi le5 le10) le11) le13) le14) rF (sD (sD (sD (sD sR)))) ?_)))
  have e9 : (stepW ar rk (td, rs)) = ((td, rs), (withR ar ((td.eraseIdx (selN td td.length))) rs (((orientR ar rk ((endL ((td.getD (selN td td.length) ([], [])).1) (walkGo ar rs 1 60 ((td.getD (selN td td.length) ([], [])).1)).1), (endL ((td.getD (selN td td.length) ([], [])).2) (walkGo ar rs 1 60 ((td.getD (selN td td.length) ([], [])).2)).1))).getD ([], [])).1, ((orientR ar rk ((endL ((td.getD (selN td td.length) ([], [])).1) (walkGo ar rs 1 60 ((td.getD (selN td td.length) ([], [])).1)).1), (endL ((td.getD (selN td td.length) ([], [])).2) (walkGo ar rs 1 60 ((td.getD (selN td td.length) ([], [])).2)).1))).getD ([], [])).2)).2) := by rw [step_rule (s := (td, rs)) h0 hst1 hst2 hee hos]; exact if_neg hw2
  exact ⟨_, _, _, _, by rw [e9], har, hrk, by rw [e9]; exact htd, by rw [e9]; exact hrs, rfl⟩
 have hw2 : (withR ar (td.eraseIdx (selN td td.length)) rs ((orientR ar rk (nfT ar rs (td.getD (selN td td.length) ([], [])).1, nfT ar rs (td.getD (selN td td.length) ([], [])).2)).getD ([], []))).2 = 2 := by have h8 := h6; first | exact h8 | exact Decidable.not_not.1 h8
 refine qA (qc (qa (cX (qv [x15, x16, x17, x18] jE jb rfl rfl (Rd.ownN [_] rfl rfl) (qd (ii ((withR ar ((td.eraseIdx (selN td td.length))) rs (((orientR ar rk ((endL ((td.getD (selN td td.length) ([], [])).1) (walkGo ar rs 1 60 ((td.getD (selN td td.length) ([], [])).1)).1), (endL ((td.getD (selN td td.length) ([], [])).2) (walkGo ar rs 1 60 ((td.getD (selN td td.length) ([], [])).2)).1))).getD ([], [])).1, ((orientR ar rk ((endL ((td.getD (selN td td.length) ([], [])).1) (walkGo ar rs 1 60 ((td.getD (selN td td.length) ([], [])).1)).1), (endL ((td.getD (selN td td.length) ([], [])).2) (walkGo ar rs 1 60 ((td.getD (selN td td.length) ([], [])).2)).1))).getD ([], [])).2)).2)) rfl (cX (qI [_, _] _ [x15, x16, x17, x18] jb rfl rfl rfl (qm (qy (qp hr17)) (qm (qy (qp hr18)) (qm (qy (PairsF.isSl hr19)) (qm (qy (PairsF.isSl hr20)) qO)))) rfl rfl rfl (qh (ii ((withR ar ((td.eraseIdx (selN td td.length))) rs (((orientR ar rk ((endL ((td.getD (selN td td.length) ([], [])).1) (walkGo ar rs 1 60 ((td.getD (selN td td.length) ([], [])).1)).1), (endL ((td.getD (selN td td.length) ([], [])).2) (walkGo ar rs 1 60 ((td.getD (selN td td.length) ([], [])).2)).1))).getD ([], [])).1, ((orientR ar rk ((endL ((td.getD (selN td td.length) ([], [])).1) (walkGo ar rs 1 60 ((td.getD (selN td td.length) ([], [])).1)).1), (endL ((td.getD (selN td td.length) ([], [])).2) (walkGo ar rs 1 60 ((td.getD (selN td td.length) ([], [])).2)).1))).getD ([], [])).2)).2)) rfl ?_))))))))
 refine qb (qw (qu (L' := L) [.agg #[x15, x16, x17, x18], ii ((withR ar ((td.eraseIdx (selN td td.length))) rs (((orientR ar rk ((endL ((td.getD (selN td td.length) ([], [])).1) (walkGo ar rs 1 60 ((td.getD (selN td td.length) ([], [])).1)).1), (endL ((td.getD (selN td td.length) ([], [])).2) (walkGo ar rs 1 60 ((td.getD (selN td td.length) ([], [])).2)).1))).getD ([], [])).1, ((orientR ar rk ((endL ((td.getD (selN td td.length) ([], [])).1) (walkGo ar rs 1 60 ((td.getD (selN td td.length) ([], [])).1)).1), (endL ((td.getD (selN td td.length) ([], [])).2) (walkGo ar rs 1 60 ((td.getD (selN td td.length) ([], [])).2)).1))).getD ([], [])).2)).2)] (.tuple #[.agg #[x15, x16, x17, x18], ii ((withR ar ((td.eraseIdx (selN td td.length))) rs (((orientR ar rk ((endL ((td.getD (selN td td.length) ([], [])).1) (walkGo ar rs 1 60 ((td.getD (selN td td.length) ([], [])).1)).1), (endL ((td.getD (selN td td.length) ([], [])).2) (walkGo ar rs 1 60 ((td.getD (selN td td.length) ([], [])).2)).1))).getD ([], [])).1, ((orientR ar rk ((endL ((td.getD (selN td td.length) ([], [])).1) (walkGo ar rs 1 60 ((td.getD (selN td td.length) ([], [])).1)).1), (endL ((td.getD (selN td td.length) ([], [])).2) (walkGo ar rs 1 60 ((td.getD (selN td td.length) ([], [])).2)).1))).getD ([], [])).2)).2)]) (.cell rfl (jA [x15, x16, x17, x18] jE jb rfl (Rd.ownN [_, _] rfl rfl)) (.tmp rfl .nil)) rfl (qi (qi (qi (qi le5 le10) le11) le13) le14) rF (sD (sD (sD (sD sR)))) ?_))
 have e9 : (stepW ar rk (td, rs)) = (withR ar ((td.eraseIdx (selN td td.length))) rs (((orientR ar rk ((endL ((td.getD (selN td td.length) ([], [])).1) (walkGo ar rs 1 60 ((td.getD (selN td td.length) ([], [])).1)).1), (endL ((td.getD (selN td td.length) ([], [])).2) (walkGo ar rs 1 60 ((td.getD (selN td td.length) ([], [])).2)).1))).getD ([], [])).1, ((orientR ar rk ((endL ((td.getD (selN td td.length) ([], [])).1) (walkGo ar rs 1 60 ((td.getD (selN td td.length) ([], [])).1)).1), (endL ((td.getD (selN td td.length) ([], [])).2) (walkGo ar rs 1 60 ((td.getD (selN td td.length) ([], [])).2)).1))).getD ([], [])).2)) := by rw [step_rule (s := (td, rs)) h0 hst1 hst2 hee hos]; exact if_pos hw2
 exact ⟨_, _, _, _, by rw [e9], hr17, hr18, by rw [e9]; exact hr19, by rw [e9]; exact hr20, rfl⟩

/- impl.kindOf -/
theorem kindOf_spec {F : FH} {L : List HP} {s : Int} :
    Does prog 24 [ii (s)] F (L) (fun v F' L' => (ii (kindF s) : Value) = v ∧ F = F' ∧ L = L') := by
 refine qH func24 rfl rfl rfl (qc (qa (qh (ii (0)) rfl (qb (qc (qc (qa (qd (ii (s)) rfl (qb (qJ (qc (qJ (qJ (qc (qc (qc (qa (cX (jo rfl rfl (qh (.bool (decide ((s : Int) = 1))) rfl (qb ?_)))))))))))))))))))))
 refine qE (p := (s : Int) = 1) rfl (fun h1 => ?_) (fun h1 => ?_)
 ·refine jn (qz (qz (qR (qc (qc (qa (qh (ii (0)) rfl (qb (qw (qo (qF (qo (qu (L' := L) [ii (0)] (ii (0)) (.tmp rfl .nil) rfl rF rF sR ?_)))))))))))))
  exact ⟨(vI (by first | exact (kindF_on (by omega)).symm | exact kindF_on (by omega) | exact (kindF_end (by omega) (by omega)).symm | exact kindF_end (by omega) (by omega))), rfl, rfl⟩
 refine qA (qc (qa (cX (jo rfl rfl (qh (.bool (decide ((s : Int) = 2))) rfl (qb ?_))))))
 refine qE (p := (s : Int) = 2) rfl (fun h2 => ?_) (fun h2 => ?_)
 ·refine jn (qz (blockQ_other (by decide) (qR (qc (qc (qa (qh (ii (0)) rfl (qb (qw (qo (qF (qo (qu (L' := L) [ii (0)] (ii (0)) (.tmp rfl .nil) rfl rF rF sR ?_)))))))))))))
  exact ⟨(vI (by first | exact (kindF_on (by omega)).symm | exact kindF_on (by omega) | exact (kindF_end (by omega) (by omega)).symm | exact kindF_end (by omega) (by omega))), rfl, rfl⟩
 refine qA (jn (blockQ_other (by decide) (blockQ_other (by decide) (qz (qR (qc (qa (qh (ii (1)) rfl (qb (qw (qu (L' := L) [ii (1)] (ii (1)) (.tmp rfl .nil) rfl rF rF sR ?_)))))))))))
 exact ⟨(vI (by first | exact (kindF_on (by omega)).symm | exact kindF_on (by omega) | exact (kindF_end (by omega) (by omega)).symm | exact kindF_end (by omega) (by omega))), rfl, rfl⟩

/- impl.WorkRun -/
set_option maxHeartbeats 1000000 in
set_option maxRecDepth 20000 in
theorem WorkRun_spec {F : FH} {L : List HP} {arv : Value} {ar : List Int} (har : IntsF F arv ar) {rkv : Value} {rk : List Int} (hrk : IntsF F rkv rk) {tdv : Value} {td : List (List Int × List Int)} (htd : PairsF F tdv td) {rsv : Value} {rs : List (List Int × List Int)} (hrs : PairsF F rsv rs) {z : Int} (hw : WorkOk ar rk (td, rs)) (hz0 : 0 ≤ z) (hz4 : z ≤ 400) :
    Does prog 11 [.agg #[arv, rkv, tdv, rsv], ii (z)] F (L) (fun v F' L' => ∃ (a : Value), ∃ (b : Value), ∃ (c : Value), ∃ (d : Value), (.tuple #[.agg #[a, b, c, d], ii ((runW ar rk z.toNat (td, rs) 0 0).2.1), ii ((((runW ar rk z.toNat (td, rs) 0 0).2.2 : Nat) : Int))] : Value) = v ∧ (IntsF F' a ar) ∧ (IntsF F' b rk) ∧ (PairsF F' c (runW ar rk z.toNat (td, rs) 0 0).1.1) ∧ (PairsF F' d (runW ar rk z.toNat (td, rs) 0 0).1.2) ∧ L = L') := by
 refine qH func11 rfl rfl rfl ?_
 have hbw := hw.bounds
 refine qc (qa (cX (qY [arv, rkv, tdv, rsv] rfl rfl ?_)))
 intro b1
 refine cX (je [sN, sN, sN, sN] yh rfl ?_)
 intro b2
 refine qh (ii (0)) rfl (qh (ii (0)) rfl (qb (qc (qc (qa (cX (qv [arv, rkv, tdv, rsv] jE jb rfl rfl (Rd.ownN [_] rfl rfl) (cX (qt (args := [.agg #[arv, rkv, tdv, rsv]]) call22 rfl (WorkOk_spec har hrk htd hrs) ?_)))))))))
 rintro _ F1 _ le1 ⟨rfl, rfl⟩
 replace har := har.mono le1
 replace hrk := hrk.mono le1
 replace htd := htd.mono le1
 replace hrs := hrs.mono le1
 refine cX (ju rfl (qd (.bool (!(workB ar rk (td, rs)))) rfl ?_))
 by_cases h1 : (!(workB ar rk (td, rs))) = true
 ·exact absurd hw (fun k => by have h8 := workB_iff.2 k; rw [h8] at h1; cases h1)
 rw [Bool.not_eq_true] at h1
 skip
 refine qs (t := 12) rfl (vB h1) (ql (ii (z)) rfl (qs (t := 12) rfl (vB h1) (qX rfl rfl (cX (qP (.bool (decide ((z : Int) < 0))) (vB h1) rfl (qd (.bool (decide ((z : Int) < 0))) rfl ?_))))))
 by_cases h2 : (z : Int) < 0
 ·exact absurd h2 (by omega)
 skip
 refine qs (t := 16) rfl (vF h2) (ql (ii (z)) rfl (qs (t := 16) rfl (vF h2) (jU rfl rfl (cX (qP (.bool (decide ((z : Int) > 400))) (vF h2) rfl (qb ?_))))))
 refine qE (p := (z : Int) > 400) rfl (fun h3 => ?_) (fun h3 => ?_)
 ·exact absurd h3 (by omega)
 skip
 refine qA (qc (qa (qh (ii (0)) rfl (qh (ii (0)) rfl (qb (qc (qc (qa (qd (ii (z)) rfl (qd (ii (0)) rfl (qb (qJ (jv (α := Nat × Value × Value × Value × Value × List (List Int × List Int) × List (List Int × List Int) × Int × FH) (fun xQ => [(2, ptr b1 0), (4, ptr b2 0), (7, ii (xQ.2.2.2.2.2.2.2.1)), (8, ii (((xQ.1 : Nat) : Int))), (21, ii (z)), (22, ii (((xQ.1 : Nat) : Int)))]) (fun xQ => cellsH b2 [sN, sN, sN, sN] 32 :: cellsH b1 [xQ.2.1, xQ.2.2.1, xQ.2.2.2.1, xQ.2.2.2.2.1] 32 :: L) (fun xQ F' => xQ.2.2.2.2.2.2.2.2 = F' ∧ F1 ≤ xQ.2.2.2.2.2.2.2.2 ∧ (IntsF xQ.2.2.2.2.2.2.2.2 xQ.2.1 ar) ∧ (IntsF xQ.2.2.2.2.2.2.2.2 xQ.2.2.1 rk) ∧ (PairsF xQ.2.2.2.2.2.2.2.2 xQ.2.2.2.1 xQ.2.2.2.2.2.1) ∧ (PairsF xQ.2.2.2.2.2.2.2.2 xQ.2.2.2.2.1 xQ.2.2.2.2.2.2.1) ∧ (WorkOk ar rk (xQ.2.2.2.2.2.1, xQ.2.2.2.2.2.2.1)) ∧ (xQ.1 ≤ z.toNat) ∧ (xQ.2.2.2.2.2.2.2.1 = 0 ∨ xQ.2.2.2.2.2.2.2.1 = 1 ∨ xQ.2.2.2.2.2.2.2.1 = 2) ∧ ((runW ar rk z.toNat (td, rs) 0 0) = runW ar rk (z.toNat - xQ.1) (xQ.2.2.2.2.2.1, xQ.2.2.2.2.2.2.1) xQ.2.2.2.2.2.2.2.1 xQ.1)) (fun xQ => z.toNat - xQ.1) (0, arv, rkv, tdv, rsv, td, rs, 0, F1) ⟨rfl, rfl, rfl, rfl, rfl, rfl, ⟨⟩⟩ (sC (sC sR)) ⟨rfl, FLe.refl _, (har), (hrk), (htd), (hrs), (hw), (Nat.zero_le _), (.inl rfl), (rfl)⟩ ?_)))))))))))))
 rintro ⟨k, av, bv, cv, dv, tk, qk, st, G1⟩ rE _ _ ⟨rfl, leG, hav, hbv, hcv, hdv, hwk, hk, hsk, hgo⟩
 show X _ _ _ _ (envs [(2, ptr b1 0), (4, ptr b2 0), (7, ii (st)), (8, ii ((k : Int))), (21, ii (z)), (22, ii ((k : Int)))] rE) _ (cellsH b2 [sN, sN, sN, sN] 32 :: cellsH b1 [av, bv, cv, dv] 32 :: L)
 replace leG : F1 ≤ G1 := leG
 dsimp only at hav hbv hcv hdv hwk hk hsk hgo
 have leG1 := leG
 refine qc (qa (cX (qX rfl rfl (qb (qc ?_)))))
 refine qE (p := (k : Int) < z) rfl (fun h4 => ?_) (fun h4 => ?_)
 ·refine qA (qc (qJ (qc (qa (cX (qv [av, bv, cv, dv] jE jb rfl rfl (Rd.ownN [_] rfl rfl) (cX (qt (args := [.agg #[av, bv, cv, dv]]) call23 rfl (workStep_spec hav hbv hcv hdv (hw := (hwk))) ?_))))))))
  rintro _ F2 _ le2 ⟨x1, x2, x3, x4, rfl, hr1, hr2, hr3, hr4, rfl⟩
  replace hav := hav.mono le2
  replace hbv := hbv.mono le2
  replace hcv := hcv.mono le2
  replace hdv := hdv.mono le2
  refine qd (.tuple #[.agg #[x1, x2, x3, x4], ii ((stepW ar rk (tk, qk)).2)]) rfl (cX (qK (.agg #[x1, x2, x3, x4]) rfl rfl (cX (qK (ii ((stepW ar rk (tk, qk)).2)) rfl rfl (cX (qI [_] _ [x1, x2, x3, x4] jb rfl rfl rfl (qm (qy (qp hr1)) (qm (qy (qp hr2)) (qm (qy (PairsF.isSl hr3)) (qm (qy (PairsF.isSl hr4)) qO)))) rfl rfl rfl (qh (ii ((stepW ar rk (tk, qk)).2)) rfl (qb (qc (qc (qa (qd (ii ((stepW ar rk (tk, qk)).2)) rfl (cX (qt (args := [ii ((stepW ar rk (tk, qk)).2)]) call24 rfl (kindOf_spec (s := (stepW ar rk (tk, qk)).2)) ?_))))))))))))))
  rintro _ _ _ _ ⟨rfl, rfl, rfl⟩
  refine cX (jo rfl rfl (qb ?_))
  refine qE (p := (kindF ((stepW ar rk (tk, qk)).2) : Int) = 1) rfl (fun h5 => ?_) (fun h5 => ?_)
  ·have hst := kindF_stop h5
   have hfin := (step_all hwk).bounds
   have hq9 : (runW ar rk z.toNat (td, rs) 0 0) = _ := hgo.trans (run_end hst (by omega))
   refine jn (qz (blockQ_other (by decide) (qz (qz (qR (qc (qa (cX (qv [x1, x2, x3, x4] jE jb rfl rfl (Rd.ownN [_] rfl rfl) (cX (qt (args := [.agg #[x1, x2, x3, x4]]) call18 rfl (cloneWork_spec hr1 hr2 hr3 hr4 (hla := (by first | assumption | rfl | omega | simp)) (hlk := (by first | assumption | rfl | omega | simp)) (hlt := (hfin.2.1.1)) (hlr := (hfin.2.1.2)) (htb := (hfin.2.2.1)) (hrB := (hfin.2.2.2))) ?_)))))))))))
   rintro _ F3 _ le3 ⟨x5, x6, x7, x8, rfl, hr5, hr6, hr7, hr8, rfl⟩
   replace hav := hav.mono le3
   replace hbv := hbv.mono le3
   replace hcv := hcv.mono le3
   replace hdv := hdv.mono le3
   replace hr1 := hr1.mono le3
   replace hr2 := hr2.mono le3
   replace hr3 := hr3.mono le3
   replace hr4 := hr4.mono le3
   refine qd (ii ((stepW ar rk (tk, qk)).2)) rfl (qd (ii ((k : Int))) rfl (cX (qI [] _ [x5, x6, x7, x8] jb rfl rfl rfl (qm (qy (qp hr5)) (qm (qy (qp hr6)) (qm (qy (PairsF.isSl hr7)) (qm (qy (PairsF.isSl hr8)) qO)))) rfl rfl rfl (qh (ii ((stepW ar rk (tk, qk)).2)) rfl (qh (ii ((k : Int))) rfl (qb (qw (qu (L' := L) [.agg #[x5, x6, x7, x8], ii ((stepW ar rk (tk, qk)).2), ii ((k : Int))] (.tuple #[.agg #[x5, x6, x7, x8], ii ((stepW ar rk (tk, qk)).2), ii ((k : Int))]) (.cell rfl (jA [x5, x6, x7, x8] jE jb rfl (Rd.ownN [] rfl rfl)) (.tmp rfl (.tmp rfl .nil))) rfl (qi (qi (qi le1 leG1) le2) le3) rF (sD (sD sR)) ?_))))))))
   exact ⟨_, _, _, _, by rw [hq9] <;> rfl, hr5, hr6, by rw [hq9]; exact hr7, by rw [hq9]; exact hr8, rfl⟩
  have hgo9 := kindF_goes h5
  refine qA (qa (qd (ii ((k : Int))) rfl (cX (qM (((k + 1 : Nat) : Int)) rfl rfl (by omega) (by omega) (qh (ii (((k + 1 : Nat) : Int))) rfl (qb (qa (cX (qM (((k + 1 : Nat) : Int)) rfl rfl (by omega) (by omega) (qd (ii (((k + 1 : Nat) : Int))) rfl (qb ?_)))))))))))
  exact ⟨(k + 1, x1, x2, x3, x4, (stepW ar rk (tk, qk)).1.1, (stepW ar rk (tk, qk)).1.2, (stepW ar rk (tk, qk)).2, F2), _, (qi leG1 le2), rF, ⟨rfl, rfl, rfl, rfl, rfl, rfl, ⟨⟩⟩, (sC (sC sR)), ⟨rfl, (qi leG1 le2), (hr1), (hr2), (hr3), (hr4), (step_all hwk), (by (try dsimp only) <;> omega), (.inr hgo9), (hgo.trans (run_go hgo9 (by omega)))⟩, (by omega)⟩
 have hfin := hwk.bounds
 have hq9 : (runW ar rk z.toNat (td, rs) 0 0) = _ := hgo.trans (run_none (by omega))
 refine jn (qz (qz (qR (qc (qa (cX (qv [av, bv, cv, dv] jE jb rfl rfl (Rd.ownN [_] rfl rfl) (cX (qt (args := [.agg #[av, bv, cv, dv]]) call18 rfl (cloneWork_spec hav hbv hcv hdv (hla := (by first | assumption | rfl | omega | simp)) (hlk := (by first | assumption | rfl | omega | simp)) (hlt := (hfin.2.1.1)) (hlr := (hfin.2.1.2)) (htb := (hfin.2.2.1)) (hrB := (hfin.2.2.2))) ?_)))))))))
 rintro _ F4 _ le4 ⟨x9, x10, x11, x12, rfl, hr9, hr10, hr11, hr12, rfl⟩
 refine qd (ii (st)) rfl (qd (ii ((k : Int))) rfl (cX (qI [] _ [x9, x10, x11, x12] jb rfl rfl rfl (qm (qy (qp hr9)) (qm (qy (qp hr10)) (qm (qy (PairsF.isSl hr11)) (qm (qy (PairsF.isSl hr12)) qO)))) rfl rfl rfl (qh (ii (st)) rfl (qh (ii ((k : Int))) rfl (qb (qw (qu (L' := L) [.agg #[x9, x10, x11, x12], ii (st), ii ((k : Int))] (.tuple #[.agg #[x9, x10, x11, x12], ii (st), ii ((k : Int))]) (.cell rfl (jA [x9, x10, x11, x12] jE jb rfl (Rd.ownN [] rfl rfl)) (.tmp rfl (.tmp rfl .nil))) rfl (qi (qi le1 leG1) le4) rF (sD (sD sR)) ?_))))))))
 exact ⟨_, _, _, _, by rw [hq9] <;> rfl, hr9, hr10, by rw [hq9]; exact hr11, by rw [hq9]; exact hr12, rfl⟩
end Go.Proofs.YthkebalahfalhaaGreat
