/-
  Walks, one after the other (part 2).
-/
import Derived.Test.YtenomejgjcpbdaaGreatQKL1
import Derived.Test.YtenomejgjcpbdaaGreatQKB0
set_option linter.unusedSimpArgs false
set_option linter.unusedVariables false
namespace Go.Proofs.YtenomejgjcpbdaaGreat
open Go X M Tryz

/- spec.l7Right -/
theorem l7Right_spec {F : FH} {L : List HP} {arv : Value} {ar : List Int} (har : IntsF F arv ar) {rsv : Value} {rs : List (List Int × List Int)} (hrs : PairsF F rsv rs) {tv : Value} {t : List Int} (ht : IntsF F tv t) (hla : ar.length ≤ 4000000) (hlr : rs.length ≤ 4000000) (hrb : ∀ i, i < rs.length → (rs.getD i ([], [])).1.length ≤ 4000000 ∧ (rs.getD i ([], [])).2.length ≤ 4000000) (hlt : t.length ≤ 4000000) :
    Does prog 108 [.agg #[arv, rsv], tv] F (L) (fun v F' L' => (.bool (rightB ar rs t) : Value) = v ∧ F = F' ∧ L = L') := by
 refine qH func108 rfl rfl rfl (qf (qc (cX (qZ [arv, rsv] rfl rfl ?_))))
 intro b1
 refine qi (.bool (false)) rfl (qd (qf (qc (cX (qq [arv, rsv] jj qX rfl rfl (Rd.ownN [] rfl rfl) (cX (qm (args := [.agg #[arv, rsv]]) call84 rfl (sSystemOk_spec har hrs (hla := (by first | assumption | rfl | omega | simp)) (hlr := (by first | assumption | rfl | omega | simp)) (hrb := (by first | assumption | rfl | omega | simp))) ?_)))))))
 rintro _ _ _ _ ⟨rfl, rfl, rfl⟩
 refine qh (.bool (sysOk ar rs)) rfl ?_
 by_cases h1 : (sysOk ar rs) = true
 ·refine qr (t := 7) rfl (vB h1) (ql (0) qF rfl qw (by decide) rfl rfl (qr (t := 7) rfl (vB h1) (qq [arv] qI qw rfl rfl (Rd.ownN [] rfl rfl) (qr (t := 7) rfl (vB h1) (qt (tv) rfl (qr (t := 7) rfl (vB h1) (qm (args := [.agg #[arv], tv]) call136 rfl (sTermOk_spec har ht (hla := (by first | assumption | rfl | omega | simp)) (hlt := (by first | assumption | rfl | omega | simp))) ?_)))))))
  rintro _ _ _ _ ⟨rfl, rfl, rfl⟩
  refine cX (qP (.bool (termOk ar t)) (vB h1) rfl (qi (.bool (termOk ar t)) rfl (qd (qu (qs (L' := L) [.bool (termOk ar t)] (.bool (termOk ar t)) (.tmp rfl .nil) rfl rF rF (sD sR) ?_)))))
  exact ⟨(vB (by rw [rightB]; simp_all)), rfl, rfl⟩
 rw [Bool.not_eq_true] at h1
 refine qp (t := 7) rfl (vB h1) (qp (t := 7) rfl (vB h1) (qp (t := 7) rfl (vB h1) (qp (t := 7) rfl (vB h1) (cX (qN (.bool (false)) (vB h1) rfl (qi (.bool (false)) rfl (qd (qu (qs (L' := L) [.bool (false)] (.bool (false)) (.tmp rfl .nil) rfl rF rF (sD sR) ?_)))))))))
 exact ⟨(vB (by rw [rightB]; simp_all)), rfl, rfl⟩

/- spec.l8Redex -/
theorem l8Redex_spec {F : FH} {L : List HP} {arv : Value} {ar : List Int} (har : IntsF F arv ar) {rsv : Value} {rs : List (List Int × List Int)} (hrs : PairsF F rsv rs) {tv : Value} {t : List Int} (ht : IntsF F tv t) {p : Nat} (hsys : sysOk ar rs = true) (ho : termOk ar t = true) (hp : p < t.length) :
    Does prog 326 [.agg #[arv, rsv], tv, ii ((p : Int))] F (L) (fun v F' L' => (ii (ruleAtL ar rs t p) : Value) = v ∧ F = F' ∧ L = L') := by
 refine qH func326 rfl rfl rfl ?_
 have hnn := jO ht (by have := termOk_len ho; omega)
 have htl := termOk_len ho
 have hrl := (sysOk_iff.1 hsys).2.1
 have hsig := (sysOk_iff.1 hsys).1
 have hsl := sigOk_spec hsig
 have hso := sub_ok ho hp
 refine qf (qc (cX (qZ [arv, rsv] rfl rfl ?_)))
 intro b1
 refine qi (ii (0)) rfl (qd (qf (qc (cX (ql (0) qF rfl qw (by decide) rfl rfl (cX (qq [arv] qI qw rfl rfl (Rd.ownN [] rfl rfl) (qh (tv) rfl (qh (ii ((p : Int))) rfl (cX (jG <| qm (args := [.agg #[arv], tv, ii (p : Int)]) call209 rfl (l1Sub_spec (p := p) har ht (ho := (by first | assumption | rfl | omega | simp)) (hp := (by first | assumption | rfl | omega | simp))) ?_)))))))))))
 rintro v1 _ _ _ ⟨rfl, hs1, rfl⟩
 refine ⟨_, _, rfl, fun F1 le1 hz1 => ?_⟩
 replace har := har.mono le1
 replace hrs := hrs.mono le1
 have hf1 : IntsF F1 v1 ((sub ar t p)) := intsH.fz (xs := (sub ar t p)) hz1.fz
 refine qi (v1) rfl (qd (qf (qf (qc (qi (ii (0)) rfl (qd (qR (jy (α := Nat) (fun r => [(3, ptr b1 0), (7, v1), (8, ii ((r : Int)))]) (fun r => cellsH b1 [arv, rsv] 39 :: L) (fun r F' => F1 = F' ∧ (r ≤ rs.length) ∧ (ruleAtL ar rs t p = ruleAtGo ar rs t p (rs.length - r) r)) (fun r => rs.length - r) 0 ⟨rfl, rfl, rfl, ⟨⟩⟩ (sC sR) ⟨rfl, (by (try dsimp only) <;> omega), (rfl)⟩ ?_))))))))
 rintro r rE _ _ ⟨rfl, hr, hm⟩
 show X _ _ _ _ (envs [(3, ptr b1 0), (7, v1), (8, ii ((r : Int)))] rE) _ (cellsH b1 [arv, rsv] 39 :: L)
 refine qf (qf (qc (qh (ii ((r : Int))) rfl (cX (ql (1) qF rfl jz (by decide) rfl rfl (cX (qk ya rfl (Rd.own [] rfl rfl) (cX (qE jd rfl hrs.slv (cX (jh rfl rfl (qd ?_))))))))))))
 refine qC (p := (r : Int) < (rs.length : Int)) rfl (fun h1 => ?_) (fun h1 => ?_)
 ·refine qA (qf (qR (qf ?_)))
  obtain ⟨a1, a2, ha1, ha2, hr1, hr2⟩ := hrs.rd (i := r) (by omega)
  refine jM [cellsH b1 [arv, rsv] 39] L 15 [[], [], [], [], [], [], [], [], [], [], [9], [9], [], [], [9, 13]] [[], [0], [], [2], [], [3, 4], [5], [6], [], [1, 7, 8], [9], [9, 10], [9, 10], [], [9, 11, 13]] [[], [], [], [], [], [], [], [], [], [], [], [], [], [], [13]] (phiG [pe (ptr b1 0), pe (.agg #[arv]), pe (ptr b1 1), pe rsv, pe (ii ((r : Int)) : Value), pe (.pointer (some (elemA rsv (r * 2)))), pe (.pointer (some (elemA rsv (r * 2)))), pe a1, pe v1, fun FF us v => (.tuple #[.agg #[((aggAt (tupAt v 0) 0))], .bool ((matchB ar ((rs.getD r ([], [])).1) ((sub ar t p))).isSome)] : Value) = v ∧ (RowsF FF ((aggAt (tupAt v 0) 0)) (matchP ar ((rs.getD r ([], [])).1) ((sub ar t p)))), fun FF us v => v = (.tuple #[.agg #[((aggAt (tupAt (us.getD 0 undef) 0) 0))], .bool ((matchB ar ((rs.getD r ([], [])).1) ((sub ar t p))).isSome)] : Value), fun FF us v => v = (.agg #[((aggAt (tupAt (us.getD 0 undef) 0) 0))] : Value), pe (.bool ((matchB ar ((rs.getD r ([], [])).1) ((sub ar t p))).isSome)), fun FF us v => v = ptr (blk v) 0, fun FF us v => True]) (ownL [o0, o0, o0, o0, o0, o0, o0, o0, o0, o0, o0, o0, o0, fun us v => [cellsH (blk v) [sN] 115], fun us v => [cellsH (blk (us.getD 1 undef)) [((aggAt (tupAt (us.getD 0 undef) 0) 0))] 115]]) mixed rfl rfl (by kernel_rfl) (by kernel_rfl) (MonoG.get (m1 (m1 (m1 (m1 (m1 (m1 (m1 (m1 (m1 (mC (fun le h => ⟨h.1, h.2.mono le⟩) (mC (fun le h => h) (mC (fun le h => h) (m1 (mC (fun le h => h) (mC (fun le h => h) MonoG.nil)))))))))))))))) ?_ ?_
  ·refine gD (fun W Fs R lF z9 => ?_) ?_
   ·refine qj (ql (0) qF rfl qw (by decide) rfl rfl ?_)
    exact ⟨rfl, rfl⟩
   refine gD (fun W Fs R lF z9 => ?_) ?_
   ·replace har := har.mono lF
    replace hrs := hrs.mono lF
    replace hf1 := hf1.mono lF
    replace ha1 := ha1.mono lF
    replace hr1 := Rd.monoA hr1 lF
    rw [eS (l := [(0, _)]) ⟨z9 0 rfl, ⟨⟩⟩]
    refine qj (qq [arv] qI qw rfl rfl (Rd.ownN [] rfl rfl) ?_)
    exact ⟨rfl, rfl⟩
   refine gD (fun W Fs R lF z9 => ?_) ?_
   ·refine qj (ql (1) qF rfl jz (by decide) rfl rfl ?_)
    exact ⟨rfl, rfl⟩
   refine gD (fun W Fs R lF z9 => ?_) ?_
   ·replace har := har.mono lF
    replace hrs := hrs.mono lF
    replace hf1 := hf1.mono lF
    replace ha1 := ha1.mono lF
    replace hr1 := Rd.monoA hr1 lF
    rw [eS (l := [(2, _)]) ⟨z9 2 rfl, ⟨⟩⟩]
    refine qj (qk ya rfl (Rd.own [] rfl rfl) ?_)
    exact ⟨rfl, rfl⟩
   refine gD (fun W Fs R lF z9 => ?_) ?_
   ·refine qj (qt (ii ((r : Int))) rfl ?_)
    exact ⟨rfl, rfl⟩
   refine gD (fun W Fs R lF z9 => ?_) ?_
   ·replace har := har.mono lF
    replace hrs := hrs.mono lF
    replace hf1 := hf1.mono lF
    replace ha1 := ha1.mono lF
    replace hr1 := Rd.monoA hr1 lF
    rw [eS (l := [(3, _), (4, _)]) ⟨z9 3 rfl, z9 4 rfl, ⟨⟩⟩]
    refine qj (qD r jd jv rfl rfl rfl hrs.slv (by omega) rfl ?_)
    exact ⟨rfl, rfl⟩
   refine gD (fun W Fs R lF z9 => ?_) ?_
   ·rw [eS (l := [(5, _)]) ⟨z9 5 rfl, ⟨⟩⟩]
    refine qj (jT (r * 2) ja rfl qv (by decide) rfl rfl ?_)
    exact ⟨rfl, rfl⟩
   refine gD (fun W Fs R lF z9 => ?_) ?_
   ·replace har := har.mono lF
    replace hf1 := hf1.mono lF
    replace ha1 := ha1.mono lF
    replace hr1 := Rd.monoA hr1 lF
    rw [eS (l := [(6, _)]) ⟨z9 6 rfl, ⟨⟩⟩]
    refine qj (qk qS rfl (hr1 _) ?_)
    exact ⟨rfl, rfl⟩
   refine gD (fun W Fs R lF z9 => ?_) ?_
   ·refine qj (qt (v1) rfl ?_)
    exact ⟨rfl, rfl⟩
   refine gD (fun W Fs R lF z9 => ?_) ?_
   ·replace har := har.mono lF
    replace hf1 := hf1.mono lF
    replace ha1 := ha1.mono lF
    rw [eS (l := [(1, _), (7, _), (8, _)]) ⟨z9 1 rfl, z9 7 rfl, z9 8 rfl, ⟨⟩⟩]
    refine qj (qm (args := [.agg #[arv], a1, v1]) call208 rfl (l4Match_spec har ha1 hf1 (ho := (by first | assumption | rfl | omega | simp)) (hpo := ((ruleOk_iff.1 ((sysOk_iff.1 hsys).2.2 r (by omega))).left))) ?_)
    rintro _ F3 _ le3 ⟨x2, rfl, hr4, rfl⟩
    replace har := har.mono le3
    exact ⟨⟨rfl, hr4⟩, rfl⟩
   refine gD (fun W Fs R lF z9 => ?_) ?_
   ·obtain ⟨e9, f9_1hr⟩ := z9 9 rfl
    rw [eS (l := [(9, (.tuple #[.agg #[((aggAt (tupAt (W 9) 0) 0))], .bool ((matchB ar ((rs.getD r ([], [])).1) ((sub ar t p))).isSome)]))]) ⟨(e9).symm, ⟨⟩⟩]
    refine qj (qt (.tuple #[.agg #[((aggAt (tupAt (W 9) 0) 0))], .bool ((matchB ar ((rs.getD r ([], [])).1) ((sub ar t p))).isSome)]) rfl ?_)
    exact ⟨rfl, rfl⟩
   refine gD (fun W Fs R lF z9 => ?_) ?_
   ·obtain ⟨e9, f9_1hr⟩ := z9 9 rfl
    have e10 : W 10 = (.tuple #[.agg #[((aggAt (tupAt (W 9) 0) 0))], .bool ((matchB ar ((rs.getD r ([], [])).1) ((sub ar t p))).isSome)] : Value) := z9 10 rfl
    rw [eS (l := [(9, (.tuple #[.agg #[((aggAt (tupAt (W 9) 0) 0))], .bool ((matchB ar ((rs.getD r ([], [])).1) ((sub ar t p))).isSome)])), (10, (.tuple #[.agg #[((aggAt (tupAt (W 9) 0) 0))], .bool ((matchB ar ((rs.getD r ([], [])).1) ((sub ar t p))).isSome)]))]) ⟨(e9).symm, e10, ⟨⟩⟩]
    refine qj (qM (.agg #[((aggAt (tupAt (W 9) 0) 0))]) rfl rfl ?_)
    exact ⟨rfl, rfl⟩
   refine gD (fun W Fs R lF z9 => ?_) ?_
   ·obtain ⟨e9, f9_1hr⟩ := z9 9 rfl
    have e10 : W 10 = (.tuple #[.agg #[((aggAt (tupAt (W 9) 0) 0))], .bool ((matchB ar ((rs.getD r ([], [])).1) ((sub ar t p))).isSome)] : Value) := z9 10 rfl
    rw [eS (l := [(9, (.tuple #[.agg #[((aggAt (tupAt (W 9) 0) 0))], .bool ((matchB ar ((rs.getD r ([], [])).1) ((sub ar t p))).isSome)])), (10, (.tuple #[.agg #[((aggAt (tupAt (W 9) 0) 0))], .bool ((matchB ar ((rs.getD r ([], [])).1) ((sub ar t p))).isSome)]))]) ⟨(e9).symm, e10, ⟨⟩⟩]
    refine qj (qM (.bool ((matchB ar ((rs.getD r ([], [])).1) ((sub ar t p))).isSome)) rfl rfl ?_)
    exact ⟨rfl, rfl⟩
   refine gD (fun W Fs R lF z9 => ?_) ?_
   ·replace har := har.mono lF
    refine qj (ji [sN] jF rfl ?_)
    intro b3
    exact ⟨rfl, rfl⟩
   refine gD (fun W Fs R lF z9 => ?_) ?_
   ·obtain ⟨e9, f9_1hr⟩ := z9 9 rfl
    have e11 : W 11 = (.agg #[((aggAt (tupAt (W 9) 0) 0))] : Value) := z9 11 rfl
    have e13 : W 13 = ptr (blk (W 13)) 0 := z9 13 rfl
    rw [eS (l := [(9, (.tuple #[.agg #[((aggAt (tupAt (W 9) 0) 0))], .bool ((matchB ar ((rs.getD r ([], [])).1) ((sub ar t p))).isSome)])), (11, (.agg #[((aggAt (tupAt (W 9) 0) 0))])), (13, ptr (blk (W 13)) 0)]) ⟨(e9).symm, e11, e13, ⟨⟩⟩]
    show XG _ _ _ _ _ (cellsH (blk (W 13)) [sN] 115 :: ([cellsH b1 [arv, rsv] 39] ++ R)) _
    refine qj (qK [] _ [((aggAt (tupAt (W 9) 0) 0))] js rfl rfl rfl (qx (qJ (RowsF.isSl f9_1hr)) qQ) rfl rfl rfl ?_)
    exact ⟨trivial, rfl⟩
   exact stepsG.nil
  intro W F4 le4 hphi
  obtain ⟨e9, f9_1hr⟩ := hphi 9 (by decide)
  have e10 : W 10 = (.tuple #[.agg #[((aggAt (tupAt (W 9) 0) 0))], .bool ((matchB ar ((rs.getD r ([], [])).1) ((sub ar t p))).isSome)] : Value) := hphi 10 (by decide)
  have e11 : W 11 = (.agg #[((aggAt (tupAt (W 9) 0) 0))] : Value) := hphi 11 (by decide)
  have e13 : W 13 = ptr (blk (W 13)) 0 := hphi 13 (by decide)
  generalize hu1 : ((aggAt (tupAt (W 9) 0) 0)) = u1 at e9 f9_1hr e10 e11 e13
  generalize hu2 : blk (W 13) = b4 at e9 f9_1hr e10 e11 e13
  rw [eS (l := [(9, (.tuple #[.agg #[u1], .bool ((matchB ar ((rs.getD r ([], [])).1) ((sub ar t p))).isSome)])), (12, _), (13, ptr b4 0)]) ⟨(e9).symm, (hphi 12 (by decide)), e13, ⟨⟩⟩]
  show XL _ _ _ _ _ _ _ (cellsH b4 [u1] 115 :: cellsH b1 [arv, rsv] 39 :: L)
  refine qi (.bool ((matchB ar ((rs.getD r ([], [])).1) ((sub ar t p))).isSome)) rfl (qd (qf (qc (qh (.bool ((matchB ar ((rs.getD r ([], [])).1) ((sub ar t p))).isSome)) rfl (qd ?_)))))
  refine jw (t := (matchB ar ((rs.getD r ([], [])).1) ((sub ar t p))).isSome) rfl (fun h2 => ?_) (fun h2 => ?_)
  ·refine qf (qc (qh (ii ((r : Int))) rfl (qi (ii ((r : Int))) rfl (qd (qu (qL (qo (qo (qL (qo (qs (L' := L) [ii ((r : Int))] (ii ((r : Int))) (.tmp rfl .nil) rfl rF (qn le1 le4) (sD (sD sR)) ?_)))))))))))
   exact ⟨(vI (hm.trans (ruleAt_hit (by omega) (by unfold isRedex; assumption)))), rfl, rfl⟩
  refine qA (qc (qh (ii ((r : Int))) rfl (cX (qU (((r + 1 : Nat) : Int)) rfl rfl (by omega) (by omega) (qi (ii (((r + 1 : Nat) : Int))) rfl (qd ?_))))))
  exact ⟨r + 1, _, FLe.refl _, le4, ⟨rfl, rfl, rfl, ⟨⟩⟩, (sD (sC sR)), ⟨rfl, (by (try dsimp only) <;> omega), (hm.trans (ruleAt_miss (by omega) (by unfold isRedex; assumption)))⟩, (by omega)⟩
 refine jo (qB (qB (qW (qf (qc (qi (ii (-1)) rfl (qd (qu (qs (L' := L) [ii (-1)] (ii (-1)) (.tmp rfl .nil) rfl rF le1 (sD sR) ?_)))))))))
 exact ⟨(vI (hm.trans (ruleAt_end (by omega)))), rfl, rfl⟩

/- spec.RedexesIn -/
theorem sRedexesIn_spec {F : FH} {L : List HP} {arv : Value} {ar : List Int} (har : IntsF F arv ar) {rsv : Value} {rs : List (List Int × List Int)} (hrs : PairsF F rsv rs) {tv : Value} {t : List Int} (ht : IntsF F tv t) (hla : ar.length ≤ 4000000) (hlr : rs.length ≤ 4000000) (hrb : ∀ i, i < rs.length → (rs.getD i ([], [])).1.length ≤ 4000000 ∧ (rs.getD i ([], [])).2.length ≤ 4000000) (hlt : t.length ≤ 4000000) :
    Does prog 339 [.agg #[arv, rsv], tv] F (L) (fun v F' L' => F = F' ∧ IsSl v ∧ intsH 2 v (redS ar rs t) :: L = L') := by
 refine qH func339 rfl rfl rfl (qf (qc (cX (qZ [arv, rsv] rfl rfl ?_))))
 intro b1
 refine qi (sN) rfl (qd (qf (qc (cX (qz (s := 1) [] [ii (0)] [] qg qy qO rfl (by decide) rfl CellsAre.nil rfl ?_)))))
 intro v1 hv1
 refine qi (v1) rfl (qd (qf (qf (qc (qi (ii (0)) rfl (qd (qR (jy (α := Nat × Value × List Int) (fun xQ => [(1, tv), (2, ptr b1 0), (5, xQ.2.1), (6, ii (((xQ.1 : Nat) : Int)))]) (fun xQ => intsH 2 xQ.2.1 xQ.2.2 :: cellsH b1 [arv, rsv] 39 :: L) (fun xQ F' => F = F' ∧ (IsSl xQ.2.1) ∧ (xQ.1 ≤ t.length) ∧ (xQ.2.2 = if rightB ar rs t = true then redTo ar rs t xQ.1 else [])) (fun xQ => t.length - xQ.1) (0, v1, []) ⟨rfl, rfl, rfl, rfl, ⟨⟩⟩ (sC (sC sR)) ⟨rfl, ((qV hv1)), (by (try dsimp only) <;> omega), (by dsimp only; split <;> rfl)⟩ ?_))))))))
 rintro ⟨k, ov, os⟩ rE _ _ ⟨rfl, hov, hk, hos⟩
 show X _ _ _ _ (envs [(1, tv), (2, ptr b1 0), (5, ov), (6, ii ((k : Int)))] rE) _ (intsH 2 ov os :: cellsH b1 [arv, rsv] 39 :: L)
 dsimp only at hov hk hos
 have hol : os.length ≤ k := by rw [hos]; split; exact redTo_len; simp
 refine qf (qf (qc (qh (ii ((k : Int))) rfl (qh (tv) rfl (cX (qE qg rfl ht.slv (cX (jh rfl rfl (qh (.bool (decide ((k : Int) < (t.length : Int)))) rfl ?_)))))))))
 by_cases h1 : (k : Int) < (t.length : Int)
 ·refine qr (t := 12) rfl (vT h1) (qq [arv, rsv] jj qX rfl rfl (Rd.ownN [_] rfl rfl) (qr (t := 12) rfl (vT h1) (qt (tv) rfl (qr (t := 12) rfl (vT h1) (qm (args := [.agg #[arv, rsv], tv]) call108 rfl (l7Right_spec har hrs ht (hla := (by first | assumption | rfl | omega | simp)) (hlr := (by first | assumption | rfl | omega | simp)) (hrb := (by first | assumption | rfl | omega | simp)) (hlt := (by first | assumption | rfl | omega | simp))) ?_)))))
  rintro _ _ _ _ ⟨rfl, rfl, rfl⟩
  refine cX (qP (.bool (rightB ar rs t)) (vT h1) rfl (qd ?_))
  refine jw (t := rightB ar rs t) rfl (fun h2 => ?_) (fun h2 => ?_)
  ·have hsys := (right_iff.1 h2).1
   have ho := (right_iff.1 h2).2
   refine qA (qf (qR (qf (qc (cX (qq [arv, rsv] jj qX rfl rfl (Rd.ownN [_] rfl rfl) (qh (tv) rfl (qh (ii ((k : Int))) rfl (cX (qm (args := [.agg #[arv, rsv], tv, ii (k : Int)]) call326 rfl (l8Redex_spec (p := k) har hrs ht (hsys := (by first | assumption | rfl | omega | simp)) (ho := (by first | assumption | rfl | omega | simp)) (hp := (by first | assumption | rfl | omega | simp))) ?_))))))))))
   rintro _ _ _ _ ⟨rfl, rfl, rfl⟩
   refine cX (jZ rfl rfl (qd ?_))
   refine qC (p := (ruleAtL ar rs t k : Int) ≥ 0) rfl (fun h3 => ?_) (fun h3 => ?_)
   ·refine qc (qh (ov) rfl (qh (ii ((k : Int))) rfl (cX (qz (s := 1) [ii ((k : Int))] [ii (0)] [(0, [ii ((k : Int))])] qg qy qO rfl (by decide) rfl (.cons rfl CellsAre.nil) rfl ?_))))
    intro v2 hv2
    refine cX (XOp.append1 (u := (k : Int)) [_] _ qg typeInfo2 rfl rfl rfl rfl rfl rfl (SlV.own [] rfl) (Rd.sl [] rfl rfl) (by (try simp only [List.length_append, List.length_nil, List.length_cons, List.length_singleton, List.length_take, List.length_drop]); omega) ?_)
    intro v3 hs1 hn1
    refine qi (v3) rfl (qd (qc (qh (ii ((k : Int))) rfl (cX (qU (((k + 1 : Nat) : Int)) rfl rfl (by omega) (by omega) (qi (ii (((k + 1 : Nat) : Int))) rfl (qd ?_)))))))
    exact ⟨(k + 1, v3, os ++ [(k : Int)]), _, FLe.refl _, rF, ⟨rfl, rfl, rfl, rfl, ⟨⟩⟩, (sD (sC (sC sR))), ⟨rfl, (hs1), (by (try dsimp only) <;> omega), ((by dsimp only; rw [hos, if_pos (by assumption), if_pos (by assumption)]; first | exact (redTo_yes (by omega)).symm | exact (redTo_no (by omega)).symm))⟩, (by omega)⟩
   refine qA (qc (qh (ii ((k : Int))) rfl (cX (qU (((k + 1 : Nat) : Int)) rfl rfl (by omega) (by omega) (qi (ii (((k + 1 : Nat) : Int))) rfl (qd ?_))))))
   exact ⟨(k + 1, ov, os), _, FLe.refl _, rF, ⟨rfl, rfl, rfl, rfl, ⟨⟩⟩, (sC (sC sR)), ⟨rfl, (hov), (by (try dsimp only) <;> omega), ((by dsimp only; rw [hos, if_pos (by assumption), if_pos (by assumption)]; first | exact (redTo_yes (by omega)).symm | exact (redTo_no (by omega)).symm))⟩, (by omega)⟩
  refine jo (qB (qB (qW (qf (qc (qh (ov) rfl (qi (ov) rfl (qd (qu (qs (L' := intsH 2 ov os :: L) [ov] (ov) (.tmp rfl .nil) rfl rF rF (sC (sD sR)) ?_))))))))))
  refine ⟨rfl, hov, ?_⟩
  have hxs : (redS ar rs t : List Int) = os := by rw [hos, redS]; split <;> first | rfl | (rw [redL, show k = t.length from by omega]) | simp_all
  exact congrArg (fun z => intsH 2 _ z :: L) hxs
 refine qp (t := 12) rfl (vF h1) (qp (t := 12) rfl (vF h1) (qp (t := 12) rfl (vF h1) (cX (qN (.bool (false)) (vF h1) rfl (qd (X.condF rfl (jo (qB (qB (qW (qf (qc (qh (ov) rfl (qi (ov) rfl ?_))))))))))))))
 refine qd (qu (qs (L' := intsH 2 ov os :: L) [ov] (ov) (.tmp rfl .nil) rfl rF rF (sC (sD sR)) ?_))
 refine ⟨rfl, hov, ?_⟩
 have hxs : (redS ar rs t : List Int) = os := by rw [hos, redS]; split <;> first | rfl | (rw [redL, show k = t.length from by omega]) | simp_all
 exact congrArg (fun z => intsH 2 _ z :: L) hxs

/- spec.InmostIn -/
theorem sInmostIn_spec {F : FH} {L : List HP} {arv : Value} {ar : List Int} (har : IntsF F arv ar) {rsv : Value} {rs : List (List Int × List Int)} (hrs : PairsF F rsv rs) {tv : Value} {t : List Int} (ht : IntsF F tv t) (hla : ar.length ≤ 4000000) (hlr : rs.length ≤ 4000000) (hrb : ∀ i, i < rs.length → (rs.getD i ([], [])).1.length ≤ 4000000 ∧ (rs.getD i ([], [])).2.length ≤ 4000000) (hlt : t.length ≤ 4000000) :
    Does prog 338 [.agg #[arv, rsv], tv] F (L) (fun v F' L' => F = F' ∧ IsSl v ∧ intsH 2 v (inS ar rs t) :: L = L') := by
 refine qH func338 rfl rfl rfl ?_
 have hrS := redS_len (ar := ar) (rs := rs) hlt
 refine qf (qc (cX (qZ [arv, rsv] rfl rfl ?_)))
 intro b1
 refine qi (sN) rfl (qd (qf (qc (cX (qz (s := 1) [] [ii (0)] [] qg qy qO rfl (by decide) rfl CellsAre.nil rfl ?_)))))
 intro v1 hv1
 refine qi (v1) rfl (qd (qf (qc (cX (qq [arv, rsv] jj qX rfl rfl (Rd.ownN [_] rfl rfl) (qh (tv) rfl (cX (jG <| qm (args := [.agg #[arv, rsv], tv]) call339 rfl (sRedexesIn_spec har hrs ht (hla := (by first | assumption | rfl | omega | simp)) (hlr := (by first | assumption | rfl | omega | simp)) (hrb := (by first | assumption | rfl | omega | simp)) (hlt := (by first | assumption | rfl | omega | simp))) ?_))))))))
 rintro v2 _ _ _ ⟨rfl, hs1, rfl⟩
 refine ⟨_, _, rfl, fun F1 le1 hz1 => ?_⟩
 replace har := har.mono le1
 replace ht := ht.mono le1
 have hf1 : IntsF F1 v2 ((redS ar rs t)) := intsH.fz (xs := (redS ar rs t)) hz1.fz
 refine qi (v2) rfl (qd (qf (qf (qc (qi (ii (0)) rfl (qd (qR (jy (α := Nat × Value × List Int) (fun xQ => [(1, tv), (2, ptr b1 0), (5, xQ.2.1), (6, v2), (7, ii (((xQ.1 : Nat) : Int)))]) (fun xQ => intsH 2 xQ.2.1 xQ.2.2 :: cellsH b1 [arv, rsv] 39 :: L) (fun xQ F' => F1 = F' ∧ (IsSl xQ.2.1) ∧ (xQ.1 ≤ (redS ar rs t).length) ∧ (xQ.2.2 = inTo ar t (redS ar rs t) xQ.1)) (fun xQ => (redS ar rs t).length - xQ.1) (0, v1, []) ⟨rfl, rfl, rfl, rfl, rfl, ⟨⟩⟩ (sC (sC sR)) ⟨rfl, ((qV hv1)), (by (try dsimp only) <;> omega), (rfl)⟩ ?_))))))))
 rintro ⟨k, ov, os⟩ rE _ _ ⟨rfl, hov, hk, hos⟩
 show X _ _ _ _ (envs [(1, tv), (2, ptr b1 0), (5, ov), (6, v2), (7, ii ((k : Int)))] rE) _ (intsH 2 ov os :: cellsH b1 [arv, rsv] 39 :: L)
 dsimp only at hov hk hos
 have hrf := fun (h : k < (redS ar rs t).length) => redS_facts h
 have hrS := redS_len (ar := ar) (rs := rs) hlt
 have hol : os.length ≤ k := by rw [hos]; exact inTo_len
 refine qf (qf (qc (qh (ii ((k : Int))) rfl (qh (v2) rfl (cX (qE qg rfl hf1.slv (cX (jh rfl rfl (qd ?_)))))))))
 refine qC (p := (k : Int) < ((((redS ar rs t)).length : Nat) : Int)) rfl (fun h1 => ?_) (fun h1 => ?_)
 ·obtain ⟨hsys, ho, q, hq1, hq2, hq3⟩ := hrf (by omega)
  have htl := termOk_len ho
  have hle := endN_spec ho hq2
  refine qA (qf (qR (qf ?_)))
  refine jY [intsH 2 ov os, cellsH b1 [arv, rsv] 39] L 7 [] [[], [0], [], [], [], [3, 4], [5]] (phiL [qe (ptr b1 0), qe (.agg #[arv]), qe tv, qe v2, qe (ii ((k : Int)) : Value), qe (.pointer (some (elemA v2 (k)))), qe (ii (((redS ar rs t)).getD k 0))]) (ownL []) mixed rfl rfl (by kernel_rfl) ?_ ?_
  ·refine pD (fun W R z9 => ?_) ?_
   ·refine qj (ql (0) qF rfl qw (by decide) rfl rfl ?_)
    exact ⟨rfl, rfl, rfl⟩
   refine pD (fun W R z9 => ?_) ?_
   ·rw [eS (l := [(0, _)]) ⟨z9 0 rfl, ⟨⟩⟩]
    refine qj (qq [arv] qI qw rfl rfl (Rd.ownN [_] rfl rfl) ?_)
    exact ⟨rfl, rfl, rfl⟩
   refine pD (fun W R z9 => ?_) ?_
   ·refine qj (qt (tv) rfl ?_)
    exact ⟨rfl, rfl, rfl⟩
   refine pD (fun W R z9 => ?_) ?_
   ·refine qj (qt (v2) rfl ?_)
    exact ⟨rfl, rfl, rfl⟩
   refine pD (fun W R z9 => ?_) ?_
   ·refine qj (qt (ii ((k : Int))) rfl ?_)
    exact ⟨rfl, rfl, rfl⟩
   refine pD (fun W R z9 => ?_) ?_
   ·rw [eS (l := [(3, _), (4, _)]) ⟨z9 3 rfl, z9 4 rfl, ⟨⟩⟩]
    refine qj (qD k qg qy rfl rfl rfl hf1.slv (by omega) (Nat.mul_one _) ?_)
    exact ⟨rfl, rfl, rfl⟩
   refine pD (fun W R z9 => ?_) ?_
   ·rw [eS (l := [(5, _)]) ⟨z9 5 rfl, ⟨⟩⟩]
    refine qj (qk je rfl (hf1.rd (by omega)) ?_)
    exact ⟨rfl, rfl, rfl⟩
   exact stepsP.nil
  intro W hphi
  rw [eS (l := [(1, _), (2, _), (6, _)]) ⟨(hphi 1 (by decide)), (hphi 2 (by decide)), (hphi 6 (by decide)), ⟨⟩⟩]
  show XL _ _ _ _ _ _ _ (intsH 2 ov os :: cellsH b1 [arv, rsv] 39 :: L)
  refine cX (qm (args := [.agg #[arv], tv, ii (((((redS ar rs t)).getD k 0).toNat : Nat) : Int)]) call196 (by rw [show (((((redS ar rs t)).getD k 0).toNat : Nat) : Int) = ((redS ar rs t)).getD k 0 from by omega]; rfl) (l1End_ok (p := (((redS ar rs t)).getD k 0).toNat) har ht (ho := (by first | assumption | rfl | omega | (left; simp; done) | (right; simp; done))) (hp := (by first | assumption | rfl | omega | (left; simp; done) | (right; simp; done)))) ?_)
  rintro _ _ _ _ ⟨rfl, rfl, rfl⟩
  refine qi (ii (((endN ar t ((((redS ar rs t)).getD k 0).toNat) : Nat) : Int))) rfl (qd (qf (qc (qh (ii ((k : Int))) rfl (cX (qU (((k + 1 : Nat) : Int)) rfl rfl (by omega) (by omega) (qh (v2) rfl (cX (qE qg rfl hf1.slv (cX (jB rfl rfl (qh (.bool (decide ((((k + 1 : Nat) : Int) : Int) = ((((redS ar rs t)).length : Nat) : Int)))) rfl ?_))))))))))))
  by_cases h2 : (((k + 1 : Nat) : Int) : Int) = ((((redS ar rs t)).length : Nat) : Int)
  ·refine qp (t := 32) rfl (vT h2) (qp (t := 32) rfl (vT h2) (qp (t := 32) rfl (vT h2) (qp (t := 32) rfl (vT h2) (qp (t := 32) rfl (vT h2) (qp (t := 32) rfl (vT h2) (qp (t := 32) rfl (vT h2) (cX (qP (.bool (true)) (vT h2) rfl (qd (jC rfl ?_))))))))))
   refine qc (qh (ov) rfl (qh (v2) rfl (qh (ii ((k : Int))) rfl (cX (qD k qg qy rfl rfl rfl hf1.slv (by omega) (Nat.mul_one _) (cX (qk je rfl (hf1.rd (by omega)) (cX (qz (s := 1) [ii (((redS ar rs t)).getD k 0)] [ii (0)] [(0, [ii (((redS ar rs t)).getD k 0)])] qg qy qO rfl (by decide) rfl (.cons rfl CellsAre.nil) rfl ?_)))))))))
   intro v3 hv2
   refine cX (XOp.append1 (u := ((redS ar rs t)).getD k 0) [_] _ qg typeInfo2 rfl rfl rfl rfl rfl rfl (SlV.own [] rfl) (Rd.sl [] rfl rfl) (by (try simp only [List.length_append, List.length_nil, List.length_cons, List.length_singleton, List.length_take, List.length_drop]); omega) ?_)
   intro v4 hs2 hn1
   refine qi (v4) rfl (qd (qc (qh (ii ((k : Int))) rfl (cX (qU (((k + 1 : Nat) : Int)) rfl rfl (by omega) (by omega) (qi (ii (((k + 1 : Nat) : Int))) rfl (qd ?_)))))))
   exact ⟨(k + 1, v4, os ++ [((redS ar rs t)).getD k 0]), _, FLe.refl _, rF, ⟨rfl, rfl, rfl, rfl, rfl, ⟨⟩⟩, (sD (sC (sC sR))), ⟨rfl, (hs2), (by (try dsimp only) <;> omega), ((by dsimp only; rw [hos]; first | exact (inTo_yes (by simp only [inOk, decide_eq_true_eq]; omega)).symm | exact (inTo_no (by simp only [inOk, decide_eq_false_iff_not]; omega)).symm))⟩, (by omega)⟩
  refine qr (t := 32) rfl (vF h2) (qt (v2) rfl (qr (t := 32) rfl (vF h2) (qt (ii ((k : Int))) rfl (qr (t := 32) rfl (vF h2) (qU (((k + 1 : Nat) : Int)) rfl rfl (by omega) (by omega) (qr (t := 32) rfl (vF h2) (qD (k + 1) qg qy rfl rfl rfl hf1.slv (by omega) (Nat.mul_one _) (qr (t := 32) rfl (vF h2) (qk je rfl (hf1.rd (by omega)) (qr (t := 32) rfl (vF h2) (qt (ii (((endN ar t ((((redS ar rs t)).getD k 0).toNat) : Nat) : Int))) rfl (qr (t := 32) rfl (vF h2) (jZ rfl rfl (cX (qN (.bool (decide ((((redS ar rs t)).getD (k + 1) 0 : Int) ≥ ((endN ar t ((((redS ar rs t)).getD k 0).toNat) : Nat) : Int)))) (vF h2) rfl (qd ?_))))))))))))))))
  refine qC (p := (((redS ar rs t)).getD (k + 1) 0 : Int) ≥ ((endN ar t ((((redS ar rs t)).getD k 0).toNat) : Nat) : Int)) rfl (fun h3 => ?_) (fun h3 => ?_)
  ·refine qc (qh (ov) rfl (qh (v2) rfl (qh (ii ((k : Int))) rfl (cX (qD k qg qy rfl rfl rfl hf1.slv (by omega) (Nat.mul_one _) (cX (qk je rfl (hf1.rd (by omega)) (cX (qz (s := 1) [ii (((redS ar rs t)).getD k 0)] [ii (0)] [(0, [ii (((redS ar rs t)).getD k 0)])] qg qy qO rfl (by decide) rfl (.cons rfl CellsAre.nil) rfl ?_)))))))))
   intro v5 hv3
   refine cX (XOp.append1 (u := ((redS ar rs t)).getD k 0) [_] _ qg typeInfo2 rfl rfl rfl rfl rfl rfl (SlV.own [] rfl) (Rd.sl [] rfl rfl) (by (try simp only [List.length_append, List.length_nil, List.length_cons, List.length_singleton, List.length_take, List.length_drop]); omega) ?_)
   intro v6 hs3 hn2
   refine qi (v6) rfl (qd (qc (qh (ii ((k : Int))) rfl (cX (qU (((k + 1 : Nat) : Int)) rfl rfl (by omega) (by omega) (qi (ii (((k + 1 : Nat) : Int))) rfl (qd ?_)))))))
   exact ⟨(k + 1, v6, os ++ [((redS ar rs t)).getD k 0]), _, FLe.refl _, rF, ⟨rfl, rfl, rfl, rfl, rfl, ⟨⟩⟩, (sD (sC (sC sR))), ⟨rfl, (hs3), (by (try dsimp only) <;> omega), ((by dsimp only; rw [hos]; first | exact (inTo_yes (by simp only [inOk, decide_eq_true_eq]; omega)).symm | exact (inTo_no (by simp only [inOk, decide_eq_false_iff_not]; omega)).symm))⟩, (by omega)⟩
  refine qA (qc (qh (ii ((k : Int))) rfl (cX (qU (((k + 1 : Nat) : Int)) rfl rfl (by omega) (by omega) (qi (ii (((k + 1 : Nat) : Int))) rfl (qd ?_))))))
  exact ⟨(k + 1, ov, os), _, FLe.refl _, rF, ⟨rfl, rfl, rfl, rfl, rfl, ⟨⟩⟩, (sC (sC sR)), ⟨rfl, (hov), (by (try dsimp only) <;> omega), ((by dsimp only; rw [hos]; first | exact (inTo_yes (by simp only [inOk, decide_eq_true_eq]; omega)).symm | exact (inTo_no (by simp only [inOk, decide_eq_false_iff_not]; omega)).symm))⟩, (by omega)⟩
 refine jo (qB (qB (qW (qf (qc (qh (ov) rfl (qi (ov) rfl (qd (qu (qs (L' := intsH 2 ov os :: L) [ov] (ov) (.tmp rfl .nil) rfl rF le1 (sC (sD sR)) ?_))))))))))
 refine ⟨rfl, hov, ?_⟩
 have hxs : (inS ar rs t : List Int) = os := by rw [hos, inS_eq, show k = (redS ar rs t).length from by omega]
 exact congrArg (fun z => intsH 2 _ z :: L) hxs

/- spec.l8Places -/
theorem l8Places_spec {F : FH} {L : List HP} {arv : Value} {ar : List Int} (har : IntsF F arv ar) {rsv : Value} {rs : List (List Int × List Int)} (hrs : PairsF F rsv rs) {tv : Value} {t : List Int} (ht : IntsF F tv t) {st : Int} (hla : ar.length ≤ 4000000) (hlr : rs.length ≤ 4000000) (hrb : ∀ i, i < rs.length → (rs.getD i ([], [])).1.length ≤ 4000000 ∧ (rs.getD i ([], [])).2.length ≤ 4000000) (hlt : t.length ≤ 4000000) :
    Does prog 325 [.agg #[arv, rsv], tv, ii (st)] F (L) (fun v F' L' => ∃ (a : Value), (a : Value) = v ∧ (IntsF F' a (placesL ar rs t st)) ∧ L = L') := by
 refine qH func325 rfl rfl rfl ?_
 have hrS := redS_len (ar := ar) (rs := rs) hlt
 refine qf (qc (cX (qZ [arv, rsv] rfl rfl ?_)))
 intro b1
 refine qi (sN) rfl (qd (qf (qf (qc (qh (ii (st)) rfl (qd (qR (qf (qc (cX (jB rfl rfl (qi (.bool (decide ((st : Int) = 1))) rfl (qd ?_)))))))))))))
 refine qC (p := (st : Int) = 1) rfl (fun h1 => ?_) (fun h1 => ?_)
 ·refine qf (qc (cX (qq [arv, rsv] jj qX rfl rfl (Rd.ownN [] rfl rfl) (qh (tv) rfl (cX (jG <| qm (args := [.agg #[arv, rsv], tv]) call338 rfl (sInmostIn_spec har hrs ht (hla := (by first | assumption | rfl | omega | simp)) (hlr := (by first | assumption | rfl | omega | simp)) (hrb := (by first | assumption | rfl | omega | simp)) (hlt := (by first | assumption | rfl | omega | simp))) ?_))))))
  rintro v1 _ _ _ ⟨rfl, hs1, rfl⟩
  refine ⟨_, _, rfl, fun F1 le1 hz1 => ?_⟩
  replace har := har.mono le1
  replace hrs := hrs.mono le1
  replace ht := ht.mono le1
  have hf1 : IntsF F1 v1 ((inS ar rs t)) := intsH.fz (xs := (inS ar rs t)) hz1.fz
  refine qi (v1) rfl (qd (qu (qL (qo (qs (L' := L) [v1] (v1) (.tmp rfl .nil) rfl le1 rF (sD sR) ?_)))))
  exact ⟨_, rfl, by rw [placesL, if_pos (by assumption)]; exact hf1, rfl⟩
 refine qf (qc (cX (jB rfl rfl (qi (.bool (decide ((st : Int) = 2))) rfl (qd ?_)))))
 refine qC (p := (st : Int) = 2) rfl (fun h2 => ?_) (fun h2 => ?_)
 ·refine qf (qc (cX (qq [arv, rsv] jj qX rfl rfl (Rd.ownN [] rfl rfl) (qh (tv) rfl (cX (jG <| qm (args := [.agg #[arv, rsv], tv]) call339 rfl (sRedexesIn_spec har hrs ht (hla := (by first | assumption | rfl | omega | simp)) (hlr := (by first | assumption | rfl | omega | simp)) (hrb := (by first | assumption | rfl | omega | simp)) (hlt := (by first | assumption | rfl | omega | simp))) ?_))))))
  rintro v2 _ _ _ ⟨rfl, hs2, rfl⟩
  refine ⟨_, _, rfl, fun F2 le2 hz2 => ?_⟩
  replace har := har.mono le2
  replace hrs := hrs.mono le2
  replace ht := ht.mono le2
  have hf2 : IntsF F2 v2 ((redS ar rs t)) := intsH.fz (xs := (redS ar rs t)) hz2.fz
  refine qi (v2) rfl (qd (qu (qL (qo (qs (L' := L) [v2] (v2) (.tmp rfl .nil) rfl le2 rF (sD sR) ?_)))))
  exact ⟨_, rfl, by rw [placesL, if_neg (by assumption), if_pos (by assumption)]; exact hf2, rfl⟩
 refine qA (qf (qc (cX (qq [arv, rsv] jj qX rfl rfl (Rd.ownN [] rfl rfl) (qh (tv) rfl (cX (jG <| qm (args := [.agg #[arv, rsv], tv]) call339 rfl (sRedexesIn_spec har hrs ht (hla := (by first | assumption | rfl | omega | simp)) (hlr := (by first | assumption | rfl | omega | simp)) (hrb := (by first | assumption | rfl | omega | simp)) (hlt := (by first | assumption | rfl | omega | simp))) ?_)))))))
 rintro v3 _ _ _ ⟨rfl, hs3, rfl⟩
 refine ⟨_, _, rfl, fun F3 le3 hz3 => ?_⟩
 have hf3 : IntsF F3 v3 ((redS ar rs t)) := intsH.fz (xs := (redS ar rs t)) hz3.fz
 refine qi (v3) rfl (qd (qf (qf (qc (qh (v3) rfl (cX (qE qg rfl hf3.slv (cX (jH rfl rfl (qd ?_))))))))))
 refine qC (p := (((((redS ar rs t)).length : Nat) : Int) : Int) > 0) rfl (fun h3 => ?_) (fun h3 => ?_)
 ·refine qc (qh (v3) rfl (qh (v3) rfl (cX (qE qg rfl hf3.slv (cX (jp ((((((redS ar rs t)).length) - 1 : Nat) : Int)) rfl rfl (by omega) (by omega) (cX (XOp.sliceI ((((redS ar rs t)).length) - 1) (((redS ar rs t)).length) qg qy rfl hf3 ⟨_, rfl⟩ rfl (by omega) (by omega) ?_))))))))
  intro v4 hv1 hn1
  refine qi (v4) rfl (qd (qf (qc (qh (v4) rfl (qi (v4) rfl (qd (qu (qs (L' := L) [v4] (v4) (.tmp rfl .nil) rfl le3 rF (sD sR) ?_))))))))
  exact ⟨_, rfl, by rw [placesL, if_neg (by assumption), if_neg (by assumption)]; exact hv1, rfl⟩
 refine qA (qf (qc (qh (v3) rfl (qi (v3) rfl (qd (qu (qs (L' := L) [v3] (v3) (.tmp rfl .nil) rfl le3 rF (sD sR) ?_)))))))
 exact ⟨_, rfl, by rw [placesL, if_neg (by assumption), if_neg (by assumption)]; rw [lastL_nil (l := redS ar rs t) (by omega)]; exact hf3, rfl⟩

/- spec.l8Right -/
theorem l8Right_spec {F : FH} {L : List HP} {arv : Value} {ar : List Int} (har : IntsF F arv ar) {rsv : Value} {rs : List (List Int × List Int)} (hrs : PairsF F rsv rs) {tv : Value} {t : List Int} (ht : IntsF F tv t) {st : Int} (hla : ar.length ≤ 4000000) (hlr : rs.length ≤ 4000000) (hrb : ∀ i, i < rs.length → (rs.getD i ([], [])).1.length ≤ 4000000 ∧ (rs.getD i ([], [])).2.length ≤ 4000000) (hlt : t.length ≤ 4000000) :
    Does prog 296 [.agg #[arv, rsv], tv, ii (st)] F (L) (fun v F' L' => (.bool ((rightB ar rs t && decide (1 ≤ st ∧ st ≤ 3))) : Value) = v ∧ F = F' ∧ L = L') := by
 refine qH func296 rfl rfl rfl (qf (qc (cX (qZ [arv, rsv] rfl rfl ?_))))
 intro b1
 refine qi (.bool (false)) rfl (qd (qf (qc (cX (qq [arv, rsv] jj qX rfl rfl (Rd.ownN [] rfl rfl) (qh (tv) rfl (cX (qm (args := [.agg #[arv, rsv], tv]) call108 rfl (l7Right_spec har hrs ht (hla := (by first | assumption | rfl | omega | simp)) (hlr := (by first | assumption | rfl | omega | simp)) (hrb := (by first | assumption | rfl | omega | simp)) (hlt := (by first | assumption | rfl | omega | simp))) ?_))))))))
 rintro _ _ _ _ ⟨rfl, rfl, rfl⟩
 refine qh (.bool (rightB ar rs t)) rfl ?_
 by_cases h1 : (rightB ar rs t) = true
 ·refine qr (t := 10) rfl (vB h1) (qt (ii (st)) rfl (qr (t := 10) rfl (vB h1) (qm (args := [ii (st), ii (1), ii (3)]) call110 rfl (l1In_spec (n := st) (a := 1) (b := 3)) ?_)))
  rintro _ _ _ _ ⟨rfl, rfl, rfl⟩
  refine cX (qP (.bool (decide (1 ≤ st ∧ st ≤ 3))) (vB h1) rfl (qi (.bool (decide (1 ≤ st ∧ st ≤ 3))) rfl (qd (qu (qs (L' := L) [.bool (decide (1 ≤ st ∧ st ≤ 3))] (.bool (decide (1 ≤ st ∧ st ≤ 3))) (.tmp rfl .nil) rfl rF rF (sD sR) ?_)))))
  exact ⟨(vB (by simp_all)), rfl, rfl⟩
 rw [Bool.not_eq_true] at h1
 refine qp (t := 10) rfl (vB h1) (qp (t := 10) rfl (vB h1) (cX (qN (.bool (false)) (vB h1) rfl (qi (.bool (false)) rfl (qd (qu (qs (L' := L) [.bool (false)] (.bool (false)) (.tmp rfl .nil) rfl rF rF (sD sR) ?_)))))))
 exact ⟨(vB (by simp_all)), rfl, rfl⟩
end Go.Proofs.YtenomejgjcpbdaaGreat
set_option linter.unusedSimpArgs false
set_option linter.unusedVariables false
namespace Go.Proofs.YtenomejgjcpbdaaGreat
open Go X M Tryz

/- spec.PickBy -/
theorem sPickBy_spec {F : FH} {L : List HP} {arv : Value} {ar : List Int} (har : IntsF F arv ar) {rsv : Value} {rs : List (List Int × List Int)} (hrs : PairsF F rsv rs) {tv : Value} {t : List Int} (ht : IntsF F tv t) {st : Int} (hla : ar.length ≤ 4000000) (hlr : rs.length ≤ 4000000) (hrb : ∀ i, i < rs.length → (rs.getD i ([], [])).1.length ≤ 4000000 ∧ (rs.getD i ([], [])).2.length ≤ 4000000) (hlt : t.length ≤ 4000000) :
    Does prog 297 [.agg #[arv, rsv], tv, ii (st)] F (L) (fun v F' L' => (.tuple #[ii (pickAt ar rs t st), ii (pickRule ar rs t st), .bool (pickB ar rs t st)] : Value) = v ∧ F = F' ∧ L = L') := by
 refine qH func297 rfl rfl rfl (qf (qc (cX (qZ [arv, rsv] rfl rfl ?_))))
 intro b1
 refine qi (ii (0)) rfl (qi (ii (0)) rfl (qi (.bool (false)) rfl (qd (qf (qf (qc (cX (qq [arv, rsv] jj qX rfl rfl (Rd.ownN [] rfl rfl) (qh (tv) rfl (qh (ii (st)) rfl (cX (qm (args := [.agg #[arv, rsv], tv, ii (st)]) call296 rfl (l8Right_spec (st := st) har hrs ht (hla := (by first | assumption | rfl | omega | simp)) (hlr := (by first | assumption | rfl | omega | simp)) (hrb := (by first | assumption | rfl | omega | simp)) (hlt := (by first | assumption | rfl | omega | simp))) ?_))))))))))))
 rintro _ _ _ _ ⟨rfl, rfl, rfl⟩
 refine cX (jf rfl (qd ?_))
 refine jw (t := !((rightB ar rs t && decide (1 ≤ st ∧ st ≤ 3)))) rfl (fun h1 => ?_) (fun h1 => ?_)
 ·refine qf (qc (qi (ii (0)) rfl (qi (ii (0)) rfl (qi (.bool (false)) rfl (qd (qu (qo (qs (L' := L) [ii (0), ii (0), .bool (false)] (.tuple #[ii (0), ii (0), .bool (false)]) (.tmp rfl (.tmp rfl (.tmp rfl .nil))) rfl rF rF (sD sR) ?_))))))))
  refine ⟨?_, rfl, rfl⟩
  have hz : pickB ar rs t st = false := pickB_no (by intro h; simp_all)
  rw [pickAt, pickRule, hz]; rfl
 have hri : rightB ar rs t = true ∧ (1 ≤ st ∧ st ≤ 3) := by simpa using h1
 have hsys := (right_iff.1 hri.1).1
 have ho := (right_iff.1 hri.1).2
 refine qA (qf (qc (cX (qq [arv, rsv] jj qX rfl rfl (Rd.ownN [] rfl rfl) (qh (tv) rfl (qh (ii (st)) rfl (cX (qm (args := [.agg #[arv, rsv], tv, ii (st)]) call325 rfl (l8Places_spec (st := st) har hrs ht (hla := (by first | assumption | rfl | omega | simp)) (hlr := (by first | assumption | rfl | omega | simp)) (hrb := (by first | assumption | rfl | omega | simp)) (hlt := (by first | assumption | rfl | omega | simp))) ?_))))))))
 rintro _ F1 _ le1 ⟨x1, rfl, hr1, rfl⟩
 replace har := har.mono le1
 replace hrs := hrs.mono le1
 replace ht := ht.mono le1
 refine qi (x1) rfl (qd (qf (qf (qc (qh (x1) rfl (cX (qE qg rfl hr1.slv (cX (jB rfl rfl (qd ?_))))))))))
 refine qC (p := ((((placesL ar rs t st).length : Nat) : Int) : Int) = 0) rfl (fun h2 => ?_) (fun h2 => ?_)
 ·refine qf (qc (qi (ii (0)) rfl (qi (ii (0)) rfl (qi (.bool (false)) rfl (qd (qu (qo (qs (L' := L) [ii (0), ii (0), .bool (false)] (.tuple #[ii (0), ii (0), .bool (false)]) (.tmp rfl (.tmp rfl (.tmp rfl .nil))) rfl rF le1 (sD sR) ?_))))))))
  refine ⟨?_, rfl, rfl⟩
  have hz : pickB ar rs t st = false := pickB_no (by intro h; exact h.2.2 ((places_nil st hri.1).1 (List.eq_nil_of_length_eq_zero (by omega))))
  rw [pickAt, pickRule, hz]; rfl
 have hne : redL ar rs t ≠ [] := fun e => by have := congrArg List.length ((places_nil st hri.1).2 e); simp only [List.length_nil] at this; omega
 have hpp := places_pick st hri.1 hne
 obtain ⟨q, hq1, hq2, hq3, _⟩ := (pick_spec (ar := ar) (rs := rs) (t := t) st).resolve_left (fun h => hne h.2)
 refine qA (qf ?_)
 refine jY [cellsH b1 [arv, rsv] 39] L 9 [] [[], [0], [1], [], [], [], [5], [6], [3, 4, 7]] (phiL [qe x1, qe (.pointer (some (elemA x1 (0)))), qe (ii ((placesL ar rs t st).getD 0 0)), qe (.agg #[arv, rsv]), qe tv, qe x1, qe (.pointer (some (elemA x1 (0)))), qe (ii ((placesL ar rs t st).getD 0 0)), qe (ii (ruleAtL ar rs t (((placesL ar rs t st).getD 0 0).toNat)))]) (ownL []) mixed rfl rfl (by kernel_rfl) ?_ ?_
 ·refine pD (fun W R z9 => ?_) ?_
  ·refine qj (qt (x1) rfl ?_)
   exact ⟨rfl, rfl, rfl⟩
  refine pD (fun W R z9 => ?_) ?_
  ·rw [eS (l := [(0, _)]) ⟨z9 0 rfl, ⟨⟩⟩]
   refine qj (qD 0 qg qy rfl rfl rfl hr1.slv (by omega) (Nat.mul_one _) ?_)
   exact ⟨rfl, rfl, rfl⟩
  refine pD (fun W R z9 => ?_) ?_
  ·rw [eS (l := [(1, _)]) ⟨z9 1 rfl, ⟨⟩⟩]
   refine qj (qk je rfl (hr1.rd (by omega)) ?_)
   exact ⟨rfl, rfl, rfl⟩
  refine pD (fun W R z9 => ?_) ?_
  ·refine qj (qq [arv, rsv] jj qX rfl rfl (Rd.ownN [] rfl rfl) ?_)
   exact ⟨rfl, rfl, rfl⟩
  refine pD (fun W R z9 => ?_) ?_
  ·refine qj (qt (tv) rfl ?_)
   exact ⟨rfl, rfl, rfl⟩
  refine pD (fun W R z9 => ?_) ?_
  ·refine qj (qt (x1) rfl ?_)
   exact ⟨rfl, rfl, rfl⟩
  refine pD (fun W R z9 => ?_) ?_
  ·rw [eS (l := [(5, _)]) ⟨z9 5 rfl, ⟨⟩⟩]
   refine qj (qD 0 qg qy rfl rfl rfl hr1.slv (by omega) (Nat.mul_one _) ?_)
   exact ⟨rfl, rfl, rfl⟩
  refine pD (fun W R z9 => ?_) ?_
  ·rw [eS (l := [(6, _)]) ⟨z9 6 rfl, ⟨⟩⟩]
   refine qj (qk je rfl (hr1.rd (by omega)) ?_)
   exact ⟨rfl, rfl, rfl⟩
  refine pD (fun W R z9 => ?_) ?_
  ·rw [eS (l := [(3, _), (4, _), (7, _)]) ⟨z9 3 rfl, z9 4 rfl, z9 7 rfl, ⟨⟩⟩]
   refine qj (qm (args := [.agg #[arv, rsv], tv, ii ((((placesL ar rs t st).getD 0 0).toNat : Nat) : Int)]) call326 (by rw [show ((((placesL ar rs t st).getD 0 0).toNat : Nat) : Int) = (placesL ar rs t st).getD 0 0 from by omega]; rfl) (l8Redex_spec (p := ((placesL ar rs t st).getD 0 0).toNat) har hrs ht (hsys := (by first | assumption | rfl | omega | simp)) (ho := (by first | assumption | rfl | omega | simp)) (hp := (by first | assumption | rfl | omega | simp))) ?_)
   rintro _ _ _ _ ⟨rfl, rfl, rfl⟩
   exact ⟨rfl, rfl, rfl⟩
  exact stepsP.nil
 intro W hphi
 rw [eS (l := [(2, _), (8, _)]) ⟨(hphi 2 (by decide)), (hphi 8 (by decide)), ⟨⟩⟩]
 show XL _ _ _ _ _ _ _ (cellsH b1 [arv, rsv] 39 :: L)
 refine qi (ii ((placesL ar rs t st).getD 0 0)) rfl (qi (ii (ruleAtL ar rs t (((placesL ar rs t st).getD 0 0).toNat))) rfl (qi (.bool (true)) rfl (qd (qu (qs (L' := L) [ii ((placesL ar rs t st).getD 0 0), ii (ruleAtL ar rs t (((placesL ar rs t st).getD 0 0).toNat)), .bool (true)] (.tuple #[ii ((placesL ar rs t st).getD 0 0), ii (ruleAtL ar rs t (((placesL ar rs t st).getD 0 0).toNat)), .bool (true)]) (.tmp rfl (.tmp rfl (.tmp rfl .nil))) rfl rF le1 (sD sR) ?_)))))
 refine ⟨?_, rfl, rfl⟩
 have hz : pickB ar rs t st = true := pickB_iff.2 ⟨hri.1, hri.2, hne⟩
 rw [pickAt, pickRule, hz, if_pos rfl, if_pos rfl, hpp]
end Go.Proofs.YtenomejgjcpbdaaGreat
set_option linter.unusedSimpArgs false
set_option linter.unusedVariables false
namespace Go.Proofs.YtenomejgjcpbdaaGreat
open Go X M Tryz

/- spec.l2Filled -/
theorem l2Filled_spec {F : FH} {L : List HP} {sv : Value} {s : List (List Int)} (hs : RowsF F sv s) {tv : Value} {t : List Int} (ht : IntsF F tv t) (hsl : s.length ≤ 4000000) (hsb : ∀ i, (s.getD i []).length ≤ 4000000) (htl : t.length ≤ 4000000) (htg : ∀ k, k < t.length → -4000000 ≤ t.getD k 0) :
    Does prog 210 [.agg #[sv], tv] F (L) (fun v F' L' => ∃ (a : Value), (.tuple #[a, .bool ((fillL s t).isSome)] : Value) = v ∧ (IntsF F' a ((fillL s t).getD [])) ∧ L = L') := by
 refine qH func210 rfl rfl rfl (qf (qc (cX (qZ [sv] rfl rfl ?_))))
 intro b1
 refine qi (sN) rfl (qi (.bool (false)) rfl (qd (qf (qc (cX (qz (s := 1) [] [ii (0)] [] qg qy qO rfl (by decide) rfl CellsAre.nil rfl ?_))))))
 intro v1 hv1
 refine qi (v1) rfl (qd (qf (qf (qc (qi (ii (0)) rfl (qd (qR (jy (α := Nat × Value × List Int) (fun xQ => [(1, tv), (2, ptr b1 0), (6, xQ.2.1), (7, ii (((xQ.1 : Nat) : Int)))]) (fun xQ => intsH 2 xQ.2.1 xQ.2.2 :: cellsH b1 [sv] 115 :: L) (fun xQ F' => F = F' ∧ (IsSl xQ.2.1) ∧ (xQ.1 ≤ t.length) ∧ (fillL s t = fillGo s (t.drop xQ.1) xQ.2.2) ∧ (xQ.2.2.length ≤ 60)) (fun xQ => t.length - xQ.1) (0, v1, []) ⟨rfl, rfl, rfl, rfl, ⟨⟩⟩ (sC (sC sR)) ⟨rfl, ((qV hv1)), (by (try dsimp only) <;> omega), (rfl), (by simp)⟩ ?_))))))))
 rintro ⟨k, ov, os⟩ rE _ _ ⟨rfl, hov, hk, hm, hol⟩
 show X _ _ _ _ (envs [(1, tv), (2, ptr b1 0), (6, ov), (7, ii ((k : Int)))] rE) _ (intsH 2 ov os :: cellsH b1 [sv] 115 :: L)
 dsimp only at hov hk hm hol
 have htk := htg k
 have hlk0 := lk_bound (N := 4000000) (by omega) hsb (-1 - (((-1 - t.getD k 0).toNat : Nat) : Int))
 refine qf (qf (qc (qh (ii ((k : Int))) rfl (qh (tv) rfl (cX (qE qg rfl ht.slv (cX (jh rfl rfl (qd ?_)))))))))
 refine qC (p := (k : Int) < (t.length : Int)) rfl (fun h1 => ?_) (fun h1 => ?_)
 ·refine qA (qf (qR (qf (qf (qc (qh (tv) rfl (qh (ii ((k : Int))) rfl (cX (qD k qg qy rfl rfl rfl ht.slv (by omega) (Nat.mul_one _) (cX (qk je rfl (ht.rd (by omega)) (cX (jh rfl rfl (qd ?_))))))))))))))
  refine qC (p := (t.getD k 0 : Int) < 0) rfl (fun h2 => ?_) (fun h2 => ?_)
  ·refine jM [intsH 2 ov os, cellsH b1 [sv] 115] L 8 [] [[], [], [], [], [2, 3], [4], [5], [1, 6]] [] (phiG [pe ov, pe (.agg #[sv]), pe tv, pe (ii ((k : Int)) : Value), pe (.pointer (some (elemA tv (k)))), pe (ii (t.getD k 0)), pe (ii ((-1) - (t.getD k 0))), fun FF us v => ((v) : Value) = v ∧ (IntsF FF (v) (lk s (-1 - ((((-1) - (t.getD k 0)).toNat) : Int))))]) (ownL []) mixed rfl rfl (by kernel_rfl) (by kernel_rfl) (MonoG.get (m1 (m1 (m1 (m1 (m1 (m1 (m1 (mC (fun le h => ⟨h.1, h.2.mono le⟩) MonoG.nil))))))))) ?_ ?_
   ·refine gD (fun W Fs R lF z9 => ?_) ?_
    ·refine qj (qt (ov) rfl ?_)
     exact ⟨rfl, rfl⟩
    refine gD (fun W Fs R lF z9 => ?_) ?_
    ·replace hs := hs.mono lF
     replace ht := ht.mono lF
     refine qj (qq [sv] jR js rfl rfl (Rd.ownN [_] rfl rfl) ?_)
     exact ⟨rfl, rfl⟩
    refine gD (fun W Fs R lF z9 => ?_) ?_
    ·refine qj (qt (tv) rfl ?_)
     exact ⟨rfl, rfl⟩
    refine gD (fun W Fs R lF z9 => ?_) ?_
    ·refine qj (qt (ii ((k : Int))) rfl ?_)
     exact ⟨rfl, rfl⟩
    refine gD (fun W Fs R lF z9 => ?_) ?_
    ·replace hs := hs.mono lF
     replace ht := ht.mono lF
     rw [eS (l := [(2, _), (3, _)]) ⟨z9 2 rfl, z9 3 rfl, ⟨⟩⟩]
     refine qj (qD k qg qy rfl rfl rfl ht.slv (by omega) (Nat.mul_one _) ?_)
     exact ⟨rfl, rfl⟩
    refine gD (fun W Fs R lF z9 => ?_) ?_
    ·replace hs := hs.mono lF
     replace ht := ht.mono lF
     rw [eS (l := [(4, _)]) ⟨z9 4 rfl, ⟨⟩⟩]
     refine qj (qk je rfl (ht.rd (by omega)) ?_)
     exact ⟨rfl, rfl⟩
    refine gD (fun W Fs R lF z9 => ?_) ?_
    ·rw [eS (l := [(5, _)]) ⟨z9 5 rfl, ⟨⟩⟩]
     refine qj (jp ((-1) - (t.getD k 0)) rfl rfl (by omega) (by omega) ?_)
     exact ⟨rfl, rfl⟩
    refine gD (fun W Fs R lF z9 => ?_) ?_
    ·replace hs := hs.mono lF
     replace ht := ht.mono lF
     rw [eS (l := [(1, _), (6, _)]) ⟨z9 1 rfl, z9 6 rfl, ⟨⟩⟩]
     refine qj (jG <| qm (args := [.agg #[sv], ii ((((-1) - (t.getD k 0)).toNat : Nat) : Int)]) call174 (by rw [show ((((-1) - (t.getD k 0)).toNat : Nat) : Int) = (-1) - (t.getD k 0) from by omega]; rfl) (l2Gives_spec (i := ((-1) - (t.getD k 0)).toNat) hs (hsl := (by first | assumption | rfl | omega | simp)) (hi := (by first | assumption | rfl | omega | simp)) (hsb := (hsb _))) ?_)
     rintro v3 _ _ _ ⟨rfl, hs2, rfl⟩
     refine ⟨_, _, rfl, fun F1 le1 hz1 => ?_⟩
     replace ht := ht.mono le1
     have hf1 : IntsF F1 v3 ((lk s (-1 - ((((-1) - (t.getD k 0)).toNat) : Int)))) := intsH.fz (xs := (lk s (-1 - ((((-1) - (t.getD k 0)).toNat) : Int)))) hz1.fz
     exact ⟨⟨rfl, hf1⟩, rfl⟩
    exact stepsG.nil
   intro W F2 le2 hphi
   obtain ⟨e7, f7_1ha⟩ := hphi 7 (by decide)
   generalize hu1 : ((W 7)) = u1 at e7 f7_1ha
   rw [eS (l := [(0, _), (7, u1)]) ⟨(hphi 0 (by decide)), hu1, ⟨⟩⟩]
   replace ht := ht.mono le2
   show XL _ _ _ _ _ _ _ (intsH 2 ov os :: cellsH b1 [sv] 115 :: L)
   refine cX (XOp.appendI [] _ qg typeInfo2 rfl rfl rfl rfl rfl rfl f7_1ha (by (try simp only [List.length_append, List.length_nil, List.length_cons, List.length_singleton, List.length_take, List.length_drop]); omega) ?_)
   intro v4 hs3 hn1 hm1
   refine qi (v4) rfl (qd (qf (qc (qh (v4) rfl (cX (qE qg rfl (intsH.slv [] rfl) (cX (jH rfl rfl (qd ?_)))))))))
   refine qC (p := ((((os ++ ((lk s (-1 - ((((-1) - (t.getD k 0)).toNat) : Int))))).length : Nat) : Int) : Int) > 60) rfl (fun h3 => ?_) (fun h3 => ?_)
   ·refine qf (qc (cX (qz (s := 1) [] [ii (0)] [] qg qy qO rfl (by decide) rfl CellsAre.nil rfl ?_)))
    intro v5 hv2
    refine qi (v5) rfl (qi (.bool (false)) rfl (qd ?_))
    show X _ _ _ _ _ _ (intsH 2 v5 ([] : List Int) :: intsH 2 v4 (os ++ ((lk s (-1 - ((((-1) - (t.getD k 0)).toNat) : Int))))) :: cellsH b1 [sv] 115 :: L)
    refine qT [] _ _ rfl (fun F3 le3 hz2 => ?_)
    replace ht := ht.mono le3
    have hf2 : IntsF F3 v5 ([]) := intsH.fz (xs := []) hz2.fz
    refine qu (qL (qo (qo (qL (qo (qs (L' := L) [v5, .bool (false)] (.tuple #[v5, .bool (false)]) (.tmp rfl (.tmp rfl .nil)) rfl (qn le2 le3) rF (sD (sD sR)) ?_))))))
    have hz : fillL s t = none := hm.trans (fillGo_long (a := os ++ ((lk s (-1 - ((((-1) - (t.getD k 0)).toNat) : Int))))) (by omega) (by rw [show (-1 - (((-1 - t.getD k 0).toNat : Nat) : Int)) = t.getD k 0 from by omega]) (by omega))
    exact ⟨_, by rw [hz]; rfl, by rw [hz]; exact hf2, rfl⟩
   refine qA (qc (qh (ii ((k : Int))) rfl (cX (qU (((k + 1 : Nat) : Int)) rfl rfl (by omega) (by omega) (qi (ii (((k + 1 : Nat) : Int))) rfl (qd ?_))))))
   exact ⟨(k + 1, v4, os ++ ((lk s (-1 - ((((-1) - (t.getD k 0)).toNat) : Int))))), _, FLe.refl _, le2, ⟨rfl, rfl, rfl, rfl, ⟨⟩⟩, (sC (sC sR)), ⟨rfl, (hs3), (by (try dsimp only) <;> omega), (by dsimp only; exact hm.trans (fillGo_next (by omega) (by rw [show (-1 - (((-1 - t.getD k 0).toNat : Nat) : Int)) = t.getD k 0 from by omega]) (by omega))), (by dsimp only; omega)⟩, (by omega)⟩
  refine qc (qh (ov) rfl (qh (tv) rfl (qh (ii ((k : Int))) rfl (cX (qD k qg qy rfl rfl rfl ht.slv (by omega) (Nat.mul_one _) (cX (qk je rfl (ht.rd (by omega)) (cX (qz (s := 1) [ii (t.getD k 0)] [ii (0)] [(0, [ii (t.getD k 0)])] qg qy qO rfl (by decide) rfl (.cons rfl CellsAre.nil) rfl ?_)))))))))
  intro v6 hv3
  refine cX (XOp.append1 (u := t.getD k 0) [_] _ qg typeInfo2 rfl rfl rfl rfl rfl rfl (SlV.own [] rfl) (Rd.sl [] rfl rfl) (by (try simp only [List.length_append, List.length_nil, List.length_cons, List.length_singleton, List.length_take, List.length_drop]); omega) ?_)
  intro v7 hs4 hn2
  refine qi (v7) rfl (qd (qf (qc (qh (v7) rfl (cX (qE qg rfl (intsH.slv [_] rfl) (cX (jH rfl rfl (qd ?_)))))))))
  refine qC (p := ((((os ++ [t.getD k 0]).length : Nat) : Int) : Int) > 60) rfl (fun h4 => ?_) (fun h4 => ?_)
  ·refine qf (qc (cX (qz (s := 1) [] [ii (0)] [] qg qy qO rfl (by decide) rfl CellsAre.nil rfl ?_)))
   intro v8 hv4
   refine qi (v8) rfl (qi (.bool (false)) rfl (qd ?_))
   show X _ _ _ _ _ _ (intsH 2 v8 ([] : List Int) :: slH 2 1 v6 1 [ii (t.getD k 0)] :: intsH 2 v7 (os ++ [t.getD k 0]) :: cellsH b1 [sv] 115 :: L)
   refine qT [] _ _ rfl (fun F4 le4 hz3 => ?_)
   have hf3 : IntsF F4 v8 ([]) := intsH.fz (xs := []) hz3.fz
   refine qu (qL (qo (qo (qL (qo (qs (L' := L) [v8, .bool (false)] (.tuple #[v8, .bool (false)]) (.tmp rfl (.tmp rfl .nil)) rfl le4 rF (sD (sD (sD sR))) ?_))))))
   have hz : fillL s t = none := hm.trans (fillGo_long (a := os ++ [t.getD k 0]) (by omega) (by rw [lk_sym (by omega)]) (by omega))
   exact ⟨_, by rw [hz]; rfl, by rw [hz]; exact hf3, rfl⟩
  refine qA (qc (qh (ii ((k : Int))) rfl (cX (qU (((k + 1 : Nat) : Int)) rfl rfl (by omega) (by omega) (qi (ii (((k + 1 : Nat) : Int))) rfl (qd ?_))))))
  exact ⟨(k + 1, v7, os ++ [t.getD k 0]), _, FLe.refl _, rF, ⟨rfl, rfl, rfl, rfl, ⟨⟩⟩, (sD (sC (sC sR))), ⟨rfl, (hs4), (by (try dsimp only) <;> omega), (by dsimp only; exact hm.trans (fillGo_next (by omega) (by rw [lk_sym (by omega)]) (by omega))), (by dsimp only; omega)⟩, (by omega)⟩
 refine jo (qB (qB (qW (qf (qc (qh (ov) rfl (qi (ov) rfl (qi (.bool (true)) rfl (qd (qT [] _ _ rfl (fun F5 le5 hz4 => ?_)))))))))))
 have hf4 : IntsF F5 ov os := intsH.fz (xs := os) hz4.fz
 refine qu (qs (L' := L) [ov, .bool (true)] (.tuple #[ov, .bool (true)]) (.tmp rfl (.tmp rfl .nil)) rfl le5 rF (sD sR) ?_)
 have hz : fillL s t = some os := hm.trans (fillGo_done (by omega))
 exact ⟨_, by rw [hz]; rfl, by rw [hz]; exact hf4, rfl⟩

/- spec.l3Put -/
theorem l3Put_spec {F : FH} {L : List HP} {arv : Value} {ar : List Int} (har : IntsF F arv ar) {tv : Value} {t : List Int} (ht : IntsF F tv t) {p : Nat} {uv : Value} {u : List Int} (hu : IntsF F uv u) (ho : termOk ar t = true) (hp : p < t.length) (hul : u.length ≤ 4000000) :
    Does prog 211 [.agg #[arv], tv, ii ((p : Int)), uv] F (L) (fun v F' L' => ∃ (a : Value), (.tuple #[a, .bool ((putL ar t p u).isSome)] : Value) = v ∧ (IntsF F' a ((putL ar t p u).getD [])) ∧ L = L') := by
 refine qH func211 rfl rfl rfl ?_
 have hsig := termOk_sig ho
 have hsl := sigOk_spec hsig
 have htl := termOk_len ho
 have hee := endN_spec ho hp
 refine qf (qc (cX (qZ [arv] rfl rfl ?_)))
 intro b1
 refine qi (sN) rfl (qi (.bool (false)) rfl (qd (qf (qc (qh (tv) rfl (qh (ii ((p : Int))) rfl (cX (XOp.sliceI 0 p qg qy rfl ht rfl ⟨_, rfl⟩ (by omega) (by omega) ?_))))))))
 intro v1 hv1 hn1
 refine cX (qm (args := [v1]) call106 rfl (l1Copy_spec hv1 (hlt := (by simp; omega))) ?_)
 rintro v2 _ _ _ ⟨rfl, hs1, rfl⟩
 refine qh (uv) rfl (cX (XOp.appendI [] _ qg typeInfo2 rfl rfl rfl rfl rfl rfl hu (by (try simp only [List.length_append, List.length_nil, List.length_cons, List.length_singleton, List.length_take, List.length_drop]); omega) ?_))
 intro v3 hs2 hn2 hm1
 refine qi (v3) rfl (qd (qf (qc (qh (v3) rfl (qh (tv) rfl (cX (qq [arv] qI qw rfl rfl (Rd.ownN [_] rfl rfl) (qh (tv) rfl (qh (ii ((p : Int))) rfl (cX (qm (args := [.agg #[arv], tv, ii (p : Int)]) call196 rfl (l1End_ok (p := p) har ht (ho := (by first | assumption | rfl | omega | (left; simp; done) | (right; simp; done))) (hp := (by first | assumption | rfl | omega | (left; simp; done) | (right; simp; done)))) ?_)))))))))))
 rintro _ _ _ _ ⟨rfl, rfl, rfl⟩
 refine cX (XOp.sliceI (endN ar t p) ((t).length) qg qy rfl ht ⟨_, rfl⟩ rfl (by omega) (by omega) ?_)
 intro v4 hv2 hn3
 refine cX (XOp.appendI [] _ qg typeInfo2 rfl rfl rfl rfl rfl rfl hv2 (by (try simp only [List.length_append, List.length_nil, List.length_cons, List.length_singleton, List.length_take, List.length_drop]); omega) ?_)
 intro v5 hs3 hn4 hm2
 refine qi (v5) rfl (qd (qf (qf (qc (qh (v5) rfl (cX (qE qg rfl (intsH.slv [] rfl) (cX (jH rfl rfl (qd ?_))))))))))
 refine qC (p := ((((((((((t.drop 0).take (p - 0))))) ++ u) ++ (((t.drop (endN ar t p)).take (((t).length) - (endN ar t p))))).length : Nat) : Int) : Int) > 60) rfl (fun h1 => ?_) (fun h1 => ?_)
 ·refine qf (qc (cX (qz (s := 1) [] [ii (0)] [] qg qy qO rfl (by decide) rfl CellsAre.nil rfl ?_)))
  intro v6 hv3
  refine qi (v6) rfl (qi (.bool (false)) rfl (qd ?_))
  show X _ _ _ _ _ _ (intsH 2 v6 ([] : List Int) :: intsH 2 v5 (((((((t.drop 0).take (p - 0))))) ++ u) ++ (((t.drop (endN ar t p)).take (((t).length) - (endN ar t p))))) :: cellsH b1 [arv] 36 :: L)
  refine qT [] _ _ rfl (fun F1 le1 hz1 => ?_)
  have hf1 : IntsF F1 v6 ([]) := intsH.fz (xs := []) hz1.fz
  refine qu (qo (qs (L' := L) [v6, .bool (false)] (.tuple #[v6, .bool (false)]) (.tmp rfl (.tmp rfl .nil)) rfl le1 rF (sD (sD sR)) ?_))
  have hz : putL ar t p u = none := putL_none put_three (by omega)
  exact ⟨_, by rw [hz]; rfl, by rw [hz]; exact hf1, rfl⟩
 refine qA (qf (qc (qh (v5) rfl (qi (v5) rfl (qi (.bool (true)) rfl (qd (qT [] _ _ rfl (fun F2 le2 hz2 => ?_))))))))
 have hf2 : IntsF F2 v5 (((((((t.drop 0).take (p - 0))))) ++ u) ++ (((t.drop (endN ar t p)).take (((t).length) - (endN ar t p))))) := intsH.fz (xs := ((((((t.drop 0).take (p - 0))))) ++ u) ++ (((t.drop (endN ar t p)).take (((t).length) - (endN ar t p))))) hz2.fz
 refine qu (qs (L' := L) [v5, .bool (true)] (.tuple #[v5, .bool (true)]) (.tmp rfl (.tmp rfl .nil)) rfl le2 rF (sD sR) ?_)
 have hz := putL_some (ar := ar) (t := t) (p := p) (u := u) put_three (by omega)
 exact ⟨_, by rw [hz]; rfl, by rw [hz]; exact hf2, rfl⟩

/- spec.l7Step -/
theorem l7Step_spec {F : FH} {L : List HP} {arv : Value} {ar : List Int} (har : IntsF F arv ar) {rsv : Value} {rs : List (List Int × List Int)} (hrs : PairsF F rsv rs) {tv : Value} {t : List Int} (ht : IntsF F tv t) {p : Nat} {r : Nat} (hsys : sysOk ar rs = true) (ho : termOk ar t = true) (hp : p < t.length) (hr : r < rs.length) :
    Does prog 111 [.agg #[arv, rsv], tv, ii ((p : Int)), ii ((r : Int))] F (L) (fun v F' L' => ∃ (a : Value), (.tuple #[a, .bool ((stepL ar rs t p r).isSome)] : Value) = v ∧ (IntsF F' a ((stepL ar rs t p r).getD [])) ∧ L = L') := by
 refine qH func111 rfl rfl rfl ?_
 have hnn := jO ht (by have := termOk_len ho; omega)
 have htl := termOk_len ho
 have hrl := (sysOk_iff.1 hsys).2.1
 have hsig := (sysOk_iff.1 hsys).1
 have hsl := sigOk_spec hsig
 have hR := ruleOk_iff.1 ((sysOk_iff.1 hsys).2.2 r hr)
 have hRl := hR.left
 have hRr := hR.right
 have hso := sub_ok ho hp
 have hsb := sub_length ho hp
 have hee := endN_spec ho hp
 have hRrl := termOk_len hRr
 have hRg := fun k (hk : k < (rs.getD r ([], [])).2.length) => termOk_ge hRr hk
 have hmp := matchP_len (ar := ar) (p := (rs.getD r ([], [])).1) (t := sub ar t p)
 have hmp2 := hmp.2
 have hmp3 := hmp.1
 refine qf (qc (cX (qZ [arv, rsv] rfl rfl ?_)))
 intro b1
 refine qi (sN) rfl (qi (.bool (false)) rfl (qd (qf (qc (cX (ql (1) qF rfl jz (by decide) rfl rfl (cX (qk ya rfl (Rd.own [] rfl rfl) (qh (ii ((r : Int))) rfl (cX (qD r jd jv rfl rfl rfl hrs.slv (by omega) rfl ?_)))))))))))
 obtain ⟨a1, a2, ha1, ha2, hr1, hr2⟩ := hrs.rd (i := r) (by omega)
 refine cX (qq [a1, a2] isAgg76 jv rfl rfl (Rd.two (hr1 _) (hr2 _)) (cX (ji [sN, sN] jn rfl ?_)))
 intro b2
 refine cX (qK [] _ [a1, a2] jv rfl rfl rfl (qx (qJ (qG ha1)) (qx (qJ (qG ha2)) qQ)) rfl rfl rfl (qd (qf ?_)))
 refine jM [cellsH b2 [a1, a2] 76, cellsH b1 [arv, rsv] 39] L 15 [[], [], [], [], [], [], [], [], [], [], [9], [9], [], [], [9, 13]] [[], [0], [], [2], [], [4], [], [], [5, 6, 7], [1, 3, 8], [9], [9, 10], [9, 10], [], [9, 11, 13]] [[], [], [], [], [], [], [], [], [], [], [], [], [], [], [13]] (phiG [pe (ptr b1 0), pe (.agg #[arv]), pe (ptr b2 0), pe a1, pe (ptr b1 0), pe (.agg #[arv]), pe tv, pe (ii ((p : Int)) : Value), fun FF us v => ((v) : Value) = v ∧ (IntsF FF (v) (sub ar t p)), fun FF us v => (.tuple #[.agg #[((aggAt (tupAt v 0) 0))], .bool ((matchB ar ((rs.getD r ([], [])).1) ((sub ar t p))).isSome)] : Value) = v ∧ (RowsF FF ((aggAt (tupAt v 0) 0)) (matchP ar ((rs.getD r ([], [])).1) ((sub ar t p)))), fun FF us v => v = (.tuple #[.agg #[((aggAt (tupAt (us.getD 0 undef) 0) 0))], .bool ((matchB ar ((rs.getD r ([], [])).1) ((sub ar t p))).isSome)] : Value), fun FF us v => v = (.agg #[((aggAt (tupAt (us.getD 0 undef) 0) 0))] : Value), pe (.bool ((matchB ar ((rs.getD r ([], [])).1) ((sub ar t p))).isSome)), fun FF us v => v = ptr (blk v) 0, fun FF us v => True]) (ownL [o0, o0, o0, o0, o0, o0, o0, o0, o0, o0, o0, o0, o0, fun us v => [cellsH (blk v) [sN] 115], fun us v => [cellsH (blk (us.getD 1 undef)) [((aggAt (tupAt (us.getD 0 undef) 0) 0))] 115]]) mixed rfl rfl (by kernel_rfl) (by kernel_rfl) (MonoG.get (m1 (m1 (m1 (m1 (m1 (m1 (m1 (m1 (mC (fun le h => ⟨h.1, h.2.mono le⟩) (mC (fun le h => ⟨h.1, h.2.mono le⟩) (mC (fun le h => h) (mC (fun le h => h) (m1 (mC (fun le h => h) (mC (fun le h => h) MonoG.nil)))))))))))))))) ?_ ?_
 ·refine gD (fun W Fs R lF z9 => ?_) ?_
  ·refine qj (ql (0) qF rfl qw (by decide) rfl rfl ?_)
   exact ⟨rfl, rfl⟩
  refine gD (fun W Fs R lF z9 => ?_) ?_
  ·replace har := har.mono lF
   replace ht := ht.mono lF
   replace ha1 := ha1.mono lF
   replace ha2 := ha2.mono lF
   rw [eS (l := [(0, _)]) ⟨z9 0 rfl, ⟨⟩⟩]
   refine qj (qq [arv] qI qw rfl rfl (Rd.ownN [_] rfl rfl) ?_)
   exact ⟨rfl, rfl⟩
  refine gD (fun W Fs R lF z9 => ?_) ?_
  ·refine qj (ql (0) ja rfl qv (by decide) rfl rfl ?_)
   exact ⟨rfl, rfl⟩
  refine gD (fun W Fs R lF z9 => ?_) ?_
  ·replace har := har.mono lF
   replace ht := ht.mono lF
   replace ha1 := ha1.mono lF
   replace ha2 := ha2.mono lF
   rw [eS (l := [(2, _)]) ⟨z9 2 rfl, ⟨⟩⟩]
   refine qj (qk qS rfl (Rd.own [] rfl rfl) ?_)
   exact ⟨rfl, rfl⟩
  refine gD (fun W Fs R lF z9 => ?_) ?_
  ·refine qj (ql (0) qF rfl qw (by decide) rfl rfl ?_)
   exact ⟨rfl, rfl⟩
  refine gD (fun W Fs R lF z9 => ?_) ?_
  ·replace har := har.mono lF
   replace ht := ht.mono lF
   replace ha1 := ha1.mono lF
   replace ha2 := ha2.mono lF
   rw [eS (l := [(4, _)]) ⟨z9 4 rfl, ⟨⟩⟩]
   refine qj (qq [arv] qI qw rfl rfl (Rd.ownN [_] rfl rfl) ?_)
   exact ⟨rfl, rfl⟩
  refine gD (fun W Fs R lF z9 => ?_) ?_
  ·refine qj (qt (tv) rfl ?_)
   exact ⟨rfl, rfl⟩
  refine gD (fun W Fs R lF z9 => ?_) ?_
  ·refine qj (qt (ii ((p : Int))) rfl ?_)
   exact ⟨rfl, rfl⟩
  refine gD (fun W Fs R lF z9 => ?_) ?_
  ·replace har := har.mono lF
   replace ht := ht.mono lF
   replace ha1 := ha1.mono lF
   replace ha2 := ha2.mono lF
   rw [eS (l := [(5, _), (6, _), (7, _)]) ⟨z9 5 rfl, z9 6 rfl, z9 7 rfl, ⟨⟩⟩]
   refine qj (jG <| qm (args := [.agg #[arv], tv, ii (p : Int)]) call209 rfl (l1Sub_spec (p := p) har ht (ho := (by first | assumption | rfl | omega | simp)) (hp := (by first | assumption | rfl | omega | simp))) ?_)
   rintro v2 _ _ _ ⟨rfl, hs2, rfl⟩
   refine ⟨_, _, rfl, fun F2 le2 hz1 => ?_⟩
   replace har := har.mono le2
   replace ht := ht.mono le2
   replace ha1 := ha1.mono le2
   replace ha2 := ha2.mono le2
   have hf1 : IntsF F2 v2 ((sub ar t p)) := intsH.fz (xs := (sub ar t p)) hz1.fz
   exact ⟨⟨rfl, hf1⟩, rfl⟩
  refine gD (fun W Fs R lF z9 => ?_) ?_
  ·obtain ⟨e8, f8_1ha⟩ := z9 8 rfl
   replace har := har.mono lF
   replace ht := ht.mono lF
   replace ha1 := ha1.mono lF
   replace ha2 := ha2.mono lF
   rw [eS (l := [(1, _), (3, _), (8, ((W 8)))]) ⟨z9 1 rfl, z9 3 rfl, (e8).symm, ⟨⟩⟩]
   refine qj (qm (args := [.agg #[arv], a1, ((W 8))]) call208 rfl (l4Match_spec har ha1 f8_1ha (ho := (by first | assumption | rfl | omega | simp)) (hpo := (by first | assumption | rfl | omega | simp))) ?_)
   rintro _ F3 _ le3 ⟨x2, rfl, hr4, rfl⟩
   replace har := har.mono le3
   replace ht := ht.mono le3
   replace ha2 := ha2.mono le3
   replace f8_1ha := f8_1ha.mono le3
   exact ⟨⟨rfl, hr4⟩, rfl⟩
  refine gD (fun W Fs R lF z9 => ?_) ?_
  ·obtain ⟨e9, f9_1hr⟩ := z9 9 rfl
   rw [eS (l := [(9, (.tuple #[.agg #[((aggAt (tupAt (W 9) 0) 0))], .bool ((matchB ar ((rs.getD r ([], [])).1) ((sub ar t p))).isSome)]))]) ⟨(e9).symm, ⟨⟩⟩]
   refine qj (qt (.tuple #[.agg #[((aggAt (tupAt (W 9) 0) 0))], .bool ((matchB ar ((rs.getD r ([], [])).1) ((sub ar t p))).isSome)]) rfl ?_)
   exact ⟨rfl, rfl⟩
  refine gD (fun W Fs R lF z9 => ?_) ?_
  ·obtain ⟨e9, f9_1hr⟩ := z9 9 rfl
   have e10 : W 10 = (.tuple #[.agg #[((aggAt (tupAt (W 9) 0) 0))], .bool ((matchB ar ((rs.getD r ([], [])).1) ((sub ar t p))).isSome)] : Value) := z9 10 rfl
   rw [eS (l := [(9, (.tuple #[.agg #[((aggAt (tupAt (W 9) 0) 0))], .bool ((matchB ar ((rs.getD r ([], [])).1) ((sub ar t p))).isSome)])), (10, (.tuple #[.agg #[((aggAt (tupAt (W 9) 0) 0))], .bool ((matchB ar ((rs.getD r ([], [])).1) ((sub ar t p))).isSome)]))]) ⟨(e9).symm, e10, ⟨⟩⟩]
   refine qj (qM (.agg #[((aggAt (tupAt (W 9) 0) 0))]) rfl rfl ?_)
   exact ⟨rfl, rfl⟩
  refine gD (fun W Fs R lF z9 => ?_) ?_
  ·obtain ⟨e9, f9_1hr⟩ := z9 9 rfl
   have e10 : W 10 = (.tuple #[.agg #[((aggAt (tupAt (W 9) 0) 0))], .bool ((matchB ar ((rs.getD r ([], [])).1) ((sub ar t p))).isSome)] : Value) := z9 10 rfl
   rw [eS (l := [(9, (.tuple #[.agg #[((aggAt (tupAt (W 9) 0) 0))], .bool ((matchB ar ((rs.getD r ([], [])).1) ((sub ar t p))).isSome)])), (10, (.tuple #[.agg #[((aggAt (tupAt (W 9) 0) 0))], .bool ((matchB ar ((rs.getD r ([], [])).1) ((sub ar t p))).isSome)]))]) ⟨(e9).symm, e10, ⟨⟩⟩]
   refine qj (qM (.bool ((matchB ar ((rs.getD r ([], [])).1) ((sub ar t p))).isSome)) rfl rfl ?_)
   exact ⟨rfl, rfl⟩
  refine gD (fun W Fs R lF z9 => ?_) ?_
  ·replace har := har.mono lF
   replace ht := ht.mono lF
   replace ha2 := ha2.mono lF
   refine qj (ji [sN] jF rfl ?_)
   intro b4
   exact ⟨rfl, rfl⟩
  refine gD (fun W Fs R lF z9 => ?_) ?_
  ·obtain ⟨e9, f9_1hr⟩ := z9 9 rfl
   have e11 : W 11 = (.agg #[((aggAt (tupAt (W 9) 0) 0))] : Value) := z9 11 rfl
   have e13 : W 13 = ptr (blk (W 13)) 0 := z9 13 rfl
   replace har := har.mono lF
   replace ht := ht.mono lF
   replace ha2 := ha2.mono lF
   rw [eS (l := [(9, (.tuple #[.agg #[((aggAt (tupAt (W 9) 0) 0))], .bool ((matchB ar ((rs.getD r ([], [])).1) ((sub ar t p))).isSome)])), (11, (.agg #[((aggAt (tupAt (W 9) 0) 0))])), (13, ptr (blk (W 13)) 0)]) ⟨(e9).symm, e11, e13, ⟨⟩⟩]
   show XG _ _ _ _ _ (cellsH (blk (W 13)) [sN] 115 :: ([cellsH b2 [a1, a2] 76, cellsH b1 [arv, rsv] 39] ++ R)) _
   refine qj (qK [] _ [((aggAt (tupAt (W 9) 0) 0))] js rfl rfl rfl (qx (qJ (RowsF.isSl f9_1hr)) qQ) rfl rfl rfl ?_)
   exact ⟨trivial, rfl⟩
  exact stepsG.nil
 intro W F4 le4 hphi
 obtain ⟨e8, f8_1ha⟩ := hphi 8 (by decide)
 obtain ⟨e9, f9_1hr⟩ := hphi 9 (by decide)
 have e10 : W 10 = (.tuple #[.agg #[((aggAt (tupAt (W 9) 0) 0))], .bool ((matchB ar ((rs.getD r ([], [])).1) ((sub ar t p))).isSome)] : Value) := hphi 10 (by decide)
 have e11 : W 11 = (.agg #[((aggAt (tupAt (W 9) 0) 0))] : Value) := hphi 11 (by decide)
 have e13 : W 13 = ptr (blk (W 13)) 0 := hphi 13 (by decide)
 generalize hu1 : ((W 8)) = u1 at e8 f8_1ha e9 f9_1hr e10 e11 e13
 generalize hu2 : ((aggAt (tupAt (W 9) 0) 0)) = u2 at e8 f8_1ha e9 f9_1hr e10 e11 e13
 generalize hu3 : blk (W 13) = b5 at e8 f8_1ha e9 f9_1hr e10 e11 e13
 rw [eS (l := [(9, (.tuple #[.agg #[u2], .bool ((matchB ar ((rs.getD r ([], [])).1) ((sub ar t p))).isSome)])), (12, _), (13, ptr b5 0)]) ⟨(e9).symm, (hphi 12 (by decide)), e13, ⟨⟩⟩]
 replace har := har.mono le4
 replace ht := ht.mono le4
 replace ha2 := ha2.mono le4
 show XL _ _ _ _ _ _ _ (cellsH b5 [u2] 115 :: cellsH b2 [a1, a2] 76 :: cellsH b1 [arv, rsv] 39 :: L)
 refine qi (.bool ((matchB ar ((rs.getD r ([], [])).1) ((sub ar t p))).isSome)) rfl (qd (qf (qf (qc (qh (.bool ((matchB ar ((rs.getD r ([], [])).1) ((sub ar t p))).isSome)) rfl (cX (jf rfl (qd ?_))))))))
 refine jw (t := !((matchB ar ((rs.getD r ([], [])).1) ((sub ar t p))).isSome)) rfl (fun h1 => ?_) (fun h1 => ?_)
 ·have hms : (matchB ar (rs.getD r ([], [])).1 (sub ar t p)).isSome = false := by simpa using h1
  refine qf (qc (cX (qz (s := 1) [] [ii (0)] [] qg qy qO rfl (by decide) rfl CellsAre.nil rfl ?_)))
  intro v3 hv1
  refine qi (v3) rfl (qi (.bool (false)) rfl (qd ?_))
  show X _ _ _ _ _ _ (intsH 2 v3 ([] : List Int) :: cellsH b5 [u2] 115 :: cellsH b2 [a1, a2] 76 :: cellsH b1 [arv, rsv] 39 :: L)
  refine qT [] _ _ rfl (fun F5 le5 hz2 => ?_)
  replace har := har.mono le5
  replace ht := ht.mono le5
  replace ha2 := ha2.mono le5
  replace f9_1hr := f9_1hr.mono le5
  have hf2 : IntsF F5 v3 ([]) := intsH.fz (xs := []) hz2.fz
  refine qu (qo (qs (L' := L) [v3, .bool (false)] (.tuple #[v3, .bool (false)]) (.tmp rfl (.tmp rfl .nil)) rfl (qn le4 le5) rF (sD (sD (sD sR))) ?_))
  have hz := stepL_nomatch hms
  exact ⟨_, by rw [hz]; rfl, by rw [hz]; exact hf2, rfl⟩
 have hms : (matchB ar (rs.getD r ([], [])).1 (sub ar t p)).isSome = true := by simpa using h1
 refine qA (qf (qc (cX (qq [u2] jR js rfl rfl (Rd.ownN [] rfl rfl) (cX (ql (1) ja rfl qv (by decide) rfl rfl (cX (qk qS rfl (Rd.own [_] rfl rfl) (cX (qm (args := [.agg #[u2], a2]) call210 rfl (l2Filled_spec f9_1hr ha2 (hsl := (by first | assumption | rfl | omega | simp)) (hsb := (fun i => by have := hmp2 i; omega)) (htl := (by first | assumption | rfl | omega | simp)) (htg := (fun k hk => by have := hRg k hk; omega))) ?_))))))))))
 rintro _ F6 _ le6 ⟨x3, rfl, hr5, rfl⟩
 replace har := har.mono le6
 replace ht := ht.mono le6
 refine qh (.tuple #[x3, .bool ((fillL (matchP ar ((rs.getD r ([], [])).1) ((sub ar t p))) ((rs.getD r ([], [])).2)).isSome)]) rfl (cX (qM (x3) rfl rfl (cX (qM (.bool ((fillL (matchP ar ((rs.getD r ([], [])).1) ((sub ar t p))) ((rs.getD r ([], [])).2)).isSome)) rfl rfl (qi (x3) rfl (qi (.bool ((fillL (matchP ar ((rs.getD r ([], [])).1) ((sub ar t p))) ((rs.getD r ([], [])).2)).isSome)) rfl (qd (qf (qf (qc (qh (.bool ((fillL (matchP ar ((rs.getD r ([], [])).1) ((sub ar t p))) ((rs.getD r ([], [])).2)).isSome)) rfl (cX (jf rfl (qd ?_))))))))))))))
 refine jw (t := !((fillL (matchP ar ((rs.getD r ([], [])).1) ((sub ar t p))) ((rs.getD r ([], [])).2)).isSome)) rfl (fun h2 => ?_) (fun h2 => ?_)
 ·have hfs : (fillL (matchP ar (rs.getD r ([], [])).1 (sub ar t p)) (rs.getD r ([], [])).2).isSome = false := by simpa using h2
  refine qf (qc (cX (qz (s := 1) [] [ii (0)] [] qg qy qO rfl (by decide) rfl CellsAre.nil rfl ?_)))
  intro v4 hv2
  refine qi (v4) rfl (qi (.bool (false)) rfl (qd ?_))
  show X _ _ _ _ _ _ (intsH 2 v4 ([] : List Int) :: cellsH b5 [u2] 115 :: cellsH b2 [a1, a2] 76 :: cellsH b1 [arv, rsv] 39 :: L)
  refine qT [] _ _ rfl (fun F7 le7 hz3 => ?_)
  replace har := har.mono le7
  replace ht := ht.mono le7
  replace hr5 := hr5.mono le7
  have hf3 : IntsF F7 v4 ([]) := intsH.fz (xs := []) hz3.fz
  refine qu (qo (qs (L' := L) [v4, .bool (false)] (.tuple #[v4, .bool (false)]) (.tmp rfl (.tmp rfl .nil)) rfl (qn (qn le4 le6) le7) rF (sD (sD (sD sR))) ?_))
  have hz := stepL_nofill hms hfs
  exact ⟨_, by rw [hz]; rfl, by rw [hz]; exact hf3, rfl⟩
 have hfs : (fillL (matchP ar (rs.getD r ([], [])).1 (sub ar t p)) (rs.getD r ([], [])).2).isSome = true := by simpa using h2
 have hfl := fill_getD_len hfs (by omega)
 refine qA (qf (qc (cX (ql (0) qF rfl qw (by decide) rfl rfl (cX (qq [arv] qI qw rfl rfl (Rd.ownN [_, _] rfl rfl) (qh (tv) rfl (qh (ii ((p : Int))) rfl (qh (x3) rfl (cX (qm (args := [.agg #[arv], tv, ii (p : Int), x3]) call211 rfl (l3Put_spec (p := p) har ht hr5 (ho := (by first | assumption | rfl | omega | simp)) (hp := (by first | assumption | rfl | omega | simp)) (hul := (by first | assumption | rfl | omega | simp))) ?_)))))))))))
 rintro _ F8 _ le8 ⟨x4, rfl, hr6, rfl⟩
 refine cX (qM (x4) rfl rfl (cX (qM (.bool ((putL ar t p ((fillL (matchP ar ((rs.getD r ([], [])).1) ((sub ar t p))) ((rs.getD r ([], [])).2)).getD [])).isSome)) rfl rfl (qi (x4) rfl (qi (.bool ((putL ar t p ((fillL (matchP ar ((rs.getD r ([], [])).1) ((sub ar t p))) ((rs.getD r ([], [])).2)).getD [])).isSome)) rfl (qd (qu (qs (L' := L) [x4, .bool ((putL ar t p ((fillL (matchP ar ((rs.getD r ([], [])).1) ((sub ar t p))) ((rs.getD r ([], [])).2)).getD [])).isSome)] (.tuple #[x4, .bool ((putL ar t p ((fillL (matchP ar ((rs.getD r ([], [])).1) ((sub ar t p))) ((rs.getD r ([], [])).2)).getD [])).isSome)]) (.tmp rfl (.tmp rfl .nil)) rfl (qn (qn le4 le6) le8) rF (sD (sD (sD sR))) ?_))))))))
 have hz := stepL_put hms hfs
 exact ⟨_, by rw [hz], by rw [hz]; exact hr6, rfl⟩
end Go.Proofs.YtenomejgjcpbdaaGreat
set_option linter.unusedSimpArgs false
set_option linter.unusedVariables false
namespace Go.Proofs.YtenomejgjcpbdaaGreat
open Go X M Tryz
end Go.Proofs.YtenomejgjcpbdaaGreat
set_option linter.unusedSimpArgs false
set_option linter.unusedVariables false
namespace Go.Proofs.YtenomejgjcpbdaaGreat
open Go X M Tryz

/- spec.l7Redexes -/
theorem l7Redexes_spec {F : FH} {L : List HP} {arv : Value} {ar : List Int} (har : IntsF F arv ar) {rsv : Value} {rs : List (List Int × List Int)} (hrs : PairsF F rsv rs) {tv : Value} {t : List Int} (ht : IntsF F tv t) (hsys : sysOk ar rs = true) (ho : termOk ar t = true) :
    Does prog 220 [.agg #[arv, rsv], tv] F (L) (fun v F' L' => (ii (((cntP ar rs t t.length : Nat) : Int)) : Value) = v ∧ F = F' ∧ L = L') := by
 refine qH func220 rfl rfl rfl ?_
 have hnn := jO ht (by have := termOk_len ho; omega)
 have htl := termOk_len ho
 have hrl := (sysOk_iff.1 hsys).2.1
 have hsig := (sysOk_iff.1 hsys).1
 have hsl := sigOk_spec hsig
 refine qf (qc (cX (qZ [arv, rsv] rfl rfl ?_)))
 intro b1
 refine qi (ii (0)) rfl (qd (qf (qc (qi (ii (0)) rfl (qd (qf (qf (qc (qi (ii (0)) rfl (qd (qR (jy (α := Nat) (fun k => [(1, tv), (2, ptr b1 0), (5, ii (((cntP ar rs t k : Nat) : Int))), (6, ii ((k : Int)))]) (fun k => cellsH b1 [arv, rsv] 39 :: L) (fun k F' => F = F' ∧ (k ≤ t.length)) (fun k => t.length - k) 0 ⟨rfl, rfl, rfl, rfl, ⟨⟩⟩ (sC sR) ⟨rfl, (by (try dsimp only) <;> omega)⟩ ?_))))))))))))
 rintro k rE _ _ ⟨rfl, hk⟩
 show X _ _ _ _ (envs [(1, tv), (2, ptr b1 0), (5, ii (((cntP ar rs t k : Nat) : Int))), (6, ii ((k : Int)))] rE) _ (cellsH b1 [arv, rsv] 39 :: L)
 have hcp := cntP_le (ar := ar) (rs := rs) (t := t) hrl k
 refine qf (qf (qc (qh (ii ((k : Int))) rfl (qh (tv) rfl (cX (qE qg rfl ht.slv (cX (jh rfl rfl (qd ?_)))))))))
 refine qC (p := (k : Int) < (t.length : Int)) rfl (fun h1 => ?_) (fun h1 => ?_)
 ·refine qA (qf (qR (qf (qc (qi (ii (0)) rfl (qd (qR (jy (α := Nat) (fun j => [(1, tv), (2, ptr b1 0), (5, ii (((cntP ar rs t k + cntR ar rs t k j : Nat) : Int))), (6, ii ((k : Int))), (7, ii ((j : Int)))]) (fun j => cellsH b1 [arv, rsv] 39 :: L) (fun j F' => F = F' ∧ (j ≤ rs.length)) (fun j => rs.length - j) 0 ⟨rfl, rfl, rfl, rfl, rfl, ⟨⟩⟩ (sC sR) ⟨rfl, (by (try dsimp only) <;> omega)⟩ ?_))))))))
  rintro j rE _ _ ⟨rfl, hj⟩
  show X _ _ _ _ (envs [(1, tv), (2, ptr b1 0), (5, ii (((cntP ar rs t k + cntR ar rs t k j : Nat) : Int))), (6, ii ((k : Int))), (7, ii ((j : Int)))] rE) _ (cellsH b1 [arv, rsv] 39 :: L)
  have hcr := cntR_le (ar := ar) (rs := rs) (t := t) (p := k) (k := j)
  refine qf (qf (qc (qh (ii ((j : Int))) rfl (cX (ql (1) qF rfl jz (by decide) rfl rfl (cX (qk ya rfl (Rd.own [] rfl rfl) (cX (qE jd rfl hrs.slv (cX (jh rfl rfl (qd ?_))))))))))))
  refine qC (p := (j : Int) < (rs.length : Int)) rfl (fun h2 => ?_) (fun h2 => ?_)
  ·refine qA (qf (qR (qf ?_)))
   obtain ⟨a1, a2, ha1, ha2, hr1, hr2⟩ := hrs.rd (i := j) (by omega)
   refine jM [cellsH b1 [arv, rsv] 39] L 19 [[], [], [], [], [], [], [], [], [], [], [], [], [], [], [13], [13], [], [], [13, 17]] [[], [0], [], [2], [], [3, 4], [5], [6], [], [8], [], [], [9, 10, 11], [1, 7, 12], [13], [13, 14], [13, 14], [], [13, 15, 17]] [[], [], [], [], [], [], [], [], [], [], [], [], [], [], [], [], [], [], [17]] (phiG [pe (ptr b1 0), pe (.agg #[arv]), pe (ptr b1 1), pe rsv, pe (ii ((j : Int)) : Value), pe (.pointer (some (elemA rsv (j * 2)))), pe (.pointer (some (elemA rsv (j * 2)))), pe a1, pe (ptr b1 0), pe (.agg #[arv]), pe tv, pe (ii ((k : Int)) : Value), fun FF us v => ((v) : Value) = v ∧ (IntsF FF (v) (sub ar t k)), fun FF us v => (.tuple #[.agg #[((aggAt (tupAt v 0) 0))], .bool ((matchB ar ((rs.getD j ([], [])).1) ((sub ar t k))).isSome)] : Value) = v ∧ (RowsF FF ((aggAt (tupAt v 0) 0)) (matchP ar ((rs.getD j ([], [])).1) ((sub ar t k)))), fun FF us v => v = (.tuple #[.agg #[((aggAt (tupAt (us.getD 0 undef) 0) 0))], .bool ((matchB ar ((rs.getD j ([], [])).1) ((sub ar t k))).isSome)] : Value), fun FF us v => v = (.agg #[((aggAt (tupAt (us.getD 0 undef) 0) 0))] : Value), pe (.bool ((matchB ar ((rs.getD j ([], [])).1) ((sub ar t k))).isSome)), fun FF us v => v = ptr (blk v) 0, fun FF us v => True]) (ownL [o0, o0, o0, o0, o0, o0, o0, o0, o0, o0, o0, o0, o0, o0, o0, o0, o0, fun us v => [cellsH (blk v) [sN] 115], fun us v => [cellsH (blk (us.getD 1 undef)) [((aggAt (tupAt (us.getD 0 undef) 0) 0))] 115]]) mixed rfl rfl (by kernel_rfl) (by kernel_rfl) (MonoG.get (m1 (m1 (m1 (m1 (m1 (m1 (m1 (m1 (m1 (m1 (m1 (m1 (mC (fun le h => ⟨h.1, h.2.mono le⟩) (mC (fun le h => ⟨h.1, h.2.mono le⟩) (mC (fun le h => h) (mC (fun le h => h) (m1 (mC (fun le h => h) (mC (fun le h => h) MonoG.nil)))))))))))))))))))) ?_ ?_
   ·refine gD (fun W Fs R lF z9 => ?_) ?_
    ·refine qj (ql (0) qF rfl qw (by decide) rfl rfl ?_)
     exact ⟨rfl, rfl⟩
    refine gD (fun W Fs R lF z9 => ?_) ?_
    ·replace har := har.mono lF
     replace hrs := hrs.mono lF
     replace ht := ht.mono lF
     replace ha1 := ha1.mono lF
     replace hr1 := Rd.monoA hr1 lF
     rw [eS (l := [(0, _)]) ⟨z9 0 rfl, ⟨⟩⟩]
     refine qj (qq [arv] qI qw rfl rfl (Rd.ownN [] rfl rfl) ?_)
     exact ⟨rfl, rfl⟩
    refine gD (fun W Fs R lF z9 => ?_) ?_
    ·refine qj (ql (1) qF rfl jz (by decide) rfl rfl ?_)
     exact ⟨rfl, rfl⟩
    refine gD (fun W Fs R lF z9 => ?_) ?_
    ·replace har := har.mono lF
     replace hrs := hrs.mono lF
     replace ht := ht.mono lF
     replace ha1 := ha1.mono lF
     replace hr1 := Rd.monoA hr1 lF
     rw [eS (l := [(2, _)]) ⟨z9 2 rfl, ⟨⟩⟩]
     refine qj (qk ya rfl (Rd.own [] rfl rfl) ?_)
     exact ⟨rfl, rfl⟩
    refine gD (fun W Fs R lF z9 => ?_) ?_
    ·refine qj (qt (ii ((j : Int))) rfl ?_)
     exact ⟨rfl, rfl⟩
    refine gD (fun W Fs R lF z9 => ?_) ?_
    ·replace har := har.mono lF
     replace hrs := hrs.mono lF
     replace ht := ht.mono lF
     replace ha1 := ha1.mono lF
     replace hr1 := Rd.monoA hr1 lF
     rw [eS (l := [(3, _), (4, _)]) ⟨z9 3 rfl, z9 4 rfl, ⟨⟩⟩]
     refine qj (qD j jd jv rfl rfl rfl hrs.slv (by omega) rfl ?_)
     exact ⟨rfl, rfl⟩
    refine gD (fun W Fs R lF z9 => ?_) ?_
    ·rw [eS (l := [(5, _)]) ⟨z9 5 rfl, ⟨⟩⟩]
     refine qj (jT (j * 2) ja rfl qv (by decide) rfl rfl ?_)
     exact ⟨rfl, rfl⟩
    refine gD (fun W Fs R lF z9 => ?_) ?_
    ·replace har := har.mono lF
     replace ht := ht.mono lF
     replace ha1 := ha1.mono lF
     replace hr1 := Rd.monoA hr1 lF
     rw [eS (l := [(6, _)]) ⟨z9 6 rfl, ⟨⟩⟩]
     refine qj (qk qS rfl (hr1 _) ?_)
     exact ⟨rfl, rfl⟩
    refine gD (fun W Fs R lF z9 => ?_) ?_
    ·refine qj (ql (0) qF rfl qw (by decide) rfl rfl ?_)
     exact ⟨rfl, rfl⟩
    refine gD (fun W Fs R lF z9 => ?_) ?_
    ·replace har := har.mono lF
     replace ht := ht.mono lF
     replace ha1 := ha1.mono lF
     rw [eS (l := [(8, _)]) ⟨z9 8 rfl, ⟨⟩⟩]
     refine qj (qq [arv] qI qw rfl rfl (Rd.ownN [] rfl rfl) ?_)
     exact ⟨rfl, rfl⟩
    refine gD (fun W Fs R lF z9 => ?_) ?_
    ·refine qj (qt (tv) rfl ?_)
     exact ⟨rfl, rfl⟩
    refine gD (fun W Fs R lF z9 => ?_) ?_
    ·refine qj (qt (ii ((k : Int))) rfl ?_)
     exact ⟨rfl, rfl⟩
    refine gD (fun W Fs R lF z9 => ?_) ?_
    ·replace har := har.mono lF
     replace ht := ht.mono lF
     replace ha1 := ha1.mono lF
     rw [eS (l := [(9, _), (10, _), (11, _)]) ⟨z9 9 rfl, z9 10 rfl, z9 11 rfl, ⟨⟩⟩]
     refine qj (jG <| qm (args := [.agg #[arv], tv, ii (k : Int)]) call209 rfl (l1Sub_spec (p := k) har ht (ho := (by first | assumption | rfl | omega | simp)) (hp := (by first | assumption | rfl | omega | simp))) ?_)
     rintro v2 _ _ _ ⟨rfl, hs2, rfl⟩
     refine ⟨_, _, rfl, fun F2 le2 hz1 => ?_⟩
     replace har := har.mono le2
     replace ha1 := ha1.mono le2
     have hf1 : IntsF F2 v2 ((sub ar t k)) := intsH.fz (xs := (sub ar t k)) hz1.fz
     exact ⟨⟨rfl, hf1⟩, rfl⟩
    refine gD (fun W Fs R lF z9 => ?_) ?_
    ·obtain ⟨e12, f12_1ha⟩ := z9 12 rfl
     replace har := har.mono lF
     replace ha1 := ha1.mono lF
     rw [eS (l := [(1, _), (7, _), (12, ((W 12)))]) ⟨z9 1 rfl, z9 7 rfl, (e12).symm, ⟨⟩⟩]
     refine qj (qm (args := [.agg #[arv], a1, ((W 12))]) call208 rfl (l4Match_spec har ha1 f12_1ha (ho := (sub_ok ho (by omega))) (hpo := ((ruleOk_iff.1 ((sysOk_iff.1 hsys).2.2 j (by omega))).left))) ?_)
     rintro _ F3 _ le3 ⟨x2, rfl, hr4, rfl⟩
     replace har := har.mono le3
     replace f12_1ha := f12_1ha.mono le3
     exact ⟨⟨rfl, hr4⟩, rfl⟩
    refine gD (fun W Fs R lF z9 => ?_) ?_
    ·obtain ⟨e13, f13_1hr⟩ := z9 13 rfl
     rw [eS (l := [(13, (.tuple #[.agg #[((aggAt (tupAt (W 13) 0) 0))], .bool ((matchB ar ((rs.getD j ([], [])).1) ((sub ar t k))).isSome)]))]) ⟨(e13).symm, ⟨⟩⟩]
     refine qj (qt (.tuple #[.agg #[((aggAt (tupAt (W 13) 0) 0))], .bool ((matchB ar ((rs.getD j ([], [])).1) ((sub ar t k))).isSome)]) rfl ?_)
     exact ⟨rfl, rfl⟩
    refine gD (fun W Fs R lF z9 => ?_) ?_
    ·obtain ⟨e13, f13_1hr⟩ := z9 13 rfl
     have e14 : W 14 = (.tuple #[.agg #[((aggAt (tupAt (W 13) 0) 0))], .bool ((matchB ar ((rs.getD j ([], [])).1) ((sub ar t k))).isSome)] : Value) := z9 14 rfl
     rw [eS (l := [(13, (.tuple #[.agg #[((aggAt (tupAt (W 13) 0) 0))], .bool ((matchB ar ((rs.getD j ([], [])).1) ((sub ar t k))).isSome)])), (14, (.tuple #[.agg #[((aggAt (tupAt (W 13) 0) 0))], .bool ((matchB ar ((rs.getD j ([], [])).1) ((sub ar t k))).isSome)]))]) ⟨(e13).symm, e14, ⟨⟩⟩]
     refine qj (qM (.agg #[((aggAt (tupAt (W 13) 0) 0))]) rfl rfl ?_)
     exact ⟨rfl, rfl⟩
    refine gD (fun W Fs R lF z9 => ?_) ?_
    ·obtain ⟨e13, f13_1hr⟩ := z9 13 rfl
     have e14 : W 14 = (.tuple #[.agg #[((aggAt (tupAt (W 13) 0) 0))], .bool ((matchB ar ((rs.getD j ([], [])).1) ((sub ar t k))).isSome)] : Value) := z9 14 rfl
     rw [eS (l := [(13, (.tuple #[.agg #[((aggAt (tupAt (W 13) 0) 0))], .bool ((matchB ar ((rs.getD j ([], [])).1) ((sub ar t k))).isSome)])), (14, (.tuple #[.agg #[((aggAt (tupAt (W 13) 0) 0))], .bool ((matchB ar ((rs.getD j ([], [])).1) ((sub ar t k))).isSome)]))]) ⟨(e13).symm, e14, ⟨⟩⟩]
     refine qj (qM (.bool ((matchB ar ((rs.getD j ([], [])).1) ((sub ar t k))).isSome)) rfl rfl ?_)
     exact ⟨rfl, rfl⟩
    refine gD (fun W Fs R lF z9 => ?_) ?_
    ·replace har := har.mono lF
     refine qj (ji [sN] jF rfl ?_)
     intro b3
     exact ⟨rfl, rfl⟩
    refine gD (fun W Fs R lF z9 => ?_) ?_
    ·obtain ⟨e13, f13_1hr⟩ := z9 13 rfl
     have e15 : W 15 = (.agg #[((aggAt (tupAt (W 13) 0) 0))] : Value) := z9 15 rfl
     have e17 : W 17 = ptr (blk (W 17)) 0 := z9 17 rfl
     rw [eS (l := [(13, (.tuple #[.agg #[((aggAt (tupAt (W 13) 0) 0))], .bool ((matchB ar ((rs.getD j ([], [])).1) ((sub ar t k))).isSome)])), (15, (.agg #[((aggAt (tupAt (W 13) 0) 0))])), (17, ptr (blk (W 17)) 0)]) ⟨(e13).symm, e15, e17, ⟨⟩⟩]
     show XG _ _ _ _ _ (cellsH (blk (W 17)) [sN] 115 :: ([cellsH b1 [arv, rsv] 39] ++ R)) _
     refine qj (qK [] _ [((aggAt (tupAt (W 13) 0) 0))] js rfl rfl rfl (qx (qJ (RowsF.isSl f13_1hr)) qQ) rfl rfl rfl ?_)
     exact ⟨trivial, rfl⟩
    exact stepsG.nil
   intro W F4 le4 hphi
   obtain ⟨e12, f12_1ha⟩ := hphi 12 (by decide)
   obtain ⟨e13, f13_1hr⟩ := hphi 13 (by decide)
   have e14 : W 14 = (.tuple #[.agg #[((aggAt (tupAt (W 13) 0) 0))], .bool ((matchB ar ((rs.getD j ([], [])).1) ((sub ar t k))).isSome)] : Value) := hphi 14 (by decide)
   have e15 : W 15 = (.agg #[((aggAt (tupAt (W 13) 0) 0))] : Value) := hphi 15 (by decide)
   have e17 : W 17 = ptr (blk (W 17)) 0 := hphi 17 (by decide)
   generalize hu1 : ((W 12)) = u1 at e12 f12_1ha e13 f13_1hr e14 e15 e17
   generalize hu2 : ((aggAt (tupAt (W 13) 0) 0)) = u2 at e12 f12_1ha e13 f13_1hr e14 e15 e17
   generalize hu3 : blk (W 17) = b4 at e12 f12_1ha e13 f13_1hr e14 e15 e17
   rw [eS (l := [(13, (.tuple #[.agg #[u2], .bool ((matchB ar ((rs.getD j ([], [])).1) ((sub ar t k))).isSome)])), (16, _), (17, ptr b4 0)]) ⟨(e13).symm, (hphi 16 (by decide)), e17, ⟨⟩⟩]
   show XL _ _ _ _ _ _ _ (cellsH b4 [u2] 115 :: cellsH b1 [arv, rsv] 39 :: L)
   refine qi (.bool ((matchB ar ((rs.getD j ([], [])).1) ((sub ar t k))).isSome)) rfl (qd (qf (qc (qh (.bool ((matchB ar ((rs.getD j ([], [])).1) ((sub ar t k))).isSome)) rfl (qd ?_)))))
   refine jw (t := (matchB ar ((rs.getD j ([], [])).1) ((sub ar t k))).isSome) rfl (fun h3 => ?_) (fun h3 => ?_)
   ·refine qc (qh (ii (((cntP ar rs t k + cntR ar rs t k j : Nat) : Int))) rfl (cX (qU ((((cntP ar rs t k + cntR ar rs t k j) + 1 : Nat) : Int)) rfl rfl (by omega) (by omega) (qi (ii ((((cntP ar rs t k + cntR ar rs t k j) + 1 : Nat) : Int))) rfl (qd (qc (qh (ii ((j : Int))) rfl (cX (qU (((j + 1 : Nat) : Int)) rfl rfl (by omega) (by omega) (qi (ii (((j + 1 : Nat) : Int))) rfl (qd ?_)))))))))))
    exact ⟨j + 1, _, FLe.refl _, le4, ⟨rfl, rfl, (congrArg (fun z : Nat => Value.int .i64 (z : Int)) (by first | exact cntR_yes (by unfold isRedex; assumption) | exact cntR_no (by unfold isRedex; assumption))), rfl, rfl, ⟨⟩⟩, (sD (sC sR)), ⟨rfl, (by omega)⟩, (by omega)⟩
   refine qA (qc (qh (ii ((j : Int))) rfl (cX (qU (((j + 1 : Nat) : Int)) rfl rfl (by omega) (by omega) (qi (ii (((j + 1 : Nat) : Int))) rfl (qd ?_))))))
   exact ⟨j + 1, _, FLe.refl _, le4, ⟨rfl, rfl, (congrArg (fun z : Nat => Value.int .i64 (z : Int)) (by first | exact cntR_yes (by unfold isRedex; assumption) | exact cntR_no (by unfold isRedex; assumption))), rfl, rfl, ⟨⟩⟩, (sD (sC sR)), ⟨rfl, (by omega)⟩, (by omega)⟩
  refine jo (qB (qB (qW (qc (qh (ii ((k : Int))) rfl (cX (qU (((k + 1 : Nat) : Int)) rfl rfl (by omega) (by omega) (qi (ii (((k + 1 : Nat) : Int))) rfl (qd ?_)))))))))
  exact ⟨k + 1, _, FLe.refl _, rF, ⟨rfl, rfl, (congrArg (fun z : Nat => Value.int .i64 (z : Int)) (cntP_succ (by omega))), rfl, ⟨⟩⟩, (sC sR), ⟨rfl, (by omega)⟩, (by omega)⟩
 refine jo (qB (qB (qW (qf (qc (qh (ii (((cntP ar rs t k : Nat) : Int))) rfl (qi (ii (((cntP ar rs t k : Nat) : Int))) rfl (qd (qu (qs (L' := L) [ii (((cntP ar rs t k : Nat) : Int))] (ii (((cntP ar rs t k : Nat) : Int))) (.tmp rfl .nil) rfl rF rF (sD sR) ?_))))))))))
 exact ⟨(vI (by rw [show k = t.length from by omega])), rfl, rfl⟩

/- spec.NormalIn -/
theorem sNormalIn_spec {F : FH} {L : List HP} {arv : Value} {ar : List Int} (har : IntsF F arv ar) {rsv : Value} {rs : List (List Int × List Int)} (hrs : PairsF F rsv rs) {tv : Value} {t : List Int} (ht : IntsF F tv t) (hla : ar.length ≤ 4000000) (hlr : rs.length ≤ 4000000) (hrb : ∀ i, i < rs.length → (rs.getD i ([], [])).1.length ≤ 4000000 ∧ (rs.getD i ([], [])).2.length ≤ 4000000) (hlt : t.length ≤ 4000000) :
    Does prog 125 [.agg #[arv, rsv], tv] F (L) (fun v F' L' => (.bool ((rightB ar rs t && normalL ar rs t)) : Value) = v ∧ F = F' ∧ L = L') := by
 refine qH func125 rfl rfl rfl (qf (qc (cX (qZ [arv, rsv] rfl rfl ?_))))
 intro b1
 refine qi (.bool (false)) rfl (qd (qf (qc (cX (qq [arv, rsv] jj qX rfl rfl (Rd.ownN [] rfl rfl) (qh (tv) rfl (cX (qm (args := [.agg #[arv, rsv], tv]) call108 rfl (l7Right_spec har hrs ht (hla := (by first | assumption | rfl | omega | simp)) (hlr := (by first | assumption | rfl | omega | simp)) (hrb := (by first | assumption | rfl | omega | simp)) (hlt := (by first | assumption | rfl | omega | simp))) ?_))))))))
 rintro _ _ _ _ ⟨rfl, rfl, rfl⟩
 refine qh (.bool (rightB ar rs t)) rfl ?_
 by_cases h1 : (rightB ar rs t) = true
 ·have hsys := (right_iff.1 h1).1
  have ho := (right_iff.1 h1).2
  refine qr (t := 8) rfl (vB h1) (qq [arv, rsv] jj qX rfl rfl (Rd.ownN [] rfl rfl) (qr (t := 8) rfl (vB h1) (qt (tv) rfl (qr (t := 8) rfl (vB h1) (qm (args := [.agg #[arv, rsv], tv]) call220 rfl (l7Redexes_spec har hrs ht (hsys := (by first | assumption | rfl | omega | simp)) (ho := (by first | assumption | rfl | omega | simp))) ?_)))))
  rintro _ _ _ _ ⟨rfl, rfl, rfl⟩
  refine qr (t := 8) rfl (vB h1) (jB rfl rfl (cX (qP (.bool (decide ((((cntP ar rs t t.length : Nat) : Int) : Int) = 0))) (vB h1) rfl (qi (.bool (decide ((((cntP ar rs t t.length : Nat) : Int) : Int) = 0))) rfl (qd (qu (qs (L' := L) [.bool (decide ((((cntP ar rs t t.length : Nat) : Int) : Int) = 0))] (.bool (decide ((((cntP ar rs t t.length : Nat) : Int) : Int) = 0))) (.tmp rfl .nil) rfl rF rF (sD sR) ?_)))))))
  exact ⟨(vB (by rw [normal_cnt]; simp_all)), rfl, rfl⟩
 rw [Bool.not_eq_true] at h1
 refine qp (t := 8) rfl (vB h1) (qp (t := 8) rfl (vB h1) (qp (t := 8) rfl (vB h1) (qp (t := 8) rfl (vB h1) (cX (qN (.bool (false)) (vB h1) rfl (qi (.bool (false)) rfl (qd (qu (qs (L' := L) [.bool (false)] (.bool (false)) (.tmp rfl .nil) rfl rF rF (sD sR) ?_)))))))))
 exact ⟨(vB (by simp_all)), rfl, rfl⟩

/- spec.WalkBy -/
theorem sWalkBy_spec {F : FH} {L : List HP} {arv : Value} {ar : List Int} (har : IntsF F arv ar) {rsv : Value} {rs : List (List Int × List Int)} (hrs : PairsF F rsv rs) {tv : Value} {t : List Int} (ht : IntsF F tv t) {st : Int} {n : Int} (hla : ar.length ≤ 4000000) (hlr : rs.length ≤ 4000000) (hrb : ∀ i, i < rs.length → (rs.getD i ([], [])).1.length ≤ 4000000 ∧ (rs.getD i ([], [])).2.length ≤ 4000000) (hlt : t.length ≤ 4000000) :
    Does prog 228 [.agg #[arv, rsv], tv, ii (st), ii (n)] F (L) (fun v F' L' => ∃ (a : Value), ∃ (b : Value), (.tuple #[.agg #[a, b], .bool ((walkB ar rs t st n).2.2)] : Value) = v ∧ (IntsF F' a (walkB ar rs t st n).1) ∧ (StepsF F' b (walkB ar rs t st n).2.1) ∧ L = L') := by
 refine qH func228 rfl rfl rfl (qf (qc (cX (qZ [arv, rsv] rfl rfl ?_))))
 intro b1
 refine cX (ji [sN, sN] yg rfl ?_)
 intro b2
 refine qi (.bool (false)) rfl (qd (qf (qf (qc (cX (qq [arv, rsv] jj qX rfl rfl (Rd.ownN [_] rfl rfl) (qh (tv) rfl (qh (ii (st)) rfl (cX (qm (args := [.agg #[arv, rsv], tv, ii (st)]) call296 rfl (l8Right_spec (st := st) har hrs ht (hla := (by first | assumption | rfl | omega | simp)) (hlr := (by first | assumption | rfl | omega | simp)) (hrb := (by first | assumption | rfl | omega | simp)) (hlt := (by first | assumption | rfl | omega | simp))) ?_))))))))))
 rintro _ _ _ _ ⟨rfl, rfl, rfl⟩
 refine cX (jf rfl (qh (.bool (!((rightB ar rs t && decide (1 ≤ st ∧ st ≤ 3))))) rfl ?_))
 by_cases h1 : (!((rightB ar rs t && decide (1 ≤ st ∧ st ≤ 3)))) = true
 ·refine qp (t := 22) rfl (vB h1) (qp (t := 22) rfl (vB h1) (qp (t := 22) rfl (vB h1) (cX (qP (.bool (true)) (vB h1) rfl (qd (jC rfl (qf (qc (cX (jk [sN, sN] [sN, sN] [(0, 1), (1, 1)] [] jg yg rfl (.cons rfl qv (.cons rfl jK PlacesAre.nil)) rfl CellsAre.nil (cX (qK [] _ [sN, sN] jq rfl rfl rfl (qx rfl (qx rfl qQ)) rfl rfl rfl (qi (.bool (false)) rfl ?_)))))))))))))
  refine qd (qu (qo (qs (L' := L) [.agg #[sN, sN], .bool (false)] (.tuple #[.agg #[sN, sN], .bool (false)]) (.cell rfl (jt [sN, sN] jN jq rfl (Rd.ownN [] rfl rfl)) (.tmp rfl .nil)) rfl rF rF (sD (sD sR)) ?_)))
  have hw : walkB ar rs t st n = ([], [], false) := walkB_no (by rw [wOk]; cases hx : (rightB ar rs t && decide (1 ≤ st ∧ st ≤ 3)) <;> simp_all <;> (intros; omega))
  exact ⟨_, _, by rw [hw], by rw [hw]; exact IntsF.nilV, by rw [hw]; exact SlOf.nilV, rfl⟩
 rw [Bool.not_eq_true] at h1
 have hri : rightB ar rs t = true ∧ (1 ≤ st ∧ st ≤ 3) := by simpa using h1
 have hsys := (right_iff.1 hri.1).1
 have ho := (right_iff.1 hri.1).2
 have htl := termOk_len ho
 refine qr (t := 22) rfl (vB h1) (qt (ii (n)) rfl (qr (t := 22) rfl (vB h1) (qm (args := [ii (n), ii (0), ii (60)]) call110 rfl (l1In_spec (n := n) (a := 0) (b := 60)) ?_)))
 rintro _ _ _ _ ⟨rfl, rfl, rfl⟩
 refine qr (t := 22) rfl (vB h1) (jQ rfl (cX (qN (.bool (decide (¬(0 ≤ n ∧ n ≤ 60)))) (vB h1) rfl (qd ?_))))
 refine qC (p := ¬(0 ≤ n ∧ n ≤ 60)) rfl (fun h2 => ?_) (fun h2 => ?_)
 ·refine qf (qc (cX (jk [sN, sN] [sN, sN] [(0, 1), (1, 1)] [] jg yg rfl (.cons rfl qv (.cons rfl jK PlacesAre.nil)) rfl CellsAre.nil (cX (qK [] _ [sN, sN] jq rfl rfl rfl (qx rfl (qx rfl qQ)) rfl rfl rfl (qi (.bool (false)) rfl (qd (qu (qo (qs (L' := L) [.agg #[sN, sN], .bool (false)] (.tuple #[.agg #[sN, sN], .bool (false)]) (.cell rfl (jt [sN, sN] jN jq rfl (Rd.ownN [] rfl rfl)) (.tmp rfl .nil)) rfl rF rF (sD (sD sR)) ?_))))))))))
  have hw : walkB ar rs t st n = ([], [], false) := walkB_no (by rw [wOk]; cases hx : (rightB ar rs t && decide (1 ≤ st ∧ st ≤ 3)) <;> simp_all <;> (intros; omega))
  exact ⟨_, _, by rw [hw], by rw [hw]; exact IntsF.nilV, by rw [hw]; exact SlOf.nilV, rfl⟩
 refine qA (qf (qc (qh (tv) rfl (cX (jG <| qm (args := [tv]) call106 rfl (l1Copy_spec ht (hlt := (by first | omega | (rw [hu2]; have := termOk_len (stepL_ok hsys hoc (by omega) (by omega) hu); simp only [Option.getD_some]; omega)))) ?_)))))
 rintro v1 _ _ _ ⟨rfl, hs1, rfl⟩
 refine ⟨_, _, rfl, fun F1 le1 hz1 => ?_⟩
 replace har := har.mono le1
 replace hrs := hrs.mono le1
 replace ht := ht.mono le1
 have hf1 : IntsF F1 v1 ((t)) := intsH.fz (xs := (t)) hz1.fz
 refine cX (jk [v1, sN] [sN, sN] [(0, 1), (1, 1)] [(0, [v1])] jg yg rfl (.cons rfl qv (.cons rfl jK PlacesAre.nil)) rfl (.cons (cells_one (qG hf1)) CellsAre.nil) (cX (ji [sN, sN] yg rfl ?_)))
 intro b3
 refine cX (qK [] _ [v1, sN] jq rfl rfl rfl (qx (qJ (qG hf1)) (qx rfl qQ)) rfl rfl rfl (qd (qf (qc (qh (tv) rfl (cX (jG <| qm (args := [tv]) call106 rfl (l1Copy_spec ht (hlt := (by first | omega | (rw [hu2]; have := termOk_len (stepL_ok hsys hoc (by omega) (by omega) hu); simp only [Option.getD_some]; omega)))) ?_)))))))
 rintro v2 _ _ _ ⟨rfl, hs2, rfl⟩
 refine ⟨_, _, rfl, fun F2 le2 hz2 => ?_⟩
 replace har := har.mono le2
 replace hrs := hrs.mono le2
 replace hf1 := hf1.mono le2
 have hf2 : IntsF F2 v2 ((t)) := intsH.fz (xs := (t)) hz2.fz
 refine qi (v2) rfl (qd (qf (qR (jy (α := Value × List Int × Value × List StepT × FH) (fun xQ => [(2, ii (st)), (3, ii (n)), (4, ptr b1 0), (8, ptr b2 0), (10, ptr b3 0), (11, xQ.1)]) (fun xQ => stepsH 102 xQ.2.2.2.2 xQ.2.2.1 xQ.2.2.2.1 :: cellsH b3 [v1, xQ.2.2.1] 45 :: cellsH b2 [sN, sN] 45 :: cellsH b1 [arv, rsv] 39 :: L) (fun xQ F' => xQ.2.2.2.2 = F' ∧ F2 ≤ xQ.2.2.2.2 ∧ (IntsF xQ.2.2.2.2 xQ.1 xQ.2.1) ∧ (termOk ar xQ.2.1 = true) ∧ (IsSl xQ.2.2.1) ∧ (xQ.2.2.2.1.length ≤ n.toNat) ∧ ((walkGo ar rs st n.toNat t).1 = xQ.2.2.2.1 ++ (walkGo ar rs st (n.toNat - xQ.2.2.2.1.length) xQ.2.1).1) ∧ ((walkGo ar rs st n.toNat t).2 = (walkGo ar rs st (n.toNat - xQ.2.2.2.1.length) xQ.2.1).2)) (fun xQ => n.toNat - xQ.2.2.2.1.length) (v2, t, sN, [], F2) ⟨rfl, rfl, rfl, rfl, rfl, rfl, ⟨⟩⟩ (coH.addNil none (sC (sC (sC sR)))) ⟨rfl, FLe.refl _, (hf2), (ho), (⟨_, _, _, rfl⟩), (by simp), (rfl), (rfl)⟩ ?_))))
 rintro ⟨cv, cur, sv, ss, G1⟩ rE _ _ ⟨rfl, leG, hcv, hoc, hsv, hln, hwa, hwb⟩
 show X _ _ _ _ (envs [(2, ii (st)), (3, ii (n)), (4, ptr b1 0), (8, ptr b2 0), (10, ptr b3 0), (11, cv)] rE) _ (stepsH 102 G1 sv ss :: cellsH b3 [v1, sv] 45 :: cellsH b2 [sN, sN] 45 :: cellsH b1 [arv, rsv] 39 :: L)
 replace leG : F2 ≤ G1 := leG
 dsimp only at hcv hoc hsv hln hwa hwb
 have hcl := termOk_len hoc
 have leG1 := leG
 replace har := har.mono leG1
 replace hrs := hrs.mono leG1
 replace hf1 := hf1.mono leG1
 refine X.open [] rfl (fun cs1 hc1 => ?_)
 replace hc1 : StepsC G1 cs1 ss := hc1
 refine qf (qf (qc (cX (ql (1) jg rfl jK (by decide) rfl rfl (cX (qk isAgg43 rfl (Rd.own [_] rfl rfl) (cX (qE ju rfl (SlV.own [] rfl) (qh (ii (n)) rfl (cX (jh rfl rfl (qd ?_))))))))))))
 refine qC (p := ((ss.length : Int) : Int) < n) rfl (fun h3 => ?_) (fun h3 => ?_)
 ·refine qA (qR (qf (qc (cX (qq [arv, rsv] jj qX rfl rfl (Rd.ownN [_, _, _] rfl rfl) (qh (cv) rfl (qh (ii (st)) rfl (cX (qm (args := [.agg #[arv, rsv], cv, ii (st)]) call297 rfl (sPickBy_spec (st := st) har hrs hcv (hla := (by first | assumption | rfl | omega | simp)) (hlr := (by first | assumption | rfl | omega | simp)) (hrb := (by first | assumption | rfl | omega | simp)) (hlt := (by first | assumption | rfl | omega | simp))) ?_)))))))))
  rintro _ _ _ _ ⟨rfl, rfl, rfl⟩
  refine qh (.tuple #[ii (pickAt ar rs cur st), ii (pickRule ar rs cur st), .bool (pickB ar rs cur st)]) rfl (cX (qM (ii (pickAt ar rs cur st)) rfl rfl (cX (qM (ii (pickRule ar rs cur st)) rfl rfl (cX (qM (.bool (pickB ar rs cur st)) rfl rfl (qi (ii (pickAt ar rs cur st)) rfl (qi (ii (pickRule ar rs cur st)) rfl (qi (.bool (pickB ar rs cur st)) rfl (qd (qf (qf (qc (qh (.bool (pickB ar rs cur st)) rfl (cX (jf rfl ?_))))))))))))))))
  refine qd ?_
  refine jw (t := !(pickB ar rs cur st)) rfl (fun h4 => ?_) (fun h4 => ?_)
  ·have hpb : pickB ar rs cur st = false := by simpa using h4
   have he : redL ar rs cur = [] := Classical.byContradiction (fun hne => by rw [pickB_iff.2 ⟨right_iff.2 ⟨hsys, hoc⟩, hri.2, hne⟩] at hpb; cases hpb)
   have hend : walkGo ar rs st (n.toNat - ss.length) cur = ([], normalL ar rs cur) := by rw [walk_nil he, normalL, decide_eq_true he]
   refine jo (qB (blockQ_other (by decide) (qB (qW (qf ?_)))))
   refine jY [slH 102 3 sv ((ss).length) cs1, cellsH b3 [v1, sv] 45, cellsH b2 [sN, sN] 45, cellsH b1 [arv, rsv] 39] L 4 [] [[], [], [], [1, 2]] (phiL [qe (.agg #[v1, sv]), qe (.agg #[arv, rsv]), qe cv, qe (.bool ((rightB ar rs cur && normalL ar rs cur)))]) (ownL []) mixed rfl rfl (by kernel_rfl) ?_ ?_
   ·refine pD (fun W R z9 => ?_) ?_
    ·refine qj (qq [v1, sv] jN jq rfl rfl (Rd.ownN [_] rfl rfl) ?_)
     exact ⟨rfl, rfl, rfl⟩
    refine pD (fun W R z9 => ?_) ?_
    ·refine qj (qq [arv, rsv] jj qX rfl rfl (Rd.ownN [_, _, _] rfl rfl) ?_)
     exact ⟨rfl, rfl, rfl⟩
    refine pD (fun W R z9 => ?_) ?_
    ·refine qj (qt (cv) rfl ?_)
     exact ⟨rfl, rfl, rfl⟩
    refine pD (fun W R z9 => ?_) ?_
    ·rw [eS (l := [(1, _), (2, _)]) ⟨z9 1 rfl, z9 2 rfl, ⟨⟩⟩]
     refine qj (qm (args := [.agg #[arv, rsv], cv]) call125 rfl (sNormalIn_spec har hrs hcv (hla := (by first | assumption | rfl | omega | simp)) (hlr := (by first | assumption | rfl | omega | simp)) (hrb := (by first | assumption | rfl | omega | simp)) (hlt := (by first | assumption | rfl | omega | simp))) ?_)
     rintro _ _ _ _ ⟨rfl, rfl, rfl⟩
     exact ⟨rfl, rfl, rfl⟩
    exact stepsP.nil
   intro W hphi
   rw [eS (l := [(0, _), (3, _)]) ⟨(hphi 0 (by decide)), (hphi 3 (by decide)), ⟨⟩⟩]
   show XL _ _ _ _ _ _ _ (slH 102 3 sv ((ss).length) cs1 :: cellsH b3 [v1, sv] 45 :: cellsH b2 [sN, sN] 45 :: cellsH b1 [arv, rsv] 39 :: L)
   refine cX (qK [_, _] _ [v1, sv] jq rfl rfl rfl (qx (qJ (qG hf1)) (qx (qJ hsv) qQ)) rfl rfl rfl (qi (.bool ((rightB ar rs cur && normalL ar rs cur))) rfl (qd (qT [] _ _ rfl (fun F3 le3 hz3 => ?_)))))
   replace har := har.mono le3
   replace hrs := hrs.mono le3
   replace hf1 := hf1.mono le3
   replace hcv := hcv.mono le3
   replace hc1 := hc1.mono le3
   have hf3 : StepsF F3 sv ss := CO.fz hc1 (by first | rfl | omega | (rw [List.length_set]; omega) | (simp; done)) hz3.fz
   refine qu (qs (L' := L) [.agg #[v1, sv], .bool ((rightB ar rs cur && normalL ar rs cur))] (.tuple #[.agg #[v1, sv], .bool ((rightB ar rs cur && normalL ar rs cur))]) (.cell rfl (jt [v1, sv] jN jq rfl (Rd.ownN [_] rfl rfl)) (.tmp rfl .nil)) rfl (qn (qn (qn le1 le2) leG1) le3) rF (sD (sD (sD sR))) ?_)
   have hw := walkB_yes (ar := ar) (rs := rs) (t := t) (st := st) (n := n) (by rw [wOk]; simp [hri, hri.2]; omega)
   have e : walkGo ar rs st n.toNat t = (ss, normalL ar rs cur) := Prod.ext (by rw [hwa, hend]; simp) (by rw [hwb, hend])
   have hrc : rightB ar rs cur = true := right_iff.2 ⟨hsys, hoc⟩
   exact ⟨_, _, by rw [hw, e, hrc, Bool.true_and], by rw [hw]; exact hf1, by rw [hw, e]; exact hf3, rfl⟩
  have hpb : pickB ar rs cur st = true := by simpa using h4
  have hne := (pickB_iff.1 hpb).2.2
  have hpa : pickAt ar rs cur st = pickL ar rs cur st := by rw [pickAt, if_pos hpb]
  have hpr : pickRule ar rs cur st = ruleAtL ar rs cur (pickL ar rs cur st).toNat := by rw [pickRule, if_pos hpb]
  obtain ⟨q, hq1, hq2, hq3, _⟩ := (pick_spec (ar := ar) (rs := rs) (t := cur) st).resolve_left (fun h => hne h.2)
  have hpn : (pickL ar rs cur st).toNat = q := by omega
  have hrr : 0 ≤ ruleAtL ar rs cur (pickL ar rs cur st).toNat := by rw [hpn]; simpa [hasR] using hq3
  obtain ⟨k, hk1, hk2, _⟩ := (M.ruleAt_spec (ar := ar) (rs := rs) (t := cur) (p := (pickL ar rs cur st).toNat)).resolve_left (by omega)
  refine qA (qf (qc (cX (qq [arv, rsv] jj qX rfl rfl (Rd.ownN [_, _, _] rfl rfl) (qh (cv) rfl (qh (ii (pickAt ar rs cur st)) rfl (qh (ii (pickRule ar rs cur st)) rfl (cX (qm (args := [.agg #[arv, rsv], cv, ii (((pickAt ar rs cur st).toNat : Nat) : Int), ii (((pickRule ar rs cur st).toNat : Nat) : Int)]) call111 (by rw [show (((pickAt ar rs cur st).toNat : Nat) : Int) = pickAt ar rs cur st from by omega, show (((pickRule ar rs cur st).toNat : Nat) : Int) = pickRule ar rs cur st from by omega]; rfl) (l7Step_spec (p := (pickAt ar rs cur st).toNat) (r := (pickRule ar rs cur st).toNat) har hrs hcv (hsys := (by first | assumption | rfl | omega | simp)) (ho := (by first | assumption | rfl | omega | simp)) (hp := (by first | assumption | rfl | omega | simp)) (hr := (by first | assumption | rfl | omega | simp))) ?_)))))))))
  rintro _ F4 _ le4 ⟨x1, rfl, hr1, rfl⟩
  replace har := har.mono le4
  replace hrs := hrs.mono le4
  replace hf1 := hf1.mono le4
  replace hcv := hcv.mono le4
  replace hc1 := hc1.mono le4
  refine qh (.tuple #[x1, .bool ((stepL ar rs cur ((pickAt ar rs cur st).toNat) ((pickRule ar rs cur st).toNat)).isSome)]) rfl (cX (qM (x1) rfl rfl (cX (qM (.bool ((stepL ar rs cur ((pickAt ar rs cur st).toNat) ((pickRule ar rs cur st).toNat)).isSome)) rfl rfl (qi (x1) rfl (qi (.bool ((stepL ar rs cur ((pickAt ar rs cur st).toNat) ((pickRule ar rs cur st).toNat)).isSome)) rfl (qd (qf (qf (qc (qh (.bool ((stepL ar rs cur ((pickAt ar rs cur st).toNat) ((pickRule ar rs cur st).toNat)).isSome)) rfl (cX (jf rfl (qd ?_))))))))))))))
  refine jw (t := !((stepL ar rs cur ((pickAt ar rs cur st).toNat) ((pickRule ar rs cur st).toNat)).isSome)) rfl (fun h5 => ?_) (fun h5 => ?_)
  ·have hu : (stepL ar rs cur (pickL ar rs cur st).toNat (ruleAtL ar rs cur (pickL ar rs cur st).toNat).toNat).isSome = false := by rw [← hpr, ← hpa]; simpa using h5
   have hend : walkGo ar rs st (n.toNat - ss.length) cur = ([], normalL ar rs cur) := by rw [walk_stuck (by omega) hne hu, normalL, decide_eq_false hne]
   refine jo (qB (blockQ_other (by decide) (qB (qW (qf ?_)))))
   refine jY [slH 102 3 sv ((ss).length) cs1, cellsH b3 [v1, sv] 45, cellsH b2 [sN, sN] 45, cellsH b1 [arv, rsv] 39] L 4 [] [[], [], [], [1, 2]] (phiL [qe (.agg #[v1, sv]), qe (.agg #[arv, rsv]), qe cv, qe (.bool ((rightB ar rs cur && normalL ar rs cur)))]) (ownL []) mixed rfl rfl (by kernel_rfl) ?_ ?_
   ·refine pD (fun W R z9 => ?_) ?_
    ·refine qj (qq [v1, sv] jN jq rfl rfl (Rd.ownN [_] rfl rfl) ?_)
     exact ⟨rfl, rfl, rfl⟩
    refine pD (fun W R z9 => ?_) ?_
    ·refine qj (qq [arv, rsv] jj qX rfl rfl (Rd.ownN [_, _, _] rfl rfl) ?_)
     exact ⟨rfl, rfl, rfl⟩
    refine pD (fun W R z9 => ?_) ?_
    ·refine qj (qt (cv) rfl ?_)
     exact ⟨rfl, rfl, rfl⟩
    refine pD (fun W R z9 => ?_) ?_
    ·rw [eS (l := [(1, _), (2, _)]) ⟨z9 1 rfl, z9 2 rfl, ⟨⟩⟩]
     refine qj (qm (args := [.agg #[arv, rsv], cv]) call125 rfl (sNormalIn_spec har hrs hcv (hla := (by first | assumption | rfl | omega | simp)) (hlr := (by first | assumption | rfl | omega | simp)) (hrb := (by first | assumption | rfl | omega | simp)) (hlt := (by first | assumption | rfl | omega | simp))) ?_)
     rintro _ _ _ _ ⟨rfl, rfl, rfl⟩
     exact ⟨rfl, rfl, rfl⟩
    exact stepsP.nil
   intro W hphi
   rw [eS (l := [(0, _), (3, _)]) ⟨(hphi 0 (by decide)), (hphi 3 (by decide)), ⟨⟩⟩]
   show XL _ _ _ _ _ _ _ (slH 102 3 sv ((ss).length) cs1 :: cellsH b3 [v1, sv] 45 :: cellsH b2 [sN, sN] 45 :: cellsH b1 [arv, rsv] 39 :: L)
   refine cX (qK [_, _] _ [v1, sv] jq rfl rfl rfl (qx (qJ (qG hf1)) (qx (qJ hsv) qQ)) rfl rfl rfl (qi (.bool ((rightB ar rs cur && normalL ar rs cur))) rfl (qd (qT [] _ _ rfl (fun F5 le5 hz4 => ?_)))))
   replace har := har.mono le5
   replace hrs := hrs.mono le5
   replace hf1 := hf1.mono le5
   replace hcv := hcv.mono le5
   replace hc1 := hc1.mono le5
   replace hr1 := hr1.mono le5
   have hf4 : StepsF F5 sv ss := CO.fz hc1 (by first | rfl | omega | (rw [List.length_set]; omega) | (simp; done)) hz4.fz
   refine qu (qs (L' := L) [.agg #[v1, sv], .bool ((rightB ar rs cur && normalL ar rs cur))] (.tuple #[.agg #[v1, sv], .bool ((rightB ar rs cur && normalL ar rs cur))]) (.cell rfl (jt [v1, sv] jN jq rfl (Rd.ownN [_] rfl rfl)) (.tmp rfl .nil)) rfl (qn (qn (qn (qn le1 le2) leG1) le4) le5) rF (sD (sD (sD sR))) ?_)
   have hw := walkB_yes (ar := ar) (rs := rs) (t := t) (st := st) (n := n) (by rw [wOk]; simp [hri, hri.2]; omega)
   have e : walkGo ar rs st n.toNat t = (ss, normalL ar rs cur) := Prod.ext (by rw [hwa, hend]; simp) (by rw [hwb, hend])
   have hrc : rightB ar rs cur = true := right_iff.2 ⟨hsys, hoc⟩
   exact ⟨_, _, by rw [hw, e, hrc, Bool.true_and], by rw [hw]; exact hf1, by rw [hw, e]; exact hf4, rfl⟩
  obtain ⟨u, hu⟩ := Option.isSome_iff_exists.1 (show (stepL ar rs cur (pickL ar rs cur st).toNat (ruleAtL ar rs cur (pickL ar rs cur st).toNat).toNat).isSome = true from by rw [← hpr, ← hpa]; simpa using h5)
  have hu2 : stepL ar rs cur (pickAt ar rs cur st).toNat (pickRule ar rs cur st).toNat = some u := by rw [hpa, hpr]; exact hu
  refine qA (qf (qc (cX (ql (1) jg rfl jK (by decide) rfl rfl (cX (qk isAgg43 rfl (Rd.own [_] rfl rfl) (qh (ii (pickAt ar rs cur st)) rfl (qh (ii (pickRule ar rs cur st)) rfl (qh (x1) rfl (cX (jk [ii (pickAt ar rs cur st), ii (pickRule ar rs cur st), x1] [ii (0), ii (0), sN] [(0, 1), (1, 1), (2, 1)] [(0, [ii (pickAt ar rs cur st)]), (1, [ii (pickRule ar rs cur st)]), (2, [x1])] jA zeroValue102 rfl (.cons rfl qy (.cons rfl qy (.cons rfl qv PlacesAre.nil))) rfl (.cons rfl (.cons rfl (.cons (cells_one (qG hr1)) CellsAre.nil))) (cX (qz (s := 3) [ii (pickAt ar rs cur st), ii (pickRule ar rs cur st), x1] [ii (0), ii (0), sN] [(0, [ii (pickAt ar rs cur st), ii (pickRule ar rs cur st), x1])] ju yh zeroValue102 rfl (by decide) rfl (.cons rfl CellsAre.nil) rfl ?_)))))))))))))
  intro v3 hv1
  refine cX (ye (m := 1) (bytes := 40) (cs := cs1) [_] _ [ii (pickAt ar rs cur st), ii (pickRule ar rs cur st), x1] ju typeInfo102 rfl rfl rfl rfl rfl rfl rfl (SlV.own [] rfl) rfl (Rd.lit [] rfl) (qx rfl (qx rfl (qx (qJ (qG hr1)) qQ))) (by (try simp only [List.length_append, List.length_nil, List.length_cons, List.length_singleton]); omega) (by (try simp only [List.length_append, List.length_nil, List.length_cons, List.length_singleton]); omega) ?_)
  intro v4 hs3 hn1 hm1
  have hc2 := StepsC.snoc hc1 (i := pickAt ar rs cur st) (j := pickRule ar rs cur st) hr1
  refine cX (ql (1) jg rfl jK (by decide) rfl rfl (cX (jJ [_, _] _ [v1, v4] jK rfl rfl (qJ hs3) rfl rfl rfl (qd (qc (qh (x1) rfl (cX (jG <| qm (args := [x1]) call106 rfl (l1Copy_spec hr1 (hlt := (by first | omega | (rw [hu2]; have := termOk_len (stepL_ok hsys hoc (by omega) (by omega) hu); simp only [Option.getD_some]; omega)))) ?_))))))))
  rintro v5 _ _ _ ⟨rfl, hs4, rfl⟩
  refine ⟨_, _, rfl, fun F6 le6 hz5 => ?_⟩
  replace har := har.mono le6
  replace hrs := hrs.mono le6
  replace hf1 := hf1.mono le6
  replace hcv := hcv.mono le6
  replace hc1 := hc1.mono le6
  replace hc2 := hc2.mono le6
  have hf5 : IntsF F6 v5 ((((stepL ar rs cur ((pickAt ar rs cur st).toNat) ((pickRule ar rs cur st).toNat)).getD []))) := intsH.fz (xs := (((stepL ar rs cur ((pickAt ar rs cur st).toNat) ((pickRule ar rs cur st).toNat)).getD []))) hz5.fz
  refine qi (v5) rfl (qd ?_)
  exact ⟨(v5, (((stepL ar rs cur ((pickAt ar rs cur st).toNat) ((pickRule ar rs cur st).toNat)).getD [])), v4, ss ++ [(pickAt ar rs cur st, pickRule ar rs cur st, (stepL ar rs cur ((pickAt ar rs cur st).toNat) ((pickRule ar rs cur st).toNat)).getD [])], F6), _, (qn (qn leG1 le4) le6), rF, ⟨rfl, rfl, rfl, rfl, rfl, rfl, ⟨⟩⟩, (sD (coH.close hc2 (by first | rfl | simp) (sC (sC (sC sR))))), ⟨rfl, (qn (qn leG1 le4) le6), (hf5), (by dsimp only; rw [hu2]; exact stepL_ok hsys hoc (by omega) (by omega) hu), (hs3), (by dsimp only; rw [List.length_append]; simp only [List.length_singleton]; omega), (by dsimp only; rw [hwa, walk_next (m := n.toNat - ss.length) (by omega) hne hu, hu2, hpa, hpr]; simp only [Option.getD_some, List.length_append, List.length_singleton, List.append_assoc, List.singleton_append]; rw [show n.toNat - ss.length - 1 = n.toNat - (ss.length + 1) from by omega]), (by dsimp only; rw [hwb, walk_next (m := n.toNat - ss.length) (by omega) hne hu, hu2]; simp only [Option.getD_some, List.length_append, List.length_singleton]; rw [show n.toNat - ss.length - 1 = n.toNat - (ss.length + 1) from by omega])⟩, (by dsimp only; rw [List.length_append]; simp only [List.length_singleton]; omega)⟩
 have hend : walkGo ar rs st (n.toNat - ss.length) cur = ([], normalL ar rs cur) := by rw [show n.toNat - ss.length = 0 from by omega]; rfl
 refine jo (qB (qB (qW (qf ?_))))
 refine jY [slH 102 3 sv ((ss).length) cs1, cellsH b3 [v1, sv] 45, cellsH b2 [sN, sN] 45, cellsH b1 [arv, rsv] 39] L 4 [] [[], [], [], [1, 2]] (phiL [qe (.agg #[v1, sv]), qe (.agg #[arv, rsv]), qe cv, qe (.bool ((rightB ar rs cur && normalL ar rs cur)))]) (ownL []) mixed rfl rfl (by kernel_rfl) ?_ ?_
 ·refine pD (fun W R z9 => ?_) ?_
  ·refine qj (qq [v1, sv] jN jq rfl rfl (Rd.ownN [_] rfl rfl) ?_)
   exact ⟨rfl, rfl, rfl⟩
  refine pD (fun W R z9 => ?_) ?_
  ·refine qj (qq [arv, rsv] jj qX rfl rfl (Rd.ownN [_, _, _] rfl rfl) ?_)
   exact ⟨rfl, rfl, rfl⟩
  refine pD (fun W R z9 => ?_) ?_
  ·refine qj (qt (cv) rfl ?_)
   exact ⟨rfl, rfl, rfl⟩
  refine pD (fun W R z9 => ?_) ?_
  ·rw [eS (l := [(1, _), (2, _)]) ⟨z9 1 rfl, z9 2 rfl, ⟨⟩⟩]
   refine qj (qm (args := [.agg #[arv, rsv], cv]) call125 rfl (sNormalIn_spec har hrs hcv (hla := (by first | assumption | rfl | omega | simp)) (hlr := (by first | assumption | rfl | omega | simp)) (hrb := (by first | assumption | rfl | omega | simp)) (hlt := (by first | assumption | rfl | omega | simp))) ?_)
   rintro _ _ _ _ ⟨rfl, rfl, rfl⟩
   exact ⟨rfl, rfl, rfl⟩
  exact stepsP.nil
 intro W hphi
 rw [eS (l := [(0, _), (3, _)]) ⟨(hphi 0 (by decide)), (hphi 3 (by decide)), ⟨⟩⟩]
 show XL _ _ _ _ _ _ _ (slH 102 3 sv ((ss).length) cs1 :: cellsH b3 [v1, sv] 45 :: cellsH b2 [sN, sN] 45 :: cellsH b1 [arv, rsv] 39 :: L)
 refine cX (qK [_, _] _ [v1, sv] jq rfl rfl rfl (qx (qJ (qG hf1)) (qx (qJ hsv) qQ)) rfl rfl rfl (qi (.bool ((rightB ar rs cur && normalL ar rs cur))) rfl (qd (qT [] _ _ rfl (fun F7 le7 hz6 => ?_)))))
 replace hf1 := hf1.mono le7
 replace hc1 := hc1.mono le7
 have hf6 : StepsF F7 sv ss := CO.fz hc1 (by first | rfl | omega | (rw [List.length_set]; omega) | (simp; done)) hz6.fz
 refine qu (qs (L' := L) [.agg #[v1, sv], .bool ((rightB ar rs cur && normalL ar rs cur))] (.tuple #[.agg #[v1, sv], .bool ((rightB ar rs cur && normalL ar rs cur))]) (.cell rfl (jt [v1, sv] jN jq rfl (Rd.ownN [_] rfl rfl)) (.tmp rfl .nil)) rfl (qn (qn (qn le1 le2) leG1) le7) rF (sD (sD (sD sR))) ?_)
 have hw := walkB_yes (ar := ar) (rs := rs) (t := t) (st := st) (n := n) (by rw [wOk]; simp [hri, hri.2]; omega)
 have e : walkGo ar rs st n.toNat t = (ss, normalL ar rs cur) := Prod.ext (by rw [hwa, hend]; simp) (by rw [hwb, hend])
 have hrc : rightB ar rs cur = true := right_iff.2 ⟨hsys, hoc⟩
 exact ⟨_, _, by rw [hw, e, hrc, Bool.true_and], by rw [hw]; exact hf1, by rw [hw, e]; exact hf6, rfl⟩
end Go.Proofs.YtenomejgjcpbdaaGreat
set_option linter.unusedSimpArgs false
set_option linter.unusedVariables false
namespace Go.Proofs.YtenomejgjcpbdaaGreat
open Go X M Tryz
end Go.Proofs.YtenomejgjcpbdaaGreat
set_option linter.unusedSimpArgs false
set_option linter.unusedVariables false
namespace Go.Proofs.YtenomejgjcpbdaaGreat
open Go X M Tryz
end Go.Proofs.YtenomejgjcpbdaaGreat
set_option linter.unusedSimpArgs false
set_option linter.unusedVariables false
namespace Go.Proofs.YtenomejgjcpbdaaGreat
open Go X M Tryz
end Go.Proofs.YtenomejgjcpbdaaGreat
set_option linter.unusedSimpArgs false
set_option linter.unusedVariables false
namespace Go.Proofs.YtenomejgjcpbdaaGreat
open Go X M Tryz

/- impl.stepArgs -/
theorem stepArgs_spec {F : FH} {L : List HP} {arv : Value} {ar : List Int} (har : IntsF F arv ar) {rsv : Value} {rs : List (List Int × List Int)} (hrs : PairsF F rsv rs) {tv : Value} {t : List Int} (ht : IntsF F tv t) {p : Int} {r : Int} :
    Does prog 310 [.agg #[arv, rsv], tv, ii (p), ii (r)] F (L) (fun v F' L' => (.bool (stepAtOk ar rs t p r) : Value) = v ∧ F = F' ∧ L = L') := by
 refine qH func310 rfl rfl rfl (qf (qc (cX (qZ [arv, rsv] rfl rfl ?_))))
 intro b1
 refine qi (.bool (false)) rfl (qd (qf (qc (cX (qq [arv, rsv] jj qX rfl rfl (Rd.ownN [] rfl rfl) (cX (qm (args := [.agg #[arv, rsv]]) call131 rfl (SystemOk_spec har hrs) ?_)))))))
 rintro _ _ _ _ ⟨rfl, rfl, rfl⟩
 refine qh (.bool (sysOk ar rs)) rfl ?_
 by_cases h1 : (sysOk ar rs) = true
 ·refine qr (t := 11) rfl (vB h1) (ql (0) qF rfl qw (by decide) rfl rfl (qr (t := 11) rfl (vB h1) (qq [arv] qI qw rfl rfl (Rd.ownN [] rfl rfl) (qr (t := 11) rfl (vB h1) (qt (tv) rfl (qr (t := 11) rfl (vB h1) (qt (ii (p)) rfl (qr (t := 11) rfl (vB h1) (qm (args := [.agg #[arv], tv, ii (p)]) call233 rfl (posOk_spec (n := p) har ht) ?_)))))))))
  rintro _ _ _ _ ⟨rfl, rfl, rfl⟩
  refine cX (qP (.bool (posOk ar t p)) (vB h1) rfl (qh (.bool (posOk ar t p)) rfl ?_))
  by_cases h2 : (posOk ar t p) = true
  ·refine qr (t := 18) rfl (vB h2) (qt (ii (r)) rfl (qr (t := 18) rfl (vB h2) (jZ rfl rfl (cX (qP (.bool (decide ((r : Int) ≥ 0))) (vB h2) rfl (qh (.bool (decide ((r : Int) ≥ 0))) rfl ?_))))))
   by_cases h3 : (r : Int) ≥ 0
   ·refine qr (t := 22) rfl (vT h3) (qt (ii (r)) rfl (qr (t := 22) rfl (vT h3) (ql (1) qF rfl jz (by decide) rfl rfl (qr (t := 22) rfl (vT h3) (qk ya rfl (Rd.own [] rfl rfl) (qr (t := 22) rfl (vT h3) (qE jd rfl hrs.slv (qr (t := 22) rfl (vT h3) (jh rfl rfl (cX (qP (.bool (decide ((r : Int) < (rs.length : Int)))) (vT h3) rfl (qi (.bool (decide ((r : Int) < (rs.length : Int)))) rfl (qd (qu (qs (L' := L) [.bool (decide ((r : Int) < (rs.length : Int)))] (.bool (decide ((r : Int) < (rs.length : Int)))) (.tmp rfl .nil) rfl rF rF (sD sR) ?_)))))))))))))))
    exact ⟨(vB (by unfold stepAtOk rightB; cases hA : sysOk ar rs <;> cases hB : termOk ar t <;> simp_all [posOk] <;> omega)), rfl, rfl⟩
   refine qp (t := 22) rfl (vF h3) (qp (t := 22) rfl (vF h3) (qp (t := 22) rfl (vF h3) (qp (t := 22) rfl (vF h3) (qp (t := 22) rfl (vF h3) (cX (qN (.bool (false)) (vF h3) rfl (qi (.bool (false)) rfl (qd (qu (qs (L' := L) [.bool (false)] (.bool (false)) (.tmp rfl .nil) rfl rF rF (sD sR) ?_))))))))))
   exact ⟨(vB (by unfold stepAtOk rightB; cases hA : sysOk ar rs <;> cases hB : termOk ar t <;> simp_all [posOk] <;> omega)), rfl, rfl⟩
  rw [Bool.not_eq_true] at h2
  refine qp (t := 18) rfl (vB h2) (qp (t := 18) rfl (vB h2) (cX (qN (.bool (false)) (vB h2) rfl (qh (.bool (false)) rfl (qp (t := 22) rfl rfl (qp (t := 22) rfl rfl (qp (t := 22) rfl rfl (qp (t := 22) rfl rfl (qp (t := 22) rfl rfl (cX (qN (.bool (false)) rfl rfl ?_)))))))))))
  refine qi (.bool (false)) rfl (qd (qu (qs (L' := L) [.bool (false)] (.bool (false)) (.tmp rfl .nil) rfl rF rF (sD sR) ?_)))
  exact ⟨(vB (by unfold stepAtOk rightB; cases hA : sysOk ar rs <;> cases hB : termOk ar t <;> simp_all [posOk] <;> omega)), rfl, rfl⟩
 rw [Bool.not_eq_true] at h1
 refine qp (t := 11) rfl (vB h1) (qp (t := 11) rfl (vB h1) (qp (t := 11) rfl (vB h1) (qp (t := 11) rfl (vB h1) (qp (t := 11) rfl (vB h1) (cX (qN (.bool (false)) (vB h1) rfl (qh (.bool (false)) rfl (qp (t := 18) rfl rfl (qp (t := 18) rfl rfl (cX (qN (.bool (false)) rfl rfl ?_)))))))))))
 refine qh (.bool (false)) rfl (qp (t := 22) rfl rfl (qp (t := 22) rfl rfl (qp (t := 22) rfl rfl (qp (t := 22) rfl rfl (qp (t := 22) rfl rfl (cX (qN (.bool (false)) rfl rfl (qi (.bool (false)) rfl (qd (qu (qs (L' := L) [.bool (false)] (.bool (false)) (.tmp rfl .nil) rfl rF rF (sD sR) ?_)))))))))))
 exact ⟨(vB (by unfold stepAtOk rightB; cases hA : sysOk ar rs <;> cases hB : termOk ar t <;> simp_all [posOk] <;> omega)), rfl, rfl⟩

/- impl.StepAt -/
theorem StepAt_spec {F : FH} {L : List HP} {arv : Value} {ar : List Int} (har : IntsF F arv ar) {rsv : Value} {rs : List (List Int × List Int)} (hrs : PairsF F rsv rs) {tv : Value} {t : List Int} (ht : IntsF F tv t) {p : Int} {r : Int} :
    Does prog 254 [.agg #[arv, rsv], tv, ii (p), ii (r)] F (L) (fun v F' L' => ∃ (a : Value), (.tuple #[a, .bool ((stepAtL ar rs t p r).isSome)] : Value) = v ∧ (IntsF F' a ((stepAtL ar rs t p r).getD [])) ∧ (Fresh F F' (intsH 2 a ((stepAtL ar rs t p r).getD []))) ∧ L = L') := by
 refine qH func254 rfl rfl rfl (qf (qc (cX (qZ [arv, rsv] rfl rfl ?_))))
 intro b1
 refine qi (sN) rfl (qi (.bool (false)) rfl (qd (qf (qf (qc (cX (qq [arv, rsv] jj qX rfl rfl (Rd.ownN [] rfl rfl) (qh (tv) rfl (qh (ii (p)) rfl (qh (ii (r)) rfl (cX (qm (args := [.agg #[arv, rsv], tv, ii (p), ii (r)]) call310 rfl (stepArgs_spec (p := p) (r := r) har hrs ht) ?_))))))))))))
 rintro _ _ _ _ ⟨rfl, rfl, rfl⟩
 refine cX (jf rfl (qd ?_))
 refine jw (t := !(stepAtOk ar rs t p r)) rfl (fun h1 => ?_) (fun h1 => ?_)
 ·have hz0 : stepAtL ar rs t p r = none := by rw [stepAtL, if_neg (by simpa using h1)]
  refine qf (qc (qi (sN) rfl (qi (.bool (false)) rfl (qd (qu (qo (qs (L' := L) [sN, .bool (false)] (.tuple #[sN, .bool (false)]) (.tmp rfl (.tmp rfl .nil)) rfl rF rF (sD sR) ?_)))))))
  exact ⟨_, by rw [hz0]; rfl, by rw [hz0]; exact IntsF.nilV, by rw [hz0]; exact Fresh.ofNil _, rfl⟩
 have hok : stepAtOk ar rs t p r = true := by simpa using h1
 have hok2 := hok
 unfold stepAtOk rightB at hok2
 simp only [Bool.and_eq_true, decide_eq_true_eq] at hok2
 obtain ⟨⟨⟨hsys, ho⟩, hp1⟩, hr1⟩ := hok2
 refine qA (qf (qc (cX (qq [arv, rsv] jj qX rfl rfl (Rd.ownN [] rfl rfl) (qh (tv) rfl (qh (ii (p)) rfl (qh (ii (r)) rfl (cX (qm (args := [.agg #[arv, rsv], tv, ii (((p).toNat : Nat) : Int), ii (((r).toNat : Nat) : Int)]) call225 (by rw [show (((p).toNat : Nat) : Int) = p from by omega, show (((r).toNat : Nat) : Int) = r from by omega]; rfl) (step_spec (p := (p).toNat) (r := (r).toNat) har hrs ht (hsys := (by first | assumption | rfl | omega | simp)) (ho := (by first | assumption | rfl | omega | simp)) (hp := (by first | assumption | rfl | omega | simp)) (hr := (by first | assumption | rfl | omega | simp))) ?_)))))))))
 rintro _ F1 _ le1 ⟨x1, rfl, hr1, hr2, hr3, rfl⟩
 refine cX (qM (x1) rfl rfl (cX (qM (.bool ((stepL ar rs t ((p).toNat) ((r).toNat)).isSome)) rfl rfl (qi (x1) rfl (qi (.bool ((stepL ar rs t ((p).toNat) ((r).toNat)).isSome)) rfl (qd (qu (qs (L' := L) [x1, .bool ((stepL ar rs t ((p).toNat) ((r).toNat)).isSome)] (.tuple #[x1, .bool ((stepL ar rs t ((p).toNat) ((r).toNat)).isSome)]) (.tmp rfl (.tmp rfl .nil)) rfl le1 rF (sD sR) ?_))))))))
 have e := show stepAtL ar rs t p r = stepL ar rs t p.toNat r.toNat from by rw [stepAtL, if_pos hok]
 exact ⟨_, by rw [e], by rw [e]; exact hr1, by rw [e]; exact hr3, rfl⟩
end Go.Proofs.YtenomejgjcpbdaaGreat
set_option linter.unusedSimpArgs false
set_option linter.unusedVariables false
namespace Go.Proofs.YtenomejgjcpbdaaGreat
open Go X M Tryz

/- impl.walkOk -/
theorem walkOk_spec {F : FH} {L : List HP} {arv : Value} {ar : List Int} (har : IntsF F arv ar) {rsv : Value} {rs : List (List Int × List Int)} (hrs : PairsF F rsv rs) {fv : Value} {f : List Int} (hf : IntsF F fv f) {ssv : Value} {ss : List StepT} (hss : StepsF F ssv ss) (hlf : f.length ≤ 4000000) (hsb : ∀ i, i < ss.length → (ss.getD i (0, 0, [])).2.2.length ≤ 4000000) :
    Does prog 163 [.agg #[arv, rsv], .agg #[fv, ssv]] F (L) (fun v F' L' => (.bool (((termOk ar f && decide (ss.length ≤ 60)) && goOk ar rs f ss)) : Value) = v ∧ F = F' ∧ L = L') := by
 refine qH func163 rfl rfl rfl (qf (qc (cX (qZ [arv, rsv] rfl rfl ?_))))
 intro b1
 refine cX (qZ [fv, ssv] rfl rfl ?_)
 intro b2
 refine qi (.bool (false)) rfl (qd (qf (qf (qc (cX (ql (0) qF rfl qw (by decide) rfl rfl (cX (qq [arv] qI qw rfl rfl (Rd.ownN [_] rfl rfl) (cX (ql (0) jg rfl qv (by decide) rfl rfl (cX (qk qS rfl (Rd.own [] rfl rfl) (cX (qm (args := [.agg #[arv], fv]) call113 rfl (TermOk_spec har hf) ?_))))))))))))))
 rintro _ _ _ _ ⟨rfl, rfl, rfl⟩
 refine cX (jf rfl (qh (.bool (!(termOk ar f))) rfl ?_))
 by_cases h1 : (!(termOk ar f)) = true
 ·refine qp (t := 16) rfl (vB h1) (qp (t := 16) rfl (vB h1) (qp (t := 16) rfl (vB h1) (qp (t := 16) rfl (vB h1) (cX (qP (.bool (true)) (vB h1) rfl (qd (jC rfl (qf (qc (qi (.bool (false)) rfl (qd ?_)))))))))))
  refine qu (qo (qs (L' := L) [.bool (false)] (.bool (false)) (.tmp rfl .nil) rfl rF rF (sD (sD sR)) ?_))
  exact ⟨(vB (by simp_all <;> omega)), rfl, rfl⟩
 rw [Bool.not_eq_true] at h1
 refine qr (t := 16) rfl (vB h1) (ql (1) jg rfl jK (by decide) rfl rfl (qr (t := 16) rfl (vB h1) (qk isAgg43 rfl (Rd.own [] rfl rfl) (qr (t := 16) rfl (vB h1) (qE ju rfl hss.slv (qr (t := 16) rfl (vB h1) (jH rfl rfl (cX (qN (.bool (decide (((ss.length : Int) : Int) > 60))) (vB h1) rfl (qd ?_))))))))))
 refine qC (p := ((ss.length : Int) : Int) > 60) rfl (fun h2 => ?_) (fun h2 => ?_)
 ·refine qf (qc (qi (.bool (false)) rfl (qd (qu (qo (qs (L' := L) [.bool (false)] (.bool (false)) (.tmp rfl .nil) rfl rF rF (sD (sD sR)) ?_))))))
  exact ⟨(vB (by simp_all <;> omega)), rfl, rfl⟩
 refine qA (qf (qc (cX (ql (0) jg rfl qv (by decide) rfl rfl (cX (qk qS rfl (Rd.own [] rfl rfl) (qi (fv) rfl (qd (qf (qf (qc (cX (ql (1) jg rfl jK (by decide) rfl rfl (cX (qk isAgg43 rfl (Rd.own [] rfl rfl) (cX (qE ju rfl hss.slv (qh (ii (0)) rfl (qd (qR ?_))))))))))))))))))))
 refine jy (α := Nat × Value × List Int × FH) (fun xQ => [(2, ptr b1 0), (5, xQ.2.1), (25, ssv), (26, ii ((ss.length : Int))), (27, ii (((xQ.1 : Nat) : Int)))]) (fun xQ => cellsH b2 [fv, ssv] 45 :: cellsH b1 [arv, rsv] 39 :: L) (fun xQ F' => xQ.2.2.2 = F' ∧ F ≤ xQ.2.2.2 ∧ (IntsF xQ.2.2.2 xQ.2.1 xQ.2.2.1) ∧ (xQ.1 ≤ ss.length) ∧ (goOk ar rs f ss = goOk ar rs xQ.2.2.1 (ss.drop xQ.1)) ∧ (xQ.2.2.1.length ≤ 4000000)) (fun xQ => ss.length - xQ.1) (0, fv, f, F) ⟨rfl, rfl, rfl, rfl, rfl, ⟨⟩⟩ (sC (sC sR)) ⟨rfl, FLe.refl _, (hf), (by (try dsimp only) <;> omega), (rfl), (hlf)⟩ ?_
 rintro ⟨k, cv, cur, G1⟩ rE _ _ ⟨rfl, leG, hcv, hk, hgo, hcl⟩
 show X _ _ _ _ (envs [(2, ptr b1 0), (5, cv), (25, ssv), (26, ii ((ss.length : Int))), (27, ii ((k : Int)))] rE) _ (cellsH b2 [fv, ssv] 45 :: cellsH b1 [arv, rsv] 39 :: L)
 replace leG : F ≤ G1 := leG
 dsimp only at hcv hk hgo hcl
 have hsk := hsb k
 have leG1 := leG
 replace har := har.mono leG1
 replace hrs := hrs.mono leG1
 replace hss := hss.mono leG1
 refine qf (qc (cX (jh rfl rfl (qd (qf ?_)))))
 refine qC (p := (k : Int) < (ss.length : Int)) rfl (fun h3 => ?_) (fun h3 => ?_)
 ·refine qA (qf (qR (qf (qc (cX (qD k ju yh rfl rfl rfl hss.slv (by omega) rfl ?_))))))
  obtain ⟨a1, ha1, hr1, hr2, hr3⟩ := hss.rd (i := k) (by omega)
  refine cX (qq [ii ((ss.getD k (0, 0, [])).1), ii ((ss.getD k (0, 0, [])).2.1), a1] isAgg102 yh rfl rfl (Rd.three (hr1 _) (hr2 _) (hr3 _)) (cX (ji [ii (0), ii (0), sN] zeroValue102 rfl ?_)))
  intro b3
  refine cX (qK [] _ [ii ((ss.getD k (0, 0, [])).1), ii ((ss.getD k (0, 0, [])).2.1), a1] yh rfl rfl rfl (qx rfl (qx rfl (qx (qJ (qG ha1)) qQ))) rfl rfl rfl (qd (qf (qc (cX (qq [arv, rsv] jj qX rfl rfl (Rd.ownN [_, _] rfl rfl) (qh (cv) rfl (cX (ql (0) jA rfl qy (by decide) rfl rfl (cX (qk je rfl (Rd.own [] rfl rfl) (cX (ql (1) jA rfl qy (by decide) rfl rfl (cX (qk je rfl (Rd.own [] rfl rfl) (cX (qm (args := [.agg #[arv, rsv], cv, ii ((ss.getD k (0, 0, [])).1), ii ((ss.getD k (0, 0, [])).2.1)]) call254 rfl (StepAt_spec (p := (ss.getD k (0, 0, [])).1) (r := (ss.getD k (0, 0, [])).2.1) har hrs hcv) ?_)))))))))))))))))
  rintro _ F1 _ le1 ⟨x1, rfl, hr4, hr5, rfl⟩
  replace ha1 := ha1.mono le1
  refine qh (.tuple #[x1, .bool ((stepAtL ar rs cur ((ss.getD k (0, 0, [])).1) ((ss.getD k (0, 0, [])).2.1)).isSome)]) rfl (cX (qM (x1) rfl rfl (cX (qM (.bool ((stepAtL ar rs cur ((ss.getD k (0, 0, [])).1) ((ss.getD k (0, 0, [])).2.1)).isSome)) rfl rfl (qi (x1) rfl (qi (.bool ((stepAtL ar rs cur ((ss.getD k (0, 0, [])).1) ((ss.getD k (0, 0, [])).2.1)).isSome)) rfl (qd (qf (qf (qc (qh (.bool ((stepAtL ar rs cur ((ss.getD k (0, 0, [])).1) ((ss.getD k (0, 0, [])).2.1)).isSome)) rfl (cX (jf rfl (qh (.bool (!((stepAtL ar rs cur ((ss.getD k (0, 0, [])).1) ((ss.getD k (0, 0, [])).2.1)).isSome))) rfl ?_))))))))))))))
  by_cases h4 : (!((stepAtL ar rs cur ((ss.getD k (0, 0, [])).1) ((ss.getD k (0, 0, [])).2.1)).isSome)) = true
  ·have hu1 : (stepAtL ar rs cur (ss.getD k (0, 0, [])).1 (ss.getD k (0, 0, [])).2.1).isSome = false := by simpa using h4
   refine qp (t := 43) rfl (vB h4) (qp (t := 43) rfl (vB h4) (qp (t := 43) rfl (vB h4) (qp (t := 43) rfl (vB h4) (qp (t := 43) rfl (vB h4) (cX (qP (.bool (true)) (vB h4) rfl (qd (jC rfl (qf (qc (qi (.bool (false)) rfl ?_)))))))))))
   refine qd (qu (qo (qL (qo (qo (qL (qo (qs (L' := L) [.bool (false)] (.bool (false)) (.tmp rfl .nil) rfl rF (qn leG1 le1) (sD (sD (sD sR))) ?_))))))))
   exact ⟨(vB (by have hz := goOk_fail (ar := ar) (rs := rs) (t := cur) (ss := ss) (k := k) (by omega) (by first | exact .inl hu1 | exact .inr hu2); rw [hgo, hz]; simp)), rfl, rfl⟩
  rw [Bool.not_eq_true] at h4
  have hu1 : (stepAtL ar rs cur (ss.getD k (0, 0, [])).1 (ss.getD k (0, 0, [])).2.1).isSome = true := by simpa using h4
  refine qr (t := 43) rfl (vB h4) (qt (x1) rfl (qr (t := 43) rfl (vB h4) (ql (2) jA rfl qv (by decide) rfl rfl (qr (t := 43) rfl (vB h4) (qk qS rfl (Rd.own [] rfl rfl) (qr (t := 43) rfl (vB h4) (qm (args := [x1, a1]) call156 rfl (Equal_spec hr4 ha1 (hbd := (by first | assumption | rfl | omega | (left; simp; done) | (right; simp; done)))) ?_)))))))
  rintro _ _ _ _ ⟨rfl, rfl, rfl⟩
  refine qr (t := 43) rfl (vB h4) (jQ rfl (cX (qN (.bool (decide (¬(((stepAtL ar rs cur ((ss.getD k (0, 0, [])).1) ((ss.getD k (0, 0, [])).2.1)).getD []) = ((ss.getD k (0, 0, [])).2.2))))) (vB h4) rfl (qd ?_))))
  refine qC (p := ¬(((stepAtL ar rs cur ((ss.getD k (0, 0, [])).1) ((ss.getD k (0, 0, [])).2.1)).getD []) = ((ss.getD k (0, 0, [])).2.2))) rfl (fun h5 => ?_) (fun h5 => ?_)
  ·have hu2 : (stepAtL ar rs cur (ss.getD k (0, 0, [])).1 (ss.getD k (0, 0, [])).2.1).getD [] ≠ (ss.getD k (0, 0, [])).2.2 := h5
   refine qf (qc (qi (.bool (false)) rfl (qd (qu (qo (qL (qo (qo (qL (qo (qs (L' := L) [.bool (false)] (.bool (false)) (.tmp rfl .nil) rfl rF (qn leG1 le1) (sD (sD (sD sR))) ?_)))))))))))
   exact ⟨(vB (by have hz := goOk_fail (ar := ar) (rs := rs) (t := cur) (ss := ss) (k := k) (by omega) (by first | exact .inl hu1 | exact .inr hu2); rw [hgo, hz]; simp)), rfl, rfl⟩
  have hu2 : (stepAtL ar rs cur (ss.getD k (0, 0, [])).1 (ss.getD k (0, 0, [])).2.1).getD [] = (ss.getD k (0, 0, [])).2.2 := Classical.not_not.1 h5
  refine qA (qc (qh (x1) rfl (qi (x1) rfl (qd (qc (cX (qU (((k + 1 : Nat) : Int)) rfl rfl (by omega) (by omega) (qh (ii (((k + 1 : Nat) : Int))) rfl (qd ?_)))))))))
  exact ⟨(k + 1, x1, (stepAtL ar rs cur ((ss.getD k (0, 0, [])).1) ((ss.getD k (0, 0, [])).2.1)).getD [], F1), _, (qn leG1 le1), rF, ⟨rfl, rfl, rfl, rfl, rfl, ⟨⟩⟩, (sD (sC (sC sR))), ⟨rfl, (qn leG1 le1), (hr4), (by (try dsimp only) <;> omega), (by (try dsimp only); rw [hgo]; exact goOk_next (by omega) hu1 hu2), (by (try dsimp only); rw [hu2]; exact hsk (by omega))⟩, (by omega)⟩
 refine jo (qB (qB (qW (qf (qc (qi (.bool (true)) rfl (qd (qu (qs (L' := L) [.bool (true)] (.bool (true)) (.tmp rfl .nil) rfl rF leG1 (sD (sD sR)) ?_)))))))))
 exact ⟨(vB (by rw [hgo, goOk_end (by omega)]; simp_all <;> omega)), rfl, rfl⟩

/- impl.WalkOk -/
theorem WalkOk_spec {F : FH} {L : List HP} {arv : Value} {ar : List Int} (har : IntsF F arv ar) {rsv : Value} {rs : List (List Int × List Int)} (hrs : PairsF F rsv rs) {fv : Value} {f : List Int} (hf : IntsF F fv f) {ssv : Value} {ss : List StepT} (hss : StepsF F ssv ss) (hlf : f.length ≤ 4000000) (hsb : ∀ i, i < ss.length → (ss.getD i (0, 0, [])).2.2.length ≤ 4000000) :
    Does prog 77 [.agg #[arv, rsv], .agg #[fv, ssv]] F (L) (fun v F' L' => (.bool (walkOkL ar rs f ss) : Value) = v ∧ F = F' ∧ L = L') := by
 refine qH func77 rfl rfl rfl (qf (qc (cX (qZ [arv, rsv] rfl rfl ?_))))
 intro b1
 refine cX (qZ [fv, ssv] rfl rfl ?_)
 intro b2
 refine qi (.bool (false)) rfl (qd (qf (qc (cX (qq [arv, rsv] jj qX rfl rfl (Rd.ownN [_] rfl rfl) (cX (qm (args := [.agg #[arv, rsv]]) call131 rfl (SystemOk_spec har hrs) ?_)))))))
 rintro _ _ _ _ ⟨rfl, rfl, rfl⟩
 refine qh (.bool (sysOk ar rs)) rfl ?_
 by_cases h1 : (sysOk ar rs) = true
 ·refine qr (t := 7) rfl (vB h1) (qq [arv, rsv] jj qX rfl rfl (Rd.ownN [_] rfl rfl) (qr (t := 7) rfl (vB h1) (qq [fv, ssv] jN jq rfl rfl (Rd.ownN [] rfl rfl) (qr (t := 7) rfl (vB h1) (qm (args := [.agg #[arv, rsv], .agg #[fv, ssv]]) call163 rfl (walkOk_spec har hrs hf hss (hlf := (by first | assumption | rfl | omega | simp)) (hsb := (by first | assumption | rfl | omega | simp))) ?_)))))
  rintro _ _ _ _ ⟨rfl, rfl, rfl⟩
  refine cX (qP (.bool (((termOk ar f && decide (ss.length ≤ 60)) && goOk ar rs f ss))) (vB h1) rfl (qi (.bool (((termOk ar f && decide (ss.length ≤ 60)) && goOk ar rs f ss))) rfl (qd (qu (qs (L' := L) [.bool (((termOk ar f && decide (ss.length ≤ 60)) && goOk ar rs f ss))] (.bool (((termOk ar f && decide (ss.length ≤ 60)) && goOk ar rs f ss))) (.tmp rfl .nil) rfl rF rF (sD (sD sR)) ?_)))))
  exact ⟨(vB (by rw [walkOkL, rightB]; simp_all [Bool.and_assoc])), rfl, rfl⟩
 rw [Bool.not_eq_true] at h1
 refine qp (t := 7) rfl (vB h1) (qp (t := 7) rfl (vB h1) (qp (t := 7) rfl (vB h1) (cX (qN (.bool (false)) (vB h1) rfl (qi (.bool (false)) rfl (qd (qu (qs (L' := L) [.bool (false)] (.bool (false)) (.tmp rfl .nil) rfl rF rF (sD (sD sR)) ?_))))))))
 exact ⟨(vB (by rw [walkOkL, rightB]; simp_all [Bool.and_assoc])), rfl, rfl⟩

/- spec.StepAt -/
theorem sStepAt_spec {F : FH} {L : List HP} {arv : Value} {ar : List Int} (har : IntsF F arv ar) {rsv : Value} {rs : List (List Int × List Int)} (hrs : PairsF F rsv rs) {tv : Value} {t : List Int} (ht : IntsF F tv t) {p : Int} {r : Int} (hla : ar.length ≤ 4000000) (hlr : rs.length ≤ 4000000) (hrb : ∀ i, i < rs.length → (rs.getD i ([], [])).1.length ≤ 4000000 ∧ (rs.getD i ([], [])).2.length ≤ 4000000) (hlt : t.length ≤ 4000000) :
    Does prog 37 [.agg #[arv, rsv], tv, ii (p), ii (r)] F (L) (fun v F' L' => ∃ (a : Value), (.tuple #[a, .bool ((stepAtL ar rs t p r).isSome)] : Value) = v ∧ (IntsF F' a ((stepAtL ar rs t p r).getD [])) ∧ L = L') := by
 refine qH func37 rfl rfl rfl (qf (qc (cX (qZ [arv, rsv] rfl rfl ?_))))
 intro b1
 refine qi (sN) rfl (qi (.bool (false)) rfl (qd (qf (qf (qc (cX (qq [arv, rsv] jj qX rfl rfl (Rd.ownN [] rfl rfl) (qh (tv) rfl (cX (qm (args := [.agg #[arv, rsv], tv]) call108 rfl (l7Right_spec har hrs ht (hla := (by first | assumption | rfl | omega | simp)) (hlr := (by first | assumption | rfl | omega | simp)) (hrb := (by first | assumption | rfl | omega | simp)) (hlt := (by first | assumption | rfl | omega | simp))) ?_))))))))))
 rintro _ _ _ _ ⟨rfl, rfl, rfl⟩
 refine cX (jf rfl (qh (.bool (!(rightB ar rs t))) rfl ?_))
 by_cases h1 : (!(rightB ar rs t)) = true
 ·refine qp (t := 14) rfl (vB h1) (qp (t := 14) rfl (vB h1) (qp (t := 14) rfl (vB h1) (qp (t := 14) rfl (vB h1) (cX (qP (.bool (true)) (vB h1) rfl (qh (.bool (true)) rfl (qp (t := 20) rfl rfl (qp (t := 20) rfl rfl (qp (t := 20) rfl rfl (qp (t := 20) rfl rfl ?_))))))))))
  refine qp (t := 20) rfl rfl (qp (t := 20) rfl rfl (qp (t := 20) rfl rfl (cX (qP (.bool (true)) rfl rfl (qd (jC rfl (qf (qc (cX (qz (s := 1) [] [ii (0)] [] qg qy qO rfl (by decide) rfl CellsAre.nil rfl ?_))))))))))
  intro v1 hv1
  refine qi (v1) rfl (qi (.bool (false)) rfl (qd ?_))
  show X _ _ _ _ _ _ (intsH 2 v1 ([] : List Int) :: cellsH b1 [arv, rsv] 39 :: L)
  refine qT [] _ _ rfl (fun F1 le1 hz1 => ?_)
  replace har := har.mono le1
  replace hrs := hrs.mono le1
  replace ht := ht.mono le1
  have hf1 : IntsF F1 v1 ([]) := intsH.fz (xs := []) hz1.fz
  refine qu (qo (qs (L' := L) [v1, .bool (false)] (.tuple #[v1, .bool (false)]) (.tmp rfl (.tmp rfl .nil)) rfl le1 rF (sD sR) ?_))
  have hz0 : stepAtL ar rs t p r = none := by rw [stepAtL, if_neg (by unfold stepAtOk; cases hA : rightB ar rs t <;> simp_all <;> omega)]
  exact ⟨_, by rw [hz0]; rfl, by rw [hz0]; exact hf1, rfl⟩
 rw [Bool.not_eq_true] at h1
 refine qr (t := 14) rfl (vB h1) (qt (tv) rfl (qr (t := 14) rfl (vB h1) (qt (ii (p)) rfl (qr (t := 14) rfl (vB h1) (qm (args := [tv, ii (p)]) call109 rfl (l1There_spec (n := p) ht (hbd := (by first | assumption | rfl | omega | simp))) ?_)))))
 rintro _ _ _ _ ⟨rfl, rfl, rfl⟩
 refine qr (t := 14) rfl (vB h1) (jQ rfl (cX (qN (.bool (decide (¬(0 ≤ p ∧ p < (t.length : Int))))) (vB h1) rfl (qh (.bool (decide (¬(0 ≤ p ∧ p < (t.length : Int))))) rfl ?_))))
 by_cases h2 : ¬(0 ≤ p ∧ p < (t.length : Int))
 ·refine qp (t := 20) rfl (vT h2) (qp (t := 20) rfl (vT h2) (qp (t := 20) rfl (vT h2) (qp (t := 20) rfl (vT h2) (qp (t := 20) rfl (vT h2) (qp (t := 20) rfl (vT h2) (qp (t := 20) rfl (vT h2) (cX (qP (.bool (true)) (vT h2) rfl (qd (jC rfl ?_))))))))))
  refine qf (qc (cX (qz (s := 1) [] [ii (0)] [] qg qy qO rfl (by decide) rfl CellsAre.nil rfl ?_)))
  intro v2 hv2
  refine qi (v2) rfl (qi (.bool (false)) rfl (qd ?_))
  show X _ _ _ _ _ _ (intsH 2 v2 ([] : List Int) :: cellsH b1 [arv, rsv] 39 :: L)
  refine qT [] _ _ rfl (fun F2 le2 hz2 => ?_)
  replace har := har.mono le2
  replace hrs := hrs.mono le2
  replace ht := ht.mono le2
  have hf2 : IntsF F2 v2 ([]) := intsH.fz (xs := []) hz2.fz
  refine qu (qo (qs (L' := L) [v2, .bool (false)] (.tuple #[v2, .bool (false)]) (.tmp rfl (.tmp rfl .nil)) rfl le2 rF (sD sR) ?_))
  have hz0 : stepAtL ar rs t p r = none := by rw [stepAtL, if_neg (by unfold stepAtOk; cases hA : rightB ar rs t <;> simp_all <;> omega)]
  exact ⟨_, by rw [hz0]; rfl, by rw [hz0]; exact hf2, rfl⟩
 refine qr (t := 20) rfl (vF h2) (qt (ii (r)) rfl (qr (t := 20) rfl (vF h2) (ql (1) qF rfl jz (by decide) rfl rfl (qr (t := 20) rfl (vF h2) (qk ya rfl (Rd.own [] rfl rfl) (qr (t := 20) rfl (vF h2) (qE jd rfl hrs.slv (qr (t := 20) rfl (vF h2) (jp (((rs.length : Int)) - 1) rfl rfl (by omega) (by omega) (qr (t := 20) rfl (vF h2) (qm (args := [ii (r), ii (0), ii (((rs.length : Int)) - 1)]) call110 rfl (l1In_spec (n := r) (a := 0) (b := ((rs.length : Int)) - 1)) ?_)))))))))))
 rintro _ _ _ _ ⟨rfl, rfl, rfl⟩
 refine qr (t := 20) rfl (vF h2) (jQ rfl (cX (qN (.bool (decide (¬(0 ≤ r ∧ r ≤ (((rs.length : Int)) - 1))))) (vF h2) rfl (qd ?_))))
 refine qC (p := ¬(0 ≤ r ∧ r ≤ (((rs.length : Int)) - 1))) rfl (fun h3 => ?_) (fun h3 => ?_)
 ·refine qf (qc (cX (qz (s := 1) [] [ii (0)] [] qg qy qO rfl (by decide) rfl CellsAre.nil rfl ?_)))
  intro v3 hv3
  refine qi (v3) rfl (qi (.bool (false)) rfl (qd ?_))
  show X _ _ _ _ _ _ (intsH 2 v3 ([] : List Int) :: cellsH b1 [arv, rsv] 39 :: L)
  refine qT [] _ _ rfl (fun F3 le3 hz3 => ?_)
  replace har := har.mono le3
  replace hrs := hrs.mono le3
  replace ht := ht.mono le3
  have hf3 : IntsF F3 v3 ([]) := intsH.fz (xs := []) hz3.fz
  refine qu (qo (qs (L' := L) [v3, .bool (false)] (.tuple #[v3, .bool (false)]) (.tmp rfl (.tmp rfl .nil)) rfl le3 rF (sD sR) ?_))
  have hz0 : stepAtL ar rs t p r = none := by rw [stepAtL, if_neg (by unfold stepAtOk; cases hA : rightB ar rs t <;> simp_all <;> omega)]
  exact ⟨_, by rw [hz0]; rfl, by rw [hz0]; exact hf3, rfl⟩
 refine qA (qf (qc ?_))
 have hok : stepAtOk ar rs t p r = true := by unfold stepAtOk; cases hA : rightB ar rs t <;> simp_all <;> omega
 have hok2 := hok
 unfold stepAtOk rightB at hok2
 simp only [Bool.and_eq_true, decide_eq_true_eq] at hok2
 obtain ⟨⟨⟨hsys, ho⟩, hp1⟩, hr1⟩ := hok2
 refine cX (qq [arv, rsv] jj qX rfl rfl (Rd.ownN [] rfl rfl) (qh (tv) rfl (qh (ii (p)) rfl (qh (ii (r)) rfl (cX (qm (args := [.agg #[arv, rsv], tv, ii (((p).toNat : Nat) : Int), ii (((r).toNat : Nat) : Int)]) call111 (by rw [show (((p).toNat : Nat) : Int) = p from by omega, show (((r).toNat : Nat) : Int) = r from by omega]; rfl) (l7Step_spec (p := (p).toNat) (r := (r).toNat) har hrs ht (hsys := (by first | assumption | rfl | omega | simp)) (ho := (by first | assumption | rfl | omega | simp)) (hp := (by first | assumption | rfl | omega | simp)) (hr := (by first | assumption | rfl | omega | simp))) ?_))))))
 rintro _ F4 _ le4 ⟨x1, rfl, hr1, rfl⟩
 refine cX (qM (x1) rfl rfl (cX (qM (.bool ((stepL ar rs t ((p).toNat) ((r).toNat)).isSome)) rfl rfl (qi (x1) rfl (qi (.bool ((stepL ar rs t ((p).toNat) ((r).toNat)).isSome)) rfl (qd (qu (qs (L' := L) [x1, .bool ((stepL ar rs t ((p).toNat) ((r).toNat)).isSome)] (.tuple #[x1, .bool ((stepL ar rs t ((p).toNat) ((r).toNat)).isSome)]) (.tmp rfl (.tmp rfl .nil)) rfl le4 rF (sD sR) ?_))))))))
 have e := show stepAtL ar rs t p r = stepL ar rs t p.toNat r.toNat from by rw [stepAtL, if_pos hok]
 exact ⟨_, by rw [e], by rw [e]; exact hr1, rfl⟩

/- spec.WalkOk -/
theorem sWalkOk_spec {F : FH} {L : List HP} {arv : Value} {ar : List Int} (har : IntsF F arv ar) {rsv : Value} {rs : List (List Int × List Int)} (hrs : PairsF F rsv rs) {fv : Value} {f : List Int} (hf : IntsF F fv f) {ssv : Value} {ss : List StepT} (hss : StepsF F ssv ss) (hla : ar.length ≤ 4000000) (hlr : rs.length ≤ 4000000) (hrb : ∀ i, i < rs.length → (rs.getD i ([], [])).1.length ≤ 4000000 ∧ (rs.getD i ([], [])).2.length ≤ 4000000) (hlf : f.length ≤ 4000000) (hlss : ss.length ≤ 4000000) (hsb : ∀ i, i < ss.length → (ss.getD i (0, 0, [])).2.2.length ≤ 4000000) :
    Does prog 49 [.agg #[arv, rsv], .agg #[fv, ssv]] F (L) (fun v F' L' => (.bool (walkOkL ar rs f ss) : Value) = v ∧ F = F' ∧ L = L') := by
 refine qH func49 rfl rfl rfl (qf (qc (cX (qZ [arv, rsv] rfl rfl ?_))))
 intro b1
 refine cX (qZ [fv, ssv] rfl rfl ?_)
 intro b2
 refine qi (.bool (false)) rfl (qd (qf (qf (qc (cX (qq [arv, rsv] jj qX rfl rfl (Rd.ownN [_] rfl rfl) (cX (ql (0) jg rfl qv (by decide) rfl rfl (cX (qk qS rfl (Rd.own [] rfl rfl) (cX (qm (args := [.agg #[arv, rsv], fv]) call108 rfl (l7Right_spec har hrs hf (hla := (by first | assumption | rfl | omega | simp)) (hlr := (by first | assumption | rfl | omega | simp)) (hrb := (by first | assumption | rfl | omega | simp)) (hlt := (by first | assumption | rfl | omega | simp))) ?_))))))))))))
 rintro _ _ _ _ ⟨rfl, rfl, rfl⟩
 refine cX (jf rfl (qh (.bool (!(rightB ar rs f))) rfl ?_))
 by_cases h1 : (!(rightB ar rs f)) = true
 ·refine qp (t := 14) rfl (vB h1) (qp (t := 14) rfl (vB h1) (qp (t := 14) rfl (vB h1) (qp (t := 14) rfl (vB h1) (cX (qP (.bool (true)) (vB h1) rfl (qd (jC rfl (qf (qc (qi (.bool (false)) rfl (qd ?_)))))))))))
  refine qu (qo (qs (L' := L) [.bool (false)] (.bool (false)) (.tmp rfl .nil) rfl rF rF (sD (sD sR)) ?_))
  exact ⟨(vB (by unfold walkOkL; simp_all <;> omega)), rfl, rfl⟩
 rw [Bool.not_eq_true] at h1
 refine qr (t := 14) rfl (vB h1) (ql (1) jg rfl jK (by decide) rfl rfl (qr (t := 14) rfl (vB h1) (qk isAgg43 rfl (Rd.own [] rfl rfl) (qr (t := 14) rfl (vB h1) (qE ju rfl hss.slv (qr (t := 14) rfl (vB h1) (jH rfl rfl (cX (qN (.bool (decide (((ss.length : Int) : Int) > 60))) (vB h1) rfl (qd ?_))))))))))
 refine qC (p := ((ss.length : Int) : Int) > 60) rfl (fun h2 => ?_) (fun h2 => ?_)
 ·refine qf (qc (qi (.bool (false)) rfl (qd (qu (qo (qs (L' := L) [.bool (false)] (.bool (false)) (.tmp rfl .nil) rfl rF rF (sD (sD sR)) ?_))))))
  exact ⟨(vB (by unfold walkOkL; simp_all <;> omega)), rfl, rfl⟩
 refine qA (qf (qc (cX (ql (0) jg rfl qv (by decide) rfl rfl (cX (qk qS rfl (Rd.own [] rfl rfl) (qi (fv) rfl (qd (qf (qf (qc (qi (ii (0)) rfl (qd (qR (jy (α := Nat × Value × List Int × FH) (fun xQ => [(2, ptr b1 0), (3, ptr b2 0), (5, xQ.2.1), (6, ii (((xQ.1 : Nat) : Int)))]) (fun xQ => cellsH b2 [fv, ssv] 45 :: cellsH b1 [arv, rsv] 39 :: L) (fun xQ F' => xQ.2.2.2 = F' ∧ F ≤ xQ.2.2.2 ∧ (IntsF xQ.2.2.2 xQ.2.1 xQ.2.2.1) ∧ (xQ.1 ≤ ss.length) ∧ (goOk ar rs f ss = goOk ar rs xQ.2.2.1 (ss.drop xQ.1)) ∧ (xQ.2.2.1.length ≤ 4000000)) (fun xQ => ss.length - xQ.1) (0, fv, f, F) ⟨rfl, rfl, rfl, rfl, ⟨⟩⟩ (sC (sC sR)) ⟨rfl, FLe.refl _, (hf), (by (try dsimp only) <;> omega), (rfl), (hlf)⟩ ?_)))))))))))))))
 rintro ⟨k, cv, cur, G1⟩ rE _ _ ⟨rfl, leG, hcv, hk, hgo, hcl⟩
 show X _ _ _ _ (envs [(2, ptr b1 0), (3, ptr b2 0), (5, cv), (6, ii ((k : Int)))] rE) _ (cellsH b2 [fv, ssv] 45 :: cellsH b1 [arv, rsv] 39 :: L)
 replace leG : F ≤ G1 := leG
 dsimp only at hcv hk hgo hcl
 have hsk := hsb k
 have leG1 := leG
 replace har := har.mono leG1
 replace hrs := hrs.mono leG1
 replace hss := hss.mono leG1
 refine qf (qf (qc (qh (ii ((k : Int))) rfl (cX (ql (1) jg rfl jK (by decide) rfl rfl (cX (qk isAgg43 rfl (Rd.own [] rfl rfl) (cX (qE ju rfl hss.slv (cX (jh rfl rfl (qd ?_))))))))))))
 refine qC (p := (k : Int) < (ss.length : Int)) rfl (fun h3 => ?_) (fun h3 => ?_)
 ·refine qA (qf (qR (qf ?_)))
  obtain ⟨a1, ha1, hr1, hr2, hr3⟩ := hss.rd (i := k) (by omega)
  refine jM [cellsH b2 [fv, ssv] 45, cellsH b1 [arv, rsv] 39] L 19 [[], [], [], [], [], [], [], [], [], [], [], [], [], [], [], [14], [14], [], [14]] [[], [], [], [2], [], [3, 4], [5], [6], [], [8], [], [9, 10], [11], [12], [0, 1, 7, 13], [14], [14, 15], [14, 15], [14, 16]] [] (phiG [pe (.agg #[arv, rsv]), pe cv, pe (ptr b2 1), pe ssv, pe (ii ((k : Int)) : Value), pe (.pointer (some (elemA ssv (k * 3)))), pe (.pointer (some (elemA ssv (k * 3)))), pe (ii ((ss.getD k (0, 0, [])).1)), pe (ptr b2 1), pe ssv, pe (ii ((k : Int)) : Value), pe (.pointer (some (elemA ssv (k * 3)))), pe (.pointer (some (elemA ssv (k * 3 + 1)))), pe (ii ((ss.getD k (0, 0, [])).2.1)), fun FF us v => (.tuple #[((tupAt v 0)), .bool ((stepAtL ar rs cur ((ss.getD k (0, 0, [])).1) ((ss.getD k (0, 0, [])).2.1)).isSome)] : Value) = v ∧ (IntsF FF ((tupAt v 0)) ((stepAtL ar rs cur ((ss.getD k (0, 0, [])).1) ((ss.getD k (0, 0, [])).2.1)).getD [])), fun FF us v => v = (.tuple #[((tupAt (us.getD 0 undef) 0)), .bool ((stepAtL ar rs cur ((ss.getD k (0, 0, [])).1) ((ss.getD k (0, 0, [])).2.1)).isSome)] : Value), fun FF us v => v = ((tupAt (us.getD 0 undef) 0)), pe (.bool ((stepAtL ar rs cur ((ss.getD k (0, 0, [])).1) ((ss.getD k (0, 0, [])).2.1)).isSome)), fun FF us v => v = ((tupAt (us.getD 0 undef) 0))]) (ownL []) mixed rfl rfl (by kernel_rfl) (by kernel_rfl) (MonoG.get (m1 (m1 (m1 (m1 (m1 (m1 (m1 (m1 (m1 (m1 (m1 (m1 (m1 (m1 (mC (fun le h => ⟨h.1, h.2.mono le⟩) (mC (fun le h => h) (mC (fun le h => h) (m1 (mC (fun le h => h) MonoG.nil)))))))))))))))))))) ?_ ?_
  ·refine gD (fun W Fs R lF z9 => ?_) ?_
   ·replace har := har.mono lF
    replace hrs := hrs.mono lF
    replace hss := hss.mono lF
    replace hcv := hcv.mono lF
    replace ha1 := ha1.mono lF
    replace hr1 := Rd.monoA hr1 lF
    replace hr2 := Rd.monoA hr2 lF
    replace hr3 := Rd.monoA hr3 lF
    refine qj (qq [arv, rsv] jj qX rfl rfl (Rd.ownN [_] rfl rfl) ?_)
    exact ⟨rfl, rfl⟩
   refine gD (fun W Fs R lF z9 => ?_) ?_
   ·refine qj (qt (cv) rfl ?_)
    exact ⟨rfl, rfl⟩
   refine gD (fun W Fs R lF z9 => ?_) ?_
   ·refine qj (ql (1) jg rfl jK (by decide) rfl rfl ?_)
    exact ⟨rfl, rfl⟩
   refine gD (fun W Fs R lF z9 => ?_) ?_
   ·replace har := har.mono lF
    replace hrs := hrs.mono lF
    replace hss := hss.mono lF
    replace hcv := hcv.mono lF
    replace ha1 := ha1.mono lF
    replace hr1 := Rd.monoA hr1 lF
    replace hr2 := Rd.monoA hr2 lF
    replace hr3 := Rd.monoA hr3 lF
    rw [eS (l := [(2, _)]) ⟨z9 2 rfl, ⟨⟩⟩]
    refine qj (qk isAgg43 rfl (Rd.own [] rfl rfl) ?_)
    exact ⟨rfl, rfl⟩
   refine gD (fun W Fs R lF z9 => ?_) ?_
   ·refine qj (qt (ii ((k : Int))) rfl ?_)
    exact ⟨rfl, rfl⟩
   refine gD (fun W Fs R lF z9 => ?_) ?_
   ·replace har := har.mono lF
    replace hrs := hrs.mono lF
    replace hss := hss.mono lF
    replace hcv := hcv.mono lF
    replace ha1 := ha1.mono lF
    replace hr1 := Rd.monoA hr1 lF
    replace hr2 := Rd.monoA hr2 lF
    replace hr3 := Rd.monoA hr3 lF
    rw [eS (l := [(3, _), (4, _)]) ⟨z9 3 rfl, z9 4 rfl, ⟨⟩⟩]
    refine qj (qD k ju yh rfl rfl rfl hss.slv (by omega) rfl ?_)
    exact ⟨rfl, rfl⟩
   refine gD (fun W Fs R lF z9 => ?_) ?_
   ·rw [eS (l := [(5, _)]) ⟨z9 5 rfl, ⟨⟩⟩]
    refine qj (jT (k * 3) jA rfl qy (by decide) rfl rfl ?_)
    exact ⟨rfl, rfl⟩
   refine gD (fun W Fs R lF z9 => ?_) ?_
   ·replace har := har.mono lF
    replace hrs := hrs.mono lF
    replace hss := hss.mono lF
    replace hcv := hcv.mono lF
    replace ha1 := ha1.mono lF
    replace hr1 := Rd.monoA hr1 lF
    replace hr2 := Rd.monoA hr2 lF
    replace hr3 := Rd.monoA hr3 lF
    rw [eS (l := [(6, _)]) ⟨z9 6 rfl, ⟨⟩⟩]
    refine qj (qk je rfl (hr1 _) ?_)
    exact ⟨rfl, rfl⟩
   refine gD (fun W Fs R lF z9 => ?_) ?_
   ·refine qj (ql (1) jg rfl jK (by decide) rfl rfl ?_)
    exact ⟨rfl, rfl⟩
   refine gD (fun W Fs R lF z9 => ?_) ?_
   ·replace har := har.mono lF
    replace hrs := hrs.mono lF
    replace hss := hss.mono lF
    replace hcv := hcv.mono lF
    replace ha1 := ha1.mono lF
    replace hr2 := Rd.monoA hr2 lF
    replace hr3 := Rd.monoA hr3 lF
    rw [eS (l := [(8, _)]) ⟨z9 8 rfl, ⟨⟩⟩]
    refine qj (qk isAgg43 rfl (Rd.own [] rfl rfl) ?_)
    exact ⟨rfl, rfl⟩
   refine gD (fun W Fs R lF z9 => ?_) ?_
   ·refine qj (qt (ii ((k : Int))) rfl ?_)
    exact ⟨rfl, rfl⟩
   refine gD (fun W Fs R lF z9 => ?_) ?_
   ·replace har := har.mono lF
    replace hrs := hrs.mono lF
    replace hss := hss.mono lF
    replace hcv := hcv.mono lF
    replace ha1 := ha1.mono lF
    replace hr2 := Rd.monoA hr2 lF
    replace hr3 := Rd.monoA hr3 lF
    rw [eS (l := [(9, _), (10, _)]) ⟨z9 9 rfl, z9 10 rfl, ⟨⟩⟩]
    refine qj (qD k ju yh rfl rfl rfl hss.slv (by omega) rfl ?_)
    exact ⟨rfl, rfl⟩
   refine gD (fun W Fs R lF z9 => ?_) ?_
   ·rw [eS (l := [(11, _)]) ⟨z9 11 rfl, ⟨⟩⟩]
    refine qj (jT (k * 3 + 1) jA rfl qy (by decide) rfl rfl ?_)
    exact ⟨rfl, rfl⟩
   refine gD (fun W Fs R lF z9 => ?_) ?_
   ·replace har := har.mono lF
    replace hrs := hrs.mono lF
    replace hss := hss.mono lF
    replace hcv := hcv.mono lF
    replace ha1 := ha1.mono lF
    replace hr2 := Rd.monoA hr2 lF
    replace hr3 := Rd.monoA hr3 lF
    rw [eS (l := [(12, _)]) ⟨z9 12 rfl, ⟨⟩⟩]
    refine qj (qk je rfl (hr2 _) ?_)
    exact ⟨rfl, rfl⟩
   refine gD (fun W Fs R lF z9 => ?_) ?_
   ·replace har := har.mono lF
    replace hrs := hrs.mono lF
    replace hss := hss.mono lF
    replace hcv := hcv.mono lF
    replace ha1 := ha1.mono lF
    replace hr3 := Rd.monoA hr3 lF
    rw [eS (l := [(0, _), (1, _), (7, _), (13, _)]) ⟨z9 0 rfl, z9 1 rfl, z9 7 rfl, z9 13 rfl, ⟨⟩⟩]
    refine qj (qm (args := [.agg #[arv, rsv], cv, ii ((ss.getD k (0, 0, [])).1), ii ((ss.getD k (0, 0, [])).2.1)]) call37 rfl (sStepAt_spec (p := (ss.getD k (0, 0, [])).1) (r := (ss.getD k (0, 0, [])).2.1) har hrs hcv (hla := (by first | assumption | rfl | omega | simp)) (hlr := (by first | assumption | rfl | omega | simp)) (hrb := (by first | assumption | rfl | omega | simp)) (hlt := (by first | assumption | rfl | omega | simp))) ?_)
    rintro _ F2 _ le2 ⟨x2, rfl, hr5, rfl⟩
    replace hss := hss.mono le2
    replace ha1 := ha1.mono le2
    replace hr3 := Rd.monoA hr3 le2
    exact ⟨⟨rfl, hr5⟩, rfl⟩
   refine gD (fun W Fs R lF z9 => ?_) ?_
   ·obtain ⟨e14, f14_1hr⟩ := z9 14 rfl
    rw [eS (l := [(14, (.tuple #[((tupAt (W 14) 0)), .bool ((stepAtL ar rs cur ((ss.getD k (0, 0, [])).1) ((ss.getD k (0, 0, [])).2.1)).isSome)]))]) ⟨(e14).symm, ⟨⟩⟩]
    refine qj (qt (.tuple #[((tupAt (W 14) 0)), .bool ((stepAtL ar rs cur ((ss.getD k (0, 0, [])).1) ((ss.getD k (0, 0, [])).2.1)).isSome)]) rfl ?_)
    exact ⟨rfl, rfl⟩
   refine gD (fun W Fs R lF z9 => ?_) ?_
   ·obtain ⟨e14, f14_1hr⟩ := z9 14 rfl
    have e15 : W 15 = (.tuple #[((tupAt (W 14) 0)), .bool ((stepAtL ar rs cur ((ss.getD k (0, 0, [])).1) ((ss.getD k (0, 0, [])).2.1)).isSome)] : Value) := z9 15 rfl
    rw [eS (l := [(14, (.tuple #[((tupAt (W 14) 0)), .bool ((stepAtL ar rs cur ((ss.getD k (0, 0, [])).1) ((ss.getD k (0, 0, [])).2.1)).isSome)])), (15, (.tuple #[((tupAt (W 14) 0)), .bool ((stepAtL ar rs cur ((ss.getD k (0, 0, [])).1) ((ss.getD k (0, 0, [])).2.1)).isSome)]))]) ⟨(e14).symm, e15, ⟨⟩⟩]
    refine qj (qM (((tupAt (W 14) 0))) rfl rfl ?_)
    exact ⟨rfl, rfl⟩
   refine gD (fun W Fs R lF z9 => ?_) ?_
   ·obtain ⟨e14, f14_1hr⟩ := z9 14 rfl
    have e15 : W 15 = (.tuple #[((tupAt (W 14) 0)), .bool ((stepAtL ar rs cur ((ss.getD k (0, 0, [])).1) ((ss.getD k (0, 0, [])).2.1)).isSome)] : Value) := z9 15 rfl
    rw [eS (l := [(14, (.tuple #[((tupAt (W 14) 0)), .bool ((stepAtL ar rs cur ((ss.getD k (0, 0, [])).1) ((ss.getD k (0, 0, [])).2.1)).isSome)])), (15, (.tuple #[((tupAt (W 14) 0)), .bool ((stepAtL ar rs cur ((ss.getD k (0, 0, [])).1) ((ss.getD k (0, 0, [])).2.1)).isSome)]))]) ⟨(e14).symm, e15, ⟨⟩⟩]
    refine qj (qM (.bool ((stepAtL ar rs cur ((ss.getD k (0, 0, [])).1) ((ss.getD k (0, 0, [])).2.1)).isSome)) rfl rfl ?_)
    exact ⟨rfl, rfl⟩
   refine gD (fun W Fs R lF z9 => ?_) ?_
   ·obtain ⟨e14, f14_1hr⟩ := z9 14 rfl
    have e16 : W 16 = ((tupAt (W 14) 0)) := z9 16 rfl
    rw [eS (l := [(14, (.tuple #[((tupAt (W 14) 0)), .bool ((stepAtL ar rs cur ((ss.getD k (0, 0, [])).1) ((ss.getD k (0, 0, [])).2.1)).isSome)])), (16, ((tupAt (W 14) 0)))]) ⟨(e14).symm, e16, ⟨⟩⟩]
    refine qj (XOp.assign (((tupAt (W 14) 0))) rfl ?_)
    exact ⟨rfl, rfl⟩
   exact stepsG.nil
  intro W F3 le3 hphi
  obtain ⟨e14, f14_1hr⟩ := hphi 14 (by decide)
  have e15 : W 15 = (.tuple #[((tupAt (W 14) 0)), .bool ((stepAtL ar rs cur ((ss.getD k (0, 0, [])).1) ((ss.getD k (0, 0, [])).2.1)).isSome)] : Value) := hphi 15 (by decide)
  have e16 : W 16 = ((tupAt (W 14) 0)) := hphi 16 (by decide)
  have e18 : W 18 = ((tupAt (W 14) 0)) := hphi 18 (by decide)
  generalize hu1 : ((tupAt (W 14) 0)) = u1 at e14 f14_1hr e15 e16 e18
  rw [eS (l := [(14, (.tuple #[u1, .bool ((stepAtL ar rs cur ((ss.getD k (0, 0, [])).1) ((ss.getD k (0, 0, [])).2.1)).isSome)])), (17, _), (18, u1)]) ⟨(e14).symm, (hphi 17 (by decide)), e18, ⟨⟩⟩]
  replace hss := hss.mono le3
  replace ha1 := ha1.mono le3
  replace hr3 := Rd.monoA hr3 le3
  show XL _ _ _ _ _ _ _ (cellsH b2 [fv, ssv] 45 :: cellsH b1 [arv, rsv] 39 :: L)
  refine qi (.bool ((stepAtL ar rs cur ((ss.getD k (0, 0, [])).1) ((ss.getD k (0, 0, [])).2.1)).isSome)) rfl (qd (qf (qf (qc (qh (.bool ((stepAtL ar rs cur ((ss.getD k (0, 0, [])).1) ((ss.getD k (0, 0, [])).2.1)).isSome)) rfl (cX (jf rfl (qh (.bool (!((stepAtL ar rs cur ((ss.getD k (0, 0, [])).1) ((ss.getD k (0, 0, [])).2.1)).isSome))) rfl ?_))))))))
  by_cases h4 : (!((stepAtL ar rs cur ((ss.getD k (0, 0, [])).1) ((ss.getD k (0, 0, [])).2.1)).isSome)) = true
  ·have hu1 : (stepAtL ar rs cur (ss.getD k (0, 0, [])).1 (ss.getD k (0, 0, [])).2.1).isSome = false := by simpa using h4
   refine qp (t := 49) rfl (vB h4) (qp (t := 49) rfl (vB h4) (qp (t := 49) rfl (vB h4) (qp (t := 49) rfl (vB h4) (qp (t := 49) rfl (vB h4) (qp (t := 49) rfl (vB h4) (qp (t := 49) rfl (vB h4) (qp (t := 49) rfl (vB h4) (qp (t := 49) rfl (vB h4) (cX (qP (.bool (true)) (vB h4) rfl ?_))))))))))
   refine qd (jC rfl (qf (qc (qi (.bool (false)) rfl (qd (qu (qo (qL (qo (qo (qL (qo (qs (L' := L) [.bool (false)] (.bool (false)) (.tmp rfl .nil) rfl rF (qn leG1 le3) (sD (sD sR)) ?_)))))))))))))
   exact ⟨(vB (by have hz := goOk_fail (ar := ar) (rs := rs) (t := cur) (ss := ss) (k := k) (by omega) (by first | exact .inl hu1 | exact .inr hu2); rw [walkOkL, hgo, hz]; simp)), rfl, rfl⟩
  rw [Bool.not_eq_true] at h4
  have hu1 : (stepAtL ar rs cur (ss.getD k (0, 0, [])).1 (ss.getD k (0, 0, [])).2.1).isSome = true := by simpa using h4
  refine qr (t := 49) rfl (vB h4) (qt (u1) rfl (qr (t := 49) rfl (vB h4) (ql (1) jg rfl jK (by decide) rfl rfl (qr (t := 49) rfl (vB h4) (qk isAgg43 rfl (Rd.own [] rfl rfl) (qr (t := 49) rfl (vB h4) (qt (ii ((k : Int))) rfl (qr (t := 49) rfl (vB h4) (qD k ju yh rfl rfl rfl hss.slv (by omega) rfl (qr (t := 49) rfl (vB h4) (jT (k * 3 + 2) jA rfl qv (by decide) rfl rfl (qr (t := 49) rfl (vB h4) (qk qS rfl (hr3 _) (qr (t := 49) rfl (vB h4) (qm (args := [u1, a1]) call32 rfl (SameTerm_spec f14_1hr ha1 (hbd := (by first | assumption | rfl | omega | (left; simp; done) | (right; simp; done)))) ?_)))))))))))))))
  rintro _ _ _ _ ⟨rfl, rfl, rfl⟩
  refine qr (t := 49) rfl (vB h4) (jQ rfl (cX (qN (.bool (decide (¬(((stepAtL ar rs cur ((ss.getD k (0, 0, [])).1) ((ss.getD k (0, 0, [])).2.1)).getD []) = ((ss.getD k (0, 0, [])).2.2))))) (vB h4) rfl (qd ?_))))
  refine qC (p := ¬(((stepAtL ar rs cur ((ss.getD k (0, 0, [])).1) ((ss.getD k (0, 0, [])).2.1)).getD []) = ((ss.getD k (0, 0, [])).2.2))) rfl (fun h5 => ?_) (fun h5 => ?_)
  ·have hu2 : (stepAtL ar rs cur (ss.getD k (0, 0, [])).1 (ss.getD k (0, 0, [])).2.1).getD [] ≠ (ss.getD k (0, 0, [])).2.2 := h5
   refine qf (qc (qi (.bool (false)) rfl (qd (qu (qo (qL (qo (qo (qL (qo (qs (L' := L) [.bool (false)] (.bool (false)) (.tmp rfl .nil) rfl rF (qn leG1 le3) (sD (sD sR)) ?_)))))))))))
   exact ⟨(vB (by have hz := goOk_fail (ar := ar) (rs := rs) (t := cur) (ss := ss) (k := k) (by omega) (by first | exact .inl hu1 | exact .inr hu2); rw [walkOkL, hgo, hz]; simp)), rfl, rfl⟩
  have hu2 : (stepAtL ar rs cur (ss.getD k (0, 0, [])).1 (ss.getD k (0, 0, [])).2.1).getD [] = (ss.getD k (0, 0, [])).2.2 := Classical.not_not.1 h5
  refine qA (qc (qh (u1) rfl (qi (u1) rfl (qd (qc (qh (ii ((k : Int))) rfl (cX (qU (((k + 1 : Nat) : Int)) rfl rfl (by omega) (by omega) (qi (ii (((k + 1 : Nat) : Int))) rfl (qd ?_))))))))))
  exact ⟨(k + 1, u1, (stepAtL ar rs cur ((ss.getD k (0, 0, [])).1) ((ss.getD k (0, 0, [])).2.1)).getD [], F3), _, (qn leG1 le3), rF, ⟨rfl, rfl, rfl, rfl, ⟨⟩⟩, (sC (sC sR)), ⟨rfl, (qn leG1 le3), (f14_1hr), (by (try dsimp only) <;> omega), (by (try dsimp only); rw [hgo]; exact goOk_next (by omega) hu1 hu2), (by (try dsimp only); rw [hu2]; exact hsk (by omega))⟩, (by omega)⟩
 refine jo (qB (qB (qW (qf (qc (qi (.bool (true)) rfl (qd (qu (qs (L' := L) [.bool (true)] (.bool (true)) (.tmp rfl .nil) rfl rF leG1 (sD (sD sR)) ?_)))))))))
 exact ⟨(vB (by rw [walkOkL, hgo, goOk_end (by omega)]; simp_all <;> omega)), rfl, rfl⟩

/- spec.l7End -/
theorem l7End_spec {F : FH} {L : List HP} {fv : Value} {f : List Int} (hf : IntsF F fv f) {ssv : Value} {ss : List StepT} (hss : StepsF F ssv ss) (hlf : f.length ≤ 4000000) (hlss : ss.length ≤ 4000000) (hsb : ∀ i, i < ss.length → (ss.getD i (0, 0, [])).2.2.length ≤ 4000000) :
    Does prog 140 [.agg #[fv, ssv]] F (L) (fun v F' L' => F = F' ∧ IsSl v ∧ intsH 2 v (endL f ss) :: L = L') := by
 refine qH func140 rfl rfl rfl ?_
 have hsb1 := hsb (ss.length - 1)
 refine qf (qc (cX (qZ [fv, ssv] rfl rfl ?_)))
 intro b1
 refine qi (sN) rfl (qd (qf (qf (qc (cX (ql (1) jg rfl jK (by decide) rfl rfl (cX (qk isAgg43 rfl (Rd.own [] rfl rfl) (cX (qE ju rfl hss.slv (cX (jB rfl rfl (qd ?_)))))))))))))
 refine qC (p := ((ss.length : Int) : Int) = 0) rfl (fun h1 => ?_) (fun h1 => ?_)
 ·refine qf (qc (cX (ql (0) jg rfl qv (by decide) rfl rfl (cX (qk qS rfl (Rd.own [] rfl rfl) (cX (qm (args := [fv]) call106 rfl (l1Copy_spec hf (hlt := (by first | assumption | rfl | omega | simp))) ?_)))))))
  rintro v1 _ _ _ ⟨rfl, hs1, rfl⟩
  refine qi (v1) rfl (qd (qu (qo (qs (L' := intsH 2 v1 ((f)) :: L) [v1] (v1) (.tmp rfl .nil) rfl rF rF (sC (sD sR)) ?_))))
  refine ⟨rfl, hs1, ?_⟩
  have hxs : (endL f ss : List Int) = (f) := by rw [endL, if_pos (by omega)]
  exact congrArg (fun z => intsH 2 _ z :: L) hxs
 refine qA (qf (qc (cX (ql (1) jg rfl jK (by decide) rfl rfl (cX (qk isAgg43 rfl (Rd.own [] rfl rfl) (cX (ql (1) jg rfl jK (by decide) rfl rfl (cX (qk isAgg43 rfl (Rd.own [] rfl rfl) (cX (qE ju rfl hss.slv (cX (jp (((((ss).length) - 1 : Nat) : Int)) rfl rfl (by omega) (by omega) (cX (qD (((ss).length) - 1) ju yh rfl rfl rfl hss.slv (by omega) rfl (cX (jT ((((ss).length) - 1) * 3 + 2) jA rfl qv (by decide) rfl rfl ?_))))))))))))))))))
 obtain ⟨a1, ha1, hr1, hr2, hr3⟩ := hss.rd (i := ((ss).length) - 1) (by omega)
 refine cX (qk qS rfl (hr3 _) (cX (qm (args := [a1]) call106 rfl (l1Copy_spec ha1 (hlt := (by first | assumption | rfl | omega | simp))) ?_)))
 rintro v2 _ _ _ ⟨rfl, hs2, rfl⟩
 refine qi (v2) rfl (qd (qu (qs (L' := intsH 2 v2 ((((ss.getD (((ss).length) - 1) (0, 0, [])).2.2))) :: L) [v2] (v2) (.tmp rfl .nil) rfl rF rF (sC (sD sR)) ?_)))
 refine ⟨rfl, hs2, ?_⟩
 have hxs : (endL f ss : List Int) = (((ss.getD (((ss).length) - 1) (0, 0, [])).2.2)) := by rw [endL, if_neg (by omega)]
 exact congrArg (fun z => intsH 2 _ z :: L) hxs

/- spec.EndTerm -/
theorem sEndTerm_spec {F : FH} {L : List HP} {arv : Value} {ar : List Int} (har : IntsF F arv ar) {rsv : Value} {rs : List (List Int × List Int)} (hrs : PairsF F rsv rs) {fv : Value} {f : List Int} (hf : IntsF F fv f) {ssv : Value} {ss : List StepT} (hss : StepsF F ssv ss) (hla : ar.length ≤ 4000000) (hlr : rs.length ≤ 4000000) (hrb : ∀ i, i < rs.length → (rs.getD i ([], [])).1.length ≤ 4000000 ∧ (rs.getD i ([], [])).2.length ≤ 4000000) (hlf : f.length ≤ 4000000) (hlss : ss.length ≤ 4000000) (hsb : ∀ i, i < ss.length → (ss.getD i (0, 0, [])).2.2.length ≤ 4000000) :
    Does prog 54 [.agg #[arv, rsv], .agg #[fv, ssv]] F (L) (fun v F' L' => F = F' ∧ IsSl v ∧ intsH 2 v (endT ar rs f ss) :: L = L') := by
 refine qH func54 rfl rfl rfl (qf (qc (cX (qZ [arv, rsv] rfl rfl ?_))))
 intro b1
 refine cX (qZ [fv, ssv] rfl rfl ?_)
 intro b2
 refine qi (sN) rfl (qd (qf (qf (qc (cX (qq [arv, rsv] jj qX rfl rfl (Rd.ownN [_] rfl rfl) (cX (qq [fv, ssv] jN jq rfl rfl (Rd.ownN [] rfl rfl) (cX (qm (args := [.agg #[arv, rsv], .agg #[fv, ssv]]) call49 rfl (sWalkOk_spec har hrs hf hss (hla := (by first | assumption | rfl | omega | simp)) (hlr := (by first | assumption | rfl | omega | simp)) (hrb := (by first | assumption | rfl | omega | simp)) (hlf := (by first | assumption | rfl | omega | simp)) (hlss := (by first | assumption | rfl | omega | simp)) (hsb := (by first | assumption | rfl | omega | simp))) ?_))))))))))
 rintro _ _ _ _ ⟨rfl, rfl, rfl⟩
 refine cX (jf rfl (qd ?_))
 refine jw (t := !(walkOkL ar rs f ss)) rfl (fun h1 => ?_) (fun h1 => ?_)
 ·refine qf (qc (cX (qz (s := 1) [] [ii (0)] [] qg qy qO rfl (by decide) rfl CellsAre.nil rfl ?_)))
  intro v1 hv1
  refine qi (v1) rfl (qd (qu (qo (qs (L' := intsH 2 v1 ([]) :: L) [v1] (v1) (.tmp rfl .nil) rfl rF rF (sC (sD (sD sR))) ?_))))
  refine ⟨rfl, (qV hv1), ?_⟩
  have hxs : (endT ar rs f ss : List Int) = [] := by rw [endT, if_neg (by simp_all)]
  exact congrArg (fun z => intsH 2 _ z :: L) hxs
 have hwk : walkOkL ar rs f ss = true := by simpa using h1
 have hel := termOk_len (right_iff.1 (walkOk_end hwk)).2
 have hwl := (walkOkL_iff.1 hwk).2.1
 refine qA (qf (qc (cX (qq [fv, ssv] jN jq rfl rfl (Rd.ownN [] rfl rfl) (cX (qm (args := [.agg #[fv, ssv]]) call140 rfl (l7End_spec hf hss (hlf := (by first | assumption | rfl | omega | simp)) (hlss := (by first | assumption | rfl | omega | simp)) (hsb := (by first | assumption | rfl | omega | simp))) ?_))))))
 rintro v2 _ _ _ ⟨rfl, hs1, rfl⟩
 refine qi (v2) rfl (qd (qu (qs (L' := intsH 2 v2 ((endL f ss)) :: L) [v2] (v2) (.tmp rfl .nil) rfl rF rF (sC (sD (sD sR))) ?_)))
 refine ⟨rfl, hs1, ?_⟩
 have hxs : (endT ar rs f ss : List Int) = (endL f ss) := by rw [endT, if_pos hwk]
 exact congrArg (fun z => intsH 2 _ z :: L) hxs
end Go.Proofs.YtenomejgjcpbdaaGreat
set_option linter.unusedSimpArgs false
set_option linter.unusedVariables false
namespace Go.Proofs.YtenomejgjcpbdaaGreat
open Go X M Tryz

/- (*impl.Chain).add -/
theorem chainAdd_spec {F : FH} {L : List HP} {b m : Nat} {fv sv tov : Value} {ms : List MoveT} {cs : List Value} {i j : Int} {k : Bool} {to : List Int} (hto : IntsF F tov to) (hsv : IsSl sv) (hC : MovesC F cs ms) (hm : m = ms.length) (hsb : ms.length ≤ 4000000) (hlt : to.length ≤ 4000000) :
    Does prog 229 [ptr b 0, .agg #[ii (i), ii (j), .bool (k), tov]] F (cellsH b [fv, sv] 96 :: slH 105 4 sv m cs :: L) (fun v F' L' => ∃ (sw cw : Value), IsSl sw ∧ IntsF F' cw to ∧ Fresh F F' (intsH 2 cw to) ∧ cellsH b [fv, sw] 96 :: slH 105 4 sw (m + 1) (cs ++ [.int .i64 i, .int .i64 j, .bool k, cw]) :: L = L') := by
 refine qH func229 rfl rfl rfl (qf (qc (cX (qZ [ii (i), ii (j), .bool (k), tov] rfl rfl ?_))))
 intro b1
 refine qd (qf (qc (cX (ql (3) qY rfl qv (by decide) rfl rfl (cX (qk qS rfl (Rd.own [] rfl rfl) (cX (jG <| qm (args := [tov]) call97 rfl (Clone_spec hto (hlt := (by first | assumption | rfl | omega | simp))) ?_))))))))
 rintro v1 _ _ _ ⟨rfl, hs1, rfl⟩
 refine ⟨_, _, rfl, fun F1 le1 hz1 => ?_⟩
 replace hto := hto.mono le1
 replace hC := hC.mono le1
 have hf1 : IntsF F1 v1 ((to)) := intsH.fz (xs := (to)) hz1.fz
 refine cX (ql (3) qY rfl qv (by decide) rfl rfl (cX (jJ [] _ [ii (i), ii (j), .bool (k), v1] qv rfl rfl (qJ (qG hf1)) rfl rfl rfl (qd (X.weaken (Sub.front (A := [_, _])) ?_)))))
 show X _ _ _ _ _ _ (slH 105 4 sv m cs :: cellsH b1 [ii (i), ii (j), .bool (k), v1] 105 :: cellsH b [fv, sv] 96 :: L)
 refine X.drawH [cellsH b1 [ii (i), ii (j), .bool (k), v1] 105, cellsH b [fv, sv] 96] L 8 [[], [], [], [], [], [], [], [6]] [[], [], [1], [2], [3], [], [5], [4, 6]] [[], [], [], [], [], [], [], [6]] (phiG [pe (ptr b 0), pe (ptr b 0), pe (ptr b 0), pe (ptr b 1), pe sv, pe (.agg #[ii (i), ii (j), .bool (k), v1]), fun FF us v => ∃ b, v = .slice (some ⟨b, 0, none⟩) 1 1, fun FF us v => IsSl v]) (ownL [o0, o0, o0, o0, o0, o0, fun us v => [slH 105 4 v 1 [ii (i), ii (j), .bool (k), v1]], fun us v => [slH 105 4 (us.getD 0 undef) 1 [ii (i), ii (j), .bool (k), v1], slH 105 4 (v) ((m) + 1) (cs ++ [ii (i), ii (j), .bool (k), v1])]]) (fun i => ([[], [], [], [], [], [], [], [slH 105 4 sv m cs]] : List (List HP)).getD i []) mixed rfl rfl (by kernel_rfl) (by kernel_rfl) (MonoG.get (m1 (m1 (m1 (m1 (m1 (m1 (mC (fun le h => h) (mC (fun le h => h) MonoG.nil))))))))) ?_ ?_
 ·refine tD (fun W Fs R lF z9 => ?_) ?_
  ·refine qj (qt (ptr b 0) rfl ?_)
   exact ⟨rfl, rfl⟩
  refine tD (fun W Fs R lF z9 => ?_) ?_
  ·refine qj (qt (ptr b 0) rfl ?_)
   exact ⟨rfl, rfl⟩
  refine tD (fun W Fs R lF z9 => ?_) ?_
  ·replace hto := hto.mono lF
   replace hC := hC.mono lF
   replace hf1 := hf1.mono lF
   rw [eS (l := [(1, _)]) ⟨z9 1 rfl, ⟨⟩⟩]
   refine qj (jD rfl ?_)
   exact ⟨rfl, rfl⟩
  refine tD (fun W Fs R lF z9 => ?_) ?_
  ·rw [eS (l := [(2, _)]) ⟨z9 2 rfl, ⟨⟩⟩]
   refine qj (ql (1) jE rfl sizeOf94 (by decide) rfl rfl ?_)
   exact ⟨rfl, rfl⟩
  refine tD (fun W Fs R lF z9 => ?_) ?_
  ·replace hto := hto.mono lF
   replace hC := hC.mono lF
   replace hf1 := hf1.mono lF
   rw [eS (l := [(3, _)]) ⟨z9 3 rfl, ⟨⟩⟩]
   refine qj (qk isAgg94 rfl (Rd.own [_] rfl rfl) ?_)
   exact ⟨rfl, rfl⟩
  refine tD (fun W Fs R lF z9 => ?_) ?_
  ·replace hto := hto.mono lF
   replace hC := hC.mono lF
   replace hf1 := hf1.mono lF
   refine qj (qq [ii (i), ii (j), .bool (k), v1] isAgg105 sizeOf105 rfl rfl (Rd.ownN [] rfl rfl) ?_)
   exact ⟨rfl, rfl⟩
  refine tD (fun W Fs R lF z9 => ?_) ?_
  ·replace hto := hto.mono lF
   replace hC := hC.mono lF
   replace hf1 := hf1.mono lF
   rw [eS (l := [(5, _)]) ⟨z9 5 rfl, ⟨⟩⟩]
   refine qj (qz (s := 4) [ii (i), ii (j), .bool (k), v1] [ii (0), ii (0), .bool (false), sN] [(0, [ii (i), ii (j), .bool (k), v1])] yc sizeOf105 zeroValue105 rfl (by decide) rfl (.cons rfl CellsAre.nil) rfl ?_)
   intro v4 hv2
   exact ⟨hv2, rfl⟩
  refine tD (fun W Fs R lF z9 => ?_) ?_
  ·have f6 : ∃ b, (W 6) = .slice (some ⟨b, 0, none⟩) 1 1 := z9 6 rfl
   replace hC := hC.mono lF
   replace hf1 := hf1.mono lF
   rw [eS (l := [(4, _)]) ⟨z9 4 rfl, ⟨⟩⟩]
   show XG _ _ _ _ _ (slH 105 4 (W 6) 1 [ii (i), ii (j), .bool (k), v1] :: slH 105 4 sv m cs :: ([cellsH b1 [ii (i), ii (j), .bool (k), v1] 105, cellsH b [fv, sv] 96] ++ R)) _
   refine qj (ye (m := 1) (bytes := 48) (cs := cs) [_] _ [ii (i), ii (j), .bool (k), v1] yc typeInfo105 rfl rfl rfl rfl rfl rfl rfl (SlV.own [] rfl) rfl (Rd.lit [] rfl) (qx rfl (qx rfl (qx rfl (qx (qJ (qG hf1)) qQ)))) (by (try simp only [List.length_append, List.length_nil, List.length_cons, List.length_singleton]); omega) (by (try simp only [List.length_append, List.length_nil, List.length_cons, List.length_singleton]); omega) ?_)
   intro v5 hs3 hn2 hm2
   have hc2 := MovesC.snoc hC (y0 := i) (y1 := j) (y2 := k) (y3 := (to)) hf1
   exact ⟨hs3, rfl⟩
  exact stepsT.nil
 intro W F2 le2 hphi
 have f6 : ∃ b, (W 6) = .slice (some ⟨b, 0, none⟩) 1 1 := hphi 6 (by decide)
 have f7 : IsSl (W 7) := hphi 7 (by decide)
 generalize hu6 : W 6 = u1 at f6 f7
 generalize hu7 : W 7 = u2 at f6 f7
 rw [eS (l := [(0, _), (6, u1), (7, u2)]) ⟨(hphi 0 (by decide)), hu6, hu7, ⟨⟩⟩]
 replace hC := hC.mono le2
 replace hf1 := hf1.mono le2
 have hc3 := MovesC.snoc hC (y0 := i) (y1 := j) (y2 := k) (y3 := (to)) hf1
 show XL _ _ _ _ _ _ _ (slH 105 4 u1 1 [ii (i), ii (j), .bool (k), v1] :: slH 105 4 u2 ((m) + 1) (cs ++ [ii (i), ii (j), .bool (k), v1]) :: cellsH b1 [ii (i), ii (j), .bool (k), v1] 105 :: cellsH b [fv, sv] 96 :: L)
 skip
 refine cX (jD rfl (cX (ql (1) jE rfl sizeOf94 (by decide) rfl rfl (cX (jJ [_, _, _] _ [fv, u2] sizeOf94 rfl rfl (qJ f7) rfl rfl rfl (qd (id (retEndN (L' := cellsH b [fv, u2] 96 :: slH 105 4 u2 ((m) + 1) (cs ++ [ii (i), ii (j), .bool (k), v1]) :: L) [] (.tuple #[]) (by exact .nil) rfl (qn le1 le2) rF (jx (Sub.front (A := [_])) (jx (Sub.front (A := [_, _, _])) (sC (sC (sD (sD sR)))))) ?_))))))))
 exact ⟨_, _, f7, hf1, (hz1.mono le2), rfl⟩

/- (impl.Chain).end -/
theorem chainEnd_spec {F : FH} {L : List HP} {fv : Value} {f : List Int} (hf : IntsF F fv f) {nsv : Value} {ns : List MoveT} (hns : MovesF F nsv ns) (hlss : ns.length ≤ 4000000) :
    Does prog 139 [.agg #[fv, nsv]] F (L) (fun v F' L' => F = F' ∧ ∃ (a : Value), (a : Value) = v ∧ (IntsF F' a (endM f ns)) ∧ L = L') := by
 refine qH func139 rfl rfl rfl (qf (qc (cX (qZ [fv, nsv] rfl rfl ?_))))
 intro b1
 refine qi (sN) rfl (qd (qf (qf (qc (cX (ql (1) jE rfl sizeOf94 (by decide) rfl rfl (cX (qk isAgg94 rfl (Rd.own [] rfl rfl) (cX (qE yc rfl hns.slv (qi (ii ((ns.length : Int))) rfl (qd (qf (qc (qh (ii ((ns.length : Int))) rfl (cX (jH rfl rfl (qd ?_))))))))))))))))))
 refine qC (p := ((ns.length : Int) : Int) > 0) rfl (fun h1 => ?_) (fun h1 => ?_)
 ·refine qf (qc (cX (ql (1) jE rfl sizeOf94 (by decide) rfl rfl (cX (qk isAgg94 rfl (Rd.own [] rfl rfl) (qh (ii ((ns.length : Int))) rfl (cX (jp (((((ns).length) - 1 : Nat) : Int)) rfl rfl (by omega) (by omega) (cX (qD (((ns).length) - 1) yc sizeOf105 rfl rfl rfl hns.slv (by omega) rfl (cX (jT ((((ns).length) - 1) * 4 + 3) qY rfl qv (by decide) rfl rfl ?_))))))))))))
  obtain ⟨a1, ha1, hrg1, hq1⟩ := hns.rd (i := ((ns).length) - 1) (by omega)
  refine cX (qk qS rfl (hrg1 _ 3 _ rfl) (qi (a1) rfl (qd (qu (qo (qs (L' := L) [a1] (a1) (.tmp rfl .nil) rfl rF rF (sD sR) ?_))))))
  exact ⟨rfl, _, rfl, by rw [endM, if_neg (by omega)]; exact ha1, rfl⟩
 refine qA (qf (qc (cX (ql (0) jE rfl qv (by decide) rfl rfl (cX (qk qS rfl (Rd.own [] rfl rfl) (qi (fv) rfl (qd (qu (qs (L' := L) [fv] (fv) (.tmp rfl .nil) rfl rF rF (sD sR) ?_))))))))))
 exact ⟨rfl, _, rfl, by rw [endM, if_pos (by omega)]; exact hf, rfl⟩

/- impl.chainOfWalk -/
set_option maxRecDepth 20000 in
theorem chainOfWalk_spec {F : FH} {L : List HP} {fv : Value} {f : List Int} (hf : IntsF F fv f) {xsv : Value} {xs : List StepT} (hxs : StepsF F xsv xs) (hlf : f.length ≤ 4000000) (hlx : xs.length ≤ 60) (hxb : ∀ i, i < xs.length → (xs.getD i (0, 0, [])).2.2.length ≤ 60) :
    Does prog 130 [.agg #[fv, xsv]] F (L) (fun v F' L' => ∃ (a : Value), ∃ (b : Value), (.agg #[a, b] : Value) = v ∧ (IntsF F' a f) ∧ (MovesF F' b (chainL xs)) ∧ (Fresh F F' (star [intsH 2 a f, movesD 2 105 b (chainL xs)])) ∧ L = L') := by
 refine qH func130 rfl rfl rfl (qf (qc (cX (qZ [fv, xsv] rfl rfl ?_))))
 intro b1
 refine cX (ji [sN, sN] zeroValue96 rfl ?_)
 intro b2
 refine qd (qf (qc (cX (ql (0) jg rfl qv (by decide) rfl rfl (cX (qk qS rfl (Rd.own [_] rfl rfl) (cX (jG <| qm (args := [fv]) call97 rfl (Clone_spec hf (hlt := (by first | assumption | rfl | omega | simp))) ?_))))))))
 rintro v1 _ _ _ ⟨rfl, hs1, rfl⟩
 refine ⟨_, _, rfl, fun F1 le1 hz1 => ?_⟩
 replace hxs := hxs.mono le1
 have hf1 : IntsF F1 v1 ((f)) := intsH.fz (xs := (f)) hz1.fz
 refine cX (jk [v1, sN] [sN, sN] [(0, 1), (1, 1)] [(0, [v1])] jE zeroValue96 rfl (.cons rfl qv (.cons rfl sizeOf94 PlacesAre.nil)) rfl (.cons (cells_one (qG hf1)) CellsAre.nil) (cX (ji [sN, sN] zeroValue96 rfl ?_)))
 intro b3
 refine cX (qK [] _ [v1, sN] sizeOf96 rfl rfl rfl (qx (qJ (qG hf1)) (qx rfl qQ)) rfl rfl rfl (qd (qf (qf (qc (cX (ql (1) jg rfl jK (by decide) rfl rfl (cX (qk isAgg43 rfl (Rd.own [_, _] rfl rfl) (cX (qE ju rfl hxs.slv (qh (ii (0)) rfl (qd (qR (jy (α := Nat × Value × List MoveT × List Value × List HP × Nat × FH) (fun xQ => [(2, ptr b2 0), (3, ptr b3 0), (11, xsv), (12, ii ((xs.length : Int))), (13, ii (((xQ.1 : Nat) : Int)))]) (fun xQ => slH 105 4 xQ.2.1 xQ.2.2.2.2.2.1 xQ.2.2.2.1 :: cellsH b3 [v1, xQ.2.1] 96 :: cellsH b2 [sN, sN] 96 :: cellsH b1 [fv, xsv] 45 :: L) (fun xQ F' => xQ.2.2.2.2.2.2 = F' ∧ F1 ≤ xQ.2.2.2.2.2.2 ∧ (xQ.1 ≤ xs.length) ∧ (IsSl xQ.2.1) ∧ (MovesC xQ.2.2.2.2.2.2 xQ.2.2.2.1 xQ.2.2.1) ∧ (xQ.2.2.2.2.2.1 = xQ.2.2.1.length) ∧ (DeepL 4 (MoveO 2) xQ.2.2.2.1 xQ.2.2.1 xQ.2.2.2.2.1) ∧ (Fresh F1 xQ.2.2.2.2.2.2 (star xQ.2.2.2.2.1)) ∧ (xQ.2.2.1 = chainL (xs.take xQ.1))) (fun xQ => xs.length - xQ.1) (0, sN, [], [], [], 0, F1) ⟨rfl, rfl, rfl, rfl, rfl, ⟨⟩⟩ (jx (Sub.addNil 105 4 _ _) (sC (sC (sC (sC sR))))) ⟨rfl, FLe.refl _, (by (try dsimp only) <;> omega), (⟨_, _, _, rfl⟩), (CO.nil), (rfl), (DeepL.nil), (Fresh.nilL), (rfl)⟩ ?_)))))))))))))))
 rintro ⟨k, sv, ms, cs, Ls, m, G1⟩ rE _ _ ⟨rfl, leG, hk, hsv, hC, hm, hD, hZ, hms⟩
 show X _ _ _ _ (envs [(2, ptr b2 0), (3, ptr b3 0), (11, xsv), (12, ii ((xs.length : Int))), (13, ii ((k : Int)))] rE) _ (slH 105 4 sv m cs :: cellsH b3 [v1, sv] 96 :: cellsH b2 [sN, sN] 96 :: cellsH b1 [fv, xsv] 45 :: L)
 replace leG : F1 ≤ G1 := leG
 dsimp only at hk hsv hC hm hD hZ hms
 have hxk := hxb k
 have hml : ms.length = k := by rw [hms, chainL_len, List.length_take]; omega
 have leG1 := leG
 replace hxs := hxs.mono leG1
 replace hf1 := hf1.mono leG1
 refine qf (qc (cX (jh rfl rfl (qd (qf ?_)))))
 refine qC (p := (k : Int) < (xs.length : Int)) rfl (fun h1 => ?_) (fun h1 => ?_)
 ·refine qA (qf (qR (qf (qc (cX (qD k ju yh rfl rfl rfl hxs.slv (by omega) rfl ?_))))))
  obtain ⟨a1, ha1, hr1, hr2, hr3⟩ := hxs.rd (i := k) (by omega)
  refine cX (qq [ii ((xs.getD k (0, 0, [])).1), ii ((xs.getD k (0, 0, [])).2.1), a1] isAgg102 yh rfl rfl (Rd.three (hr1 _) (hr2 _) (hr3 _)) (cX (ji [ii (0), ii (0), sN] zeroValue102 rfl ?_)))
  intro b4
  refine cX (qK [] _ [ii ((xs.getD k (0, 0, [])).1), ii ((xs.getD k (0, 0, [])).2.1), a1] yh rfl rfl rfl (qx rfl (qx rfl (qx (qJ (qG ha1)) qQ))) rfl rfl rfl (qd (qc (cX (ql (1) jA rfl qy (by decide) rfl rfl (cX (qk je rfl (Rd.own [] rfl rfl) (cX (ql (0) jA rfl qy (by decide) rfl rfl (cX (qk je rfl (Rd.own [] rfl rfl) (cX (ql (2) jA rfl qv (by decide) rfl rfl (cX (qk qS rfl (Rd.own [] rfl rfl) (cX (jk [ii ((xs.getD k (0, 0, [])).2.1), ii ((xs.getD k (0, 0, [])).1), .bool (false), a1] [ii (0), ii (0), .bool (false), sN] [(0, 1), (1, 1), (2, 1), (3, 1)] [(0, [ii ((xs.getD k (0, 0, [])).2.1)]), (1, [ii ((xs.getD k (0, 0, [])).1)]), (3, [a1])] qY zeroValue105 rfl (.cons rfl qy (.cons rfl qy (.cons rfl sizeOf4 (.cons rfl qv PlacesAre.nil)))) rfl (.cons rfl (.cons rfl (.cons (cells_one (qG ha1)) CellsAre.nil))) (XL.weaken (Sub.front (A := [_])) ?_))))))))))))))))))
  show XL _ _ _ _ _ _ _ (slH 105 4 sv m cs :: cellsH b4 [ii ((xs.getD k (0, 0, [])).1), ii ((xs.getD k (0, 0, [])).2.1), a1] 102 :: cellsH b3 [v1, sv] 96 :: cellsH b2 [sN, sN] 96 :: cellsH b1 [fv, xsv] 45 :: L)
  refine XL.weaken (Sub.front (A := [_, _])) ?_
  show XL _ _ _ _ _ _ _ (cellsH b3 [v1, sv] 96 :: slH 105 4 sv m cs :: cellsH b4 [ii ((xs.getD k (0, 0, [])).1), ii ((xs.getD k (0, 0, [])).2.1), a1] 102 :: cellsH b2 [sN, sN] 96 :: cellsH b1 [fv, xsv] 45 :: L)
  refine cX (qm (args := [ptr b3 0, .agg #[ii ((xs.getD k (0, 0, [])).2.1), ii ((xs.getD k (0, 0, [])).1), .bool (false), a1]]) call229 rfl (chainAdd_spec ha1 hsv hC (by first | rfl | assumption | omega) (by omega) (by omega)) ?_)
  rintro _ F2 _ le2 ⟨sw1, cw1, hs2, hw1, hf2, rfl⟩
  replace hf1 := hf1.mono le2
  replace hC := hC.mono le2
  have hc1 := MovesC.snoc hC (y0 := (xs.getD k (0, 0, [])).2.1) (y1 := (xs.getD k (0, 0, [])).1) (y2 := false) hw1
  show XL _ _ _ _ _ _ _ (cellsH b3 [v1, sw1] 96 :: slH 105 4 sw1 ((m) + 1) ((cs ++ [ii ((xs.getD k (0, 0, [])).2.1), ii ((xs.getD k (0, 0, [])).1), .bool (false), cw1])) :: cellsH b4 [ii ((xs.getD k (0, 0, [])).1), ii ((xs.getD k (0, 0, [])).2.1), a1] 102 :: cellsH b2 [sN, sN] 96 :: cellsH b1 [fv, xsv] 45 :: L)
  refine qd (qc (cX (qU (((k + 1 : Nat) : Int)) rfl rfl (by omega) (by omega) (qh (ii (((k + 1 : Nat) : Int))) rfl (qd ?_)))))
  exact ⟨(k + 1, sw1, (ms ++ [((xs.getD k (0, 0, [])).2.1, (xs.getD k (0, 0, [])).1, false, (xs.getD k (0, 0, [])).2.2)]), (cs ++ [ii ((xs.getD k (0, 0, [])).2.1), ii ((xs.getD k (0, 0, [])).1), .bool (false), cw1]), Ls ++ [intsH 2 cw1 ((xs.getD k (0, 0, [])).2.2)], (m) + 1, F2), _, (qn leG1 le2), rF, ⟨rfl, rfl, rfl, rfl, rfl, ⟨⟩⟩, (jx (Sub.front (A := [_, _, _, _])) (jx (Sub.front (A := [_, _, _, _])) (jx (Sub.front (A := [_, _])) (jx (Sub.front (A := [_, _, _])) (sC (sC (sC (sC (sD sR))))))))), ⟨rfl, (qn leG1 le2), (by (try dsimp only) <;> omega), (hs2), (hc1), (by (try dsimp only); rw [List.length_append]; simp only [List.length_singleton]; omega), (DeepL.snoc hD rfl ⟨_, rfl, rfl⟩), ((Fresh.app hZ leG1 (Fresh.one hf2) le2)), (by (try dsimp only); rw [chainL_succ (by omega), ← hms]; rfl)⟩, (by omega)⟩
 refine jo (qB (qB (qW (qf (qc (cX (qq [v1, sv] isAgg96 sizeOf96 rfl rfl (Rd.ownN [_] rfl rfl) (cX (qK [_, _] _ [v1, sv] sizeOf96 rfl rfl rfl (qx (qJ (qG hf1)) (qx (qJ hsv) qQ)) rfl rfl rfl (qd (qT [] _ _ rfl (fun F3 le3 hz2 => ?_))))))))))))
 replace hf1 := hf1.mono le3
 replace hC := hC.mono le3
 have hf3 : MovesF F3 sv ms := CO.fz hC (by first | rfl | omega | (rw [List.length_set]; omega) | (simp; done)) hz2.fz
 refine qu (qs (L' := L) [.agg #[v1, sv]] (.agg #[v1, sv]) (.cell rfl (jt [v1, sv] isAgg96 sizeOf96 rfl (Rd.ownN [_] rfl rfl)) .nil) rfl (qn (qn le1 leG1) le3) rF (sD (sD (sD sR))) ?_)
 have e9 : ms = chainL xs := by rw [hms, show k = xs.length from by omega, List.take_length]
 rw [← e9]
 exact ⟨_, _, rfl, hf1, hf3, (Fresh.app (Fresh.one hz1) le1 (Fresh.one (Fresh.deep hD hZ leG1 hz2 (by omega) le3)) (qn leG1 le3)), rfl⟩
end Go.Proofs.YtenomejgjcpbdaaGreat
set_option linter.unusedSimpArgs false
set_option linter.unusedVariables false
namespace Go.Proofs.YtenomejgjcpbdaaGreat
open Go X M Tryz
end Go.Proofs.YtenomejgjcpbdaaGreat
set_option linter.unusedSimpArgs false
set_option linter.unusedVariables false
namespace Go.Proofs.YtenomejgjcpbdaaGreat
open Go X M Tryz

/- impl.ChainOfWalk -/
set_option maxRecDepth 20000 in
theorem ChainOfWalk_spec {F : FH} {L : List HP} {arv : Value} {ar : List Int} (har : IntsF F arv ar) {rsv : Value} {rs : List (List Int × List Int)} (hrs : PairsF F rsv rs) {fv : Value} {f : List Int} (hf : IntsF F fv f) {xsv : Value} {xs : List StepT} (hxs : StepsF F xsv xs) (hlf : f.length ≤ 4000000) (hsb : ∀ i, i < xs.length → (xs.getD i (0, 0, [])).2.2.length ≤ 4000000) :
    Does prog 48 [.agg #[arv, rsv], .agg #[fv, xsv]] F (L) (fun v F' L' => ∃ (a : Value), ∃ (b : Value), (.tuple #[.agg #[a, b], .bool ((chainWF ar rs f xs).2.2)] : Value) = v ∧ (IntsF F' a (chainWF ar rs f xs).1) ∧ (MovesF F' b (chainWF ar rs f xs).2.1) ∧ (Fresh F F' (star [intsH 2 a (chainWF ar rs f xs).1, movesD 2 105 b (chainWF ar rs f xs).2.1])) ∧ L = L') := by
 refine qH func48 rfl rfl rfl (qf (qc (cX (qZ [arv, rsv] rfl rfl ?_))))
 intro b1
 refine cX (qZ [fv, xsv] rfl rfl ?_)
 intro b2
 refine cX (ji [sN, sN] zeroValue96 rfl ?_)
 intro b3
 refine qi (.bool (false)) rfl (qd (qf (qf (qc (cX (qq [arv, rsv] jj qX rfl rfl (Rd.ownN [_, _] rfl rfl) (cX (qq [fv, xsv] jN jq rfl rfl (Rd.ownN [_] rfl rfl) (cX (qm (args := [.agg #[arv, rsv], .agg #[fv, xsv]]) call77 rfl (WalkOk_spec har hrs hf hxs (hlf := (by first | assumption | rfl | omega | simp)) (hsb := (by first | assumption | rfl | omega | simp))) ?_))))))))))
 rintro _ _ _ _ ⟨rfl, rfl, rfl⟩
 refine cX (jf rfl (qd ?_))
 refine jw (t := !(walkOkL ar rs f xs)) rfl (fun h1 => ?_) (fun h1 => ?_)
 ·have hwk : walkOkL ar rs f xs = false := by simpa using h1
  refine qf (qc (cX (jk [sN, sN] [sN, sN] [(0, 1), (1, 1)] [] jE zeroValue96 rfl (.cons rfl qv (.cons rfl sizeOf94 PlacesAre.nil)) rfl CellsAre.nil (cX (qK [] _ [sN, sN] sizeOf96 rfl rfl rfl (qx rfl (qx rfl qQ)) rfl rfl rfl (qi (.bool (false)) rfl (qd (qu (qo (qs (L' := L) [.agg #[sN, sN], .bool (false)] (.tuple #[.agg #[sN, sN], .bool (false)]) (.cell rfl (jt [sN, sN] isAgg96 sizeOf96 rfl (Rd.ownN [] rfl rfl)) (.tmp rfl .nil)) rfl rF rF (sD (sD (sD sR))) ?_))))))))))
  have e : chainWF ar rs f xs = ([], [], false) := chainWF_no hwk
  exact ⟨_, _, by rw [e], by rw [e]; exact IntsF.nilV, by rw [e]; exact SlOf.nilV, by rw [e]; exact Fresh.empty nilChain, rfl⟩
 have hwk : walkOkL ar rs f xs = true := by simpa using h1
 have hwb := walkOk_bound hwk
 have hwb1 := hwb.1
 have hwb2 := hwb.2.1
 refine qA (qf (qc (cX (qq [fv, xsv] jN jq rfl rfl (Rd.ownN [_] rfl rfl) (cX (qm (args := [.agg #[fv, xsv]]) call130 rfl (chainOfWalk_spec hf hxs (hlf := (by first | assumption | rfl | omega | simp)) (hlx := (by first | assumption | rfl | omega | simp)) (hxb := (hwb.2.2))) ?_))))))
 rintro _ F1 _ le1 ⟨x1, x2, rfl, hr1, hr2, hr3, rfl⟩
 refine cX (qK [] _ [x1, x2] sizeOf96 rfl rfl rfl (qx (qJ (qG hr1)) (qx (qJ (MovesF.isSl hr2)) qQ)) rfl rfl rfl (qi (.bool (true)) rfl (qd (qu (qs (L' := L) [.agg #[x1, x2], .bool (true)] (.tuple #[.agg #[x1, x2], .bool (true)]) (.cell rfl (jt [x1, x2] isAgg96 sizeOf96 rfl (Rd.ownN [] rfl rfl)) (.tmp rfl .nil)) rfl le1 rF (sD (sD (sD sR))) ?_)))))
 have e := chainWF_yes hwk
 exact ⟨_, _, by rw [e], by rw [e]; exact hr1, by rw [e]; exact hr2, by rw [e]; exact hr3, rfl⟩
end Go.Proofs.YtenomejgjcpbdaaGreat
set_option linter.unusedSimpArgs false
set_option linter.unusedVariables false
namespace Go.Proofs.YtenomejgjcpbdaaGreat
open Go X M Tryz
end Go.Proofs.YtenomejgjcpbdaaGreat
set_option linter.unusedSimpArgs false
set_option linter.unusedVariables false
namespace Go.Proofs.YtenomejgjcpbdaaGreat
open Go X M Tryz

/- spec.SubAt -/
theorem sSubAt_spec {F : FH} {L : List HP} {arv : Value} {ar : List Int} (har : IntsF F arv ar) {tv : Value} {t : List Int} (ht : IntsF F tv t) {p : Int} (hla : ar.length ≤ 4000000) (hlt : t.length ≤ 4000000) :
    Does prog 149 [.agg #[arv], tv, ii (p)] F (L) (fun v F' L' => ∃ (a : Value), (a : Value) = v ∧ (IntsF F' a (if posOk ar t p = true then sub ar t p.toNat else [])) ∧ L = L') := by
 refine qH func149 rfl rfl rfl (qf (qc (cX (qZ [arv] rfl rfl ?_))))
 intro b1
 refine qi (sN) rfl (qd (qf (qf (qc (cX (qq [arv] qI qw rfl rfl (Rd.ownN [] rfl rfl) (qh (tv) rfl (cX (qm (args := [.agg #[arv], tv]) call136 rfl (sTermOk_spec har ht (hla := (by first | assumption | rfl | omega | simp)) (hlt := (by first | assumption | rfl | omega | simp))) ?_)))))))))
 rintro _ _ _ _ ⟨rfl, rfl, rfl⟩
 refine cX (jf rfl (qh (.bool (!(termOk ar t))) rfl ?_))
 by_cases h1 : (!(termOk ar t)) = true
 ·refine qp (t := 11) rfl (vB h1) (qp (t := 11) rfl (vB h1) (qp (t := 11) rfl (vB h1) (qp (t := 11) rfl (vB h1) (cX (qP (.bool (true)) (vB h1) rfl (qd (jC rfl (qf (qc (cX (qz (s := 1) [] [ii (0)] [] qg qy qO rfl (by decide) rfl CellsAre.nil rfl ?_)))))))))))
  intro v1 hv1
  refine qi (v1) rfl (qd ?_)
  show X _ _ _ _ _ _ (intsH 2 v1 ([] : List Int) :: cellsH b1 [arv] 36 :: L)
  refine qT [] _ _ rfl (fun F1 le1 hz1 => ?_)
  replace har := har.mono le1
  replace ht := ht.mono le1
  have hf1 : IntsF F1 v1 ([]) := intsH.fz (xs := []) hz1.fz
  refine qu (qo (qs (L' := L) [v1] (v1) (.tmp rfl .nil) rfl le1 rF (sD sR) ?_))
  exact ⟨_, rfl, by rw [if_neg (by rw [posOk_iff]; simp_all <;> omega)]; exact hf1, rfl⟩
 rw [Bool.not_eq_true] at h1
 refine qr (t := 11) rfl (vB h1) (qt (tv) rfl (qr (t := 11) rfl (vB h1) (qt (ii (p)) rfl (qr (t := 11) rfl (vB h1) (qm (args := [tv, ii (p)]) call109 rfl (l1There_spec (n := p) ht (hbd := (by first | assumption | rfl | omega | simp))) ?_)))))
 rintro _ _ _ _ ⟨rfl, rfl, rfl⟩
 refine qr (t := 11) rfl (vB h1) (jQ rfl (cX (qN (.bool (decide (¬(0 ≤ p ∧ p < (t.length : Int))))) (vB h1) rfl (qd ?_))))
 refine qC (p := ¬(0 ≤ p ∧ p < (t.length : Int))) rfl (fun h2 => ?_) (fun h2 => ?_)
 ·refine qf (qc (cX (qz (s := 1) [] [ii (0)] [] qg qy qO rfl (by decide) rfl CellsAre.nil rfl ?_)))
  intro v2 hv2
  refine qi (v2) rfl (qd ?_)
  show X _ _ _ _ _ _ (intsH 2 v2 ([] : List Int) :: cellsH b1 [arv] 36 :: L)
  refine qT [] _ _ rfl (fun F2 le2 hz2 => ?_)
  replace har := har.mono le2
  replace ht := ht.mono le2
  have hf2 : IntsF F2 v2 ([]) := intsH.fz (xs := []) hz2.fz
  refine qu (qo (qs (L' := L) [v2] (v2) (.tmp rfl .nil) rfl le2 rF (sD sR) ?_))
  exact ⟨_, rfl, by rw [if_neg (by rw [posOk_iff]; simp_all <;> omega)]; exact hf2, rfl⟩
 refine qA (qf (qc ?_))
 have ho : termOk ar t = true := by simp_all
 have hpz : 0 ≤ p ∧ p < (t.length : Int) := by simp_all
 refine cX (qq [arv] qI qw rfl rfl (Rd.ownN [] rfl rfl) (qh (tv) rfl (qh (ii (p)) rfl (cX (jG <| qm (args := [.agg #[arv], tv, ii (((p).toNat : Nat) : Int)]) call209 (by rw [show (((p).toNat : Nat) : Int) = p from by omega]; rfl) (l1Sub_spec (p := (p).toNat) har ht (ho := (by first | assumption | rfl | omega | simp)) (hp := (by first | assumption | rfl | omega | simp))) ?_)))))
 rintro v3 _ _ _ ⟨rfl, hs1, rfl⟩
 refine ⟨_, _, rfl, fun F3 le3 hz3 => ?_⟩
 have hf3 : IntsF F3 v3 ((sub ar t ((p).toNat))) := intsH.fz (xs := (sub ar t ((p).toNat))) hz3.fz
 refine qi (v3) rfl (qd (qu (qs (L' := L) [v3] (v3) (.tmp rfl .nil) rfl le3 rF (sD sR) ?_)))
 exact ⟨_, rfl, by rw [if_pos (posOk_iff.2 ⟨ho, hpz⟩)]; exact hf3, rfl⟩
end Go.Proofs.YtenomejgjcpbdaaGreat
set_option linter.unusedSimpArgs false
set_option linter.unusedVariables false
namespace Go.Proofs.YtenomejgjcpbdaaGreat
open Go X M Tryz

/- spec.l1Args -/
theorem l1Args_spec {F : FH} {L : List HP} {arv : Value} {ar : List Int} (har : IntsF F arv ar) {tv : Value} {t : List Int} (ht : IntsF F tv t) {p : Nat} (ho : termOk ar t = true) (hp : p < t.length) :
    Does prog 327 [.agg #[arv], tv, ii ((p : Int))] F (L) (fun v F' L' => F = F' ∧ IsSl v ∧ intsH 2 v (argsL ar t p) :: L = L') := by
 refine qH func327 rfl rfl rfl ?_
 have hsl := sigOk_spec (termOk_sig ho)
 have htl := termOk_len ho
 have hsig := termOk_sig ho
 have hA := arity_le hsig (termOk_lt ho hp)
 have hge := termOk_ge ho hp
 have hlt := termOk_lt ho hp
 refine qf (qc (cX (qZ [arv] rfl rfl ?_)))
 intro b1
 refine qi (sN) rfl (qd (qf (qc (cX (qz (s := 1) [] [ii (0)] [] qg qy qO rfl (by decide) rfl CellsAre.nil rfl ?_)))))
 intro v1 hv1
 refine qi (v1) rfl (qd (qf (qc (qh (ii ((p : Int))) rfl (cX (qU (((p + 1 : Nat) : Int)) rfl rfl (by omega) (by omega) (qi (ii (((p + 1 : Nat) : Int))) rfl (qd (qf (qf ?_))))))))))
 refine jY [slH 2 1 v1 0 [], cellsH b1 [arv] 36] L 5 [] [[], [], [], [1, 2], [3]] (phiL [qe (.agg #[arv]), qe tv, qe (ii ((p : Int)) : Value), qe (.pointer (some (elemA tv (p)))), qe (ii (t.getD p 0))]) (ownL []) mixed rfl rfl (by kernel_rfl) ?_ ?_
 ·refine pD (fun W R z9 => ?_) ?_
  ·refine qj (qq [arv] qI qw rfl rfl (Rd.ownN [_] rfl rfl) ?_)
   exact ⟨rfl, rfl, rfl⟩
  refine pD (fun W R z9 => ?_) ?_
  ·refine qj (qt (tv) rfl ?_)
   exact ⟨rfl, rfl, rfl⟩
  refine pD (fun W R z9 => ?_) ?_
  ·refine qj (qt (ii ((p : Int))) rfl ?_)
   exact ⟨rfl, rfl, rfl⟩
  refine pD (fun W R z9 => ?_) ?_
  ·rw [eS (l := [(1, _), (2, _)]) ⟨z9 1 rfl, z9 2 rfl, ⟨⟩⟩]
   refine qj (qD p qg qy rfl rfl rfl ht.slv (by omega) (Nat.mul_one _) ?_)
   exact ⟨rfl, rfl, rfl⟩
  refine pD (fun W R z9 => ?_) ?_
  ·rw [eS (l := [(3, _)]) ⟨z9 3 rfl, ⟨⟩⟩]
   refine qj (qk je rfl (ht.rd (by omega)) ?_)
   exact ⟨rfl, rfl, rfl⟩
  exact stepsP.nil
 intro W hphi
 rw [eS (l := [(0, _), (4, _)]) ⟨(hphi 0 (by decide)), (hphi 4 (by decide)), ⟨⟩⟩]
 show XL _ _ _ _ _ _ _ (slH 2 1 v1 0 [] :: cellsH b1 [arv] 36 :: L)
 refine cX (qm (args := [.agg #[arv], ii (t.getD p 0)]) call274 rfl (l1Arity_spec (n := t.getD p 0) har (hla := (by first | assumption | rfl | omega | simp))) ?_)
 rintro _ _ _ _ ⟨rfl, rfl, rfl⟩
 refine qi (ii (sArity ar (t.getD p 0))) rfl (qd (qR (jy (α := Nat × Nat × Value × List Int) (fun xQ => [(1, tv), (3, ptr b1 0), (7, xQ.2.2.1), (8, ii (((xQ.2.1 : Nat) : Int))), (9, ii (((xQ.1 : Nat) : Int)))]) (fun xQ => intsH 2 xQ.2.2.1 xQ.2.2.2 :: cellsH b1 [arv] 36 :: L) (fun xQ F' => F = F' ∧ (IsSl xQ.2.2.1) ∧ (Stand ar t xQ.1 xQ.2.1 (endN ar t p)) ∧ (argsL ar t p = xQ.2.2.2 ++ argsGo ar t xQ.1 xQ.2.1) ∧ (xQ.2.2.2.length + xQ.1 ≤ 3)) (fun xQ => xQ.1) ((arity ar (t.getD p 0)).toNat, p + 1, v1, []) ⟨rfl, rfl, rfl, rfl, (vI (by first | omega | (rw [sArity_eq (by omega)]; omega))), ⟨⟩⟩ (sC (sC sR)) ⟨rfl, ((qV hv1)), (stand_start ho hp), (rfl), (by rw [List.length_nil]; omega)⟩ ?_)))
 rintro ⟨m, q, ov, os⟩ rE _ _ ⟨rfl, hov, hS, hos, hol⟩
 show X _ _ _ _ (envs [(1, tv), (3, ptr b1 0), (7, ov), (8, ii ((q : Int))), (9, ii ((m : Int)))] rE) _ (intsH 2 ov os :: cellsH b1 [arv] 36 :: L)
 dsimp only at hov hS hos hol
 have hst := fun (h : 1 ≤ m) => stand_step ho (n := m - 1) (by rw [Nat.sub_add_cancel h]; exact hS)
 refine qf (qf (qc (qh (ii ((m : Int))) rfl (cX (jH rfl rfl (qd ?_))))))
 refine qC (p := (m : Int) > 0) rfl (fun h1 => ?_) (fun h1 => ?_)
 ·refine qA (qf (qR (qf (qc (qh (ov) rfl (qh (ii ((q : Int))) rfl (cX (qz (s := 1) [ii ((q : Int))] [ii (0)] [(0, [ii ((q : Int))])] qg qy qO rfl (by decide) rfl (.cons rfl CellsAre.nil) rfl ?_))))))))
  intro v2 hv2
  refine cX (XOp.append1 (u := (q : Int)) [_] _ qg typeInfo2 rfl rfl rfl rfl rfl rfl (SlV.own [] rfl) (Rd.sl [] rfl rfl) (by (try simp only [List.length_append, List.length_nil, List.length_cons, List.length_singleton, List.length_take, List.length_drop]); omega) ?_)
  intro v3 hs1 hn1
  refine qi (v3) rfl (qd (qc (cX (qq [arv] qI qw rfl rfl (Rd.ownN [_, _] rfl rfl) (qh (tv) rfl (qh (ii ((q : Int))) rfl (cX (qm (args := [.agg #[arv], tv, ii (q : Int)]) call196 rfl (l1End_ok (p := q) har ht (ho := (by first | assumption | rfl | omega | (left; simp; done) | (right; simp; done))) (hp := (by first | assumption | rfl | omega | (left; simp; done) | (right; simp; done)))) ?_))))))))
  rintro _ _ _ _ ⟨rfl, rfl, rfl⟩
  refine qi (ii (((endN ar t q : Nat) : Int))) rfl (qd (qc (qh (ii ((m : Int))) rfl (cX (jp (((m : Int)) - 1) rfl rfl (by omega) (by omega) (qi (ii (((m : Int)) - 1)) rfl (qd ?_)))))))
  exact ⟨(m - 1, endN ar t q, v3, os ++ [(q : Int)]), _, FLe.refl _, rF, ⟨rfl, rfl, rfl, rfl, (vI (by omega)), ⟨⟩⟩, (sD (sC (sC sR))), ⟨rfl, (hs1), ((hst (by omega)).2.1), (args_next ho (by omega) hos), (by dsimp only; rw [List.length_append, List.length_singleton]; omega)⟩, (by omega)⟩
 refine jo (qB (qB (qW (qf (qc (qh (ov) rfl (qi (ov) rfl (qd (qu (qs (L' := intsH 2 ov os :: L) [ov] (ov) (.tmp rfl .nil) rfl rF rF (sC (sD sR)) ?_))))))))))
 refine ⟨rfl, hov, ?_⟩
 have hxs : (argsL ar t p : List Int) = os := by rw [hos, show m = 0 from by omega]; simp [argsGo]
 exact congrArg (fun z => intsH 2 _ z :: L) hxs

/- spec.l3Right -/
theorem l3Right_spec {F : FH} {L : List HP} {arv : Value} {ar : List Int} (har : IntsF F arv ar) {tv : Value} {t : List Int} (ht : IntsF F tv t) {n : Int} (hla : ar.length ≤ 4000000) (hlt : t.length ≤ 4000000) :
    Does prog 299 [.agg #[arv], tv, ii (n)] F (L) (fun v F' L' => (.bool (posOk ar t n) : Value) = v ∧ F = F' ∧ L = L') := by
 refine qH func299 rfl rfl rfl (qf (qc (cX (qZ [arv] rfl rfl ?_))))
 intro b1
 refine qi (.bool (false)) rfl (qd (qf (qc (cX (qq [arv] qI qw rfl rfl (Rd.ownN [] rfl rfl) (qh (tv) rfl (cX (qm (args := [.agg #[arv], tv]) call136 rfl (sTermOk_spec har ht (hla := (by first | assumption | rfl | omega | simp)) (hlt := (by first | assumption | rfl | omega | simp))) ?_))))))))
 rintro _ _ _ _ ⟨rfl, rfl, rfl⟩
 refine qh (.bool (termOk ar t)) rfl ?_
 by_cases h1 : (termOk ar t) = true
 ·refine qr (t := 10) rfl (vB h1) (qt (tv) rfl (qr (t := 10) rfl (vB h1) (qt (ii (n)) rfl (qr (t := 10) rfl (vB h1) (qm (args := [tv, ii (n)]) call109 rfl (l1There_spec (n := n) ht (hbd := (by first | assumption | rfl | omega | simp))) ?_)))))
  rintro _ _ _ _ ⟨rfl, rfl, rfl⟩
  refine cX (qP (.bool (decide (0 ≤ n ∧ n < (t.length : Int)))) (vB h1) rfl (qi (.bool (decide (0 ≤ n ∧ n < (t.length : Int)))) rfl (qd (qu (qs (L' := L) [.bool (decide (0 ≤ n ∧ n < (t.length : Int)))] (.bool (decide (0 ≤ n ∧ n < (t.length : Int)))) (.tmp rfl .nil) rfl rF rF (sD sR) ?_)))))
  exact ⟨((by unfold posOk; simp_all)), rfl, rfl⟩
 rw [Bool.not_eq_true] at h1
 refine qp (t := 10) rfl (vB h1) (qp (t := 10) rfl (vB h1) (qp (t := 10) rfl (vB h1) (cX (qN (.bool (false)) (vB h1) rfl (qi (.bool (false)) rfl (qd (qu (qs (L' := L) [.bool (false)] (.bool (false)) (.tmp rfl .nil) rfl rF rF (sD sR) ?_))))))))
 exact ⟨((by unfold posOk; simp_all)), rfl, rfl⟩
end Go.Proofs.YtenomejgjcpbdaaGreat
