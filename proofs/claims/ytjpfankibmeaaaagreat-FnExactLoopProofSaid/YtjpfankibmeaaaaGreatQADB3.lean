/-
  Walks, one after the other (part 4).
-/
import Derived.Test.YtjpfankibmeaaaaGreatQADL1
import Derived.Test.YtjpfankibmeaaaaGreatQADB2
set_option linter.unusedSimpArgs false
set_option linter.unusedVariables false
namespace Go.Proofs.YtjpfankibmeaaaaGreat
open Go X M Tryz

/- spec.l19Steps -/
theorem l19Steps_spec {F : FH} {L : List HP} {n : Int} :
    Does prog 278 [ii (n)] F (L) (fun v F' L' => (.bool (decide (1 ≤ n ∧ n ≤ 20)) : Value) = v ∧ F = F' ∧ L = L') := by
 refine qz func278 rfl rfl rfl (qc (qa (qf (.bool (false)) rfl (qb (qc (qa (qd (ii (n)) rfl (cX (qn (args := [ii (n), ii (1), ii (20)]) call109 rfl (l1In_spec (n := n) (a := 1) (b := 20)) ?_)))))))))
 rintro _ _ _ _ ⟨rfl, rfl, rfl⟩
 refine qf (.bool (decide (1 ≤ n ∧ n ≤ 20))) rfl (qb (qv (qp (L' := L) [.bool (decide (1 ≤ n ∧ n ≤ 20))] (.bool (decide (1 ≤ n ∧ n ≤ 20))) (.tmp rfl .nil) rfl rF rF sR ?_)))
 exact ⟨rfl, rfl, rfl⟩

/- spec.Matched -/
theorem sMatched_spec {F : FH} {L : List HP} {arv : Value} {ar : List Int} (har : IntsF F arv ar) {pv : Value} {p : List Int} (hp : IntsF F pv p) {tv : Value} {t : List Int} (ht : IntsF F tv t) (ho : termOk ar t = true) (hpo : termOk ar p = true) (hla : ar.length ≤ 4000000) :
    Does prog 152 [.agg #[arv], pv, tv] F (L) (fun v F' L' => ∃ (a : Value), (.tuple #[.agg #[a], .bool ((matchB ar p t).isSome)] : Value) = v ∧ (RowsF F' a (matchP ar p t)) ∧ L = L') := by
 refine qz func152 rfl rfl rfl ?_
 have hpl := termOk_len hpo
 have htl := termOk_len ho
 refine qc (qa (cX (qW [arv] rfl rfl ?_)))
 intro b1
 refine cX (qS [sN] ji rfl ?_)
 intro b2
 refine qf (.bool (false)) rfl (qb (qc (qc (qa (cX (qq [arv] jq qX rfl rfl (Rd.ownN [_] rfl rfl) (qd (pv) rfl (cX (qn (args := [.agg #[arv], pv]) call202 rfl (sTermOk_spec har hp (hla := (by first | assumption | rfl | omega | simp)) (hlt := (by first | assumption | rfl | omega | simp))) ?_)))))))))
 rintro _ _ _ _ ⟨rfl, rfl, rfl⟩
 refine cX (jx rfl (qd (.bool (!(termOk ar p))) rfl ?_))
 by_cases h1 : (!(termOk ar p)) = true
 ·exact absurd h1 (by simp [ho, hpo])
 rw [Bool.not_eq_true] at h1
 refine qu (t := 12) rfl (vB h1) (qq [arv] jq qX rfl rfl (Rd.ownN [_] rfl rfl) (qu (t := 12) rfl (vB h1) (qr (tv) rfl (qu (t := 12) rfl (vB h1) (qn (args := [.agg #[arv], tv]) call202 rfl (sTermOk_spec har ht (hla := (by first | assumption | rfl | omega | simp)) (hlt := (by first | assumption | rfl | omega | simp))) ?_)))))
 rintro _ _ _ _ ⟨rfl, rfl, rfl⟩
 refine qu (t := 12) rfl (vB h1) (jx rfl (cX (ja (.bool (!(termOk ar t))) (vB h1) rfl (qb ?_))))
 refine ya (t := !(termOk ar t)) rfl (fun h2 => ?_) (fun h2 => ?_)
 ·exact absurd h2 (by simp [ho, hpo])
 refine qw (qc (qa (cX (qq [arv] jq qX rfl rfl (Rd.ownN [_] rfl rfl) (qd (pv) rfl (qd (tv) rfl (cX (qn (args := [.agg #[arv], pv, tv]) call216 rfl (l4Match_spec har hp ht (ho := (by first | assumption | rfl | omega | simp)) (hpo := (by first | assumption | rfl | omega | simp))) ?_))))))))
 rintro _ F1 _ le1 ⟨x1, rfl, hr1, rfl⟩
 refine cX (qU (.agg #[x1]) rfl rfl (cX (qU (.bool ((matchB ar p t).isSome)) rfl rfl (cX (qD [] _ [x1] qR rfl rfl rfl (qi (qC (RowsF.isSl hr1)) qH) rfl rfl rfl (qf (.bool ((matchB ar p t).isSome)) rfl (qb (qv (qp (L' := L) [.agg #[x1], .bool ((matchB ar p t).isSome)] (.tuple #[.agg #[x1], .bool ((matchB ar p t).isSome)]) (.cell rfl (jo [x1] jv qR rfl (Rd.ownN [] rfl rfl)) (.tmp rfl .nil)) rfl le1 rF (sD (sD sR)) ?_)))))))))
 exact ⟨_, rfl, hr1, rfl⟩

/- spec.StepsFrom -/
set_option maxRecDepth 20000 in
theorem sStepsFrom_spec {F : FH} {L : List HP} {arv : Value} {ar : List Int} (har : IntsF F arv ar) {rsv : Value} {rs : List (List Int × List Int)} (hrs : PairsF F rsv rs) {tv : Value} {t : List Int} (ht : IntsF F tv t) (hsys : sysOk ar rs = true) (ho : termOk ar t = true) (hla : ar.length ≤ 4000000) (hlr : rs.length ≤ 4000000) (hrb : ∀ i, i < rs.length → (rs.getD i ([], [])).1.length ≤ 4000000 ∧ (rs.getD i ([], [])).2.length ≤ 4000000) (hlt : t.length ≤ 4000000) :
    Does prog 280 [.agg #[arv, rsv], tv] F (L) (fun v F' L' => ∃ (a : Value), (a : Value) = v ∧ (StepsF F' a (stepsL ar rs t)) ∧ L = L') := by
 refine qz func280 rfl rfl rfl (qc (qa (cX (qW [arv, rsv] rfl rfl ?_))))
 intro b1
 refine qf (sN) rfl (qb (qc (qc (qa (cX (qq [arv, rsv] jL jy rfl rfl (Rd.ownN [] rfl rfl) (qd (tv) rfl (cX (qn (args := [.agg #[arv, rsv], tv]) call107 rfl (l7Right_spec har hrs ht (hla := (by first | assumption | rfl | omega | simp)) (hlr := (by first | assumption | rfl | omega | simp)) (hrb := (by first | assumption | rfl | omega | simp)) (hlt := (by first | assumption | rfl | omega | simp))) ?_)))))))))
 rintro _ _ _ _ ⟨rfl, rfl, rfl⟩
 refine cX (jx rfl (qb ?_))
 refine ya (t := !(rightB ar rs t)) rfl (fun h1 => ?_) (fun h1 => ?_)
 ·exact absurd h1 (by simp [rightB, hsys, ho])
 refine qw (qc (qa (cX (qq [arv, rsv] jL jy rfl rfl (Rd.ownN [] rfl rfl) (qd (tv) rfl (cX (qn (args := [.agg #[arv, rsv], tv]) call243 rfl (l7Steps_spec har hrs ht (hsys := (by first | assumption | rfl | omega | simp)) (ho := (by first | assumption | rfl | omega | simp))) ?_)))))))
 rintro _ F1 _ le1 ⟨x1, rfl, hr1, rfl⟩
 refine qf (x1) rfl (qb (qv (qp (L' := L) [x1] (x1) (.tmp rfl .nil) rfl le1 rF (sD sR) ?_)))
 exact ⟨_, rfl, hr1, rfl⟩

/- spec.l19Found -/
theorem l19Found_spec {F : FH} {L : List HP} {arv : Value} {ar : List Int} (har : IntsF F arv ar) {rsv : Value} {rs : List (List Int × List Int)} (hrs : PairsF F rsv rs) {tv : Value} {t : List Int} (ht : IntsF F tv t) {uv : Value} {u : List Int} (hu : IntsF F uv u) (ho : termOk ar t = true) (huo : termOk ar u = true) (hla : ar.length ≤ 4000000) :
    Does prog 281 [.agg #[arv, rsv], tv, uv] F (L) (fun v F' L' => ∃ (a : Value), (.tuple #[ii (instI ar t u), .agg #[a]] : Value) = v ∧ (RowsF F' a (placeS ar t u)) ∧ L = L') := by
 refine qz func281 rfl rfl rfl ?_
 have hul := termOk_len huo
 have htl := termOk_len ho
 refine qc (qa (cX (qW [arv, rsv] rfl rfl ?_)))
 intro b1
 refine qf (ii (0)) rfl (cX (qS [sN] ji rfl ?_))
 intro b2
 refine qb (qc (qc (qa (qf (ii (0)) rfl (qb (qG (jc (α := Nat × FH) (fun xQ => [(1, tv), (2, uv), (3, ptr b1 0), (7, ptr b2 0), (8, ii (((xQ.1 : Nat) : Int)))]) (fun xQ => cellsH b2 [sN] 137 :: cellsH b1 [arv, rsv] 39 :: L) (fun xQ F' => xQ.2 = F' ∧ F ≤ xQ.2 ∧ (xQ.1 ≤ u.length) ∧ (∀ i, i < xQ.1 → (matchB ar t (sub ar u i)).isSome = false)) (fun xQ => u.length - xQ.1) (0, F) ⟨rfl, rfl, rfl, rfl, rfl, ⟨⟩⟩ (sC (sC sR)) ⟨rfl, FLe.refl _, (by (try dsimp only) <;> omega), (fun i hi => absurd hi (by omega))⟩ ?_)))))))
 rintro ⟨k, G1⟩ rE _ _ ⟨rfl, leG, hk, hall⟩
 show X _ _ _ _ (envs [(1, tv), (2, uv), (3, ptr b1 0), (7, ptr b2 0), (8, ii ((k : Int)))] rE) _ (cellsH b2 [sN] 137 :: cellsH b1 [arv, rsv] 39 :: L)
 replace leG : F ≤ G1 := leG
 dsimp only at hk hall
 have hsk := fun (h : k < u.length) => (show (if posOk ar u (k : Int) = true then sub ar u ((k : Int)).toNat else []) = sub ar u k from if_pos (posOk_iff.2 ⟨huo, by omega⟩))
 have hso := fun (h : k < u.length) => sub_ok huo h
 have leG1 := leG
 replace har := har.mono leG1
 replace ht := ht.mono leG1
 replace hu := hu.mono leG1
 refine qc (qc (qa (qd (ii ((k : Int))) rfl (qd (uv) rfl (cX (qA qg rfl hu.slv (cX (qT rfl rfl (qb ?_)))))))))
 refine qx (p := (k : Int) < (u.length : Int)) rfl (fun h1 => ?_) (fun h1 => ?_)
 ·refine qw (qc (qG (qc ?_)))
  refine yd [cellsH b2 [sN] 137, cellsH b1 [arv, rsv] 39] L 14 [[], [], [], [], [], [], [], [], [], [8], [8], [], [], [8, 12]] [[], [0], [], [], [3], [], [], [4, 5, 6], [1, 2, 7], [8], [8, 9], [8, 9], [], [8, 10, 12]] [[], [], [], [], [], [], [], [], [], [], [], [], [], [12]] (phiG [pe (ptr b1 0), pe (.agg #[arv]), pe tv, pe (ptr b1 0), pe (.agg #[arv]), pe uv, pe (ii ((k : Int)) : Value), fun FF us v => ((v) : Value) = v ∧ (IntsF FF (v) (if posOk ar u ((k : Int)) = true then sub ar u ((k : Int)).toNat else [])), fun FF us v => (.tuple #[.agg #[((aggAt (tupAt v 0) 0))], .bool ((matchB ar t (if posOk ar u ((k : Int)) = true then sub ar u ((k : Int)).toNat else [])).isSome)] : Value) = v ∧ (RowsF FF ((aggAt (tupAt v 0) 0)) (matchP ar t (if posOk ar u ((k : Int)) = true then sub ar u ((k : Int)).toNat else []))), fun FF us v => v = (.tuple #[.agg #[((aggAt (tupAt (us.getD 0 undef) 0) 0))], .bool ((matchB ar t (if posOk ar u ((k : Int)) = true then sub ar u ((k : Int)).toNat else [])).isSome)] : Value), fun FF us v => v = (.agg #[((aggAt (tupAt (us.getD 0 undef) 0) 0))] : Value), pe (.bool ((matchB ar t (if posOk ar u ((k : Int)) = true then sub ar u ((k : Int)).toNat else [])).isSome) : Value), fun FF us v => v = ptr (blk v) 0, fun FF us v => True]) (ownL [o0, o0, o0, o0, o0, o0, o0, o0, o0, o0, o0, o0, fun us v => [cellsH (blk v) [sN] 137], fun us v => [cellsH (blk (us.getD 1 undef)) [((aggAt (tupAt (us.getD 0 undef) 0) 0))] 137]]) mixed rfl rfl (by kernel_rfl) (by kernel_rfl) (MonoG.get (m1 (m1 (m1 (m1 (m1 (m1 (m1 (mC (fun le h => ⟨h.1, h.2.mono le⟩) (mC (fun le h => ⟨h.1, h.2.mono le⟩) (mC (fun le h => h) (mC (fun le h => h) (m1 (mC (fun le h => h) (mC (fun le h => h) MonoG.nil))))))))))))))) ?_ ?_
  ·refine gD (fun W Fs R lF z9 => ?_) ?_
   ·refine qj (qk (0) qY rfl qX (by decide) rfl rfl ?_)
    exact ⟨rfl, rfl⟩
   refine gD (fun W Fs R lF z9 => ?_) ?_
   ·replace har := har.mono lF
    replace ht := ht.mono lF
    replace hu := hu.mono lF
    rw [zA 0 (z9 0 rfl)]
    refine qj (qq [arv] jq qX rfl rfl (Rd.ownN [_] rfl rfl) ?_)
    exact ⟨rfl, rfl⟩
   refine gD (fun W Fs R lF z9 => ?_) ?_
   ·refine qj (qr (tv) rfl ?_)
    exact ⟨rfl, rfl⟩
   refine gD (fun W Fs R lF z9 => ?_) ?_
   ·refine qj (qk (0) qY rfl qX (by decide) rfl rfl ?_)
    exact ⟨rfl, rfl⟩
   refine gD (fun W Fs R lF z9 => ?_) ?_
   ·replace har := har.mono lF
    replace ht := ht.mono lF
    replace hu := hu.mono lF
    rw [zA 3 (z9 3 rfl)]
    refine qj (qq [arv] jq qX rfl rfl (Rd.ownN [_] rfl rfl) ?_)
    exact ⟨rfl, rfl⟩
   refine gD (fun W Fs R lF z9 => ?_) ?_
   ·refine qj (qr (uv) rfl ?_)
    exact ⟨rfl, rfl⟩
   refine gD (fun W Fs R lF z9 => ?_) ?_
   ·refine qj (qr (ii ((k : Int))) rfl ?_)
    exact ⟨rfl, rfl⟩
   refine gD (fun W Fs R lF z9 => ?_) ?_
   ·replace har := har.mono lF
    replace ht := ht.mono lF
    replace hu := hu.mono lF
    rw [eS (l := [(4, _), (5, _), (6, _)]) ⟨z9 4 rfl, z9 5 rfl, z9 6 rfl, ⟨⟩⟩]
    refine qj (qn (args := [.agg #[arv], uv, ii ((k : Int))]) call350 rfl (sSubAt_spec (p := (k : Int)) har hu (hla := (by first | assumption | rfl | omega | simp)) (hlt := (by first | assumption | rfl | omega | simp))) ?_)
    rintro _ F3 _ le3 ⟨x3, rfl, hr3, rfl⟩
    replace har := har.mono le3
    replace ht := ht.mono le3
    exact ⟨⟨rfl, hr3⟩, rfl⟩
   refine gD (fun W Fs R lF z9 => ?_) ?_
   ·obtain ⟨e7, f7_1hr⟩ := z9 7 rfl
    replace har := har.mono lF
    replace ht := ht.mono lF
    rw [eS (l := [(1, _), (2, _), (7, ((W 7)))]) ⟨z9 1 rfl, z9 2 rfl, (e7).symm, ⟨⟩⟩]
    refine qj (qn (args := [.agg #[arv], tv, ((W 7))]) call152 rfl (sMatched_spec har ht f7_1hr (ho := (by rw [hsk (by omega)]; exact hso (by omega))) (hpo := (ho)) (hla := (by first | assumption | rfl | omega | simp))) ?_)
    rintro _ F4 _ le4 ⟨x4, rfl, hr4, rfl⟩
    replace har := har.mono le4
    replace f7_1hr := f7_1hr.mono le4
    exact ⟨⟨rfl, hr4⟩, rfl⟩
   refine gD (fun W Fs R lF z9 => ?_) ?_
   ·obtain ⟨e8, f8_1hr⟩ := z9 8 rfl
    rw [eS (l := [(8, (.tuple #[.agg #[((aggAt (tupAt (W 8) 0) 0))], .bool ((matchB ar t (if posOk ar u ((k : Int)) = true then sub ar u ((k : Int)).toNat else [])).isSome)]))]) ⟨(e8).symm, ⟨⟩⟩]
    refine qj (qr (.tuple #[.agg #[((aggAt (tupAt (W 8) 0) 0))], .bool ((matchB ar t (if posOk ar u ((k : Int)) = true then sub ar u ((k : Int)).toNat else [])).isSome)]) rfl ?_)
    exact ⟨rfl, rfl⟩
   refine gD (fun W Fs R lF z9 => ?_) ?_
   ·obtain ⟨e8, f8_1hr⟩ := z9 8 rfl
    have e9 : W 9 = (.tuple #[.agg #[((aggAt (tupAt (W 8) 0) 0))], .bool ((matchB ar t (if posOk ar u ((k : Int)) = true then sub ar u ((k : Int)).toNat else [])).isSome)] : Value) := z9 9 rfl
    rw [eS (l := [(8, (.tuple #[.agg #[((aggAt (tupAt (W 8) 0) 0))], .bool ((matchB ar t (if posOk ar u ((k : Int)) = true then sub ar u ((k : Int)).toNat else [])).isSome)])), (9, (.tuple #[.agg #[((aggAt (tupAt (W 8) 0) 0))], .bool ((matchB ar t (if posOk ar u ((k : Int)) = true then sub ar u ((k : Int)).toNat else [])).isSome)]))]) ⟨(e8).symm, e9, ⟨⟩⟩]
    refine qj (qU (.agg #[((aggAt (tupAt (W 8) 0) 0))]) rfl rfl ?_)
    exact ⟨rfl, rfl⟩
   refine gD (fun W Fs R lF z9 => ?_) ?_
   ·obtain ⟨e8, f8_1hr⟩ := z9 8 rfl
    have e9 : W 9 = (.tuple #[.agg #[((aggAt (tupAt (W 8) 0) 0))], .bool ((matchB ar t (if posOk ar u ((k : Int)) = true then sub ar u ((k : Int)).toNat else [])).isSome)] : Value) := z9 9 rfl
    rw [eS (l := [(8, (.tuple #[.agg #[((aggAt (tupAt (W 8) 0) 0))], .bool ((matchB ar t (if posOk ar u ((k : Int)) = true then sub ar u ((k : Int)).toNat else [])).isSome)])), (9, (.tuple #[.agg #[((aggAt (tupAt (W 8) 0) 0))], .bool ((matchB ar t (if posOk ar u ((k : Int)) = true then sub ar u ((k : Int)).toNat else [])).isSome)]))]) ⟨(e8).symm, e9, ⟨⟩⟩]
    refine qj (qU (.bool ((matchB ar t (if posOk ar u ((k : Int)) = true then sub ar u ((k : Int)).toNat else [])).isSome)) rfl rfl ?_)
    exact ⟨rfl, rfl⟩
   refine gD (fun W Fs R lF z9 => ?_) ?_
   ·replace har := har.mono lF
    refine qj (qS [sN] ji rfl ?_)
    intro b4
    exact ⟨rfl, rfl⟩
   refine gD (fun W Fs R lF z9 => ?_) ?_
   ·obtain ⟨e8, f8_1hr⟩ := z9 8 rfl
    have e10 : W 10 = (.agg #[((aggAt (tupAt (W 8) 0) 0))] : Value) := z9 10 rfl
    have e12 : W 12 = ptr (blk (W 12)) 0 := z9 12 rfl
    rw [eS (l := [(8, (.tuple #[.agg #[((aggAt (tupAt (W 8) 0) 0))], .bool ((matchB ar t (if posOk ar u ((k : Int)) = true then sub ar u ((k : Int)).toNat else [])).isSome)])), (10, (.agg #[((aggAt (tupAt (W 8) 0) 0))])), (12, ptr (blk (W 12)) 0)]) ⟨(e8).symm, e10, e12, ⟨⟩⟩]
    show XG _ _ _ _ _ (cellsH (blk (W 12)) [sN] 137 :: ([cellsH b2 [sN] 137, cellsH b1 [arv, rsv] 39] ++ R)) _
    refine qj (qD [] _ [((aggAt (tupAt (W 8) 0) 0))] qR rfl rfl rfl (qi (qC (RowsF.isSl f8_1hr)) qH) rfl rfl rfl ?_)
    exact ⟨trivial, rfl⟩
   exact stepsG.nil
  intro W F5 le5 hphi
  obtain ⟨e7, f7_1hr⟩ := hphi 7 (by decide)
  obtain ⟨e8, f8_1hr⟩ := hphi 8 (by decide)
  have e9 : W 9 = (.tuple #[.agg #[((aggAt (tupAt (W 8) 0) 0))], .bool ((matchB ar t (if posOk ar u ((k : Int)) = true then sub ar u ((k : Int)).toNat else [])).isSome)] : Value) := hphi 9 (by decide)
  have e10 : W 10 = (.agg #[((aggAt (tupAt (W 8) 0) 0))] : Value) := hphi 10 (by decide)
  have e12 : W 12 = ptr (blk (W 12)) 0 := hphi 12 (by decide)
  generalize hu1 : ((W 7)) = u1 at e7 f7_1hr e8 f8_1hr e9 e10 e12
  generalize hu2 : ((aggAt (tupAt (W 8) 0) 0)) = u2 at e7 f7_1hr e8 f8_1hr e9 e10 e12
  generalize hu3 : blk (W 12) = b5 at e7 f7_1hr e8 f8_1hr e9 e10 e12
  rw [eS (l := [(8, (.tuple #[.agg #[u2], .bool ((matchB ar t (if posOk ar u ((k : Int)) = true then sub ar u ((k : Int)).toNat else [])).isSome)])), (11, _), (12, ptr b5 0)]) ⟨(e8).symm, (hphi 11 (by decide)), e12, ⟨⟩⟩]
  show XL _ _ _ _ _ _ _ (cellsH b5 [u2] 137 :: cellsH b2 [sN] 137 :: cellsH b1 [arv, rsv] 39 :: L)
  refine qf (.bool ((matchB ar t (if posOk ar u ((k : Int)) = true then sub ar u ((k : Int)).toNat else [])).isSome)) rfl (qb (qc (qa (qd (.bool ((matchB ar t (if posOk ar u ((k : Int)) = true then sub ar u ((k : Int)).toNat else [])).isSome)) rfl (qb ?_)))))
  refine ya (t := (matchB ar t (if posOk ar u ((k : Int)) = true then sub ar u ((k : Int)).toNat else [])).isSome) rfl (fun h2 => ?_) (fun h2 => ?_)
  ·have hmk : (matchB ar t (sub ar u k)).isSome = true := by rw [← hsk (by omega)]; exact h2
   refine qc ?_
   refine jV [cellsH b5 [u2] 137, cellsH b2 [sN] 137, cellsH b1 [arv, rsv] 39] L 3 [] [[], [], [0]] (phiL [qe (ii ((k : Int)) : Value), qe (.agg #[u2]), qe (ii ((k : Int)) : Value)]) (ownL []) mixed rfl rfl (by kernel_rfl) ?_ ?_
   ·refine pD (fun W R z9 => ?_) ?_
    ·refine qj (qr (ii ((k : Int))) rfl ?_)
     exact ⟨rfl, rfl, rfl⟩
    refine pD (fun W R z9 => ?_) ?_
    ·refine qj (qq [u2] jv qR rfl rfl (Rd.ownN [] rfl rfl) ?_)
     exact ⟨rfl, rfl, rfl⟩
    refine pD (fun W R z9 => ?_) ?_
    ·rw [zA 0 (z9 0 rfl)]
     refine qj (XOp.assign (ii ((k : Int))) rfl ?_)
     exact ⟨rfl, rfl, rfl⟩
    exact stepsP.nil
   intro W hphi
   rw [zB 1 2 (hphi 1 (by decide)) (hphi 2 (by decide))]
   show XL _ _ _ _ _ _ _ (cellsH b5 [u2] 137 :: cellsH b2 [sN] 137 :: cellsH b1 [arv, rsv] 39 :: L)
   refine cX (qD [_] _ [u2] qR rfl rfl rfl (qi (qC (RowsF.isSl f8_1hr)) qH) rfl rfl rfl (qb (qv (qF (ql (ql (qF (ql (qp (L' := L) [ii ((k : Int)), .agg #[u2]] (.tuple #[ii ((k : Int)), .agg #[u2]]) (.tmp rfl (.cell rfl (jo [u2] jv qR rfl (Rd.ownN [_] rfl rfl)) .nil)) rfl (qm leG1 le5) rF (sD (sD (sD sR))) ?_)))))))))
   have e := instI_at (by omega) hmk hall
   have e2 := placeS_at e
   exact ⟨_, by rw [e], by rw [e2, ← hsk (by omega)]; exact f8_1hr, rfl⟩
  have hmk : (matchB ar t (sub ar u k)).isSome = false := by rw [← hsk (by omega)]; exact h2
  refine qw (qa (qd (ii ((k : Int))) rfl (cX (qN (((k + 1 : Nat) : Int)) rfl rfl (by omega) (by omega) (qf (ii (((k + 1 : Nat) : Int))) rfl (qb ?_))))))
  exact ⟨(k + 1, F5), _, (qm leG1 le5), rF, ⟨rfl, rfl, rfl, rfl, rfl, ⟨⟩⟩, (sD (sC (sC sR))), ⟨rfl, (qm leG1 le5), (by (try dsimp only) <;> omega), (fun i hi => (Nat.lt_or_ge i k).elim (fun h => hall i h) (fun h => by obtain rfl : i = k := (by omega); exact hmk))⟩, (by omega)⟩
 refine jb (qo (qo (qI (qc (qa (cX (jf [sN] [sN] [(0, 1)] [] qO ji rfl (.cons rfl qP PlacesAre.nil) rfl CellsAre.nil (qf (ii (-1)) rfl (cX (qD [] _ [sN] qR rfl rfl rfl (qi rfl qH) rfl rfl rfl (qb (qv (qp (L' := L) [ii (-1), .agg #[sN]] (.tuple #[ii (-1), .agg #[sN]]) (.tmp rfl (.cell rfl (jo [sN] jv qR rfl (Rd.ownN [] rfl rfl)) .nil)) rfl leG1 rF (sD (sD sR)) ?_)))))))))))))
 have e := instI_none (fun i hi => hall i (by omega))
 have e2 := placeS_none e
 exact ⟨_, by rw [e], by rw [e2]; exact SlOf.nilV, rfl⟩

/- spec.LoopFrom -/
set_option maxHeartbeats 1000000 in
set_option maxRecDepth 20000 in
theorem sLoopFrom_spec {F : FH} {L : List HP} {arv : Value} {ar : List Int} (har : IntsF F arv ar) {rsv : Value} {rs : List (List Int × List Int)} (hrs : PairsF F rsv rs) {tv : Value} {t : List Int} (ht : IntsF F tv t) {n : Int} (hla : ar.length ≤ 4000000) (hlr : rs.length ≤ 4000000) (hrb : ∀ i, i < rs.length → (rs.getD i ([], [])).1.length ≤ 4000000 ∧ (rs.getD i ([], [])).2.length ≤ 4000000) (hlt : t.length ≤ 4000000) :
    Does prog 178 [.agg #[arv, rsv], tv, ii (n)] F (L) (fun v F' L' => ∃ (a : Value), ∃ (b : Value), ∃ (c : Value), (.tuple #[.agg #[a, b, ii ((loopF ar rs t n).2.2.1), c], .bool ((loopF ar rs t n).2.2.2.2)] : Value) = v ∧ (IntsF F' a (loopF ar rs t n).1) ∧ (StepsF F' b (loopF ar rs t n).2.1) ∧ (RowsF F' c (loopF ar rs t n).2.2.2.1) ∧ L = L') := by
 refine qz func178 rfl rfl rfl (qc (qa (cX (qW [arv, rsv] rfl rfl ?_))))
 intro b1
 refine cX (qS [sN, sN, ii (0), sN] jJ rfl ?_)
 intro b2
 refine qf (.bool (false)) rfl (qb (qc (qc (qa (cX (qq [arv, rsv] jL jy rfl rfl (Rd.ownN [_] rfl rfl) (cX (qn (args := [.agg #[arv, rsv]]) call82 rfl (sSystemOk_spec har hrs (hla := (by first | assumption | rfl | omega | simp)) (hlr := (by first | assumption | rfl | omega | simp)) (hrb := (by first | assumption | rfl | omega | simp))) ?_))))))))
 rintro _ _ _ _ ⟨rfl, rfl, rfl⟩
 refine cX (jx rfl (qd (.bool (!(sysOk ar rs))) rfl ?_))
 by_cases h1 : (!(sysOk ar rs)) = true
 ·refine qE (t := 20) rfl (vB h1) (qE (t := 20) rfl (vB h1) (qE (t := 20) rfl (vB h1) (qE (t := 20) rfl (vB h1) (qE (t := 20) rfl (vB h1) (cX (jk (.bool (true)) (vB h1) rfl (qd (.bool (true)) rfl (qE (t := 27) rfl rfl (qE (t := 27) rfl rfl (qE (t := 27) rfl rfl ?_))))))))))
  refine cX (jk (.bool (true)) rfl rfl (qb (X.condT rfl (qc (qa (cX (jf [sN, sN, ii (0), sN] [sN, sN, ii (0), sN] [(0, 2), (2, 1), (3, 1)] [] jh jJ rfl (.cons rfl jr (.cons rfl qJ (.cons rfl qR PlacesAre.nil))) rfl CellsAre.nil (cX (qD [] _ [sN, sN, ii (0), sN] ju rfl rfl rfl (qi rfl (qi rfl (qi rfl (qi rfl qH)))) rfl rfl rfl (qf (.bool (false)) rfl (qb (qv (ql (qp (L' := L) [.agg #[sN, sN, ii (0), sN], .bool (false)] (.tuple #[.agg #[sN, sN, ii (0), sN], .bool (false)]) (.cell rfl (jo [sN, sN, ii (0), sN] yg ju rfl (Rd.ownN [] rfl rfl)) (.tmp rfl .nil)) rfl rF rF (sD (sD sR)) ?_))))))))))))))
  have e : loopF ar rs t n = noLoop := loopF_no (by simp_all)
  exact ⟨_, _, _, by rw [e], by rw [e]; exact IntsF.nilV, by rw [e]; exact SlOf.nilV, by rw [e]; exact SlOf.nilV, rfl⟩
 rw [Bool.not_eq_true] at h1
 have hsys : sysOk ar rs = true := by simpa using h1
 have hrs12 := (sysOk_iff.1 hsys).2.1
 refine qu (t := 20) rfl (vB h1) (qk (0) qY rfl qX (by decide) rfl rfl (qu (t := 20) rfl (vB h1) (qq [arv] jq qX rfl rfl (Rd.ownN [_] rfl rfl) (qu (t := 20) rfl (vB h1) (qr (tv) rfl (qu (t := 20) rfl (vB h1) (qn (args := [.agg #[arv], tv]) call202 rfl (sTermOk_spec har ht (hla := (by first | assumption | rfl | omega | simp)) (hlt := (by first | assumption | rfl | omega | simp))) ?_)))))))
 rintro _ _ _ _ ⟨rfl, rfl, rfl⟩
 refine qu (t := 20) rfl (vB h1) (jx rfl (cX (ja (.bool (!(termOk ar t))) (vB h1) rfl (qd (.bool (!(termOk ar t))) rfl ?_))))
 by_cases h2 : (!(termOk ar t)) = true
 ·refine qE (t := 27) rfl (vB h2) (qE (t := 27) rfl (vB h2) (qE (t := 27) rfl (vB h2) (cX (jk (.bool (true)) (vB h2) rfl (qb (X.condT rfl (qc (qa (cX (jf [sN, sN, ii (0), sN] [sN, sN, ii (0), sN] [(0, 2), (2, 1), (3, 1)] [] jh jJ rfl (.cons rfl jr (.cons rfl qJ (.cons rfl qR PlacesAre.nil))) rfl CellsAre.nil (cX (qD [] _ [sN, sN, ii (0), sN] ju rfl rfl rfl (qi rfl (qi rfl (qi rfl (qi rfl qH)))) rfl rfl rfl (qf (.bool (false)) rfl ?_)))))))))))))
  refine qb (qv (ql (qp (L' := L) [.agg #[sN, sN, ii (0), sN], .bool (false)] (.tuple #[.agg #[sN, sN, ii (0), sN], .bool (false)]) (.cell rfl (jo [sN, sN, ii (0), sN] yg ju rfl (Rd.ownN [] rfl rfl)) (.tmp rfl .nil)) rfl rF rF (sD (sD sR)) ?_)))
  have e : loopF ar rs t n = noLoop := loopF_no (by simp_all)
  exact ⟨_, _, _, by rw [e], by rw [e]; exact IntsF.nilV, by rw [e]; exact SlOf.nilV, by rw [e]; exact SlOf.nilV, rfl⟩
 rw [Bool.not_eq_true] at h2
 have ho : termOk ar t = true := by simpa using h2
 refine qu (t := 27) rfl (vB h2) (qr (ii (n)) rfl (qu (t := 27) rfl (vB h2) (qn (args := [ii (n)]) call278 rfl (l19Steps_spec (n := n)) ?_)))
 rintro _ _ _ _ ⟨rfl, rfl, rfl⟩
 refine qu (t := 27) rfl (vB h2) (jH rfl (cX (ja (.bool (decide (¬(1 ≤ n ∧ n ≤ 20)))) (vB h2) rfl (qb ?_))))
 refine qx (p := ¬(1 ≤ n ∧ n ≤ 20)) rfl (fun h3 => ?_) (fun h3 => ?_)
 ·refine qc (qa (cX (jf [sN, sN, ii (0), sN] [sN, sN, ii (0), sN] [(0, 2), (2, 1), (3, 1)] [] jh jJ rfl (.cons rfl jr (.cons rfl qJ (.cons rfl qR PlacesAre.nil))) rfl CellsAre.nil (cX (qD [] _ [sN, sN, ii (0), sN] ju rfl rfl rfl (qi rfl (qi rfl (qi rfl (qi rfl qH)))) rfl rfl rfl (qf (.bool (false)) rfl (qb (qv (ql (qp (L' := L) [.agg #[sN, sN, ii (0), sN], .bool (false)] (.tuple #[.agg #[sN, sN, ii (0), sN], .bool (false)]) (.cell rfl (jo [sN, sN, ii (0), sN] yg ju rfl (Rd.ownN [] rfl rfl)) (.tmp rfl .nil)) rfl rF rF (sD (sD sR)) ?_))))))))))
  have e : loopF ar rs t n = noLoop := loopF_no (by simp_all)
  exact ⟨_, _, _, by rw [e], by rw [e]; exact IntsF.nilV, by rw [e]; exact SlOf.nilV, by rw [e]; exact SlOf.nilV, rfl⟩
 have hn20 : 1 ≤ n ∧ n ≤ 20 := by first | exact Classical.not_not.1 h3 | simpa using h3
 have hgd := reachL_good (ar := ar) (rs := rs) (t := t) (n := n - 1) (by omega)
 have hrk := reachL_ok (n := n - 1) hsys ho
 have hrl := hrk.1
 have hrs12 := (sysOk_iff.1 hsys).2.1
 have hrf : reachF ar rs t (n - 1) = reachL ar rs t (n - 1) := reachF_yes (reachOk_iff.2 ⟨⟨hsys, ho⟩, by omega⟩)
 have hxl : (terms (reachF ar rs t (n - 1)).1).length = (reachL ar rs t (n - 1)).1.length := by rw [hrf, terms_len]
 have hxg : ∀ i, (terms (reachF ar rs t (n - 1)).1).getD i [] = (EL (reachL ar rs t (n - 1)).1 i).1 := fun i => by rw [hrf, terms_get]
 have htl9 := termOk_len ho
 refine qw (qc (qa (cX (qq [arv, rsv] jL jy rfl rfl (Rd.ownN [_] rfl rfl) (qd (tv) rfl (qd (ii (n)) rfl (cX (jG (n - 1) rfl rfl (by omega) (by omega) (cX (qn (args := [.agg #[arv, rsv], tv, ii (n - 1)]) call279 rfl (sReachOf_spec (n := n - 1) har hrs ht (hla := (by first | assumption | rfl | omega | simp)) (hlr := (by first | assumption | rfl | omega | simp)) (hrb := (by first | assumption | rfl | omega | simp)) (hlt := (by first | assumption | rfl | omega | simp))) ?_))))))))))
 rintro _ F1 _ le1 ⟨x1, rfl, hr1, rfl⟩
 replace har := har.mono le1
 replace hrs := hrs.mono le1
 replace ht := ht.mono le1
 refine qd (.tuple #[x1, .bool ((reachF ar rs t (n - 1)).2)]) rfl (cX (qU (x1) rfl rfl (cX (qU (.bool ((reachF ar rs t (n - 1)).2)) rfl rfl (qf (x1) rfl (qf (.bool ((reachF ar rs t (n - 1)).2)) rfl (qb (qc (qc (qa (qf (ii (0)) rfl (qb (qG (jc (α := Nat × FH) (fun xQ => [(1, tv), (2, ii (n)), (3, ptr b1 0), (6, ptr b2 0), (8, x1), (10, ii (((xQ.1 : Nat) : Int)))]) (fun xQ => cellsH b2 [sN, sN, ii (0), sN] 139 :: cellsH b1 [arv, rsv] 39 :: L) (fun xQ F' => xQ.2 = F' ∧ F1 ≤ xQ.2 ∧ (xQ.1 ≤ (terms (reachF ar rs t (n - 1)).1).length) ∧ (∀ i, i < xQ.1 → nextI ar t (stepsL ar rs (EL (reachL ar rs t (n - 1)).1 i).1) < 0)) (fun xQ => (terms (reachF ar rs t (n - 1)).1).length - xQ.1) (0, F1) ⟨rfl, rfl, rfl, rfl, rfl, rfl, ⟨⟩⟩ (sC (sC sR)) ⟨rfl, FLe.refl _, (by (try dsimp only) <;> omega), (fun i hi => absurd hi (by omega))⟩ ?_))))))))))))))
 rintro ⟨k, G1⟩ rE _ _ ⟨rfl, leG, hk, hno⟩
 show X _ _ _ _ (envs [(1, tv), (2, ii (n)), (3, ptr b1 0), (6, ptr b2 0), (8, x1), (10, ii ((k : Int)))] rE) _ (cellsH b2 [sN, sN, ii (0), sN] 139 :: cellsH b1 [arv, rsv] 39 :: L)
 replace leG : F1 ≤ G1 := leG
 dsimp only at hk hno
 have hgk := hxg k
 have hka := fun (h : k < (reachL ar rs t (n - 1)).1.length) => (show termOk ar (EL (reachL ar rs t (n - 1)).1 k).1 = true from hrk.2 k h)
 have hkt := fun (h : k < (terms (reachF ar rs t (n - 1)).1).length) => (show termOk ar ((terms (reachF ar rs t (n - 1)).1).getD k []) = true from by rw [hgk]; exact hka (by omega))
 have hkl := fun (h : k < (terms (reachF ar rs t (n - 1)).1).length) => termOk_len (hkt h)
 have leG1 := leG
 replace har := har.mono leG1
 replace hrs := hrs.mono leG1
 replace ht := ht.mono leG1
 replace hr1 := hr1.mono leG1
 refine qc (qc (qa (qd (ii ((k : Int))) rfl (qd (x1) rfl (cX (qA qs rfl hr1.slv (cX (qT rfl rfl (qb ?_)))))))))
 refine qx (p := (k : Int) < (((terms (reachF ar rs t (n - 1)).1).length : Nat) : Int)) rfl (fun h4 => ?_) (fun h4 => ?_)
 ·refine qw (qc (qG (qc ?_)))
  obtain ⟨a1, ha1, hr2⟩ := hr1.rd (i := k) (by omega)
  refine jV [cellsH b2 [sN, sN, ii (0), sN] 139, cellsH b1 [arv, rsv] 39] L 5 [] [[], [], [], [1, 2], [3]] (phiL [qe (.agg #[arv, rsv]), qe x1, qe (ii ((k : Int)) : Value), qe (.pointer (some (elemA x1 (k)))), qe a1]) (ownL []) mixed rfl rfl (by kernel_rfl) ?_ ?_
  ·refine pD (fun W R z9 => ?_) ?_
   ·refine qj (qq [arv, rsv] jL jy rfl rfl (Rd.ownN [_] rfl rfl) ?_)
    exact ⟨rfl, rfl, rfl⟩
   refine pD (fun W R z9 => ?_) ?_
   ·refine qj (qr (x1) rfl ?_)
    exact ⟨rfl, rfl, rfl⟩
   refine pD (fun W R z9 => ?_) ?_
   ·refine qj (qr (ii ((k : Int))) rfl ?_)
    exact ⟨rfl, rfl, rfl⟩
   refine pD (fun W R z9 => ?_) ?_
   ·rw [zB 1 2 (z9 1 rfl) (z9 2 rfl)]
    refine qj (qy k qs qt rfl rfl rfl hr1.slv (by omega) (Nat.mul_one _) ?_)
    exact ⟨rfl, rfl, rfl⟩
   refine pD (fun W R z9 => ?_) ?_
   ·rw [zA 3 (z9 3 rfl)]
    refine qj (qh qM rfl (hr2 _) ?_)
    exact ⟨rfl, rfl, rfl⟩
   exact stepsP.nil
  intro W hphi
  rw [zB 0 4 (hphi 0 (by decide)) (hphi 4 (by decide))]
  show XL _ _ _ _ _ _ _ (cellsH b2 [sN, sN, ii (0), sN] 139 :: cellsH b1 [arv, rsv] 39 :: L)
  refine cX (qn (args := [.agg #[arv, rsv], a1]) call280 rfl (sStepsFrom_spec har hrs ha1 (hsys := (hsys)) (ho := (hkt (by omega))) (hla := (by first | assumption | rfl | omega | simp)) (hlr := (by first | assumption | rfl | omega | simp)) (hrb := (by first | assumption | rfl | omega | simp)) (hlt := (by have := hkl (by omega); omega))) ?_)
  rintro _ F2 _ le2 ⟨x2, rfl, hr3, rfl⟩
  replace har := har.mono le2
  replace hrs := hrs.mono le2
  replace ht := ht.mono le2
  replace hr1 := hr1.mono le2
  refine qf (x2) rfl (qb (qc (qa (qf (ii (0)) rfl (qb (qG (jc (α := Nat × FH) (fun xQ => [(1, tv), (2, ii (n)), (3, ptr b1 0), (6, ptr b2 0), (8, x1), (10, ii ((k : Int))), (11, x2), (12, ii (((xQ.1 : Nat) : Int)))]) (fun xQ => cellsH b2 [sN, sN, ii (0), sN] 139 :: cellsH b1 [arv, rsv] 39 :: L) (fun xQ F' => xQ.2 = F' ∧ F2 ≤ xQ.2 ∧ (xQ.1 ≤ (stepsL ar rs ((terms (reachF ar rs t (n - 1)).1).getD k [])).length) ∧ (∀ i, i < xQ.1 → instI ar t ((stepsL ar rs ((terms (reachF ar rs t (n - 1)).1).getD k [])).getD i (0, 0, [])).2.2 < 0)) (fun xQ => (stepsL ar rs ((terms (reachF ar rs t (n - 1)).1).getD k [])).length - xQ.1) (0, F2) ⟨rfl, rfl, rfl, rfl, rfl, rfl, rfl, rfl, ⟨⟩⟩ (sC (sC sR)) ⟨rfl, FLe.refl _, (by (try dsimp only) <;> omega), (fun i hi => absurd hi (by omega))⟩ ?_)))))))
  rintro ⟨q, G2⟩ rE _ _ ⟨rfl, leG, hq, hnq⟩
  show X _ _ _ _ (envs [(1, tv), (2, ii (n)), (3, ptr b1 0), (6, ptr b2 0), (8, x1), (10, ii ((k : Int))), (11, x2), (12, ii ((q : Int)))] rE) _ (cellsH b2 [sN, sN, ii (0), sN] 139 :: cellsH b1 [arv, rsv] 39 :: L)
  replace leG : F2 ≤ G2 := leG
  dsimp only at hq hnq
  have hnl : (stepsL ar rs ((terms (reachF ar rs t (n - 1)).1).getD k [])).length ≤ 1000 := by have h9 := stepsTo_len (ar := ar) (t := (terms (reachF ar rs t (n - 1)).1).getD k []) (rs := rs) hrs12 ((terms (reachF ar rs t (n - 1)).1).getD k []).length; have h8 := hkl (by omega); show (stepsTo ar rs ((terms (reachF ar rs t (n - 1)).1).getD k []) ((terms (reachF ar rs t (n - 1)).1).getD k []).length).length ≤ 1000; omega
  have hqo := fun (h : q < (stepsL ar rs ((terms (reachF ar rs t (n - 1)).1).getD k [])).length) => steps_ok hsys (hkt (by omega)) h
  have hql := fun (h : q < (stepsL ar rs ((terms (reachF ar rs t (n - 1)).1).getD k [])).length) => termOk_len (hqo h)
  have leG2 := leG
  replace har := har.mono leG2
  replace hrs := hrs.mono leG2
  replace ht := ht.mono leG2
  replace hr1 := hr1.mono leG2
  replace hr3 := hr3.mono leG2
  refine qc (qc (qa (qd (ii ((q : Int))) rfl (qd (x2) rfl (cX (qA qV rfl hr3.slv (cX (qT rfl rfl (qb ?_)))))))))
  refine qx (p := (q : Int) < (((stepsL ar rs (((terms (reachF ar rs t (n - 1)).1).getD k []))).length : Nat) : Int)) rfl (fun h5 => ?_) (fun h5 => ?_)
  ·refine qw (qc (qG (qc ?_)))
   obtain ⟨a2, ha2, hr4, hr5, hr6⟩ := hr3.rd (i := q) (by omega)
   refine yd [cellsH b2 [sN, sN, ii (0), sN] 139, cellsH b1 [arv, rsv] 39] L 13 [[], [], [], [], [], [], [], [], [7], [], [7]] [[], [], [], [], [2, 3], [4], [5], [0, 1, 6], [7], [7, 8], [7, 8], [], [9]] [] (phiG [pe (.agg #[arv, rsv]), pe tv, pe x2, pe (ii ((q : Int)) : Value), pe (.pointer (some (elemA x2 (q * 3)))), pe (.pointer (some (elemA x2 (q * 3 + 2)))), pe a2, fun FF us v => (.tuple #[ii (instI ar t (((stepsL ar rs (((terms (reachF ar rs t (n - 1)).1).getD k []))).getD q (0, 0, [])).2.2)), .agg #[((aggAt (tupAt v 1) 0))]] : Value) = v ∧ (RowsF FF ((aggAt (tupAt v 1) 0)) (placeS ar t (((stepsL ar rs (((terms (reachF ar rs t (n - 1)).1).getD k []))).getD q (0, 0, [])).2.2))), fun FF us v => v = (.tuple #[ii (instI ar t (((stepsL ar rs (((terms (reachF ar rs t (n - 1)).1).getD k []))).getD q (0, 0, [])).2.2)), .agg #[((aggAt (tupAt (us.getD 0 undef) 1) 0))]] : Value), pe (ii (instI ar t (((stepsL ar rs (((terms (reachF ar rs t (n - 1)).1).getD k []))).getD q (0, 0, [])).2.2))), fun FF us v => v = (.agg #[((aggAt (tupAt (us.getD 0 undef) 1) 0))] : Value), fun FF us v => v = ptr (blk v) 0, pe (ii (instI ar t (((stepsL ar rs (((terms (reachF ar rs t (n - 1)).1).getD k []))).getD q (0, 0, [])).2.2)))]) (ownL [o0, o0, o0, o0, o0, o0, o0, o0, o0, o0, o0, fun us v => [cellsH (blk v) [sN] 137]]) mixed rfl rfl (by kernel_rfl) (by kernel_rfl) (MonoG.get (m1 (m1 (m1 (m1 (m1 (m1 (m1 (mC (fun le h => ⟨h.1, h.2.mono le⟩) (mC (fun le h => h) (m1 (mC (fun le h => h) (mC (fun le h => h) (m1 MonoG.nil)))))))))))))) ?_ ?_
   ·refine gD (fun W Fs R lF z9 => ?_) ?_
    ·replace har := har.mono lF
     replace hrs := hrs.mono lF
     replace ht := ht.mono lF
     replace hr1 := hr1.mono lF
     replace hr3 := hr3.mono lF
     replace ha2 := ha2.mono lF
     replace hr4 := Rd.monoA hr4 lF
     replace hr5 := Rd.monoA hr5 lF
     replace hr6 := Rd.monoA hr6 lF
     refine qj (qq [arv, rsv] jL jy rfl rfl (Rd.ownN [_] rfl rfl) ?_)
     exact ⟨rfl, rfl⟩
    refine gD (fun W Fs R lF z9 => ?_) ?_
    ·refine qj (qr (tv) rfl ?_)
     exact ⟨rfl, rfl⟩
    refine gD (fun W Fs R lF z9 => ?_) ?_
    ·refine qj (qr (x2) rfl ?_)
     exact ⟨rfl, rfl⟩
    refine gD (fun W Fs R lF z9 => ?_) ?_
    ·refine qj (qr (ii ((q : Int))) rfl ?_)
     exact ⟨rfl, rfl⟩
    refine gD (fun W Fs R lF z9 => ?_) ?_
    ·replace har := har.mono lF
     replace hrs := hrs.mono lF
     replace ht := ht.mono lF
     replace hr1 := hr1.mono lF
     replace hr3 := hr3.mono lF
     replace ha2 := ha2.mono lF
     replace hr4 := Rd.monoA hr4 lF
     replace hr5 := Rd.monoA hr5 lF
     replace hr6 := Rd.monoA hr6 lF
     rw [zB 2 3 (z9 2 rfl) (z9 3 rfl)]
     refine qj (qy q qV jd rfl rfl rfl hr3.slv (by omega) rfl ?_)
     exact ⟨rfl, rfl⟩
    refine gD (fun W Fs R lF z9 => ?_) ?_
    ·rw [zA 4 (z9 4 rfl)]
     refine qj (jA (q * 3 + 2) jp rfl qt (by decide) rfl rfl ?_)
     exact ⟨rfl, rfl⟩
    refine gD (fun W Fs R lF z9 => ?_) ?_
    ·replace har := har.mono lF
     replace hrs := hrs.mono lF
     replace ht := ht.mono lF
     replace hr1 := hr1.mono lF
     replace hr3 := hr3.mono lF
     replace ha2 := ha2.mono lF
     replace hr4 := Rd.monoA hr4 lF
     replace hr5 := Rd.monoA hr5 lF
     replace hr6 := Rd.monoA hr6 lF
     rw [zA 5 (z9 5 rfl)]
     refine qj (qh qM rfl (hr6 _) ?_)
     exact ⟨rfl, rfl⟩
    refine gD (fun W Fs R lF z9 => ?_) ?_
    ·replace har := har.mono lF
     replace hrs := hrs.mono lF
     replace ht := ht.mono lF
     replace hr1 := hr1.mono lF
     replace hr3 := hr3.mono lF
     replace ha2 := ha2.mono lF
     replace hr4 := Rd.monoA hr4 lF
     replace hr5 := Rd.monoA hr5 lF
     replace hr6 := Rd.monoA hr6 lF
     rw [eS (l := [(0, _), (1, _), (6, _)]) ⟨z9 0 rfl, z9 1 rfl, z9 6 rfl, ⟨⟩⟩]
     refine qj (qn (args := [.agg #[arv, rsv], tv, a2]) call281 rfl (l19Found_spec har hrs ht ha2 (ho := (ho)) (huo := (hqo (by omega))) (hla := (by first | assumption | rfl | omega | simp))) ?_)
     rintro _ F4 _ le4 ⟨x4, rfl, hr8, rfl⟩
     replace har := har.mono le4
     replace hrs := hrs.mono le4
     replace ht := ht.mono le4
     replace hr1 := hr1.mono le4
     replace hr3 := hr3.mono le4
     replace ha2 := ha2.mono le4
     replace hr4 := Rd.monoA hr4 le4
     replace hr5 := Rd.monoA hr5 le4
     replace hr6 := Rd.monoA hr6 le4
     exact ⟨⟨rfl, hr8⟩, rfl⟩
    refine gD (fun W Fs R lF z9 => ?_) ?_
    ·obtain ⟨e7, f7_2hr⟩ := z9 7 rfl
     rw [eS (l := [(7, (.tuple #[ii (instI ar t (((stepsL ar rs (((terms (reachF ar rs t (n - 1)).1).getD k []))).getD q (0, 0, [])).2.2)), .agg #[((aggAt (tupAt (W 7) 1) 0))]]))]) ⟨(e7).symm, ⟨⟩⟩]
     refine qj (qr (.tuple #[ii (instI ar t (((stepsL ar rs (((terms (reachF ar rs t (n - 1)).1).getD k []))).getD q (0, 0, [])).2.2)), .agg #[((aggAt (tupAt (W 7) 1) 0))]]) rfl ?_)
     exact ⟨rfl, rfl⟩
    refine gD (fun W Fs R lF z9 => ?_) ?_
    ·obtain ⟨e7, f7_2hr⟩ := z9 7 rfl
     have e8 : W 8 = (.tuple #[ii (instI ar t (((stepsL ar rs (((terms (reachF ar rs t (n - 1)).1).getD k []))).getD q (0, 0, [])).2.2)), .agg #[((aggAt (tupAt (W 7) 1) 0))]] : Value) := z9 8 rfl
     rw [eS (l := [(7, (.tuple #[ii (instI ar t (((stepsL ar rs (((terms (reachF ar rs t (n - 1)).1).getD k []))).getD q (0, 0, [])).2.2)), .agg #[((aggAt (tupAt (W 7) 1) 0))]])), (8, (.tuple #[ii (instI ar t (((stepsL ar rs (((terms (reachF ar rs t (n - 1)).1).getD k []))).getD q (0, 0, [])).2.2)), .agg #[((aggAt (tupAt (W 7) 1) 0))]]))]) ⟨(e7).symm, e8, ⟨⟩⟩]
     refine qj (qU (ii (instI ar t (((stepsL ar rs (((terms (reachF ar rs t (n - 1)).1).getD k []))).getD q (0, 0, [])).2.2))) rfl rfl ?_)
     exact ⟨rfl, rfl⟩
    refine gD (fun W Fs R lF z9 => ?_) ?_
    ·obtain ⟨e7, f7_2hr⟩ := z9 7 rfl
     have e8 : W 8 = (.tuple #[ii (instI ar t (((stepsL ar rs (((terms (reachF ar rs t (n - 1)).1).getD k []))).getD q (0, 0, [])).2.2)), .agg #[((aggAt (tupAt (W 7) 1) 0))]] : Value) := z9 8 rfl
     rw [eS (l := [(7, (.tuple #[ii (instI ar t (((stepsL ar rs (((terms (reachF ar rs t (n - 1)).1).getD k []))).getD q (0, 0, [])).2.2)), .agg #[((aggAt (tupAt (W 7) 1) 0))]])), (8, (.tuple #[ii (instI ar t (((stepsL ar rs (((terms (reachF ar rs t (n - 1)).1).getD k []))).getD q (0, 0, [])).2.2)), .agg #[((aggAt (tupAt (W 7) 1) 0))]]))]) ⟨(e7).symm, e8, ⟨⟩⟩]
     refine qj (qU (.agg #[((aggAt (tupAt (W 7) 1) 0))]) rfl rfl ?_)
     exact ⟨rfl, rfl⟩
    refine gD (fun W Fs R lF z9 => ?_) ?_
    ·replace har := har.mono lF
     replace hrs := hrs.mono lF
     replace ht := ht.mono lF
     replace hr1 := hr1.mono lF
     replace hr3 := hr3.mono lF
     replace ha2 := ha2.mono lF
     replace hr4 := Rd.monoA hr4 lF
     replace hr5 := Rd.monoA hr5 lF
     replace hr6 := Rd.monoA hr6 lF
     refine qj (qS [sN] ji rfl ?_)
     intro b4
     exact ⟨rfl, rfl⟩
    refine gD (fun W Fs R lF z9 => ?_) ?_
    ·rw [zA 9 (z9 9 rfl)]
     refine qj (XOp.assign (ii (instI ar t (((stepsL ar rs (((terms (reachF ar rs t (n - 1)).1).getD k []))).getD q (0, 0, [])).2.2))) rfl ?_)
     exact ⟨rfl, rfl⟩
    exact stepsG.nil
   intro W F5 le5 hphi
   obtain ⟨e7, f7_2hr⟩ := hphi 7 (by decide)
   have e8 : W 8 = (.tuple #[ii (instI ar t (((stepsL ar rs (((terms (reachF ar rs t (n - 1)).1).getD k []))).getD q (0, 0, [])).2.2)), .agg #[((aggAt (tupAt (W 7) 1) 0))]] : Value) := hphi 8 (by decide)
   have e10 : W 10 = (.agg #[((aggAt (tupAt (W 7) 1) 0))] : Value) := hphi 10 (by decide)
   have e11 : W 11 = ptr (blk (W 11)) 0 := hphi 11 (by decide)
   generalize hu1 : ((aggAt (tupAt (W 7) 1) 0)) = u1 at e7 f7_2hr e8 e10 e11
   generalize hu2 : blk (W 11) = b5 at e7 f7_2hr e8 e10 e11
   rw [eS (l := [(7, (.tuple #[ii (instI ar t (((stepsL ar rs (((terms (reachF ar rs t (n - 1)).1).getD k []))).getD q (0, 0, [])).2.2)), .agg #[u1]])), (10, (.agg #[u1])), (11, ptr b5 0), (12, _)]) ⟨(e7).symm, e10, e11, (hphi 12 (by decide)), ⟨⟩⟩]
   replace har := har.mono le5
   replace hrs := hrs.mono le5
   replace ht := ht.mono le5
   replace hr1 := hr1.mono le5
   replace hr3 := hr3.mono le5
   replace ha2 := ha2.mono le5
   replace hr4 := Rd.monoA hr4 le5
   replace hr5 := Rd.monoA hr5 le5
   replace hr6 := Rd.monoA hr6 le5
   show XL _ _ _ _ _ _ _ (cellsH b5 [sN] 137 :: cellsH b2 [sN, sN, ii (0), sN] 139 :: cellsH b1 [arv, rsv] 39 :: L)
   refine cX (qD [] _ [u1] qR rfl rfl rfl (qi (qC (RowsF.isSl f7_2hr)) qH) rfl rfl rfl (qb (qc (qc (qa (qd (ii (instI ar t (((stepsL ar rs (((terms (reachF ar rs t (n - 1)).1).getD k []))).getD q (0, 0, [])).2.2))) rfl (cX (qT rfl rfl (qb ?_)))))))))
   refine qx (p := (instI ar t (((stepsL ar rs (((terms (reachF ar rs t (n - 1)).1).getD k []))).getD q (0, 0, [])).2.2) : Int) < 0) rfl (fun h6 => ?_) (fun h6 => ?_)
   ·refine jb (qo (qI (qa (qd (ii ((q : Int))) rfl (cX (qN (((q + 1 : Nat) : Int)) rfl rfl (by omega) (by omega) (qf (ii (((q + 1 : Nat) : Int))) rfl (qb ?_))))))))
    exact ⟨(q + 1, F5), _, (qm leG2 le5), rF, ⟨rfl, rfl, rfl, rfl, rfl, rfl, rfl, rfl, ⟨⟩⟩, (sD (sC (sC sR))), ⟨rfl, (qm leG2 le5), (by (try dsimp only) <;> omega), (fun i hi => (Nat.lt_or_ge i q).elim (fun h => hnq i h) (fun h => by obtain rfl : i = q := (by omega); omega))⟩, (by omega)⟩
   have hql9 := hql (by omega)
   have hk9 : k < (reachL ar rs t (n - 1)).1.length := by omega
   have hw9 : (walkToF ar rs t ((terms (reachF ar rs t (n - 1)).1).getD k []) (n - 1)) = (t, walkL (reachL ar rs t (n - 1)).1 k, true) := by rw [walkToF_yes (reachOk2_iff.2 ⟨⟨hsys, ho, by rw [hgk]; exact hka hk9⟩, by omega⟩), hgk, walkTo0_yes (by rw [foundI_dist hgd.2.1 hk9]; omega), foundI_dist hgd.2.1 hk9]; rfl
   have hwl9 := (walkL_len hgd.1 hgd.2.2.1 hk9).2
   have hwl8 : (walkToF ar rs t ((terms (reachF ar rs t (n - 1)).1).getD k []) (n - 1)).2.1.length = (walkL (reachL ar rs t (n - 1)).1 k).length := by rw [hw9]
   refine qw (qc ?_)
   obtain ⟨a3, ha3, hr9⟩ := hr1.rd (i := k) (by omega)
   refine yd [cellsH b5 [u1] 137, cellsH b2 [sN, sN, ii (0), sN] 139, cellsH b1 [arv, rsv] 39] L 14 [[], [], [], [], [], [], [], [], [], [8], [8], [], [], [8, 12]] [[], [], [], [], [2, 3], [4], [], [6], [0, 1, 5, 7], [8], [8, 9], [8, 9], [], [8, 10, 12]] [[], [], [], [], [], [], [], [], [], [], [], [], [], [12]] (phiG [pe (.agg #[arv, rsv]), pe tv, pe x1, pe (ii ((k : Int)) : Value), pe (.pointer (some (elemA x1 (k)))), pe a3, pe (ii (n)), pe (ii (n - 1)), fun FF us v => (.tuple #[.agg #[((aggAt (tupAt v 0) 0)), ((aggAt (tupAt v 0) 1))], .bool ((walkToF ar rs t (((terms (reachF ar rs t (n - 1)).1).getD k [])) (n - 1)).2.2)] : Value) = v ∧ (IsSl ((aggAt (tupAt v 0) 0))) ∧ (IsSl ((aggAt (tupAt v 0) 1))), fun FF us v => v = (.tuple #[.agg #[((aggAt (tupAt (us.getD 0 undef) 0) 0)), ((aggAt (tupAt (us.getD 0 undef) 0) 1))], .bool ((walkToF ar rs t (((terms (reachF ar rs t (n - 1)).1).getD k [])) (n - 1)).2.2)] : Value), fun FF us v => v = (.agg #[((aggAt (tupAt (us.getD 0 undef) 0) 0)), ((aggAt (tupAt (us.getD 0 undef) 0) 1))] : Value), pe (.bool ((walkToF ar rs t (((terms (reachF ar rs t (n - 1)).1).getD k [])) (n - 1)).2.2)), fun FF us v => v = ptr (blk v) 0, fun FF us v => True]) (ownL [o0, o0, o0, o0, o0, o0, o0, o0, fun us v => [intsH 2 (((aggAt (tupAt v 0) 0))) ((walkToF ar rs t (((terms (reachF ar rs t (n - 1)).1).getD k [])) (n - 1)).1), stepsD 2 192 (((aggAt (tupAt v 0) 1))) ((walkToF ar rs t (((terms (reachF ar rs t (n - 1)).1).getD k [])) (n - 1)).2.1)], o0, o0, o0, fun us v => [cellsH (blk v) [sN, sN] 45], fun us v => [cellsH (blk (us.getD 1 undef)) [((aggAt (tupAt (us.getD 0 undef) 0) 0)), ((aggAt (tupAt (us.getD 0 undef) 0) 1))] 45]]) mixed rfl rfl (by kernel_rfl) (by kernel_rfl) (MonoG.get (m1 (m1 (m1 (m1 (m1 (m1 (m1 (m1 (mC (fun le h => ⟨h.1, h.2.1, h.2.2⟩) (mC (fun le h => h) (mC (fun le h => h) (m1 (mC (fun le h => h) (mC (fun le h => h) MonoG.nil))))))))))))))) ?_ ?_
   ·refine gD (fun W Fs R lF z9 => ?_) ?_
    ·replace har := har.mono lF
     replace hrs := hrs.mono lF
     replace ht := ht.mono lF
     replace hr1 := hr1.mono lF
     replace hr3 := hr3.mono lF
     replace ha2 := ha2.mono lF
     replace f7_2hr := f7_2hr.mono lF
     replace ha3 := ha3.mono lF
     replace hr4 := Rd.monoA hr4 lF
     replace hr5 := Rd.monoA hr5 lF
     replace hr6 := Rd.monoA hr6 lF
     replace hr9 := Rd.monoA hr9 lF
     refine qj (qq [arv, rsv] jL jy rfl rfl (Rd.ownN [_, _] rfl rfl) ?_)
     exact ⟨rfl, rfl⟩
    refine gD (fun W Fs R lF z9 => ?_) ?_
    ·refine qj (qr (tv) rfl ?_)
     exact ⟨rfl, rfl⟩
    refine gD (fun W Fs R lF z9 => ?_) ?_
    ·refine qj (qr (x1) rfl ?_)
     exact ⟨rfl, rfl⟩
    refine gD (fun W Fs R lF z9 => ?_) ?_
    ·refine qj (qr (ii ((k : Int))) rfl ?_)
     exact ⟨rfl, rfl⟩
    refine gD (fun W Fs R lF z9 => ?_) ?_
    ·replace har := har.mono lF
     replace hrs := hrs.mono lF
     replace ht := ht.mono lF
     replace hr1 := hr1.mono lF
     replace hr3 := hr3.mono lF
     replace ha2 := ha2.mono lF
     replace f7_2hr := f7_2hr.mono lF
     replace ha3 := ha3.mono lF
     replace hr4 := Rd.monoA hr4 lF
     replace hr5 := Rd.monoA hr5 lF
     replace hr6 := Rd.monoA hr6 lF
     replace hr9 := Rd.monoA hr9 lF
     rw [zB 2 3 (z9 2 rfl) (z9 3 rfl)]
     refine qj (qy k qs qt rfl rfl rfl hr1.slv (by omega) (Nat.mul_one _) ?_)
     exact ⟨rfl, rfl⟩
    refine gD (fun W Fs R lF z9 => ?_) ?_
    ·replace har := har.mono lF
     replace hrs := hrs.mono lF
     replace ht := ht.mono lF
     replace hr3 := hr3.mono lF
     replace ha2 := ha2.mono lF
     replace f7_2hr := f7_2hr.mono lF
     replace ha3 := ha3.mono lF
     replace hr4 := Rd.monoA hr4 lF
     replace hr5 := Rd.monoA hr5 lF
     replace hr6 := Rd.monoA hr6 lF
     replace hr9 := Rd.monoA hr9 lF
     rw [zA 4 (z9 4 rfl)]
     refine qj (qh qM rfl (hr9 _) ?_)
     exact ⟨rfl, rfl⟩
    refine gD (fun W Fs R lF z9 => ?_) ?_
    ·refine qj (qr (ii (n)) rfl ?_)
     exact ⟨rfl, rfl⟩
    refine gD (fun W Fs R lF z9 => ?_) ?_
    ·rw [zA 6 (z9 6 rfl)]
     refine qj (jG (n - 1) rfl rfl (by omega) (by omega) ?_)
     exact ⟨rfl, rfl⟩
    refine gD (fun W Fs R lF z9 => ?_) ?_
    ·replace har := har.mono lF
     replace hrs := hrs.mono lF
     replace ht := ht.mono lF
     replace hr3 := hr3.mono lF
     replace ha2 := ha2.mono lF
     replace f7_2hr := f7_2hr.mono lF
     replace ha3 := ha3.mono lF
     replace hr4 := Rd.monoA hr4 lF
     replace hr5 := Rd.monoA hr5 lF
     replace hr6 := Rd.monoA hr6 lF
     rw [eS (l := [(0, _), (1, _), (5, _), (7, _)]) ⟨z9 0 rfl, z9 1 rfl, z9 5 rfl, z9 7 rfl, ⟨⟩⟩]
     refine qj (XOp.thawL (id (qn (args := [.agg #[arv, rsv], tv, a3, ii (n - 1)]) call282 rfl (sWalkTo_spec (n := n - 1) har hrs ht ha3 (hla := (by first | assumption | rfl | omega | simp)) (hlr := (by first | assumption | rfl | omega | simp)) (hrb := (by first | assumption | rfl | omega | simp)) (hlt := (by first | assumption | rfl | omega | simp)) (hlu := (by have := hkl (by omega); omega))) ?_)))
     rintro _ F7 _ le7 ⟨x7, x8, rfl, hr13, hr14, hr15, rfl⟩
     refine ⟨[intsH 2 x7 ((walkToF ar rs t (((terms (reachF ar rs t (n - 1)).1).getD k [])) (n - 1)).1), stepsD 2 192 x8 ((walkToF ar rs t (((terms (reachF ar rs t (n - 1)).1).getD k [])) (n - 1)).2.1)], hr15, ?_⟩
     exact ⟨⟨rfl, (qB hr13), (StepsF.isSl hr14)⟩, rfl⟩
    refine gD (fun W Fs R lF z9 => ?_) ?_
    ·obtain ⟨e8, f8_3sl0, f8_3sl1⟩ := z9 8 rfl
     rw [eS (l := [(8, (.tuple #[.agg #[((aggAt (tupAt (W 8) 0) 0)), ((aggAt (tupAt (W 8) 0) 1))], .bool ((walkToF ar rs t (((terms (reachF ar rs t (n - 1)).1).getD k [])) (n - 1)).2.2)]))]) ⟨(e8).symm, ⟨⟩⟩]
     refine qj (qr (.tuple #[.agg #[((aggAt (tupAt (W 8) 0) 0)), ((aggAt (tupAt (W 8) 0) 1))], .bool ((walkToF ar rs t (((terms (reachF ar rs t (n - 1)).1).getD k [])) (n - 1)).2.2)]) rfl ?_)
     exact ⟨rfl, rfl⟩
    refine gD (fun W Fs R lF z9 => ?_) ?_
    ·obtain ⟨e8, f8_3sl0, f8_3sl1⟩ := z9 8 rfl
     have e9 : W 9 = (.tuple #[.agg #[((aggAt (tupAt (W 8) 0) 0)), ((aggAt (tupAt (W 8) 0) 1))], .bool ((walkToF ar rs t (((terms (reachF ar rs t (n - 1)).1).getD k [])) (n - 1)).2.2)] : Value) := z9 9 rfl
     rw [eS (l := [(8, (.tuple #[.agg #[((aggAt (tupAt (W 8) 0) 0)), ((aggAt (tupAt (W 8) 0) 1))], .bool ((walkToF ar rs t (((terms (reachF ar rs t (n - 1)).1).getD k [])) (n - 1)).2.2)])), (9, (.tuple #[.agg #[((aggAt (tupAt (W 8) 0) 0)), ((aggAt (tupAt (W 8) 0) 1))], .bool ((walkToF ar rs t (((terms (reachF ar rs t (n - 1)).1).getD k [])) (n - 1)).2.2)]))]) ⟨(e8).symm, e9, ⟨⟩⟩]
     refine qj (qU (.agg #[((aggAt (tupAt (W 8) 0) 0)), ((aggAt (tupAt (W 8) 0) 1))]) rfl rfl ?_)
     exact ⟨rfl, rfl⟩
    refine gD (fun W Fs R lF z9 => ?_) ?_
    ·obtain ⟨e8, f8_3sl0, f8_3sl1⟩ := z9 8 rfl
     have e9 : W 9 = (.tuple #[.agg #[((aggAt (tupAt (W 8) 0) 0)), ((aggAt (tupAt (W 8) 0) 1))], .bool ((walkToF ar rs t (((terms (reachF ar rs t (n - 1)).1).getD k [])) (n - 1)).2.2)] : Value) := z9 9 rfl
     rw [eS (l := [(8, (.tuple #[.agg #[((aggAt (tupAt (W 8) 0) 0)), ((aggAt (tupAt (W 8) 0) 1))], .bool ((walkToF ar rs t (((terms (reachF ar rs t (n - 1)).1).getD k [])) (n - 1)).2.2)])), (9, (.tuple #[.agg #[((aggAt (tupAt (W 8) 0) 0)), ((aggAt (tupAt (W 8) 0) 1))], .bool ((walkToF ar rs t (((terms (reachF ar rs t (n - 1)).1).getD k [])) (n - 1)).2.2)]))]) ⟨(e8).symm, e9, ⟨⟩⟩]
     refine qj (qU (.bool ((walkToF ar rs t (((terms (reachF ar rs t (n - 1)).1).getD k [])) (n - 1)).2.2)) rfl rfl ?_)
     exact ⟨rfl, rfl⟩
    refine gD (fun W Fs R lF z9 => ?_) ?_
    ·replace har := har.mono lF
     replace hr3 := hr3.mono lF
     replace ha2 := ha2.mono lF
     replace f7_2hr := f7_2hr.mono lF
     replace hr4 := Rd.monoA hr4 lF
     replace hr5 := Rd.monoA hr5 lF
     replace hr6 := Rd.monoA hr6 lF
     refine qj (qS [sN, sN] zeroValue45 rfl ?_)
     intro b7
     exact ⟨rfl, rfl⟩
    refine gD (fun W Fs R lF z9 => ?_) ?_
    ·obtain ⟨e8, f8_3sl0, f8_3sl1⟩ := z9 8 rfl
     have e10 : W 10 = (.agg #[((aggAt (tupAt (W 8) 0) 0)), ((aggAt (tupAt (W 8) 0) 1))] : Value) := z9 10 rfl
     have e12 : W 12 = ptr (blk (W 12)) 0 := z9 12 rfl
     replace hr3 := hr3.mono lF
     replace ha2 := ha2.mono lF
     replace f7_2hr := f7_2hr.mono lF
     replace hr4 := Rd.monoA hr4 lF
     replace hr5 := Rd.monoA hr5 lF
     replace hr6 := Rd.monoA hr6 lF
     rw [eS (l := [(8, (.tuple #[.agg #[((aggAt (tupAt (W 8) 0) 0)), ((aggAt (tupAt (W 8) 0) 1))], .bool ((walkToF ar rs t (((terms (reachF ar rs t (n - 1)).1).getD k [])) (n - 1)).2.2)])), (10, (.agg #[((aggAt (tupAt (W 8) 0) 0)), ((aggAt (tupAt (W 8) 0) 1))])), (12, ptr (blk (W 12)) 0)]) ⟨(e8).symm, e10, e12, ⟨⟩⟩]
     show XG _ _ _ _ _ (cellsH (blk (W 12)) [sN, sN] 45 :: ([cellsH b5 [u1] 137, cellsH b2 [sN, sN, ii (0), sN] 139, cellsH b1 [arv, rsv] 39] ++ R)) _
     refine qj (qD [] _ [((aggAt (tupAt (W 8) 0) 0)), ((aggAt (tupAt (W 8) 0) 1))] jr rfl rfl rfl (qi (qC f8_3sl0) (qi (qC f8_3sl1) qH)) rfl rfl rfl ?_)
     exact ⟨trivial, rfl⟩
    exact stepsG.nil
   intro W F8 le8 hphi
   obtain ⟨e8, f8_3sl0, f8_3sl1⟩ := hphi 8 (by decide)
   have e9 : W 9 = (.tuple #[.agg #[((aggAt (tupAt (W 8) 0) 0)), ((aggAt (tupAt (W 8) 0) 1))], .bool ((walkToF ar rs t (((terms (reachF ar rs t (n - 1)).1).getD k [])) (n - 1)).2.2)] : Value) := hphi 9 (by decide)
   have e10 : W 10 = (.agg #[((aggAt (tupAt (W 8) 0) 0)), ((aggAt (tupAt (W 8) 0) 1))] : Value) := hphi 10 (by decide)
   have e12 : W 12 = ptr (blk (W 12)) 0 := hphi 12 (by decide)
   generalize hu3 : ((aggAt (tupAt (W 8) 0) 0)) = u2 at e8 f8_3sl0 f8_3sl1 e9 e10 e12
   generalize hu4 : ((aggAt (tupAt (W 8) 0) 1)) = u3 at e8 f8_3sl0 f8_3sl1 e9 e10 e12
   generalize hu5 : blk (W 12) = b8 at e8 f8_3sl0 f8_3sl1 e9 e10 e12
   rw [eS (l := [(8, (.tuple #[.agg #[u2, u3], .bool ((walkToF ar rs t (((terms (reachF ar rs t (n - 1)).1).getD k [])) (n - 1)).2.2)])), (11, _), (12, ptr b8 0)]) ⟨(e8).symm, (hphi 11 (by decide)), e12, ⟨⟩⟩]
   replace hr3 := hr3.mono le8
   replace ha2 := ha2.mono le8
   replace f7_2hr := f7_2hr.mono le8
   replace hr4 := Rd.monoA hr4 le8
   replace hr5 := Rd.monoA hr5 le8
   replace hr6 := Rd.monoA hr6 le8
   show XL _ _ _ _ _ _ _ (intsH 2 u2 ((walkToF ar rs t (((terms (reachF ar rs t (n - 1)).1).getD k [])) (n - 1)).1) :: stepsD 2 192 u3 ((walkToF ar rs t (((terms (reachF ar rs t (n - 1)).1).getD k [])) (n - 1)).2.1) :: cellsH b8 [u2, u3] 45 :: cellsH b5 [u1] 137 :: cellsH b2 [sN, sN, ii (0), sN] 139 :: cellsH b1 [arv, rsv] 39 :: L)
   refine qf (.bool ((walkToF ar rs t (((terms (reachF ar rs t (n - 1)).1).getD k [])) (n - 1)).2.2)) rfl (qb (qc (qc (qa (XL.openD [_] _ rfl (fun cs1 Ls1 F9 le9 hs1 hD1 hZ1 => ?_))))))
   replace hr3 := hr3.mono le9
   replace ha2 := ha2.mono le9
   replace f7_2hr := f7_2hr.mono le9
   replace hr4 := Rd.monoA hr4 le9
   replace hr5 := Rd.monoA hr5 le9
   replace hr6 := Rd.monoA hr6 le9
   have hc1 := hD1.steps hZ1
   show XL _ _ _ _ _ _ _ (intsH 2 u2 ((walkToF ar rs t (((terms (reachF ar rs t (n - 1)).1).getD k [])) (n - 1)).1) :: slH 192 3 u3 (((walkToF ar rs t (((terms (reachF ar rs t (n - 1)).1).getD k [])) (n - 1)).2.1).length) cs1 :: cellsH b8 [u2, u3] 45 :: cellsH b5 [u1] 137 :: cellsH b2 [sN, sN, ii (0), sN] 139 :: cellsH b1 [arv, rsv] 39 :: L)
   skip
   refine qd (.bool ((walkToF ar rs t (((terms (reachF ar rs t (n - 1)).1).getD k [])) (n - 1)).2.2)) rfl (cX (jx rfl (qd (.bool (!((walkToF ar rs t (((terms (reachF ar rs t (n - 1)).1).getD k [])) (n - 1)).2.2))) rfl ?_)))
   by_cases h7 : (!((walkToF ar rs t (((terms (reachF ar rs t (n - 1)).1).getD k [])) (n - 1)).2.2)) = true
   ·exact absurd h7 (by rw [hw9]; simp)
   rw [Bool.not_eq_true] at h7
   refine qu (t := 86) rfl (vB h7) (qk (1) js rfl jR (by decide) rfl rfl (qu (t := 86) rfl (vB h7) (qh isAgg43 rfl (Rd.own [_, _] rfl rfl) (qu (t := 86) rfl (vB h7) (qA qV rfl (SlV.own [_] rfl) (qu (t := 86) rfl (vB h7) (jY rfl rfl (cX (ja (.bool (decide ((((((walkToF ar rs t (((terms (reachF ar rs t (n - 1)).1).getD k [])) (n - 1)).2.1).length : Nat) : Int) : Int) ≥ 60))) (vB h7) rfl (qb ?_))))))))))
   refine qx (p := (((((walkToF ar rs t (((terms (reachF ar rs t (n - 1)).1).getD k [])) (n - 1)).2.1).length : Nat) : Int) : Int) ≥ 60) rfl (fun h8 => ?_) (fun h8 => ?_)
   ·exact absurd h8 (by omega)
   refine qw (qc ?_)
   refine jV [intsH 2 u2 ((walkToF ar rs t (((terms (reachF ar rs t (n - 1)).1).getD k [])) (n - 1)).1), slH 192 3 u3 (((walkToF ar rs t (((terms (reachF ar rs t (n - 1)).1).getD k [])) (n - 1)).2.1).length) cs1, cellsH b8 [u2, u3] 45, cellsH b5 [u1] 137, cellsH b2 [sN, sN, ii (0), sN] 139, cellsH b1 [arv, rsv] 39] L 7 [] [[], [0], [], [], [2, 3], [4], [5]] (phiL [qe (ptr b8 1), qe u3, qe x2, qe (ii ((q : Int)) : Value), qe (.pointer (some (elemA x2 (q * 3)))), qe (.agg #[ii (((stepsL ar rs (((terms (reachF ar rs t (n - 1)).1).getD k []))).getD q (0, 0, [])).1), ii (((stepsL ar rs (((terms (reachF ar rs t (n - 1)).1).getD k []))).getD q (0, 0, [])).2.1), a2]), fun us v => ∃ b, v = .slice (some ⟨b, 0, none⟩) 1 1]) (ownL [o0, o0, o0, o0, o0, o0, fun us v => [slH 192 3 v 1 [ii (((stepsL ar rs (((terms (reachF ar rs t (n - 1)).1).getD k []))).getD q (0, 0, [])).1), ii (((stepsL ar rs (((terms (reachF ar rs t (n - 1)).1).getD k []))).getD q (0, 0, [])).2.1), a2]]]) mixed rfl rfl (by kernel_rfl) ?_ ?_
   ·refine pD (fun W R z9 => ?_) ?_
    ·refine qj (qk (1) js rfl jR (by decide) rfl rfl ?_)
     exact ⟨rfl, rfl, rfl⟩
    refine pD (fun W R z9 => ?_) ?_
    ·rw [zA 0 (z9 0 rfl)]
     refine qj (qh isAgg43 rfl (Rd.own [_, _] rfl rfl) ?_)
     exact ⟨rfl, rfl, rfl⟩
    refine pD (fun W R z9 => ?_) ?_
    ·refine qj (qr (x2) rfl ?_)
     exact ⟨rfl, rfl, rfl⟩
    refine pD (fun W R z9 => ?_) ?_
    ·refine qj (qr (ii ((q : Int))) rfl ?_)
     exact ⟨rfl, rfl, rfl⟩
    refine pD (fun W R z9 => ?_) ?_
    ·rw [zB 2 3 (z9 2 rfl) (z9 3 rfl)]
     refine qj (qy q qV jd rfl rfl rfl hr3.slv (by omega) rfl ?_)
     exact ⟨rfl, rfl, rfl⟩
    refine pD (fun W R z9 => ?_) ?_
    ·rw [zA 4 (z9 4 rfl)]
     refine qj (qq [ii (((stepsL ar rs (((terms (reachF ar rs t (n - 1)).1).getD k []))).getD q (0, 0, [])).1), ii (((stepsL ar rs (((terms (reachF ar rs t (n - 1)).1).getD k []))).getD q (0, 0, [])).2.1), a2] isAgg192 jd rfl rfl (Rd.three (hr4 _) (hr5 _) (hr6 _)) ?_)
     exact ⟨rfl, rfl, rfl⟩
    refine pD (fun W R z9 => ?_) ?_
    ·rw [zA 5 (z9 5 rfl)]
     refine qj (qL (s := 3) [ii (((stepsL ar rs (((terms (reachF ar rs t (n - 1)).1).getD k []))).getD q (0, 0, [])).1), ii (((stepsL ar rs (((terms (reachF ar rs t (n - 1)).1).getD k []))).getD q (0, 0, [])).2.1), a2] [ii (0), ii (0), sN] [(0, [ii (((stepsL ar rs (((terms (reachF ar rs t (n - 1)).1).getD k []))).getD q (0, 0, [])).1), ii (((stepsL ar rs (((terms (reachF ar rs t (n - 1)).1).getD k []))).getD q (0, 0, [])).2.1), a2])] qV jd jE rfl (by decide) rfl (.cons rfl CellsAre.nil) rfl ?_)
     intro v2 hv2
     exact ⟨rfl, hv2, rfl⟩
    exact stepsP.nil
   intro W hphi
   have f6 : ∃ b, (W 6) = .slice (some ⟨b, 0, none⟩) 1 1 := hphi 6 (by decide)
   generalize huu6 : W 6 = u4 at f6
   rw [eS (l := [(1, _), (6, u4)]) ⟨(hphi 1 (by decide)), huu6, ⟨⟩⟩]
   show XL _ _ _ _ _ _ _ (slH 192 3 u4 1 [ii (((stepsL ar rs (((terms (reachF ar rs t (n - 1)).1).getD k []))).getD q (0, 0, [])).1), ii (((stepsL ar rs (((terms (reachF ar rs t (n - 1)).1).getD k []))).getD q (0, 0, [])).2.1), a2] :: intsH 2 u2 ((walkToF ar rs t (((terms (reachF ar rs t (n - 1)).1).getD k [])) (n - 1)).1) :: slH 192 3 u3 (((walkToF ar rs t (((terms (reachF ar rs t (n - 1)).1).getD k [])) (n - 1)).2.1).length) cs1 :: cellsH b8 [u2, u3] 45 :: cellsH b5 [u1] 137 :: cellsH b2 [sN, sN, ii (0), sN] 139 :: cellsH b1 [arv, rsv] 39 :: L)
   refine cX (jQ (m := 1) (bytes := 40) (cs := cs1) [_, _] _ [ii (((stepsL ar rs (((terms (reachF ar rs t (n - 1)).1).getD k []))).getD q (0, 0, [])).1), ii (((stepsL ar rs (((terms (reachF ar rs t (n - 1)).1).getD k []))).getD q (0, 0, [])).2.1), a2] qV typeInfo192 rfl rfl rfl rfl rfl rfl rfl (SlV.own [] rfl) rfl (Rd.lit [] rfl) (qi rfl (qi rfl (qi (qC (qB ha2)) qH))) (by (try simp only [List.length_append, List.length_nil, List.length_cons, List.length_singleton]); omega) (by (try simp only [List.length_append, List.length_nil, List.length_cons, List.length_singleton]); omega) ?_)
   intro v3 hs2 hn1 hm1
   have hc2 := StepsC.snoc hc1 (i := ((stepsL ar rs (((terms (reachF ar rs t (n - 1)).1).getD k []))).getD q (0, 0, [])).1) (j := ((stepsL ar rs (((terms (reachF ar rs t (n - 1)).1).getD k []))).getD q (0, 0, [])).2.1) ha2
   refine cX (qk (1) js rfl jR (by decide) rfl rfl (cX (jw [_, _, _] _ [u2, v3] jR rfl rfl (qC hs2) rfl rfl rfl (qb (qc (qa (cX (qq [u2, v3] isAgg45 jr rfl rfl (Rd.ownN [_, _, _] rfl rfl) (qd (ii (instI ar t (((stepsL ar rs (((terms (reachF ar rs t (n - 1)).1).getD k []))).getD q (0, 0, [])).2.2))) rfl (cX (qq [u1] jv qR rfl rfl (Rd.ownN [_, _, _, _] rfl rfl) (cX (jf [u2, v3, ii (instI ar t (((stepsL ar rs (((terms (reachF ar rs t (n - 1)).1).getD k []))).getD q (0, 0, [])).2.2)), u1] [sN, sN, ii (0), sN] [(0, 2), (2, 1), (3, 1)] [(0, [u2, v3]), (1, [ii (instI ar t (((stepsL ar rs (((terms (reachF ar rs t (n - 1)).1).getD k []))).getD q (0, 0, [])).2.2))]), (2, [u1])] jh jJ rfl (.cons rfl jr (.cons rfl qJ (.cons rfl qR PlacesAre.nil))) rfl (.cons rfl (.cons rfl (.cons rfl CellsAre.nil))) (cX (qD [_, _, _, _, _] _ [u2, v3, ii (instI ar t (((stepsL ar rs (((terms (reachF ar rs t (n - 1)).1).getD k []))).getD q (0, 0, [])).2.2)), u1] ju rfl rfl rfl (qi (qC f8_3sl0) (qi (qC hs2) (qi rfl (qi (qC (RowsF.isSl f7_2hr)) qH)))) rfl rfl rfl (qf (.bool (true)) rfl (qb ?_)))))))))))))))))
   refine jl [_] _ _ rfl (fun F10 le10 hz1 => ?_)
   replace f7_2hr := f7_2hr.mono le10
   replace hc2 := hc2.mono le10
   have hf1 : IntsF F10 u2 ((walkToF ar rs t (((terms (reachF ar rs t (n - 1)).1).getD k [])) (n - 1)).1) := intsH.fz (xs := (walkToF ar rs t (((terms (reachF ar rs t (n - 1)).1).getD k [])) (n - 1)).1) hz1.fz
   refine jl [_] _ _ rfl (fun F11 le11 hz2 => ?_)
   replace f7_2hr := f7_2hr.mono le11
   replace hc2 := hc2.mono le11
   replace hf1 := hf1.mono le11
   have hf2 : StepsF F11 v3 (((walkToF ar rs t (((terms (reachF ar rs t (n - 1)).1).getD k [])) (n - 1)).2.1) ++ [(((stepsL ar rs (((terms (reachF ar rs t (n - 1)).1).getD k []))).getD q (0, 0, [])).1, ((stepsL ar rs (((terms (reachF ar rs t (n - 1)).1).getD k []))).getD q (0, 0, [])).2.1, ((stepsL ar rs (((terms (reachF ar rs t (n - 1)).1).getD k []))).getD q (0, 0, [])).2.2)]) := CO.fz hc2 (by first | rfl | omega | (rw [List.length_set]; omega) | (simp; done)) hz2.fz
   refine qv (qF (ql (ql (qF (qF (ql (ql (qF (ql (qp (L' := L) [.agg #[u2, v3, ii (instI ar t (((stepsL ar rs (((terms (reachF ar rs t (n - 1)).1).getD k []))).getD q (0, 0, [])).2.2)), u1], .bool (true)] (.tuple #[.agg #[u2, v3, ii (instI ar t (((stepsL ar rs (((terms (reachF ar rs t (n - 1)).1).getD k []))).getD q (0, 0, [])).2.2)), u1], .bool (true)]) (.cell rfl (jo [u2, v3, ii (instI ar t (((stepsL ar rs (((terms (reachF ar rs t (n - 1)).1).getD k []))).getD q (0, 0, [])).2.2)), u1] yg ju rfl (Rd.ownN [_, _, _] rfl rfl)) (.tmp rfl .nil)) rfl (qm (qm (qm (qm (qm (qm (qm (qm le1 leG1) le2) leG2) le5) le8) le9) le10) le11) rF (sD (sD (sD (sD (sD sR))))) ?_))))))))))
   have hq9 : q < (stepsL ar rs ((terms (reachF ar rs t (n - 1)).1).getD k [])).length := by omega
   have hi9 : 0 ≤ instI ar t ((stepsL ar rs ((terms (reachF ar rs t (n - 1)).1).getD k [])).getD q (0, 0, [])).2.2 := by omega
   rw [hgk] at hq9 hi9 hnq
   have e : loopF ar rs t n = (t, walkL (reachL ar rs t (n - 1)).1 k ++ [(stepsL ar rs (EL (reachL ar rs t (n - 1)).1 k).1).getD q (0, 0, [])], instI ar t ((stepsL ar rs (EL (reachL ar rs t (n - 1)).1 k).1).getD q (0, 0, [])).2.2, placeS ar t ((stepsL ar rs (EL (reachL ar rs t (n - 1)).1 k).1).getD q (0, 0, [])).2.2, true) := by rw [loopF_yes ⟨⟨hsys, ho⟩, hn20⟩, loop0_at (k := k) (q := q) hk9 hno hq9 hi9 hnq, loopAt, placeS_yes hi9]
   have ha9 := hf1
   have hb9 := hf2
   have hc9 := f7_2hr
   rw [hw9] at ha9
   rw [hw9, hgk] at hb9
   rw [hgk] at hc9
   exact ⟨_, _, _, by rw [e, hgk], by rw [e]; exact ha9, by rw [e]; exact hb9, by rw [e]; exact hc9, rfl⟩
  refine jb (qo (qo (qI (qa (qd (ii ((k : Int))) rfl (cX (qN (((k + 1 : Nat) : Int)) rfl rfl (by omega) (by omega) (qf (ii (((k + 1 : Nat) : Int))) rfl (qb ?_)))))))))
  exact ⟨(k + 1, G2), _, (qm (qm leG1 le2) leG2), rF, ⟨rfl, rfl, rfl, rfl, rfl, rfl, ⟨⟩⟩, (sC (sC sR)), ⟨rfl, (qm (qm leG1 le2) leG2), (by (try dsimp only) <;> omega), (fun i hi => (Nat.lt_or_ge i k).elim (fun h => hno i h) (fun h => by obtain rfl : i = k := (by omega); rw [← hgk, nextI_none (ar := ar) (t := t) (fun j hj => hnq j (by omega))]; omega))⟩, (by omega)⟩
 refine jb (qo (qo (qI (qc (qa (cX (jf [sN, sN, ii (0), sN] [sN, sN, ii (0), sN] [(0, 2), (2, 1), (3, 1)] [] jh jJ rfl (.cons rfl jr (.cons rfl qJ (.cons rfl qR PlacesAre.nil))) rfl CellsAre.nil (cX (qD [] _ [sN, sN, ii (0), sN] ju rfl rfl rfl (qi rfl (qi rfl (qi rfl (qi rfl qH)))) rfl rfl rfl (qf (.bool (false)) rfl (qb (qv (qp (L' := L) [.agg #[sN, sN, ii (0), sN], .bool (false)] (.tuple #[.agg #[sN, sN, ii (0), sN], .bool (false)]) (.cell rfl (jo [sN, sN, ii (0), sN] yg ju rfl (Rd.ownN [] rfl rfl)) (.tmp rfl .nil)) rfl (qm le1 leG1) rF (sD (sD sR)) ?_)))))))))))))
 have e : loopF ar rs t n = noLoop := (loopF_yes ⟨⟨hsys, ho⟩, hn20⟩).trans (loop0_none (fun i hi => hno i (by omega)))
 exact ⟨_, _, _, by rw [e], by rw [e]; exact IntsF.nilV, by rw [e]; exact SlOf.nilV, by rw [e]; exact SlOf.nilV, rfl⟩

/- spec.FirstLoop -/
set_option maxRecDepth 20000 in
theorem sFirstLoop_spec {F : FH} {L : List HP} {arv : Value} {ar : List Int} (har : IntsF F arv ar) {rsv : Value} {rs : List (List Int × List Int)} (hrs : PairsF F rsv rs) {n : Int} (hla : ar.length ≤ 4000000) (hlr : rs.length ≤ 4000000) (hrb : ∀ i, i < rs.length → (rs.getD i ([], [])).1.length ≤ 4000000 ∧ (rs.getD i ([], [])).2.length ≤ 4000000) :
    Does prog 81 [.agg #[arv, rsv], ii (n)] F (L) (fun v F' L' => ∃ (a : Value), ∃ (b : Value), ∃ (c : Value), (.tuple #[.agg #[a, b, ii ((firstF ar rs n).2.2.1), c], .bool ((firstF ar rs n).2.2.2.2)] : Value) = v ∧ (IntsF F' a (firstF ar rs n).1) ∧ (StepsF F' b (firstF ar rs n).2.1) ∧ (RowsF F' c (firstF ar rs n).2.2.2.1) ∧ L = L') := by
 refine qz func81 rfl rfl rfl (qc (qa (cX (qW [arv, rsv] rfl rfl ?_))))
 intro b1
 refine cX (qS [sN, sN, ii (0), sN] jJ rfl ?_)
 intro b2
 refine qf (.bool (false)) rfl (qb (qc (qc (qa (cX (qq [arv, rsv] jL jy rfl rfl (Rd.ownN [_] rfl rfl) (cX (qn (args := [.agg #[arv, rsv]]) call82 rfl (sSystemOk_spec har hrs (hla := (by first | assumption | rfl | omega | simp)) (hlr := (by first | assumption | rfl | omega | simp)) (hrb := (by first | assumption | rfl | omega | simp))) ?_))))))))
 rintro _ _ _ _ ⟨rfl, rfl, rfl⟩
 refine cX (jx rfl (qb ?_))
 refine ya (t := !(sysOk ar rs)) rfl (fun h1 => ?_) (fun h1 => ?_)
 ·refine qc (qa (cX (jf [sN, sN, ii (0), sN] [sN, sN, ii (0), sN] [(0, 2), (2, 1), (3, 1)] [] jh jJ rfl (.cons rfl jr (.cons rfl qJ (.cons rfl qR PlacesAre.nil))) rfl CellsAre.nil (cX (qD [] _ [sN, sN, ii (0), sN] ju rfl rfl rfl (qi rfl (qi rfl (qi rfl (qi rfl qH)))) rfl rfl rfl (qf (.bool (false)) rfl (qb (qv (ql (qp (L' := L) [.agg #[sN, sN, ii (0), sN], .bool (false)] (.tuple #[.agg #[sN, sN, ii (0), sN], .bool (false)]) (.cell rfl (jo [sN, sN, ii (0), sN] yg ju rfl (Rd.ownN [] rfl rfl)) (.tmp rfl .nil)) rfl rF rF (sD (sD sR)) ?_))))))))))
  have e : firstF ar rs n = noLoop := firstF_no (by simp_all)
  exact ⟨_, _, _, by rw [e], by rw [e]; exact IntsF.nilV, by rw [e]; exact SlOf.nilV, by rw [e]; exact SlOf.nilV, rfl⟩
 have hsys : sysOk ar rs = true := by simpa using h1
 have hrs12 := (sysOk_iff.1 hsys).2.1
 refine qw (qc (qc (qa (qf (ii (0)) rfl (qb (qG (jc (α := Nat × FH) (fun xQ => [(1, ii (n)), (2, ptr b1 0), (4, ptr b2 0), (6, ii (((xQ.1 : Nat) : Int)))]) (fun xQ => cellsH b2 [sN, sN, ii (0), sN] 139 :: cellsH b1 [arv, rsv] 39 :: L) (fun xQ F' => xQ.2 = F' ∧ F ≤ xQ.2 ∧ (xQ.1 ≤ rs.length) ∧ (∀ i, i < xQ.1 → (loopF ar rs (rs.getD i ([], [])).1 n).2.2.2.2 = false)) (fun xQ => rs.length - xQ.1) (0, F) ⟨rfl, rfl, rfl, rfl, ⟨⟩⟩ (sC (sC sR)) ⟨rfl, FLe.refl _, (by (try dsimp only) <;> omega), (fun i hi => absurd hi (by omega))⟩ ?_)))))))
 rintro ⟨k, G1⟩ rE _ _ ⟨rfl, leG, hk, hall⟩
 show X _ _ _ _ (envs [(1, ii (n)), (2, ptr b1 0), (4, ptr b2 0), (6, ii ((k : Int)))] rE) _ (cellsH b2 [sN, sN, ii (0), sN] 139 :: cellsH b1 [arv, rsv] 39 :: L)
 replace leG : F ≤ G1 := leG
 dsimp only at hk hall
 have hrbk := hrb k
 have leG1 := leG
 replace har := har.mono leG1
 replace hrs := hrs.mono leG1
 refine qc (qc (qa (qd (ii ((k : Int))) rfl (cX (qk (1) qY rfl yc (by decide) rfl rfl (cX (qh isAgg37 rfl (Rd.own [_] rfl rfl) (cX (qA jj rfl hrs.slv (cX (qT rfl rfl (qb ?_))))))))))))
 refine qx (p := (k : Int) < (rs.length : Int)) rfl (fun h2 => ?_) (fun h2 => ?_)
 ·refine qw (qc (qG (qc ?_)))
  obtain ⟨a1, a2, ha1, ha2, hr1, hr2⟩ := hrs.rd (i := k) (by omega)
  refine yd [cellsH b2 [sN, sN, ii (0), sN] 139, cellsH b1 [arv, rsv] 39] L 14 [[], [], [], [], [], [], [], [], [], [8], [8], [], [], [8, 12]] [[], [], [1], [], [2, 3], [4], [5], [], [0, 6, 7], [8], [8, 9], [8, 9], [], [8, 10, 12]] [[], [], [], [], [], [], [], [], [], [], [], [], [], [12]] (phiG [pe (.agg #[arv, rsv]), pe (ptr b1 1), pe rsv, pe (ii ((k : Int)) : Value), pe (.pointer (some (elemA rsv (k * 2)))), pe (.pointer (some (elemA rsv (k * 2)))), pe a1, pe (ii (n)), fun FF us v => (.tuple #[.agg #[((aggAt (tupAt v 0) 0)), ((aggAt (tupAt v 0) 1)), ii ((loopF ar rs ((rs.getD k ([], [])).1) n).2.2.1), ((aggAt (tupAt v 0) 3))], .bool ((loopF ar rs ((rs.getD k ([], [])).1) n).2.2.2.2)] : Value) = v ∧ (IntsF FF ((aggAt (tupAt v 0) 0)) (loopF ar rs ((rs.getD k ([], [])).1) n).1) ∧ (StepsF FF ((aggAt (tupAt v 0) 1)) (loopF ar rs ((rs.getD k ([], [])).1) n).2.1) ∧ (RowsF FF ((aggAt (tupAt v 0) 3)) (loopF ar rs ((rs.getD k ([], [])).1) n).2.2.2.1), fun FF us v => v = (.tuple #[.agg #[((aggAt (tupAt (us.getD 0 undef) 0) 0)), ((aggAt (tupAt (us.getD 0 undef) 0) 1)), ii ((loopF ar rs ((rs.getD k ([], [])).1) n).2.2.1), ((aggAt (tupAt (us.getD 0 undef) 0) 3))], .bool ((loopF ar rs ((rs.getD k ([], [])).1) n).2.2.2.2)] : Value), fun FF us v => v = (.agg #[((aggAt (tupAt (us.getD 0 undef) 0) 0)), ((aggAt (tupAt (us.getD 0 undef) 0) 1)), ii ((loopF ar rs ((rs.getD k ([], [])).1) n).2.2.1), ((aggAt (tupAt (us.getD 0 undef) 0) 3))] : Value), pe (.bool ((loopF ar rs ((rs.getD k ([], [])).1) n).2.2.2.2)), fun FF us v => v = ptr (blk v) 0, fun FF us v => True]) (ownL [o0, o0, o0, o0, o0, o0, o0, o0, o0, o0, o0, o0, fun us v => [cellsH (blk v) [sN, sN, ii (0), sN] 139], fun us v => [cellsH (blk (us.getD 1 undef)) [((aggAt (tupAt (us.getD 0 undef) 0) 0)), ((aggAt (tupAt (us.getD 0 undef) 0) 1)), ii ((loopF ar rs ((rs.getD k ([], [])).1) n).2.2.1), ((aggAt (tupAt (us.getD 0 undef) 0) 3))] 139]]) mixed rfl rfl (by kernel_rfl) (by kernel_rfl) (MonoG.get (m1 (m1 (m1 (m1 (m1 (m1 (m1 (m1 (mC (fun le h => ⟨h.1, h.2.1.mono le, h.2.2.1.mono le, h.2.2.2.mono le⟩) (mC (fun le h => h) (mC (fun le h => h) (m1 (mC (fun le h => h) (mC (fun le h => h) MonoG.nil))))))))))))))) ?_ ?_
  ·refine gD (fun W Fs R lF z9 => ?_) ?_
   ·replace har := har.mono lF
    replace hrs := hrs.mono lF
    replace ha1 := ha1.mono lF
    replace hr1 := Rd.monoA hr1 lF
    refine qj (qq [arv, rsv] jL jy rfl rfl (Rd.ownN [_] rfl rfl) ?_)
    exact ⟨rfl, rfl⟩
   refine gD (fun W Fs R lF z9 => ?_) ?_
   ·refine qj (qk (1) qY rfl yc (by decide) rfl rfl ?_)
    exact ⟨rfl, rfl⟩
   refine gD (fun W Fs R lF z9 => ?_) ?_
   ·replace har := har.mono lF
    replace hrs := hrs.mono lF
    replace ha1 := ha1.mono lF
    replace hr1 := Rd.monoA hr1 lF
    rw [zA 1 (z9 1 rfl)]
    refine qj (qh isAgg37 rfl (Rd.own [_] rfl rfl) ?_)
    exact ⟨rfl, rfl⟩
   refine gD (fun W Fs R lF z9 => ?_) ?_
   ·refine qj (qr (ii ((k : Int))) rfl ?_)
    exact ⟨rfl, rfl⟩
   refine gD (fun W Fs R lF z9 => ?_) ?_
   ·replace har := har.mono lF
    replace hrs := hrs.mono lF
    replace ha1 := ha1.mono lF
    replace hr1 := Rd.monoA hr1 lF
    rw [zB 2 3 (z9 2 rfl) (z9 3 rfl)]
    refine qj (qy k jj jO rfl rfl rfl hrs.slv (by omega) rfl ?_)
    exact ⟨rfl, rfl⟩
   refine gD (fun W Fs R lF z9 => ?_) ?_
   ·rw [zA 4 (z9 4 rfl)]
    refine qj (jA (k * 2) je rfl qt (by decide) rfl rfl ?_)
    exact ⟨rfl, rfl⟩
   refine gD (fun W Fs R lF z9 => ?_) ?_
   ·replace har := har.mono lF
    replace hrs := hrs.mono lF
    replace ha1 := ha1.mono lF
    replace hr1 := Rd.monoA hr1 lF
    rw [zA 5 (z9 5 rfl)]
    refine qj (qh qM rfl (hr1 _) ?_)
    exact ⟨rfl, rfl⟩
   refine gD (fun W Fs R lF z9 => ?_) ?_
   ·refine qj (qr (ii (n)) rfl ?_)
    exact ⟨rfl, rfl⟩
   refine gD (fun W Fs R lF z9 => ?_) ?_
   ·replace har := har.mono lF
    replace hrs := hrs.mono lF
    replace ha1 := ha1.mono lF
    rw [eS (l := [(0, _), (6, _), (7, _)]) ⟨z9 0 rfl, z9 6 rfl, z9 7 rfl, ⟨⟩⟩]
    refine qj (qn (args := [.agg #[arv, rsv], a1, ii (n)]) call178 rfl (sLoopFrom_spec (n := n) har hrs ha1 (hla := (by first | assumption | rfl | omega | simp)) (hlr := (by first | assumption | rfl | omega | simp)) (hrb := (by first | assumption | rfl | omega | simp)) (hlt := ((hrbk (by omega)).1))) ?_)
    rintro _ F2 _ le2 ⟨x4, x5, x6, rfl, hr6, hr7, hr8, rfl⟩
    replace har := har.mono le2
    exact ⟨⟨rfl, hr6, hr7, hr8⟩, rfl⟩
   refine gD (fun W Fs R lF z9 => ?_) ?_
   ·obtain ⟨e8, f8_1hr1, f8_1hr2, f8_1hr3⟩ := z9 8 rfl
    rw [eS (l := [(8, (.tuple #[.agg #[((aggAt (tupAt (W 8) 0) 0)), ((aggAt (tupAt (W 8) 0) 1)), ii ((loopF ar rs ((rs.getD k ([], [])).1) n).2.2.1), ((aggAt (tupAt (W 8) 0) 3))], .bool ((loopF ar rs ((rs.getD k ([], [])).1) n).2.2.2.2)]))]) ⟨(e8).symm, ⟨⟩⟩]
    refine qj (qr (.tuple #[.agg #[((aggAt (tupAt (W 8) 0) 0)), ((aggAt (tupAt (W 8) 0) 1)), ii ((loopF ar rs ((rs.getD k ([], [])).1) n).2.2.1), ((aggAt (tupAt (W 8) 0) 3))], .bool ((loopF ar rs ((rs.getD k ([], [])).1) n).2.2.2.2)]) rfl ?_)
    exact ⟨rfl, rfl⟩
   refine gD (fun W Fs R lF z9 => ?_) ?_
   ·obtain ⟨e8, f8_1hr1, f8_1hr2, f8_1hr3⟩ := z9 8 rfl
    have e9 : W 9 = (.tuple #[.agg #[((aggAt (tupAt (W 8) 0) 0)), ((aggAt (tupAt (W 8) 0) 1)), ii ((loopF ar rs ((rs.getD k ([], [])).1) n).2.2.1), ((aggAt (tupAt (W 8) 0) 3))], .bool ((loopF ar rs ((rs.getD k ([], [])).1) n).2.2.2.2)] : Value) := z9 9 rfl
    rw [eS (l := [(8, (.tuple #[.agg #[((aggAt (tupAt (W 8) 0) 0)), ((aggAt (tupAt (W 8) 0) 1)), ii ((loopF ar rs ((rs.getD k ([], [])).1) n).2.2.1), ((aggAt (tupAt (W 8) 0) 3))], .bool ((loopF ar rs ((rs.getD k ([], [])).1) n).2.2.2.2)])), (9, (.tuple #[.agg #[((aggAt (tupAt (W 8) 0) 0)), ((aggAt (tupAt (W 8) 0) 1)), ii ((loopF ar rs ((rs.getD k ([], [])).1) n).2.2.1), ((aggAt (tupAt (W 8) 0) 3))], .bool ((loopF ar rs ((rs.getD k ([], [])).1) n).2.2.2.2)]))]) ⟨(e8).symm, e9, ⟨⟩⟩]
    refine qj (qU (.agg #[((aggAt (tupAt (W 8) 0) 0)), ((aggAt (tupAt (W 8) 0) 1)), ii ((loopF ar rs ((rs.getD k ([], [])).1) n).2.2.1), ((aggAt (tupAt (W 8) 0) 3))]) rfl rfl ?_)
    exact ⟨rfl, rfl⟩
   refine gD (fun W Fs R lF z9 => ?_) ?_
   ·obtain ⟨e8, f8_1hr1, f8_1hr2, f8_1hr3⟩ := z9 8 rfl
    have e9 : W 9 = (.tuple #[.agg #[((aggAt (tupAt (W 8) 0) 0)), ((aggAt (tupAt (W 8) 0) 1)), ii ((loopF ar rs ((rs.getD k ([], [])).1) n).2.2.1), ((aggAt (tupAt (W 8) 0) 3))], .bool ((loopF ar rs ((rs.getD k ([], [])).1) n).2.2.2.2)] : Value) := z9 9 rfl
    rw [eS (l := [(8, (.tuple #[.agg #[((aggAt (tupAt (W 8) 0) 0)), ((aggAt (tupAt (W 8) 0) 1)), ii ((loopF ar rs ((rs.getD k ([], [])).1) n).2.2.1), ((aggAt (tupAt (W 8) 0) 3))], .bool ((loopF ar rs ((rs.getD k ([], [])).1) n).2.2.2.2)])), (9, (.tuple #[.agg #[((aggAt (tupAt (W 8) 0) 0)), ((aggAt (tupAt (W 8) 0) 1)), ii ((loopF ar rs ((rs.getD k ([], [])).1) n).2.2.1), ((aggAt (tupAt (W 8) 0) 3))], .bool ((loopF ar rs ((rs.getD k ([], [])).1) n).2.2.2.2)]))]) ⟨(e8).symm, e9, ⟨⟩⟩]
    refine qj (qU (.bool ((loopF ar rs ((rs.getD k ([], [])).1) n).2.2.2.2)) rfl rfl ?_)
    exact ⟨rfl, rfl⟩
   refine gD (fun W Fs R lF z9 => ?_) ?_
   ·replace har := har.mono lF
    refine qj (qS [sN, sN, ii (0), sN] jJ rfl ?_)
    intro b4
    exact ⟨rfl, rfl⟩
   refine gD (fun W Fs R lF z9 => ?_) ?_
   ·obtain ⟨e8, f8_1hr1, f8_1hr2, f8_1hr3⟩ := z9 8 rfl
    have e10 : W 10 = (.agg #[((aggAt (tupAt (W 8) 0) 0)), ((aggAt (tupAt (W 8) 0) 1)), ii ((loopF ar rs ((rs.getD k ([], [])).1) n).2.2.1), ((aggAt (tupAt (W 8) 0) 3))] : Value) := z9 10 rfl
    have e12 : W 12 = ptr (blk (W 12)) 0 := z9 12 rfl
    rw [eS (l := [(8, (.tuple #[.agg #[((aggAt (tupAt (W 8) 0) 0)), ((aggAt (tupAt (W 8) 0) 1)), ii ((loopF ar rs ((rs.getD k ([], [])).1) n).2.2.1), ((aggAt (tupAt (W 8) 0) 3))], .bool ((loopF ar rs ((rs.getD k ([], [])).1) n).2.2.2.2)])), (10, (.agg #[((aggAt (tupAt (W 8) 0) 0)), ((aggAt (tupAt (W 8) 0) 1)), ii ((loopF ar rs ((rs.getD k ([], [])).1) n).2.2.1), ((aggAt (tupAt (W 8) 0) 3))])), (12, ptr (blk (W 12)) 0)]) ⟨(e8).symm, e10, e12, ⟨⟩⟩]
    show XG _ _ _ _ _ (cellsH (blk (W 12)) [sN, sN, ii (0), sN] 139 :: ([cellsH b2 [sN, sN, ii (0), sN] 139, cellsH b1 [arv, rsv] 39] ++ R)) _
    refine qj (qD [] _ [((aggAt (tupAt (W 8) 0) 0)), ((aggAt (tupAt (W 8) 0) 1)), ii ((loopF ar rs ((rs.getD k ([], [])).1) n).2.2.1), ((aggAt (tupAt (W 8) 0) 3))] ju rfl rfl rfl (qi (qC (qB f8_1hr1)) (qi (qC (StepsF.isSl f8_1hr2)) (qi rfl (qi (qC (RowsF.isSl f8_1hr3)) qH)))) rfl rfl rfl ?_)
    exact ⟨trivial, rfl⟩
   exact stepsG.nil
  intro W F3 le3 hphi
  obtain ⟨e8, f8_1hr1, f8_1hr2, f8_1hr3⟩ := hphi 8 (by decide)
  have e9 : W 9 = (.tuple #[.agg #[((aggAt (tupAt (W 8) 0) 0)), ((aggAt (tupAt (W 8) 0) 1)), ii ((loopF ar rs ((rs.getD k ([], [])).1) n).2.2.1), ((aggAt (tupAt (W 8) 0) 3))], .bool ((loopF ar rs ((rs.getD k ([], [])).1) n).2.2.2.2)] : Value) := hphi 9 (by decide)
  have e10 : W 10 = (.agg #[((aggAt (tupAt (W 8) 0) 0)), ((aggAt (tupAt (W 8) 0) 1)), ii ((loopF ar rs ((rs.getD k ([], [])).1) n).2.2.1), ((aggAt (tupAt (W 8) 0) 3))] : Value) := hphi 10 (by decide)
  have e12 : W 12 = ptr (blk (W 12)) 0 := hphi 12 (by decide)
  generalize hu1 : ((aggAt (tupAt (W 8) 0) 0)) = u1 at e8 f8_1hr1 f8_1hr2 f8_1hr3 e9 e10 e12
  generalize hu2 : ((aggAt (tupAt (W 8) 0) 1)) = u2 at e8 f8_1hr1 f8_1hr2 f8_1hr3 e9 e10 e12
  generalize hu3 : ((aggAt (tupAt (W 8) 0) 3)) = u3 at e8 f8_1hr1 f8_1hr2 f8_1hr3 e9 e10 e12
  generalize hu4 : blk (W 12) = b5 at e8 f8_1hr1 f8_1hr2 f8_1hr3 e9 e10 e12
  rw [eS (l := [(8, (.tuple #[.agg #[u1, u2, ii ((loopF ar rs ((rs.getD k ([], [])).1) n).2.2.1), u3], .bool ((loopF ar rs ((rs.getD k ([], [])).1) n).2.2.2.2)])), (11, _), (12, ptr b5 0)]) ⟨(e8).symm, (hphi 11 (by decide)), e12, ⟨⟩⟩]
  show XL _ _ _ _ _ _ _ (cellsH b5 [u1, u2, ii ((loopF ar rs ((rs.getD k ([], [])).1) n).2.2.1), u3] 139 :: cellsH b2 [sN, sN, ii (0), sN] 139 :: cellsH b1 [arv, rsv] 39 :: L)
  refine qf (.bool ((loopF ar rs ((rs.getD k ([], [])).1) n).2.2.2.2)) rfl (qb (qc (qa (qd (.bool ((loopF ar rs ((rs.getD k ([], [])).1) n).2.2.2.2)) rfl (qb ?_)))))
  refine ya (t := (loopF ar rs ((rs.getD k ([], [])).1) n).2.2.2.2) rfl (fun h3 => ?_) (fun h3 => ?_)
  ·have hb9 : (loopF ar rs (rs.getD k ([], [])).1 n).2.2.2.2 = true := h3
   refine qc (qa (cX (qq [u1, u2, ii ((loopF ar rs ((rs.getD k ([], [])).1) n).2.2.1), u3] yg ju rfl rfl (Rd.ownN [] rfl rfl) (cX (qD [_] _ [u1, u2, ii ((loopF ar rs ((rs.getD k ([], [])).1) n).2.2.1), u3] ju rfl rfl rfl (qi (qC (qB f8_1hr1)) (qi (qC (StepsF.isSl f8_1hr2)) (qi rfl (qi (qC (RowsF.isSl f8_1hr3)) qH)))) rfl rfl rfl (qf (.bool (true)) rfl (qb (qv (qF (ql (ql (qF (ql (qp (L' := L) [.agg #[u1, u2, ii ((loopF ar rs ((rs.getD k ([], [])).1) n).2.2.1), u3], .bool (true)] (.tuple #[.agg #[u1, u2, ii ((loopF ar rs ((rs.getD k ([], [])).1) n).2.2.1), u3], .bool (true)]) (.cell rfl (jo [u1, u2, ii ((loopF ar rs ((rs.getD k ([], [])).1) n).2.2.1), u3] yg ju rfl (Rd.ownN [_] rfl rfl)) (.tmp rfl .nil)) rfl (qm leG1 le3) rF (sD (sD (sD sR))) ?_))))))))))))))
   have hn20 : 1 ≤ n ∧ n ≤ 20 := Classical.byContradiction fun hc => by rw [loopF_no (fun h => hc h.2)] at hb9; cases hb9
   have e := firstF_at ⟨hsys, hn20⟩ (k := k) (by omega) hb9 hall
   exact ⟨_, _, _, by rw [e, hb9], by rw [e]; exact f8_1hr1, by rw [e]; exact f8_1hr2, by rw [e]; exact f8_1hr3, rfl⟩
  have hb9 : (loopF ar rs (rs.getD k ([], [])).1 n).2.2.2.2 = false := h3
  refine qw (qa (qd (ii ((k : Int))) rfl (cX (qN (((k + 1 : Nat) : Int)) rfl rfl (by omega) (by omega) (qf (ii (((k + 1 : Nat) : Int))) rfl (qb ?_))))))
  exact ⟨(k + 1, F3), _, (qm leG1 le3), rF, ⟨rfl, rfl, rfl, rfl, ⟨⟩⟩, (sD (sC (sC sR))), ⟨rfl, (qm leG1 le3), (by (try dsimp only) <;> omega), (fun i hi => (Nat.lt_or_ge i k).elim (fun h => hall i h) (fun h => by obtain rfl : i = k := (by omega); exact hb9))⟩, (by omega)⟩
 refine jb (qo (qo (qI (qc (qa (cX (jf [sN, sN, ii (0), sN] [sN, sN, ii (0), sN] [(0, 2), (2, 1), (3, 1)] [] jh jJ rfl (.cons rfl jr (.cons rfl qJ (.cons rfl qR PlacesAre.nil))) rfl CellsAre.nil (cX (qD [] _ [sN, sN, ii (0), sN] ju rfl rfl rfl (qi rfl (qi rfl (qi rfl (qi rfl qH)))) rfl rfl rfl (qf (.bool (false)) rfl (qb (qv (qp (L' := L) [.agg #[sN, sN, ii (0), sN], .bool (false)] (.tuple #[.agg #[sN, sN, ii (0), sN], .bool (false)]) (.cell rfl (jo [sN, sN, ii (0), sN] yg ju rfl (Rd.ownN [] rfl rfl)) (.tmp rfl .nil)) rfl leG1 rF (sD (sD sR)) ?_)))))))))))))
 have e : firstF ar rs n = noLoop := firstF_none (fun i hi => hall i (by omega))
 exact ⟨_, _, _, by rw [e], by rw [e]; exact IntsF.nilV, by rw [e]; exact SlOf.nilV, by rw [e]; exact SlOf.nilV, rfl⟩

/- impl.sized -/
theorem sized_spec {F : FH} {L : List HP} {tv : Value} {t : List Int} (ht : IntsF F tv t) :
    Does prog 291 [tv] F (L) (fun v F' L' => (.bool (decide (1 ≤ t.length ∧ t.length ≤ 60)) : Value) = v ∧ F = F' ∧ L = L') := by
 refine qz func291 rfl rfl rfl (qc (qa (qf (.bool (false)) rfl (qb (qc (qa (qd (tv) rfl (cX (qA qg rfl ht.slv (cX (jY rfl rfl (qd (.bool (decide (((t.length : Int) : Int) ≥ 1))) rfl ?_))))))))))))
 by_cases h1 : ((t.length : Int) : Int) ≥ 1
 ·refine qu (t := 6) rfl (vT h1) (qr (tv) rfl (qu (t := 6) rfl (vT h1) (qA qg rfl ht.slv (qu (t := 6) rfl (vT h1) (XOp.leq rfl rfl (cX (jk (.bool (decide (((t.length : Int) : Int) ≤ 60))) (vT h1) rfl (qf (.bool (decide (((t.length : Int) : Int) ≤ 60))) rfl (qb (qv (qp (L' := L) [.bool (decide (((t.length : Int) : Int) ≤ 60))] (.bool (decide (((t.length : Int) : Int) ≤ 60))) (.tmp rfl .nil) rfl rF rF sR ?_)))))))))))
  exact ⟨(vB ((by first | rfl | exact decide_eq_decide.2 (by omega) | exact (decide_eq_decide.2 (by omega)).symm | exact decide_eq_false (by omega) | exact (decide_eq_false (by omega)).symm | exact decide_eq_true (by omega) | (simp_all <;> omega)))), rfl, rfl⟩
 refine qE (t := 6) rfl (vF h1) (qE (t := 6) rfl (vF h1) (qE (t := 6) rfl (vF h1) (cX (ja (.bool (false)) (vF h1) rfl (qf (.bool (false)) rfl (qb (qv (qp (L' := L) [.bool (false)] (.bool (false)) (.tmp rfl .nil) rfl rF rF sR ?_))))))))
 exact ⟨(vB ((by first | rfl | exact decide_eq_decide.2 (by omega) | exact (decide_eq_decide.2 (by omega)).symm | exact decide_eq_false (by omega) | exact (decide_eq_false (by omega)).symm | exact decide_eq_true (by omega) | (simp_all <;> omega)))), rfl, rfl⟩

/- (impl.Walk).sized -/
theorem walkSized_spec {F : FH} {L : List HP} {fv : Value} {f : List Int} (hf : IntsF F fv f) {ssv : Value} {ss : List StepT} (hss : StepsF F ssv ss) :
    Does prog 188 [.agg #[fv, ssv]] F (L) (fun v F' L' => (.bool (decide (ss.length ≤ 60 ∧ (1 ≤ f.length ∧ f.length ≤ 60))) : Value) = v ∧ F = F' ∧ L = L') := by
 refine qz func188 rfl rfl rfl (qc (qa (cX (qW [fv, ssv] rfl rfl ?_))))
 intro b1
 refine qf (.bool (false)) rfl (qb (qc (qa (cX (qk (1) js rfl jR (by decide) rfl rfl (cX (qh isAgg43 rfl (Rd.own [] rfl rfl) (cX (qA qV rfl hss.slv (cX (XOp.leq rfl rfl (qd (.bool (decide (((ss.length : Int) : Int) ≤ 60))) rfl ?_))))))))))))
 by_cases h1 : ((ss.length : Int) : Int) ≤ 60
 ·refine qu (t := 7) rfl (vT h1) (qk (0) js rfl qt (by decide) rfl rfl (qu (t := 7) rfl (vT h1) (qh qM rfl (Rd.own [] rfl rfl) (qu (t := 7) rfl (vT h1) (qn (args := [fv]) call291 rfl (sized_spec hf) ?_)))))
  rintro _ _ _ _ ⟨rfl, rfl, rfl⟩
  refine cX (jk (.bool (decide (1 ≤ f.length ∧ f.length ≤ 60))) (vT h1) rfl (qf (.bool (decide (1 ≤ f.length ∧ f.length ≤ 60))) rfl (qb (qv (qp (L' := L) [.bool (decide (1 ≤ f.length ∧ f.length ≤ 60))] (.bool (decide (1 ≤ f.length ∧ f.length ≤ 60))) (.tmp rfl .nil) rfl rF rF (sD sR) ?_)))))
  exact ⟨(vB ((by first | rfl | exact decide_eq_decide.2 (by omega) | exact (decide_eq_decide.2 (by omega)).symm | exact decide_eq_false (by omega) | exact (decide_eq_false (by omega)).symm | exact decide_eq_true (by omega) | (simp_all <;> omega)))), rfl, rfl⟩
 refine qE (t := 7) rfl (vF h1) (qE (t := 7) rfl (vF h1) (qE (t := 7) rfl (vF h1) (cX (ja (.bool (false)) (vF h1) rfl (qf (.bool (false)) rfl (qb (qv (qp (L' := L) [.bool (false)] (.bool (false)) (.tmp rfl .nil) rfl rF rF (sD sR) ?_))))))))
 exact ⟨(vB ((by first | rfl | exact decide_eq_decide.2 (by omega) | exact (decide_eq_decide.2 (by omega)).symm | exact decide_eq_false (by omega) | exact (decide_eq_false (by omega)).symm | exact decide_eq_true (by omega) | (simp_all <;> omega)))), rfl, rfl⟩

/- spec.l29Term -/
theorem l29Term_spec {F : FH} {L : List HP} {tv : Value} {t : List Int} (ht : IntsF F tv t) (hlt : t.length ≤ 4000000) :
    Does prog 185 [tv] F (L) (fun v F' L' => (.bool (decide (1 ≤ t.length ∧ t.length ≤ 60)) : Value) = v ∧ F = F' ∧ L = L') := by
 refine qz func185 rfl rfl rfl (qc (qa (qf (.bool (false)) rfl (qb (qc (qa (qd (tv) rfl (cX (qA qg rfl ht.slv (cX (qn (args := [ii ((t.length : Int)), ii (1), ii (60)]) call109 rfl (l1In_spec (n := (t.length : Int)) (a := 1) (b := 60)) ?_)))))))))))
 rintro _ _ _ _ ⟨rfl, rfl, rfl⟩
 refine qf (.bool (decide (1 ≤ ((t.length : Int)) ∧ ((t.length : Int)) ≤ 60))) rfl (qb (qv (qp (L' := L) [.bool (decide (1 ≤ ((t.length : Int)) ∧ ((t.length : Int)) ≤ 60))] (.bool (decide (1 ≤ ((t.length : Int)) ∧ ((t.length : Int)) ≤ 60))) (.tmp rfl .nil) rfl rF rF sR ?_)))
 exact ⟨(vB ((by first | rfl | exact decide_eq_decide.2 (by omega) | exact (decide_eq_decide.2 (by omega)).symm | exact decide_eq_false (by omega) | exact (decide_eq_false (by omega)).symm | exact decide_eq_true (by omega) | (simp_all <;> omega)))), rfl, rfl⟩

/- spec.l29Walk -/
theorem l29Walk_spec {F : FH} {L : List HP} {fv : Value} {f : List Int} (hf : IntsF F fv f) {ssv : Value} {ss : List StepT} (hss : StepsF F ssv ss) (hlf : f.length ≤ 4000000) :
    Does prog 181 [.agg #[fv, ssv]] F (L) (fun v F' L' => (.bool (decide (ss.length ≤ 60 ∧ (1 ≤ f.length ∧ f.length ≤ 60))) : Value) = v ∧ F = F' ∧ L = L') := by
 refine qz func181 rfl rfl rfl (qc (qa (cX (qW [fv, ssv] rfl rfl ?_))))
 intro b1
 refine qf (.bool (false)) rfl (qb (qc (qa (cX (qk (1) js rfl jR (by decide) rfl rfl (cX (qh isAgg43 rfl (Rd.own [] rfl rfl) (cX (qA qV rfl hss.slv (cX (XOp.leq rfl rfl (qd (.bool (decide (((ss.length : Int) : Int) ≤ 60))) rfl ?_))))))))))))
 by_cases h1 : ((ss.length : Int) : Int) ≤ 60
 ·refine qu (t := 7) rfl (vT h1) (qk (0) js rfl qt (by decide) rfl rfl (qu (t := 7) rfl (vT h1) (qh qM rfl (Rd.own [] rfl rfl) (qu (t := 7) rfl (vT h1) (qn (args := [fv]) call185 rfl (l29Term_spec hf (hlt := (by first | assumption | rfl | omega | simp))) ?_)))))
  rintro _ _ _ _ ⟨rfl, rfl, rfl⟩
  refine cX (jk (.bool (decide (1 ≤ f.length ∧ f.length ≤ 60))) (vT h1) rfl (qf (.bool (decide (1 ≤ f.length ∧ f.length ≤ 60))) rfl (qb (qv (qp (L' := L) [.bool (decide (1 ≤ f.length ∧ f.length ≤ 60))] (.bool (decide (1 ≤ f.length ∧ f.length ≤ 60))) (.tmp rfl .nil) rfl rF rF (sD sR) ?_)))))
  exact ⟨(vB ((by first | rfl | exact decide_eq_decide.2 (by omega) | exact (decide_eq_decide.2 (by omega)).symm | exact decide_eq_false (by omega) | exact (decide_eq_false (by omega)).symm | exact decide_eq_true (by omega) | (simp_all <;> omega)))), rfl, rfl⟩
 refine qE (t := 7) rfl (vF h1) (qE (t := 7) rfl (vF h1) (qE (t := 7) rfl (vF h1) (cX (ja (.bool (false)) (vF h1) rfl (qf (.bool (false)) rfl (qb (qv (qp (L' := L) [.bool (false)] (.bool (false)) (.tmp rfl .nil) rfl rF rF (sD sR) ?_))))))))
 exact ⟨(vB ((by first | rfl | exact decide_eq_decide.2 (by omega) | exact (decide_eq_decide.2 (by omega)).symm | exact decide_eq_false (by omega) | exact (decide_eq_false (by omega)).symm | exact decide_eq_true (by omega) | (simp_all <;> omega)))), rfl, rfl⟩

/- (impl.Walk).sequence -/
set_option maxRecDepth 20000 in
theorem sequence_spec {F : FH} {L : List HP} {fv : Value} {f : List Int} (hf : IntsF F fv f) {ssv : Value} {ss : List StepT} (hss : StepsF F ssv ss) (hls : ss.length ≤ 60) :
    Does prog 192 [.agg #[fv, ssv]] F (L) (fun v F' L' => ∃ (a : Value), (a : Value) = v ∧ (IntsF F' a (numsL ss)) ∧ (Fresh F F' (star [intsH 2 a (numsL ss)])) ∧ L = L') := by
 refine qz func192 rfl rfl rfl (qc (qa (cX (qW [fv, ssv] rfl rfl ?_))))
 intro b1
 refine qf (sN) rfl (qb (qc (qa (qf (sN) rfl (qb (qc (qc (qa (cX (qk (1) js rfl jR (by decide) rfl rfl (cX (qh isAgg43 rfl (Rd.own [] rfl rfl) (cX (qA qV rfl hss.slv (qd (ii (0)) rfl (qb (qG (jc (α := Nat × Value × List Int) (fun xQ => [(3, xQ.2.1), (7, ssv), (8, ii ((ss.length : Int))), (9, ii (((xQ.1 : Nat) : Int)))]) (fun xQ => intsH 2 xQ.2.1 xQ.2.2 :: cellsH b1 [fv, ssv] 45 :: L) (fun xQ F' => F = F' ∧ (IsSl xQ.2.1) ∧ (xQ.1 ≤ ss.length) ∧ (xQ.2.2 = numsL (ss.take xQ.1))) (fun xQ => ss.length - xQ.1) (0, sN, []) ⟨rfl, rfl, rfl, rfl, ⟨⟩⟩ (qQ (intsH.addNil 2 none _) (sC (sC sR))) ⟨rfl, (⟨_, _, _, rfl⟩), (by (try dsimp only) <;> omega), (rfl)⟩ ?_))))))))))))))))))
 rintro ⟨k, ov, os⟩ rE _ _ ⟨rfl, hov, hk, hos⟩
 show X _ _ _ _ (envs [(3, ov), (7, ssv), (8, ii ((ss.length : Int))), (9, ii ((k : Int)))] rE) _ (intsH 2 ov os :: cellsH b1 [fv, ssv] 45 :: L)
 dsimp only at hov hk hos
 have hol9 : os.length = 2 * k := by rw [hos, nums_len, List.length_take]; omega
 refine qc (qa (cX (qT rfl rfl (qb (qc ?_)))))
 refine qx (p := (k : Int) < (ss.length : Int)) rfl (fun h1 => ?_) (fun h1 => ?_)
 ·refine qw (qc (qG (qc (qa (cX (qy k qV jd rfl rfl rfl hss.slv (by omega) rfl ?_))))))
  obtain ⟨a1, ha1, hr1, hr2, hr3⟩ := hss.rd (i := k) (by omega)
  refine cX (qq [ii ((ss.getD k (0, 0, [])).1), ii ((ss.getD k (0, 0, [])).2.1), a1] isAgg192 jd rfl rfl (Rd.three (hr1 _) (hr2 _) (hr3 _)) (cX (qS [ii (0), ii (0), sN] jE rfl ?_)))
  intro b2
  refine cX (qD [] _ [ii ((ss.getD k (0, 0, [])).1), ii ((ss.getD k (0, 0, [])).2.1), a1] jd rfl rfl rfl (qi rfl (qi rfl (qi (qC (qB ha1)) qH))) rfl rfl rfl (qb (qa (qd (ov) rfl (cX (qk (0) jp rfl qJ (by decide) rfl rfl (cX (qh jn rfl (Rd.own [] rfl rfl) (cX (qk (1) jp rfl qJ (by decide) rfl rfl (cX (qh jn rfl (Rd.own [] rfl rfl) (cX (qL (s := 1) [ii ((ss.getD k (0, 0, [])).1), ii ((ss.getD k (0, 0, [])).2.1)] [ii (0)] [(0, [ii ((ss.getD k (0, 0, [])).1)]), (1, [ii ((ss.getD k (0, 0, [])).2.1)])] qg qJ jC rfl (by decide) rfl (.cons rfl (.cons rfl CellsAre.nil)) rfl ?_))))))))))))))
  intro v1 hv1
  show XL _ _ _ _ _ _ _ (intsH 2 v1 ([(ss.getD k (0, 0, [])).1, (ss.getD k (0, 0, [])).2.1] : List Int) :: cellsH b2 [ii ((ss.getD k (0, 0, [])).1), ii ((ss.getD k (0, 0, [])).2.1), a1] 192 :: intsH 2 ov os :: cellsH b1 [fv, ssv] 45 :: L)
  refine XL.freezeF [] _ _ rfl (fun F1 le1 hz1 => ?_)
  have hf1 : IntsF F1 v1 ([(ss.getD k (0, 0, [])).1, (ss.getD k (0, 0, [])).2.1]) := intsH.fz (xs := [(ss.getD k (0, 0, [])).1, (ss.getD k (0, 0, [])).2.1]) hz1.fz
  refine cX (XOp.appendI [_] _ qg typeInfo2 rfl rfl rfl rfl rfl rfl hf1 (by (try simp only [List.length_append, List.length_nil, List.length_cons, List.length_singleton, List.length_take, List.length_drop]); omega) ?_)
  intro v2 hs1 hn1 hm1
  refine qf (v2) rfl (qb (qa (cX (qN (((k + 1 : Nat) : Int)) rfl rfl (by omega) (by omega) (qd (ii (((k + 1 : Nat) : Int))) rfl (qb ?_))))))
  exact ⟨(k + 1, v2, os ++ ([(ss.getD k (0, 0, [])).1, (ss.getD k (0, 0, [])).2.1])), _, FLe.refl _, le1, ⟨rfl, rfl, rfl, rfl, ⟨⟩⟩, (sD (sC (sC sR))), ⟨rfl, (hs1), (by (try dsimp only) <;> omega), (by (try dsimp only); rw [hos]; exact nums_next (by omega))⟩, (by omega)⟩
 refine jb (qo (qo (qI (qc (qa (qd (ov) rfl (qf (ov) rfl (qb (jl [] _ _ rfl (fun F2 le2 hz2 => ?_))))))))))
 have hf2 : IntsF F2 ov os := intsH.fz (xs := os) hz2.fz
 refine qv (qp (L' := L) [ov] (ov) (.tmp rfl .nil) rfl le2 rF (sD sR) ?_)
 have e9 : os = numsL ss := by rw [hos, List.take_of_length_le (by omega)]
 subst e9
 exact ⟨_, rfl, hf2, (Fresh.one hz2), rfl⟩

/- spec.l29Nums -/
set_option maxRecDepth 20000 in
theorem l29Nums_spec {F : FH} {L : List HP} {fv : Value} {f : List Int} (hf : IntsF F fv f) {ssv : Value} {ss : List StepT} (hss : StepsF F ssv ss) (hls : ss.length ≤ 60) :
    Does prog 182 [.agg #[fv, ssv]] F (L) (fun v F' L' => ∃ (a : Value), (a : Value) = v ∧ (IntsF F' a (numsL ss)) ∧ L = L') := by
 refine qz func182 rfl rfl rfl (qc (qa (cX (qW [fv, ssv] rfl rfl ?_))))
 intro b1
 refine qf (sN) rfl (qb (qc (qa (cX (qL (s := 1) [] [ii (0)] [] qg qJ jC rfl (by decide) rfl CellsAre.nil rfl ?_)))))
 intro v1 hv1
 refine qf (v1) rfl (qb (qc (qc (qa (qf (ii (0)) rfl (qb (qG (jc (α := Nat × Value × List Int) (fun xQ => [(1, ptr b1 0), (3, xQ.2.1), (4, ii (((xQ.1 : Nat) : Int)))]) (fun xQ => intsH 2 xQ.2.1 xQ.2.2 :: cellsH b1 [fv, ssv] 45 :: L) (fun xQ F' => F = F' ∧ (IsSl xQ.2.1) ∧ (xQ.1 ≤ ss.length) ∧ (xQ.2.2 = numsL (ss.take xQ.1))) (fun xQ => ss.length - xQ.1) (0, v1, []) ⟨rfl, rfl, rfl, ⟨⟩⟩ (sC (sC sR)) ⟨rfl, ((jD hv1)), (by (try dsimp only) <;> omega), (rfl)⟩ ?_))))))))
 rintro ⟨k, ov, os⟩ rE _ _ ⟨rfl, hov, hk, hos⟩
 show X _ _ _ _ (envs [(1, ptr b1 0), (3, ov), (4, ii ((k : Int)))] rE) _ (intsH 2 ov os :: cellsH b1 [fv, ssv] 45 :: L)
 dsimp only at hov hk hos
 have hol9 : os.length = 2 * k := by rw [hos, nums_len, List.length_take]; omega
 refine qc (qc (qa (qd (ii ((k : Int))) rfl (cX (qk (1) js rfl jR (by decide) rfl rfl (cX (qh isAgg43 rfl (Rd.own [_] rfl rfl) (cX (qA qV rfl hss.slv (cX (qT rfl rfl (qb ?_))))))))))))
 refine qx (p := (k : Int) < (ss.length : Int)) rfl (fun h1 => ?_) (fun h1 => ?_)
 ·refine qw (qc (qG ?_))
  obtain ⟨a1, ha1, hr1, hr2, hr3⟩ := hss.rd (i := k) (by omega)
  refine jV [intsH 2 ov os, cellsH b1 [fv, ssv] 45] L 14 [] [[], [], [1], [], [2, 3], [4], [5], [], [7], [], [8, 9], [10], [11], [6, 12]] (phiL [qe ov, qe (ptr b1 1), qe ssv, qe (ii ((k : Int)) : Value), qe (.pointer (some (elemA ssv (k * 3)))), qe (.pointer (some (elemA ssv (k * 3)))), qe (ii ((ss.getD k (0, 0, [])).1)), qe (ptr b1 1), qe ssv, qe (ii ((k : Int)) : Value), qe (.pointer (some (elemA ssv (k * 3)))), qe (.pointer (some (elemA ssv (k * 3 + 1)))), qe (ii ((ss.getD k (0, 0, [])).2.1)), fun us v => ∃ b, v = .slice (some ⟨b, 0, none⟩) 2 2]) (ownL [o0, o0, o0, o0, o0, o0, o0, o0, o0, o0, o0, o0, o0, fun us v => [slH 2 1 v 2 [ii ((ss.getD k (0, 0, [])).1), ii ((ss.getD k (0, 0, [])).2.1)]]]) mixed rfl rfl (by kernel_rfl) ?_ ?_
  ·refine pD (fun W R z9 => ?_) ?_
   ·refine qj (qr (ov) rfl ?_)
    exact ⟨rfl, rfl, rfl⟩
   refine pD (fun W R z9 => ?_) ?_
   ·refine qj (qk (1) js rfl jR (by decide) rfl rfl ?_)
    exact ⟨rfl, rfl, rfl⟩
   refine pD (fun W R z9 => ?_) ?_
   ·rw [zA 1 (z9 1 rfl)]
    refine qj (qh isAgg43 rfl (Rd.own [_] rfl rfl) ?_)
    exact ⟨rfl, rfl, rfl⟩
   refine pD (fun W R z9 => ?_) ?_
   ·refine qj (qr (ii ((k : Int))) rfl ?_)
    exact ⟨rfl, rfl, rfl⟩
   refine pD (fun W R z9 => ?_) ?_
   ·rw [zB 2 3 (z9 2 rfl) (z9 3 rfl)]
    refine qj (qy k qV jd rfl rfl rfl hss.slv (by omega) rfl ?_)
    exact ⟨rfl, rfl, rfl⟩
   refine pD (fun W R z9 => ?_) ?_
   ·rw [zA 4 (z9 4 rfl)]
    refine qj (jA (k * 3) jp rfl qJ (by decide) rfl rfl ?_)
    exact ⟨rfl, rfl, rfl⟩
   refine pD (fun W R z9 => ?_) ?_
   ·rw [zA 5 (z9 5 rfl)]
    refine qj (qh jn rfl (hr1 _) ?_)
    exact ⟨rfl, rfl, rfl⟩
   refine pD (fun W R z9 => ?_) ?_
   ·refine qj (qk (1) js rfl jR (by decide) rfl rfl ?_)
    exact ⟨rfl, rfl, rfl⟩
   refine pD (fun W R z9 => ?_) ?_
   ·rw [zA 7 (z9 7 rfl)]
    refine qj (qh isAgg43 rfl (Rd.own [_] rfl rfl) ?_)
    exact ⟨rfl, rfl, rfl⟩
   refine pD (fun W R z9 => ?_) ?_
   ·refine qj (qr (ii ((k : Int))) rfl ?_)
    exact ⟨rfl, rfl, rfl⟩
   refine pD (fun W R z9 => ?_) ?_
   ·rw [zB 8 9 (z9 8 rfl) (z9 9 rfl)]
    refine qj (qy k qV jd rfl rfl rfl hss.slv (by omega) rfl ?_)
    exact ⟨rfl, rfl, rfl⟩
   refine pD (fun W R z9 => ?_) ?_
   ·rw [zA 10 (z9 10 rfl)]
    refine qj (jA (k * 3 + 1) jp rfl qJ (by decide) rfl rfl ?_)
    exact ⟨rfl, rfl, rfl⟩
   refine pD (fun W R z9 => ?_) ?_
   ·rw [zA 11 (z9 11 rfl)]
    refine qj (qh jn rfl (hr2 _) ?_)
    exact ⟨rfl, rfl, rfl⟩
   refine pD (fun W R z9 => ?_) ?_
   ·rw [zB 6 12 (z9 6 rfl) (z9 12 rfl)]
    refine qj (qL (s := 1) [ii ((ss.getD k (0, 0, [])).1), ii ((ss.getD k (0, 0, [])).2.1)] [ii (0)] [(0, [ii ((ss.getD k (0, 0, [])).1)]), (1, [ii ((ss.getD k (0, 0, [])).2.1)])] qg qJ jC rfl (by decide) rfl (.cons rfl (.cons rfl CellsAre.nil)) rfl ?_)
    intro v3 hv3
    exact ⟨rfl, hv3, rfl⟩
   exact stepsP.nil
  intro W hphi
  have f13 : ∃ b, (W 13) = .slice (some ⟨b, 0, none⟩) 2 2 := hphi 13 (by decide)
  generalize huu13 : W 13 = u1 at f13
  rw [eS (l := [(0, _), (13, u1)]) ⟨(hphi 0 (by decide)), huu13, ⟨⟩⟩]
  show XL _ _ _ _ _ _ _ (slH 2 1 u1 2 [ii ((ss.getD k (0, 0, [])).1), ii ((ss.getD k (0, 0, [])).2.1)] :: intsH 2 ov os :: cellsH b1 [fv, ssv] 45 :: L)
  show XL _ _ _ _ _ _ _ (intsH 2 u1 ([(ss.getD k (0, 0, [])).1, (ss.getD k (0, 0, [])).2.1] : List Int) :: intsH 2 ov os :: cellsH b1 [fv, ssv] 45 :: L)
  refine XL.freezeF [] _ _ rfl (fun F1 le1 hz1 => ?_)
  have hf1 : IntsF F1 u1 ([(ss.getD k (0, 0, [])).1, (ss.getD k (0, 0, [])).2.1]) := intsH.fz (xs := [(ss.getD k (0, 0, [])).1, (ss.getD k (0, 0, [])).2.1]) hz1.fz
  refine cX (XOp.appendI [] _ qg typeInfo2 rfl rfl rfl rfl rfl rfl hf1 (by (try simp only [List.length_append, List.length_nil, List.length_cons, List.length_singleton, List.length_take, List.length_drop]); omega) ?_)
  intro v4 hs1 hn1 hm1
  refine qf (v4) rfl (qb (qa (qd (ii ((k : Int))) rfl (cX (qN (((k + 1 : Nat) : Int)) rfl rfl (by omega) (by omega) (qf (ii (((k + 1 : Nat) : Int))) rfl (qb ?_)))))))
  exact ⟨(k + 1, v4, os ++ ([(ss.getD k (0, 0, [])).1, (ss.getD k (0, 0, [])).2.1])), _, FLe.refl _, le1, ⟨rfl, rfl, rfl, ⟨⟩⟩, (sC (sC sR)), ⟨rfl, (hs1), (by (try dsimp only) <;> omega), (by (try dsimp only); rw [hos]; exact nums_next (by omega))⟩, (by omega)⟩
 refine jb (qo (qo (qI (qc (qa (qd (ov) rfl (qf (ov) rfl (qb (jl [] _ _ rfl (fun F2 le2 hz2 => ?_))))))))))
 have hf2 : IntsF F2 ov os := intsH.fz (xs := os) hz2.fz
 refine qv (qp (L' := L) [ov] (ov) (.tmp rfl .nil) rfl le2 rF (sD sR) ?_)
 have e9 : os = numsL ss := by rw [hos, List.take_of_length_le (by omega)]
 subst e9
 exact ⟨_, rfl, hf2, rfl⟩

/- spec.LoopNode -/
set_option maxRecDepth 20000 in
theorem sLoopNode_spec {F : FH} {L : List HP} {fv : Value} {f : List Int} (hf : IntsF F fv f) {ssv : Value} {ss : List StepT} (hss : StepsF F ssv ss) {p : Int} {sv : Value} {s : List (List Int)} (hs : RowsF F sv s) (hG : LoopG f ss s) :
    Does prog 84 [.agg #[fv, ssv, ii (p), sv]] F (L) (fun v F' L' => ∃ (a : Value), ∃ (b : Value), (.agg #[ii (6), a, b, sN] : Value) = v ∧ (IntsF F' a (p :: numsL ss)) ∧ (RowsF F' b (f :: givesL (plainL s))) ∧ L = L') := by
 refine qz func84 rfl rfl rfl ?_
 have hgl := hG.1
 have hgs := hG.2.1
 have hgw := hG.2.2.1
 have hgr := hG.2.2.2
 have hnl9 := nums_len (ss := ss)
 have hpl9 := plainL_le s
 have hgp := plain_row hgr
 refine qc (qa (cX (qW [fv, ssv, ii (p), sv] rfl rfl ?_)))
 intro b1
 refine cX (qS [ii (0), sN, sN, sN] zeroValue145 rfl ?_)
 intro b2
 refine qb (qc (qc (qa (cX (qk (0) jh rfl jr (by decide) rfl rfl (cX (qq [fv, ssv] isAgg45 jr rfl rfl (Rd.ownN [_] rfl rfl) (cX (qn (args := [.agg #[fv, ssv]]) call181 rfl (l29Walk_spec hf hss (hlf := (by first | assumption | rfl | omega | simp))) ?_)))))))))
 rintro _ _ _ _ ⟨rfl, rfl, rfl⟩
 refine cX (jH rfl (qd (.bool (decide (¬(ss.length ≤ 60 ∧ (1 ≤ f.length ∧ f.length ≤ 60))))) rfl ?_))
 by_cases h1 : ¬(ss.length ≤ 60 ∧ (1 ≤ f.length ∧ f.length ≤ 60))
 ·exact absurd h1 (by omega)
 refine qu (t := 11) rfl (vF h1) (qk (3) jh rfl qR (by decide) rfl rfl (qu (t := 11) rfl (vF h1) (qk (3) qO rfl qP (by decide) rfl rfl (qu (t := 11) rfl (vF h1) (qh jg rfl (Rd.own [_] rfl rfl) (qu (t := 11) rfl (vF h1) (qA qs rfl hs.slv (qu (t := 11) rfl (vF h1) (jX rfl rfl (cX (ja (.bool (decide (((s.length : Int) : Int) > 24))) (vF h1) rfl (qb ?_))))))))))))
 refine qx (p := ((s.length : Int) : Int) > 24) rfl (fun h2 => ?_) (fun h2 => ?_)
 ·exact absurd h2 (by omega)
 refine qw (qc ?_)
 refine yd [cellsH b2 [ii (0), sN, sN, sN] 145, cellsH b1 [fv, ssv, ii (p), sv] 139] L 14 [[], [], [], [], [], [], [], [], [], [], [], [10], [6, 11]] [[], [0], [1], [], [3], [4], [2, 5], [], [7], [8], [9], [10], [6, 10, 11]] [[], [], [], [], [], [], [2]] (phiG [pe (ptr b1 2), pe (ii (p)), fun FF us v => ∃ b, v = .slice (some ⟨b, 0, none⟩) 1 1, pe (ptr b1 0), pe (.agg #[fv, ssv]), fun FF us v => ((v) : Value) = v ∧ (IntsF FF (v) (numsL ss)), fun FF us v => IsSl v, pe (ptr b1 0), pe (ptr b1 0), pe fv, fun FF us v => ((v) : Value) = v ∧ (IntsF FF (v) (f)), fun FF us v => ∃ b, v = .slice (some ⟨b, 0, none⟩) 1 1, fun FF us v => v = (.agg #[ii (6), (us.getD 0 undef), (us.getD 1 undef), sN] : Value), fun FF us v => v = ptr (blk v) 0]) (ownL [o0, o0, fun us v => [slH 2 1 v 1 [ii (p)]], o0, o0, o0, fun us v => [intsH 2 (v) (([p]) ++ (numsL ss))], o0, o0, o0, o0, fun us v => [slH 22 1 v 1 [((us.getD 0 undef))]], o0, fun us v => [cellsH (blk v) [ii (0), sN, sN, sN] 145]]) mixed rfl rfl (by kernel_rfl) (by kernel_rfl) (MonoG.get (m1 (m1 (mC (fun le h => h) (mC (fun le h => h) (m1 (mC (fun le h => ⟨h.1, h.2.mono le⟩) (mC (fun le h => h) (mC (fun le h => h) (m1 (m1 (mC (fun le h => ⟨h.1, h.2.mono le⟩) (mC (fun le h => h) (mC (fun le h => h) (mC (fun le h => h) MonoG.nil))))))))))))))) ?_ ?_
 ·refine gD (fun W Fs R lF z9 => ?_) ?_
  ·refine qj (qk (2) jh rfl qJ (by decide) rfl rfl ?_)
   exact ⟨rfl, rfl⟩
  refine gD (fun W Fs R lF z9 => ?_) ?_
  ·replace hf := hf.mono lF
   replace hss := hss.mono lF
   replace hs := hs.mono lF
   rw [zA 0 (z9 0 rfl)]
   refine qj (qh jn rfl (Rd.own [_] rfl rfl) ?_)
   exact ⟨rfl, rfl⟩
  refine gD (fun W Fs R lF z9 => ?_) ?_
  ·replace hf := hf.mono lF
   replace hss := hss.mono lF
   replace hs := hs.mono lF
   rw [zA 1 (z9 1 rfl)]
   refine qj (qL (s := 1) [ii (p)] [ii (0)] [(0, [ii (p)])] qg qJ jC rfl (by decide) rfl (.cons rfl CellsAre.nil) rfl ?_)
   intro v5 hv3
   exact ⟨hv3, rfl⟩
  refine gD (fun W Fs R lF z9 => ?_) ?_
  ·refine qj (qk (0) jh rfl jr (by decide) rfl rfl ?_)
   exact ⟨rfl, rfl⟩
  refine gD (fun W Fs R lF z9 => ?_) ?_
  ·replace hf := hf.mono lF
   replace hss := hss.mono lF
   replace hs := hs.mono lF
   rw [zA 3 (z9 3 rfl)]
   refine qj (qq [fv, ssv] isAgg45 jr rfl rfl (Rd.ownN [_] rfl rfl) ?_)
   exact ⟨rfl, rfl⟩
  refine gD (fun W Fs R lF z9 => ?_) ?_
  ·replace hf := hf.mono lF
   replace hss := hss.mono lF
   replace hs := hs.mono lF
   rw [zA 4 (z9 4 rfl)]
   refine qj (qn (args := [.agg #[fv, ssv]]) call182 rfl (l29Nums_spec hf hss (hls := (by first | assumption | rfl | omega | simp))) ?_)
   rintro _ F2 _ le2 ⟨x2, rfl, hr2, rfl⟩
   replace hf := hf.mono le2
   replace hs := hs.mono le2
   exact ⟨⟨rfl, hr2⟩, rfl⟩
  refine gD (fun W Fs R lF z9 => ?_) ?_
  ·have f2 : ∃ b, (W 2) = .slice (some ⟨b, 0, none⟩) 1 1 := z9 2 rfl
   obtain ⟨e5, f5_1hr⟩ := z9 5 rfl
   replace hf := hf.mono lF
   replace hs := hs.mono lF
   rw [eS (l := [(5, ((W 5)))]) ⟨(e5).symm, ⟨⟩⟩]
   show XG _ _ _ _ _ (intsH 2 ((W 2)) ([p] : List Int) :: ([cellsH b2 [ii (0), sN, sN, sN] 145, cellsH b1 [fv, ssv, ii (p), sv] 139] ++ R)) _
   refine qj (XOp.appendI [] _ qg typeInfo2 rfl rfl rfl rfl rfl rfl f5_1hr (by (try simp only [List.length_append, List.length_nil, List.length_cons, List.length_singleton, List.length_take, List.length_drop]); omega) ?_)
   intro v6 hs3 hn2 hm2
   exact ⟨hs3, rfl⟩
  refine gD (fun W Fs R lF z9 => ?_) ?_
  ·refine qj (qk (0) jh rfl jr (by decide) rfl rfl ?_)
   exact ⟨rfl, rfl⟩
  refine gD (fun W Fs R lF z9 => ?_) ?_
  ·rw [zA 7 (z9 7 rfl)]
   refine qj (qk (0) js rfl qt (by decide) rfl rfl ?_)
   exact ⟨rfl, rfl⟩
  refine gD (fun W Fs R lF z9 => ?_) ?_
  ·replace hf := hf.mono lF
   replace hs := hs.mono lF
   rw [zA 8 (z9 8 rfl)]
   refine qj (qh qM rfl (Rd.own [_] rfl rfl) ?_)
   exact ⟨rfl, rfl⟩
  refine gD (fun W Fs R lF z9 => ?_) ?_
  ·replace hf := hf.mono lF
   replace hs := hs.mono lF
   rw [zA 9 (z9 9 rfl)]
   refine qj (jM <| qn (args := [fv]) call105 rfl (l1Copy_spec hf (hlt := (by first | assumption | rfl | omega | simp))) ?_)
   rintro v7 _ _ _ ⟨rfl, hs4, rfl⟩
   refine ⟨_, _, rfl, fun F3 le3 hz1 => ?_⟩
   replace hf := hf.mono le3
   replace hs := hs.mono le3
   have hf1 : IntsF F3 v7 ((f)) := intsH.fz (xs := (f)) hz1.fz
   exact ⟨⟨rfl, hf1⟩, rfl⟩
  refine gD (fun W Fs R lF z9 => ?_) ?_
  ·obtain ⟨e10, f10_1ha⟩ := z9 10 rfl
   replace hf := hf.mono lF
   replace hs := hs.mono lF
   rw [eS (l := [(10, ((W 10)))]) ⟨(e10).symm, ⟨⟩⟩]
   refine qj (qL (s := 1) [((W 10))] [sN] [(0, [((W 10))])] qs qt jP rfl (by decide) rfl (.cons (cells_one (qB f10_1ha)) CellsAre.nil) rfl ?_)
   intro v8 hv4
   exact ⟨hv4, rfl⟩
  refine gD (fun W Fs R lF z9 => ?_) ?_
  ·have f6 : IsSl (W 6) := z9 6 rfl
   obtain ⟨e10, f10_1ha⟩ := z9 10 rfl
   have f11 : ∃ b, (W 11) = .slice (some ⟨b, 0, none⟩) 1 1 := z9 11 rfl
   replace hf := hf.mono lF
   replace hs := hs.mono lF
   rw [eS (l := [(10, ((W 10)))]) ⟨(e10).symm, ⟨⟩⟩]
   refine qj (jf [ii (6), (W 6), (W 11), sN] [ii (0), sN, sN, sN] [(0, 1), (1, 1), (2, 1), (3, 1)] [(0, [ii (6)]), (1, [(W 6)]), (2, [(W 11)])] qZ zeroValue145 rfl (.cons rfl qJ (.cons rfl qt (.cons rfl qP (.cons rfl qt PlacesAre.nil)))) rfl (.cons rfl (.cons (cells_one f6) (.cons (cells_one (jD f11)) CellsAre.nil))) ?_)
   exact ⟨rfl, rfl⟩
  refine gD (fun W Fs R lF z9 => ?_) ?_
  ·replace hf := hf.mono lF
   replace hs := hs.mono lF
   refine qj (qS [ii (0), sN, sN, sN] zeroValue145 rfl ?_)
   intro b4
   exact ⟨rfl, rfl⟩
  exact stepsG.nil
 intro W F4 le4 hphi
 have f2 : ∃ b, (W 2) = .slice (some ⟨b, 0, none⟩) 1 1 := hphi 2 (by decide)
 obtain ⟨e5, f5_1hr⟩ := hphi 5 (by decide)
 have f6 : IsSl (W 6) := hphi 6 (by decide)
 obtain ⟨e10, f10_1ha⟩ := hphi 10 (by decide)
 have f11 : ∃ b, (W 11) = .slice (some ⟨b, 0, none⟩) 1 1 := hphi 11 (by decide)
 have e12 : W 12 = (.agg #[ii (6), (W 6), (W 11), sN] : Value) := hphi 12 (by decide)
 have e13 : W 13 = ptr (blk (W 13)) 0 := hphi 13 (by decide)
 generalize huu2 : W 2 = u1 at f2 e5 f5_1hr f6 e10 f10_1ha f11 e12 e13
 generalize hu1 : ((W 5)) = u2 at f2 e5 f5_1hr f6 e10 f10_1ha f11 e12 e13
 generalize huu6 : W 6 = u3 at f2 e5 f5_1hr f6 e10 f10_1ha f11 e12 e13
 generalize hu2 : ((W 10)) = u4 at f2 e5 f5_1hr f6 e10 f10_1ha f11 e12 e13
 generalize huu11 : W 11 = u5 at f2 e5 f5_1hr f6 e10 f10_1ha f11 e12 e13
 generalize hu3 : blk (W 13) = b5 at f2 e5 f5_1hr f6 e10 f10_1ha f11 e12 e13
 rw [eS (l := [(2, u1), (6, u3), (10, u4), (11, u5), (12, (.agg #[ii (6), u3, u5, sN])), (13, ptr b5 0)]) ⟨huu2, huu6, hu2, huu11, e12, e13, ⟨⟩⟩]
 replace hs := hs.mono le4
 show XL _ _ _ _ _ _ _ (intsH 2 u3 (([p]) ++ (numsL ss)) :: slH 22 1 u5 1 [u4] :: cellsH b5 [ii (0), sN, sN, sN] 145 :: cellsH b2 [ii (0), sN, sN, sN] 145 :: cellsH b1 [fv, ssv, ii (p), sv] 139 :: L)
 refine cX (qD [_, _] _ [ii (6), u3, u5, sN] jF rfl rfl rfl (qi rfl (qi (qC f6) (qi (qC (jD f11)) (qi rfl qH)))) rfl rfl rfl (qb (qc (qa ?_))))
 have hc1 : RowsC F4 [u4] ([(f)] : List (List Int)) := (RowsC.snoc (CO.nil : RowsC F4 [] []) f10_1ha)
 skip
 refine cX (qk (3) jh rfl qR (by decide) rfl rfl (cX (qq [sv] jv qR rfl rfl (Rd.ownN [_, _, _, _] rfl rfl) (cX (qn (args := [.agg #[sv]]) call183 rfl (l2Plain_spec hs (hsl := (by first | assumption | rfl | omega | simp)) (hsb := (fun i => Nat.le_trans (hgr i) (by decide)))) ?_)))))
 rintro _ F5 _ le5 ⟨x3, rfl, hr3, rfl⟩
 replace hc1 := hc1.mono le5
 refine cX (qS [sN] ji rfl ?_)
 intro b6
 refine cX (qD [] _ [x3] qR rfl rfl rfl (qi (qC (RowsF.isSl hr3)) qH) rfl rfl rfl (qb (qc (qc (qa (qf (ii (0)) rfl (qb (qG (jc (α := Nat × Value × List (List Int) × List Value × Nat × FH) (fun xQ => [(2, ptr b2 0), (3, ptr b5 0), (4, ptr b6 0), (5, ii (((xQ.1 : Nat) : Int)))]) (fun xQ => cellsH b6 [x3] 137 :: intsH 2 u3 (([p]) ++ (numsL ss)) :: slH 22 1 xQ.2.1 xQ.2.2.2.2.1 xQ.2.2.2.1 :: cellsH b5 [ii (6), u3, xQ.2.1, sN] 145 :: cellsH b2 [ii (0), sN, sN, sN] 145 :: cellsH b1 [fv, ssv, ii (p), sv] 139 :: L) (fun xQ F' => xQ.2.2.2.2.2 = F' ∧ F5 ≤ xQ.2.2.2.2.2 ∧ (IsSl xQ.2.1) ∧ (RowsC xQ.2.2.2.2.2 xQ.2.2.2.1 xQ.2.2.1) ∧ (xQ.2.2.2.2.1 = xQ.2.2.1.length) ∧ (xQ.1 ≤ (plainL s).length) ∧ (xQ.2.2.1 = f :: (givesL (plainL s)).take xQ.1)) (fun xQ => (plainL s).length - xQ.1) (0, u5, ([(f)] : List (List Int)), [u4], 1, F5) ⟨rfl, rfl, rfl, rfl, ⟨⟩⟩ (sC (sC (sC (sC (sC (sC sR)))))) ⟨rfl, FLe.refl _, ((jD f11)), (hc1), (rfl), (by (try dsimp only) <;> omega), (rfl)⟩ ?_)))))))))
 rintro ⟨k, ov, os, cs, m, G1⟩ rE _ _ ⟨rfl, leG, hov, hC, hm, hk, hos⟩
 show X _ _ _ _ (envs [(2, ptr b2 0), (3, ptr b5 0), (4, ptr b6 0), (5, ii ((k : Int)))] rE) _ (cellsH b6 [x3] 137 :: intsH 2 u3 (([p]) ++ (numsL ss)) :: slH 22 1 ov m cs :: cellsH b5 [ii (6), u3, ov, sN] 145 :: cellsH b2 [ii (0), sN, sN, sN] 145 :: cellsH b1 [fv, ssv, ii (p), sv] 139 :: L)
 replace leG : F5 ≤ G1 := leG
 dsimp only at hov hC hm hk hos
 have hol9 : os.length = k + 1 := by rw [hos, List.length_cons, List.length_take, gives_len]; omega
 have leG1 := leG
 replace hr3 := hr3.mono leG1
 refine qc (qc (qa (qd (ii ((k : Int))) rfl (cX (qk (0) qO rfl qP (by decide) rfl rfl (cX (qh jg rfl (Rd.own [] rfl rfl) (cX (qA qs rfl hr3.slv (cX (qT rfl rfl (qb ?_))))))))))))
 refine qx (p := (k : Int) < (((plainL s).length : Nat) : Int)) rfl (fun h3 => ?_) (fun h3 => ?_)
 ·refine qw (qc (qG (qc (qa (cX (qq [x3] jv qR rfl rfl (Rd.ownN [] rfl rfl) (qd (ii ((k : Int))) rfl (cX (jM <| qn (args := [.agg #[x3], ii (k : Int)]) call184 rfl (l2Gives_spec (i := k) hr3 (hsl := (by first | assumption | rfl | omega | simp)) (hi := (by first | assumption | rfl | omega | simp)) (hsb := (by have := hgp k; omega))) ?_)))))))))
  rintro v9 _ _ _ ⟨rfl, hs5, rfl⟩
  refine ⟨_, _, rfl, fun F6 le6 hz2 => ?_⟩
  replace hC := hC.mono le6
  have hf2 : IntsF F6 v9 ((lk (plainL s) (-1 - (k : Int)))) := intsH.fz (xs := (lk (plainL s) (-1 - (k : Int)))) hz2.fz
  refine qf (v9) rfl (qb (qc (qc (qa (qd (v9) rfl (cX (qn (args := [v9]) call185 rfl (l29Term_spec hf2 (hlt := (by have := gives_row hgp k; omega))) ?_)))))))
  rintro _ _ _ _ ⟨rfl, rfl, rfl⟩
  refine cX (jH rfl (qb ?_))
  refine qx (p := ¬(1 ≤ ((lk (plainL s) (-1 - (k : Int)))).length ∧ ((lk (plainL s) (-1 - (k : Int)))).length ≤ 60)) rfl (fun h4 => ?_) (fun h4 => ?_)
  ·exact absurd h4 (by have := gives_row hgp k; omega)
  refine qw (qa (cX (qk (2) qZ rfl qP (by decide) rfl rfl (cX (qh jg rfl (Rd.own [_, _, _] rfl rfl) (qd (v9) rfl (cX (qL (s := 1) [v9] [sN] [(0, [v9])] qs qt jP rfl (by decide) rfl (.cons (cells_one (qB hf2)) CellsAre.nil) rfl ?_))))))))
  intro v10 hv5
  refine cX (jQ (m := 1) (bytes := 24) (cs := cs) [_, _, _] _ [v9] qs typeInfo22 rfl rfl rfl rfl rfl rfl rfl (SlV.own [] rfl) rfl (Rd.lit [] rfl) (qi (qC (qB hf2)) qH) (by (try simp only [List.length_append, List.length_nil, List.length_cons, List.length_singleton]); omega) (by (try simp only [List.length_append, List.length_nil, List.length_cons, List.length_singleton]); omega) ?_)
  intro v11 hs6 hn3 hm3
  have hc2 := RowsC.snoc hC hf2
  refine cX (qk (2) qZ rfl qP (by decide) rfl rfl (cX (jw [_, _, _, _] _ [ii (6), u3, v11, sN] qP rfl rfl (qC hs6) rfl rfl rfl (qb (qa (qd (ii ((k : Int))) rfl (cX (qN (((k + 1 : Nat) : Int)) rfl rfl (by omega) (by omega) (qf (ii (((k + 1 : Nat) : Int))) rfl (qb ?_))))))))))
  exact ⟨(k + 1, v11, os ++ [(lk (plainL s) (-1 - (k : Int)))], cs ++ [v9], (m) + 1, F6), _, (qm leG1 le6), rF, ⟨rfl, rfl, rfl, rfl, ⟨⟩⟩, (sD (sC (sC (sC (sC (sC (sC sR))))))), ⟨rfl, (qm leG1 le6), (hs6), (hc2), (by (try dsimp only); rw [List.length_append]; simp only [List.length_singleton]; omega), (by (try dsimp only) <;> omega), (by (try dsimp only); rw [hos, List.cons_append, gives_next (by omega)])⟩, (by omega)⟩
 refine jb (qo (qo (qI (qc (qa (cX (qq [ii (6), u3, ov, sN] isAgg145 jF rfl rfl (Rd.ownN [_, _, _] rfl rfl) (cX (qD [_, _, _, _] _ [ii (6), u3, ov, sN] jF rfl rfl rfl (qi rfl (qi (qC f6) (qi (qC hov) (qi rfl qH)))) rfl rfl rfl (qb (jl [_] _ _ rfl (fun F7 le7 hz3 => ?_))))))))))))
 replace hC := hC.mono le7
 have hf3 : IntsF F7 u3 (([p]) ++ (numsL ss)) := intsH.fz (xs := ([p]) ++ (numsL ss)) hz3.fz
 refine jl [_] _ _ rfl (fun F8 le8 hz4 => ?_)
 replace hC := hC.mono le8
 replace hf3 := hf3.mono le8
 have hf4 : RowsF F8 ov os := CO.fz hC (by first | rfl | omega | (rw [List.length_set]; omega) | (simp; done)) hz4.fz
 refine qv (qp (L' := L) [.agg #[ii (6), u3, ov, sN]] (.agg #[ii (6), u3, ov, sN]) (.cell rfl (jo [ii (6), u3, ov, sN] isAgg145 jF rfl (Rd.ownN [_, _] rfl rfl)) .nil) rfl (qm (qm (qm (qm le4 le5) leG1) le7) le8) rF (sD (sD (sD (sD sR)))) ?_)
 have e9 : os = f :: givesL (plainL s) := by rw [hos, List.take_of_length_le (by rw [gives_len]; omega)]
 subst e9
 exact ⟨_, _, rfl, hf3, hf4, rfl⟩

/- spec.NodeOk -/
theorem sNodeOk_spec {F : FH} {L : List HP} {kd : Int} {xv : Value} {x : List Int} (hx : IntsF F xv x) {yv : Value} {y : List (List Int)} (hy : RowsF F yv y) {wv : Value} {w : List Int} (hw : IntsF F wv w) {q : Int} (hkd : 1 ≤ kd ∧ kd ≤ 12) (hxl : x.length ≤ 200) (hyl : y.length ≤ 61) (hyr : ∀ i, i < y.length → 1 ≤ (y.getD i []).length ∧ (y.getD i []).length ≤ 60) (hwl : w.length = 0) (hq : q = 0) :
    Does prog 284 [.agg #[ii (kd), xv, yv, wv], ii (q)] F (L) (fun v F' L' => (.bool (true) : Value) = v ∧ F = F' ∧ L = L') := by
 refine qz func284 rfl rfl rfl (qc (qa (cX (qW [ii (kd), xv, yv, wv] rfl rfl ?_))))
 intro b1
 refine qf (.bool (false)) rfl (qb (qc (qc (qa (qd (ii (q)) rfl (cX (qT rfl rfl (qd (.bool (decide ((q : Int) < 0))) rfl ?_))))))))
 by_cases h1 : (q : Int) < 0
 ·exact absurd h1 (by first | omega | (have := hyr k (by omega); omega))
 refine qu (t := 9) rfl (vF h1) (qk (0) qZ rfl qJ (by decide) rfl rfl (qu (t := 9) rfl (vF h1) (qh jn rfl (Rd.own [] rfl rfl) (qu (t := 9) rfl (vF h1) (qn (args := [ii (kd), ii (1), ii (12)]) call109 rfl (l1In_spec (n := kd) (a := 1) (b := 12)) ?_)))))
 rintro _ _ _ _ ⟨rfl, rfl, rfl⟩
 refine qu (t := 9) rfl (vF h1) (jH rfl (cX (ja (.bool (decide (¬(1 ≤ kd ∧ kd ≤ 12)))) (vF h1) rfl (qd (.bool (decide (¬(1 ≤ kd ∧ kd ≤ 12)))) rfl ?_))))
 by_cases h2 : ¬(1 ≤ kd ∧ kd ≤ 12)
 ·exact absurd h2 (by first | omega | (have := hyr k (by omega); omega))
 refine qu (t := 15) rfl (vF h2) (qk (1) qZ rfl qt (by decide) rfl rfl (qu (t := 15) rfl (vF h2) (qh qM rfl (Rd.own [] rfl rfl) (qu (t := 15) rfl (vF h2) (qA qg rfl hx.slv (qu (t := 15) rfl (vF h2) (jX rfl rfl (cX (ja (.bool (decide (((x.length : Int) : Int) > 200))) (vF h2) rfl (qd (.bool (decide (((x.length : Int) : Int) > 200))) rfl ?_))))))))))
 by_cases h3 : ((x.length : Int) : Int) > 200
 ·exact absurd h3 (by first | omega | (have := hyr k (by omega); omega))
 refine qu (t := 21) rfl (vF h3) (qk (2) qZ rfl qP (by decide) rfl rfl (qu (t := 21) rfl (vF h3) (qh jg rfl (Rd.own [] rfl rfl) (qu (t := 21) rfl (vF h3) (qA qs rfl hy.slv (qu (t := 21) rfl (vF h3) (jX rfl rfl (cX (ja (.bool (decide (((y.length : Int) : Int) > 61))) (vF h3) rfl (qd (.bool (decide (((y.length : Int) : Int) > 61))) rfl ?_))))))))))
 by_cases h4 : ((y.length : Int) : Int) > 61
 ·exact absurd h4 (by first | omega | (have := hyr k (by omega); omega))
 refine qu (t := 27) rfl (vF h4) (qk (3) qZ rfl qt (by decide) rfl rfl (qu (t := 27) rfl (vF h4) (qh qM rfl (Rd.own [] rfl rfl) (qu (t := 27) rfl (vF h4) (qA qg rfl hw.slv (qu (t := 27) rfl (vF h4) (jX rfl rfl (cX (ja (.bool (decide (((w.length : Int) : Int) > 64))) (vF h4) rfl (qb ?_))))))))))
 refine qx (p := ((w.length : Int) : Int) > 64) rfl (fun h5 => ?_) (fun h5 => ?_)
 ·exact absurd h5 (by first | omega | (have := hyr k (by omega); omega))
 refine qw (qc (qc (qa (qf (ii (0)) rfl (qb (qG (jc (α := Nat) (fun k => [(1, ii (q)), (2, ptr b1 0), (5, ii ((k : Int)))]) (fun k => cellsH b1 [ii (kd), xv, yv, wv] 145 :: L) (fun k F' => F = F' ∧ (k ≤ y.length)) (fun k => y.length - k) 0 ⟨rfl, rfl, rfl, ⟨⟩⟩ (sC sR) ⟨rfl, (by omega)⟩ ?_)))))))
 rintro k rE _ _ ⟨rfl, hk⟩
 show X _ _ _ _ (envs [(1, ii (q)), (2, ptr b1 0), (5, ii ((k : Int)))] rE) _ (cellsH b1 [ii (kd), xv, yv, wv] 145 :: L)
 have hyk := hyr k
 refine qc (qc (qa (qd (ii ((k : Int))) rfl (cX (qk (2) qZ rfl qP (by decide) rfl rfl (cX (qh jg rfl (Rd.own [] rfl rfl) (cX (qA qs rfl hy.slv (cX (qT rfl rfl (qb ?_))))))))))))
 refine qx (p := (k : Int) < (y.length : Int)) rfl (fun h6 => ?_) (fun h6 => ?_)
 ·refine qw (qc (qG (qc (qa (cX (qk (2) qZ rfl qP (by decide) rfl rfl (cX (qh jg rfl (Rd.own [] rfl rfl) (qd (ii ((k : Int))) rfl (cX (qy k qs qt rfl rfl rfl hy.slv (by omega) (Nat.mul_one _) ?_)))))))))))
  obtain ⟨a1, ha1, hr1⟩ := hy.rd (i := k) (by omega)
  refine cX (qh qM rfl (hr1 _) (cX (qn (args := [a1]) call185 rfl (l29Term_spec ha1 (hlt := (by have := hyk (by omega); omega))) ?_)))
  rintro _ _ _ _ ⟨rfl, rfl, rfl⟩
  refine cX (jH rfl (qb ?_))
  refine qx (p := ¬(1 ≤ ((y.getD k [])).length ∧ ((y.getD k [])).length ≤ 60)) rfl (fun h7 => ?_) (fun h7 => ?_)
  ·exact absurd h7 (by first | omega | (have := hyr k (by omega); omega))
  refine qw (qa (qd (ii ((k : Int))) rfl (cX (qN (((k + 1 : Nat) : Int)) rfl rfl (by omega) (by omega) (qf (ii (((k + 1 : Nat) : Int))) rfl (qb ?_))))))
  exact ⟨k + 1, _, FLe.refl _, rF, ⟨rfl, rfl, rfl, ⟨⟩⟩, (sC sR), ⟨rfl, (by omega)⟩, (by omega)⟩
 refine jb (qo (qo (qI (qc (qc (qa (qf (ii (0)) rfl (qb (qG (jc (α := Unit) (fun xQ => [(1, ii (q)), (2, ptr b1 0), (6, ii (0))]) (fun xQ => cellsH b1 [ii (kd), xv, yv, wv] 145 :: L) (fun xQ F' => F = F' ∧ (True)) (fun xQ => 0) () ⟨rfl, rfl, rfl, ⟨⟩⟩ (sC sR) ⟨rfl, (trivial)⟩ ?_))))))))))
 rintro ⟨⟩ rE _ _ ⟨rfl, htr⟩
 show X _ _ _ _ (envs [(1, ii (q)), (2, ptr b1 0), (6, ii (0))] rE) _ (cellsH b1 [ii (kd), xv, yv, wv] 145 :: L)
 refine qc (qc (qa (qd (ii (0)) rfl (cX (qk (3) qZ rfl qt (by decide) rfl rfl (cX (qh qM rfl (Rd.own [] rfl rfl) (cX (qA qg rfl hw.slv (cX (qT rfl rfl (qb ?_))))))))))))
 refine qx (p := (0 : Int) < (w.length : Int)) rfl (fun h8 => ?_) (fun h8 => ?_)
 ·exact absurd h8 (by first | omega | (have := hyr k (by omega); omega))
 refine jb (qo (qo (qI (qc (qa (qf (.bool (true)) rfl (qb (qv (qp (L' := L) [.bool (true)] (.bool (true)) (.tmp rfl .nil) rfl rF rF (sD sR) ?_)))))))))
 exact ⟨rfl, rfl, rfl⟩

/- spec.l29Nodes -/
theorem sNodesOk_spec {F : FH} {L : List HP}  :
    Does prog 283 [.agg #[sN]] F (L) (fun v F' L' => (.bool (true) : Value) = v ∧ F = F' ∧ L = L') := by
 refine qz func283 rfl rfl rfl (qc (qa (cX (qW [sN] rfl rfl ?_))))
 intro b1
 refine qf (.bool (false)) rfl (qb (qc (qc (qa (qf (ii (0)) rfl (qb (qG (jc (α := Unit) (fun xQ => [(1, ptr b1 0), (3, ii (0))]) (fun xQ => cellsH b1 [sN] 53 :: L) (fun xQ F' => F = F' ∧ (True)) (fun xQ => 0) () ⟨rfl, rfl, ⟨⟩⟩ (sC sR) ⟨rfl, (trivial)⟩ ?_))))))))
 rintro ⟨⟩ rE _ _ ⟨rfl, htr⟩
 show X _ _ _ _ (envs [(1, ptr b1 0), (3, ii (0))] rE) _ (cellsH b1 [sN] 53 :: L)
 refine qc (qc (qa (qd (ii (0)) rfl (cX (qk (0) jK rfl sizeOf51 (by decide) rfl rfl (cX (qh isAgg51 rfl (Rd.own [] rfl rfl) (cX (qA jt rfl SlV.nil (cX (qT rfl rfl (qb ?_))))))))))))
 refine qx (p := (0 : Int) < ((0 : Nat) : Int)) rfl (fun h1 => ?_) (fun h1 => ?_)
 ·exact absurd h1 (by omega)
 refine jb (qo (qo (qI (qc (qa (qf (.bool (true)) rfl (qb (qv (qp (L' := L) [.bool (true)] (.bool (true)) (.tmp rfl .nil) rfl rF rF (sD sR) ?_)))))))))
 exact ⟨rfl, rfl, rfl⟩

/- spec.l29Copy -/
set_option maxRecDepth 20000 in
theorem sCopyProof_spec {F : FH} {L : List HP}  :
    Does prog 285 [.agg #[sN]] F (L) (fun v F' L' => (.agg #[sN] : Value) = v ∧ L = L') := by
 refine qz func285 rfl rfl rfl (qc (qa (cX (qW [sN] rfl rfl ?_))))
 intro b1
 refine cX (qS [sN] jU rfl ?_)
 intro b2
 refine qb (qc (qa (cX (jf [sN] [sN] [(0, 1)] [] jK jU rfl (.cons rfl sizeOf51 PlacesAre.nil) rfl CellsAre.nil (cX (qS [sN] jU rfl ?_))))))
 intro b3
 refine cX (qD [] _ [sN] jB rfl rfl rfl (qi rfl qH) rfl rfl rfl (qb (qc (qc (qa (qf (ii (0)) rfl (qb (qG (jc (α := Unit) (fun xQ => [(1, ptr b1 0), (2, ptr b2 0), (3, ptr b3 0), (4, ii (0))]) (fun xQ => cellsH b3 [sN] 53 :: cellsH b2 [sN] 53 :: cellsH b1 [sN] 53 :: L) (fun xQ F' => F = F' ∧ (True)) (fun xQ => 0) () ⟨rfl, rfl, rfl, rfl, ⟨⟩⟩ (sC (sC (sC sR))) ⟨rfl, (trivial)⟩ ?_)))))))))
 rintro ⟨⟩ rE _ _ ⟨rfl, htr⟩
 show X _ _ _ _ (envs [(1, ptr b1 0), (2, ptr b2 0), (3, ptr b3 0), (4, ii (0))] rE) _ (cellsH b3 [sN] 53 :: cellsH b2 [sN] 53 :: cellsH b1 [sN] 53 :: L)
 refine qc (qc (qa (qd (ii (0)) rfl (cX (qk (0) jK rfl sizeOf51 (by decide) rfl rfl (cX (qh isAgg51 rfl (Rd.own [_, _] rfl rfl) (cX (qA jt rfl SlV.nil (cX (qT rfl rfl (qb ?_))))))))))))
 refine qx (p := (0 : Int) < ((0 : Nat) : Int)) rfl (fun h1 => ?_) (fun h1 => ?_)
 ·exact absurd h1 (by omega)
 refine jb (qo (qo (qI (qc (qa (cX (qq [sN] ye jB rfl rfl (Rd.ownN [] rfl rfl) (cX (qD [_] _ [sN] jB rfl rfl rfl (qi rfl qH) rfl rfl rfl (qb (qv (qp (L' := L) [.agg #[sN]] (.agg #[sN]) (.cell rfl (jo [sN] ye jB rfl (Rd.ownN [_] rfl rfl)) .nil) rfl rF rF (sD (sD (sD sR))) ?_))))))))))))
 exact ⟨rfl, rfl⟩

/- spec.l29CopyNode -/
set_option maxRecDepth 20000 in
theorem sCopyNode_spec {F : FH} {L : List HP} {kd : Int} {xv : Value} {x : List Int} (hx : IntsF F xv x) {yv : Value} {y : List (List Int)} (hy : RowsF F yv y) {wv : Value} {w : List Int} (hw : IntsF F wv w) (hkd : 1 ≤ kd ∧ kd ≤ 12) (hxl : x.length ≤ 200) (hyl : y.length ≤ 61) (hyr : ∀ i, i < y.length → 1 ≤ (y.getD i []).length ∧ (y.getD i []).length ≤ 60) (hwl : w.length = 0) :
    Does prog 286 [.agg #[ii (kd), xv, yv, wv]] F (L) (fun v F' L' => ∃ (a : Value), ∃ (b : Value), ∃ (c : Value), (.agg #[ii (kd), a, b, c] : Value) = v ∧ (IntsF F' a x) ∧ (RowsF F' b y) ∧ (IntsF F' c w) ∧ L = L') := by
 refine qz func286 rfl rfl rfl (qc (qa (cX (qW [ii (kd), xv, yv, wv] rfl rfl ?_))))
 intro b1
 refine cX (qS [ii (0), sN, sN, sN] zeroValue145 rfl ?_)
 intro b2
 refine qb (qc ?_)
 refine yd [cellsH b2 [ii (0), sN, sN, sN] 145, cellsH b1 [ii (kd), xv, yv, wv] 145] L 11 [] [[], [0], [], [2], [3], [], [5], [6], [], [8], [9]] [] (phiG [pe (ptr b1 0), pe (ii (kd)), pe (ptr b1 1), pe xv, fun FF us v => ((v) : Value) = v ∧ (IntsF FF (v) (x)), pe (ptr b1 2), pe yv, fun FF us v => ((v) : Value) = v ∧ (RowsF FF (v) y), pe (ptr b1 3), pe wv, fun FF us v => ((v) : Value) = v ∧ (IntsF FF (v) (w))]) (ownL []) mixed rfl rfl (by kernel_rfl) (by kernel_rfl) (MonoG.get (m1 (m1 (m1 (m1 (mC (fun le h => ⟨h.1, h.2.mono le⟩) (m1 (m1 (mC (fun le h => ⟨h.1, h.2.mono le⟩) (m1 (m1 (mC (fun le h => ⟨h.1, h.2.mono le⟩) MonoG.nil)))))))))))) ?_ ?_
 ·refine gD (fun W Fs R lF z9 => ?_) ?_
  ·refine qj (qk (0) qZ rfl qJ (by decide) rfl rfl ?_)
   exact ⟨rfl, rfl⟩
  refine gD (fun W Fs R lF z9 => ?_) ?_
  ·replace hx := hx.mono lF
   replace hy := hy.mono lF
   replace hw := hw.mono lF
   rw [zA 0 (z9 0 rfl)]
   refine qj (qh jn rfl (Rd.own [_] rfl rfl) ?_)
   exact ⟨rfl, rfl⟩
  refine gD (fun W Fs R lF z9 => ?_) ?_
  ·refine qj (qk (1) qZ rfl qt (by decide) rfl rfl ?_)
   exact ⟨rfl, rfl⟩
  refine gD (fun W Fs R lF z9 => ?_) ?_
  ·replace hx := hx.mono lF
   replace hy := hy.mono lF
   replace hw := hw.mono lF
   rw [zA 2 (z9 2 rfl)]
   refine qj (qh qM rfl (Rd.own [_] rfl rfl) ?_)
   exact ⟨rfl, rfl⟩
  refine gD (fun W Fs R lF z9 => ?_) ?_
  ·replace hx := hx.mono lF
   replace hy := hy.mono lF
   replace hw := hw.mono lF
   rw [zA 3 (z9 3 rfl)]
   refine qj (jM <| qn (args := [xv]) call105 rfl (l1Copy_spec hx (hlt := (by first | assumption | rfl | omega | simp))) ?_)
   rintro v3 _ _ _ ⟨rfl, hs3, rfl⟩
   refine ⟨_, _, rfl, fun F2 le2 hz1 => ?_⟩
   replace hx := hx.mono le2
   replace hy := hy.mono le2
   replace hw := hw.mono le2
   have hf1 : IntsF F2 v3 ((x)) := intsH.fz (xs := (x)) hz1.fz
   exact ⟨⟨rfl, hf1⟩, rfl⟩
  refine gD (fun W Fs R lF z9 => ?_) ?_
  ·refine qj (qk (2) qZ rfl qP (by decide) rfl rfl ?_)
   exact ⟨rfl, rfl⟩
  refine gD (fun W Fs R lF z9 => ?_) ?_
  ·replace hx := hx.mono lF
   replace hy := hy.mono lF
   replace hw := hw.mono lF
   rw [zA 5 (z9 5 rfl)]
   refine qj (qh jg rfl (Rd.own [_] rfl rfl) ?_)
   exact ⟨rfl, rfl⟩
  refine gD (fun W Fs R lF z9 => ?_) ?_
  ·replace hx := hx.mono lF
   replace hy := hy.mono lF
   replace hw := hw.mono lF
   rw [zA 6 (z9 6 rfl)]
   refine qj (qn (args := [yv]) call349 rfl (l1CopyTerms_spec hy (hlt := (by first | assumption | rfl | omega | simp)) (htb := (fun i hi => by have := hyr i hi; omega))) ?_)
   rintro _ F3 _ le3 ⟨x2, rfl, hr2, rfl⟩
   replace hx := hx.mono le3
   replace hw := hw.mono le3
   exact ⟨⟨rfl, hr2⟩, rfl⟩
  refine gD (fun W Fs R lF z9 => ?_) ?_
  ·refine qj (qk (3) qZ rfl qt (by decide) rfl rfl ?_)
   exact ⟨rfl, rfl⟩
  refine gD (fun W Fs R lF z9 => ?_) ?_
  ·replace hx := hx.mono lF
   replace hw := hw.mono lF
   rw [zA 8 (z9 8 rfl)]
   refine qj (qh qM rfl (Rd.own [_] rfl rfl) ?_)
   exact ⟨rfl, rfl⟩
  refine gD (fun W Fs R lF z9 => ?_) ?_
  ·replace hx := hx.mono lF
   replace hw := hw.mono lF
   rw [zA 9 (z9 9 rfl)]
   refine qj (jM <| qn (args := [wv]) call105 rfl (l1Copy_spec hw (hlt := (by first | assumption | rfl | omega | simp))) ?_)
   rintro v4 _ _ _ ⟨rfl, hs4, rfl⟩
   refine ⟨_, _, rfl, fun F4 le4 hz2 => ?_⟩
   have hf2 : IntsF F4 v4 ((w)) := intsH.fz (xs := (w)) hz2.fz
   exact ⟨⟨rfl, hf2⟩, rfl⟩
  exact stepsG.nil
 intro W F5 le5 hphi
 obtain ⟨e4, f4_1ha⟩ := hphi 4 (by decide)
 obtain ⟨e7, f7_1hr⟩ := hphi 7 (by decide)
 obtain ⟨e10, f10_1ha⟩ := hphi 10 (by decide)
 generalize hu1 : ((W 4)) = u1 at e4 f4_1ha e7 f7_1hr e10 f10_1ha
 generalize hu2 : ((W 7)) = u2 at e4 f4_1ha e7 f7_1hr e10 f10_1ha
 generalize hu3 : ((W 10)) = u3 at e4 f4_1ha e7 f7_1hr e10 f10_1ha
 rw [eS (l := [(1, _), (4, u1), (7, u2), (10, u3)]) ⟨(hphi 1 (by decide)), hu1, hu2, hu3, ⟨⟩⟩]
 show XL _ _ _ _ _ _ _ (cellsH b2 [ii (0), sN, sN, sN] 145 :: cellsH b1 [ii (kd), xv, yv, wv] 145 :: L)
 refine cX (jf [ii (kd), u1, u2, u3] [ii (0), sN, sN, sN] [(0, 1), (1, 1), (2, 1), (3, 1)] [(0, [ii (kd)]), (1, [u1]), (2, [u2]), (3, [u3])] qZ zeroValue145 rfl (.cons rfl qJ (.cons rfl qt (.cons rfl qP (.cons rfl qt PlacesAre.nil)))) rfl (.cons rfl (.cons (cells_one (qB f4_1ha)) (.cons (cells_one (RowsF.isSl f7_1hr)) (.cons (cells_one (qB f10_1ha)) CellsAre.nil)))) (cX (qD [] _ [ii (kd), u1, u2, u3] jF rfl rfl rfl (qi rfl (qi (qC (qB f4_1ha)) (qi (qC (RowsF.isSl f7_1hr)) (qi (qC (qB f10_1ha)) qH)))) rfl rfl rfl (qb (qv (qp (L' := L) [.agg #[ii (kd), u1, u2, u3]] (.agg #[ii (kd), u1, u2, u3]) (.cell rfl (jo [ii (kd), u1, u2, u3] isAgg145 jF rfl (Rd.ownN [] rfl rfl)) .nil) rfl le5 rF (sD (sD sR)) ?_))))))
 exact ⟨_, _, _, rfl, f4_1ha, f7_1hr, f10_1ha, rfl⟩

/- spec.AddedNode -/
set_option maxRecDepth 20000 in
theorem sAddedNode_spec {F : FH} {L : List HP}  {kd : Int} {xv : Value} {x : List Int} (hx : IntsF F xv x) {yv : Value} {y : List (List Int)} (hy : RowsF F yv y) {wv : Value} {w : List Int} (hw : IntsF F wv w) (hkd : 1 ≤ kd ∧ kd ≤ 12) (hxl : x.length ≤ 200) (hyl : y.length ≤ 61) (hyr : ∀ i, i < y.length → 1 ≤ (y.getD i []).length ∧ (y.getD i []).length ≤ 60) (hwl : w.length = 0) :
    Does prog 180 [.agg #[sN], .agg #[ii (kd), xv, yv, wv]] F (L) (fun v F' L' => ∃ (a : Value), (.tuple #[.agg #[a], .bool (true)] : Value) = v ∧ (NodesF F' a [(kd, x, y, w)]) ∧ L = L') := by
 refine qz func180 rfl rfl rfl (qc (qa (cX (qW [sN] rfl rfl ?_))))
 intro b1
 refine cX (qW [ii (kd), xv, yv, wv] rfl rfl ?_)
 intro b2
 refine cX (qS [sN] jU rfl ?_)
 intro b3
 refine qf (.bool (false)) rfl (qb (qc (qc (qa (cX (qk (0) jK rfl sizeOf51 (by decide) rfl rfl (cX (qh isAgg51 rfl (Rd.own [_, _] rfl rfl) (cX (qA jt rfl SlV.nil (cX (jY rfl rfl (qd (.bool (decide ((((0 : Nat) : Int) : Int) ≥ 64))) rfl ?_)))))))))))))
 by_cases h1 : (((0 : Nat) : Int) : Int) ≥ 64
 ·exact absurd h1 (by omega)
 refine qu (t := 11) rfl (vF h1) (qq [sN] ye jB rfl rfl (Rd.ownN [_, _] rfl rfl) (qu (t := 11) rfl (vF h1) (qn (args := [.agg #[sN]]) call283 rfl (sNodesOk_spec ) ?_)))
 rintro _ _ _ _ ⟨rfl, rfl, rfl⟩
 refine qu (t := 11) rfl (vF h1) (jx rfl (cX (ja (.bool (false)) (vF h1) rfl (qd (.bool (false)) rfl (qu (t := 16) rfl rfl (qq [ii (kd), xv, yv, wv] isAgg145 jF rfl rfl (Rd.ownN [_] rfl rfl) (qu (t := 16) rfl rfl (qk (0) jK rfl sizeOf51 (by decide) rfl rfl (qu (t := 16) rfl rfl (qh isAgg51 rfl (Rd.own [_, _] rfl rfl) (qu (t := 16) rfl rfl (qA jt rfl SlV.nil (qu (t := 16) rfl rfl (qn (args := [.agg #[ii (kd), xv, yv, wv], ii (((0 : Nat) : Int))]) call284 rfl (sNodeOk_spec (q := ((0 : Nat) : Int)) hx hy hw (hkd := (by first | assumption | rfl | omega | simp)) (hxl := (by first | assumption | rfl | omega | simp)) (hyl := (by first | assumption | rfl | omega | simp)) (hyr := (hyr)) (hwl := (by first | assumption | rfl | omega | simp)) (hq := (rfl))) ?_))))))))))))))
 rintro _ _ _ _ ⟨rfl, rfl, rfl⟩
 refine qu (t := 16) rfl rfl (jx rfl (cX (ja (.bool (false)) rfl rfl (qb (X.condF rfl (qw (qc (qa (cX (qq [sN] ye jB rfl rfl (Rd.ownN [_, _] rfl rfl) (cX (qn (args := [.agg #[sN]]) call285 rfl (sCopyProof_spec ) ?_))))))))))))
 rintro _ F1 _ le1 ⟨rfl, rfl⟩
 replace hx := hx.mono le1
 replace hy := hy.mono le1
 replace hw := hw.mono le1
 refine cX (qS [sN] jU rfl ?_)
 intro b4
 refine cX (qD [] _ [sN] jB rfl rfl rfl (qi rfl qH) rfl rfl rfl (qb (qc ?_)))
 refine yd [cellsH b4 [sN] 53, cellsH b3 [sN] 53, cellsH b2 [ii (kd), xv, yv, wv] 145, cellsH b1 [sN] 53] L 5 [[], [], [], [], [3]] [[], [0], [], [2], [3]] [] (phiG [pe (ptr b4 0), pe sN, pe (.agg #[ii (kd), xv, yv, wv]), fun FF us v => (.agg #[ii (kd), ((aggAt v 1)), ((aggAt v 2)), ((aggAt v 3))] : Value) = v ∧ (IntsF FF ((aggAt v 1)) x) ∧ (RowsF FF ((aggAt v 2)) y) ∧ (IntsF FF ((aggAt v 3)) w), fun FF us v => ∃ b, v = .slice (some ⟨b, 0, none⟩) 1 1]) (ownL [o0, o0, o0, o0, fun us v => [slH 145 4 v 1 [ii (kd), ((aggAt (us.getD 0 undef) 1)), ((aggAt (us.getD 0 undef) 2)), ((aggAt (us.getD 0 undef) 3))]]]) mixed rfl rfl (by kernel_rfl) (by kernel_rfl) (MonoG.get (m1 (m1 (m1 (mC (fun le h => ⟨h.1, h.2.1.mono le, h.2.2.1.mono le, h.2.2.2.mono le⟩) (mC (fun le h => h) MonoG.nil)))))) ?_ ?_
 ·refine gD (fun W Fs R lF z9 => ?_) ?_
  ·refine qj (qk (0) jK rfl sizeOf51 (by decide) rfl rfl ?_)
   exact ⟨rfl, rfl⟩
  refine gD (fun W Fs R lF z9 => ?_) ?_
  ·replace hx := hx.mono lF
   replace hy := hy.mono lF
   replace hw := hw.mono lF
   rw [zA 0 (z9 0 rfl)]
   refine qj (qh isAgg51 rfl (Rd.own [] rfl rfl) ?_)
   exact ⟨rfl, rfl⟩
  refine gD (fun W Fs R lF z9 => ?_) ?_
  ·replace hx := hx.mono lF
   replace hy := hy.mono lF
   replace hw := hw.mono lF
   refine qj (qq [ii (kd), xv, yv, wv] isAgg145 jF rfl rfl (Rd.ownN [_, _] rfl rfl) ?_)
   exact ⟨rfl, rfl⟩
  refine gD (fun W Fs R lF z9 => ?_) ?_
  ·replace hx := hx.mono lF
   replace hy := hy.mono lF
   replace hw := hw.mono lF
   rw [zA 2 (z9 2 rfl)]
   refine qj (qn (args := [.agg #[ii (kd), xv, yv, wv]]) call286 rfl (sCopyNode_spec hx hy hw (hkd := (by first | assumption | rfl | omega | simp)) (hxl := (by first | assumption | rfl | omega | simp)) (hyl := (by first | assumption | rfl | omega | simp)) (hyr := (hyr)) (hwl := (by first | assumption | rfl | omega | simp))) ?_)
   rintro _ F3 _ le3 ⟨x4, x5, x6, rfl, hr4, hr5, hr6, rfl⟩
   exact ⟨⟨rfl, hr4, hr5, hr6⟩, rfl⟩
  refine gD (fun W Fs R lF z9 => ?_) ?_
  ·obtain ⟨e3, f3_1hr1, f3_1hr2, f3_1hr3⟩ := z9 3 rfl
   rw [eS (l := [(3, (.agg #[ii (kd), ((aggAt (W 3) 1)), ((aggAt (W 3) 2)), ((aggAt (W 3) 3))]))]) ⟨(e3).symm, ⟨⟩⟩]
   refine qj (qL (s := 4) [ii (kd), ((aggAt (W 3) 1)), ((aggAt (W 3) 2)), ((aggAt (W 3) 3))] [ii (0), sN, sN, sN] [(0, [ii (kd), ((aggAt (W 3) 1)), ((aggAt (W 3) 2)), ((aggAt (W 3) 3))])] jt jF zeroValue145 rfl (by decide) rfl (.cons rfl CellsAre.nil) rfl ?_)
   intro v2 hv2
   exact ⟨hv2, rfl⟩
  exact stepsG.nil
 intro W F4 le4 hphi
 obtain ⟨e3, f3_1hr1, f3_1hr2, f3_1hr3⟩ := hphi 3 (by decide)
 have f4 : ∃ b, (W 4) = .slice (some ⟨b, 0, none⟩) 1 1 := hphi 4 (by decide)
 generalize hu1 : ((aggAt (W 3) 1)) = u1 at e3 f3_1hr1 f3_1hr2 f3_1hr3 f4
 generalize hu2 : ((aggAt (W 3) 2)) = u2 at e3 f3_1hr1 f3_1hr2 f3_1hr3 f4
 generalize hu3 : ((aggAt (W 3) 3)) = u3 at e3 f3_1hr1 f3_1hr2 f3_1hr3 f4
 generalize huu4 : W 4 = u4 at e3 f3_1hr1 f3_1hr2 f3_1hr3 f4
 rw [eS (l := [(1, _), (3, (.agg #[ii (kd), u1, u2, u3])), (4, u4)]) ⟨(hphi 1 (by decide)), (e3).symm, huu4, ⟨⟩⟩]
 show XL _ _ _ _ _ _ _ (slH 145 4 u4 1 [ii (kd), u1, u2, u3] :: cellsH b4 [sN] 53 :: cellsH b3 [sN] 53 :: cellsH b2 [ii (kd), xv, yv, wv] 145 :: cellsH b1 [sN] 53 :: L)
 have hc1 : NodesC F4 [] [] := CO.nil
 refine jT (Sub.addNil 145 4 none _) (cX (jQ (m := 1) (bytes := 80) (cs := []) [] _ [ii (kd), u1, u2, u3] jt typeInfo145 rfl rfl rfl rfl rfl rfl rfl (SlV.own [_] rfl) rfl (Rd.lit [_] rfl) (qi rfl (qi (qC (qB f3_1hr1)) (qi (qC (RowsF.isSl f3_1hr2)) (qi (qC (qB f3_1hr3)) qH)))) (by (try simp only [List.length_append, List.length_nil, List.length_cons, List.length_singleton]); omega) (by (try simp only [List.length_append, List.length_nil, List.length_cons, List.length_singleton]); omega) ?_))
 intro v3 hs1 hn1 hm1
 have hc2 := NodesC.snoc hc1 (y0 := kd) (y1 := x) (y2 := y) (y3 := w) f3_1hr1 f3_1hr2 f3_1hr3
 refine cX (qk (0) jK rfl sizeOf51 (by decide) rfl rfl (cX (jw [_, _] _ [v3] sizeOf51 rfl rfl (qC hs1) rfl rfl rfl (qb (qc (qa (cX (qq [v3] ye jB rfl rfl (Rd.ownN [_, _] rfl rfl) (cX (qD [_, _, _] _ [v3] jB rfl rfl rfl (qi (qC hs1) qH) rfl rfl rfl (qf (.bool (true)) rfl (qb (jl [] _ _ rfl (fun F5 le5 hz1 => ?_))))))))))))))
 replace hc2 := hc2.mono le5
 have hf1 : NodesF F5 v3 (([] : List NodeT) ++ [(kd, x, y, w)]) := CO.fz hc2 (by first | rfl | omega | (rw [List.length_set]; omega) | (simp; done)) hz1.fz
 refine qv (qp (L' := L) [.agg #[v3], .bool (true)] (.tuple #[.agg #[v3], .bool (true)]) (.cell rfl (jo [v3] ye jB rfl (Rd.ownN [_, _] rfl rfl)) (.tmp rfl .nil)) rfl (qm (qm le1 le4) le5) rF (sD (sD (sD (sD (sD sR))))) ?_)
 exact ⟨_, rfl, hf1, rfl⟩

/- spec.l31One -/
set_option maxRecDepth 20000 in
theorem sOne_spec {F : FH} {L : List HP} {kd : Int} {xv : Value} {x : List Int} (hx : IntsF F xv x) {yv : Value} {y : List (List Int)} (hy : RowsF F yv y) {wv : Value} {w : List Int} (hw : IntsF F wv w) (hkd : 1 ≤ kd ∧ kd ≤ 12) (hxl : x.length ≤ 200) (hyl : y.length ≤ 61) (hyr : ∀ i, i < y.length → 1 ≤ (y.getD i []).length ∧ (y.getD i []).length ≤ 60) (hwl : w.length = 0) :
    Does prog 83 [.agg #[ii (kd), xv, yv, wv]] F (L) (fun v F' L' => ∃ (a : Value), (.tuple #[.agg #[a], .bool (true)] : Value) = v ∧ (NodesF F' a [(kd, x, y, w)]) ∧ L = L') := by
 refine qz func83 rfl rfl rfl (qc (qa (cX (qW [ii (kd), xv, yv, wv] rfl rfl ?_))))
 intro b1
 refine cX (qS [sN] jU rfl ?_)
 intro b2
 refine qf (.bool (false)) rfl (qb (qc (qa (cX (jf [sN] [sN] [(0, 1)] [] jK jU rfl (.cons rfl sizeOf51 PlacesAre.nil) rfl CellsAre.nil (cX (qq [ii (kd), xv, yv, wv] isAgg145 jF rfl rfl (Rd.ownN [_] rfl rfl) (cX (qn (args := [.agg #[sN], .agg #[ii (kd), xv, yv, wv]]) call180 rfl (sAddedNode_spec hx hy hw (hkd := (by first | assumption | rfl | omega | simp)) (hxl := (by first | assumption | rfl | omega | simp)) (hyl := (by first | assumption | rfl | omega | simp)) (hyr := (hyr)) (hwl := (by first | assumption | rfl | omega | simp))) ?_)))))))))
 rintro _ F1 _ le1 ⟨x1, rfl, hr1, rfl⟩
 refine cX (qU (.agg #[x1]) rfl rfl (cX (qU (.bool (true)) rfl rfl (cX (qD [] _ [x1] jB rfl rfl rfl (qi (qC (NodesF.isSl hr1)) qH) rfl rfl rfl (qf (.bool (true)) rfl (qb (qv (qp (L' := L) [.agg #[x1], .bool (true)] (.tuple #[.agg #[x1], .bool (true)]) (.cell rfl (jo [x1] ye jB rfl (Rd.ownN [] rfl rfl)) (.tmp rfl .nil)) rfl le1 rF (sD (sD sR)) ?_)))))))))
 exact ⟨_, rfl, hr1, rfl⟩

/- spec.LoopProof -/
set_option maxRecDepth 20000 in
theorem sLoopProof_spec {F : FH} {L : List HP} {arv : Value} {ar : List Int} (har : IntsF F arv ar) {rsv : Value} {rs : List (List Int × List Int)} (hrs : PairsF F rsv rs) {n : Int} (hla : ar.length ≤ 4000000) (hlr : rs.length ≤ 4000000) (hrb : ∀ i, i < rs.length → (rs.getD i ([], [])).1.length ≤ 4000000 ∧ (rs.getD i ([], [])).2.length ≤ 4000000) :
    Does prog 20 [.agg #[arv, rsv], ii (n)] F (L) (fun v F' L' => ∃ (a : Value), (.tuple #[.agg #[a], .bool ((proofF ar rs n).2)] : Value) = v ∧ (NodesF F' a (proofF ar rs n).1) ∧ L = L') := by
 refine qz func20 rfl rfl rfl (qc (qa (cX (qW [arv, rsv] rfl rfl ?_))))
 intro b1
 refine cX (qS [sN] jU rfl ?_)
 intro b2
 refine qf (.bool (false)) rfl (qb (qc (qa (cX (qq [arv, rsv] jL jy rfl rfl (Rd.ownN [_] rfl rfl) (qd (ii (n)) rfl (cX (qn (args := [.agg #[arv, rsv], ii (n)]) call81 rfl (sFirstLoop_spec (n := n) har hrs (hla := (by first | assumption | rfl | omega | simp)) (hlr := (by first | assumption | rfl | omega | simp)) (hrb := (by first | assumption | rfl | omega | simp))) ?_))))))))
 rintro _ F1 _ le1 ⟨x1, x2, x3, rfl, hr1, hr2, hr3, rfl⟩
 replace har := har.mono le1
 replace hrs := hrs.mono le1
 refine qd (.tuple #[.agg #[x1, x2, ii ((firstF ar rs n).2.2.1), x3], .bool ((firstF ar rs n).2.2.2.2)]) rfl (cX (qU (.agg #[x1, x2, ii ((firstF ar rs n).2.2.1), x3]) rfl rfl (cX (qU (.bool ((firstF ar rs n).2.2.2.2)) rfl rfl (cX (qS [sN, sN, ii (0), sN] jJ rfl ?_))))))
 intro b3
 refine cX (qD [] _ [x1, x2, ii ((firstF ar rs n).2.2.1), x3] ju rfl rfl rfl (qi (qC (qB hr1)) (qi (qC (StepsF.isSl hr2)) (qi rfl (qi (qC (RowsF.isSl hr3)) qH)))) rfl rfl rfl (qf (.bool ((firstF ar rs n).2.2.2.2)) rfl (qb (qc (qc (qa (cX (qq [arv, rsv] jL jy rfl rfl (Rd.ownN [_, _] rfl rfl) (cX (qn (args := [.agg #[arv, rsv]]) call82 rfl (sSystemOk_spec har hrs (hla := (by first | assumption | rfl | omega | simp)) (hlr := (by first | assumption | rfl | omega | simp)) (hrb := (by first | assumption | rfl | omega | simp))) ?_))))))))))
 rintro _ _ _ _ ⟨rfl, rfl, rfl⟩
 refine cX (jx rfl (qd (.bool (!(sysOk ar rs))) rfl ?_))
 by_cases h1 : (!(sysOk ar rs)) = true
 ·have hsys := Bool.not_inj (y := false) h1
  refine qE (t := 17) rfl (vB h1) (qE (t := 17) rfl (vB h1) (cX (jk (.bool (true)) (vB h1) rfl (qb (X.condT rfl (qc (qa (cX (jf [sN] [sN] [(0, 1)] [] jK jU rfl (.cons rfl sizeOf51 PlacesAre.nil) rfl CellsAre.nil (cX (qD [_] _ [sN] jB rfl rfl rfl (qi rfl qH) rfl rfl rfl (qf (.bool (false)) rfl (qb ?_)))))))))))))
  refine qv (ql (qp (L' := L) [.agg #[sN], .bool (false)] (.tuple #[.agg #[sN], .bool (false)]) (.cell rfl (jo [sN] ye jB rfl (Rd.ownN [_] rfl rfl)) (.tmp rfl .nil)) rfl le1 rF (sD (sD (sD sR))) ?_))
  first | rw [proofF_sys hsys] | rw [proofF_no hok]
  exact ⟨_, rfl, SlOf.nilV, rfl⟩
 rw [Bool.not_eq_true] at h1
 have hsys := Bool.not_inj (y := true) h1
 refine qu (t := 17) rfl (vB h1) (qr (.bool ((firstF ar rs n).2.2.2.2)) rfl (qu (t := 17) rfl (vB h1) (jx rfl (cX (ja (.bool (!((firstF ar rs n).2.2.2.2))) (vB h1) rfl (qb ?_))))))
 refine ya (t := !((firstF ar rs n).2.2.2.2)) rfl (fun h2 => ?_) (fun h2 => ?_)
 ·have hok := Bool.not_inj (y := false) h2
  refine qc (qa (cX (jf [sN] [sN] [(0, 1)] [] jK jU rfl (.cons rfl sizeOf51 PlacesAre.nil) rfl CellsAre.nil (cX (qD [_] _ [sN] jB rfl rfl rfl (qi rfl qH) rfl rfl rfl (qf (.bool (false)) rfl (qb (qv (ql (qp (L' := L) [.agg #[sN], .bool (false)] (.tuple #[.agg #[sN], .bool (false)]) (.cell rfl (jo [sN] ye jB rfl (Rd.ownN [_] rfl rfl)) (.tmp rfl .nil)) rfl le1 rF (sD (sD (sD sR))) ?_))))))))))
  first | rw [proofF_sys hsys] | rw [proofF_no hok]
  exact ⟨_, rfl, SlOf.nilV, rfl⟩
 have hok := Bool.not_inj (y := true) h2
 have hG := firstF_good hok
 obtain ⟨hn1, hn2, hn3⟩ := node_pre (p := (firstF ar rs n).2.2.1) hG
 refine qw (qc (qa (cX (qq [x1, x2, ii ((firstF ar rs n).2.2.1), x3] yg ju rfl rfl (Rd.ownN [] rfl rfl) (cX (qn (args := [.agg #[x1, x2, ii ((firstF ar rs n).2.2.1), x3]]) call84 rfl (sLoopNode_spec hr1 hr2 hr3 (hG := (hG))) ?_))))))
 rintro _ F2 _ le2 ⟨x4, x5, rfl, hr4, hr5, rfl⟩
 refine cX (qn (args := [.agg #[ii (6), x4, x5, sN]]) call83 rfl (sOne_spec hr4 hr5 IntsF.nilV (hkd := (by first | assumption | rfl | omega | simp)) (hxl := (hn1)) (hyl := (hn2)) (hyr := (hn3)) (hwl := (rfl))) ?_)
 rintro _ F3 _ le3 ⟨x6, rfl, hr6, rfl⟩
 refine cX (qU (.agg #[x6]) rfl rfl (cX (qU (.bool (true)) rfl rfl (cX (qD [_] _ [x6] jB rfl rfl rfl (qi (qC (NodesF.isSl hr6)) qH) rfl rfl rfl (qf (.bool (true)) rfl (qb (qv (qp (L' := L) [.agg #[x6], .bool (true)] (.tuple #[.agg #[x6], .bool (true)]) (.cell rfl (jo [x6] ye jB rfl (Rd.ownN [_] rfl rfl)) (.tmp rfl .nil)) rfl (qm (qm le1 le2) le3) rF (sD (sD (sD sR))) ?_)))))))))
 rw [proofF_yes hok]
 exact ⟨_, rfl, hr6, rfl⟩

/- laws.eqNode -/
theorem eqNode_spec {F : FH} {L : List HP} {kd : Int} {xv : Value} {x : List Int} (hx : IntsF F xv x) {yv : Value} {y : List (List Int)} (hy : RowsF F yv y) {wv : Value} {w : List Int} (hw : IntsF F wv w) {ld : Int} {uv : Value} {u : List Int} (hu : IntsF F uv u) {tv : Value} {t : List (List Int)} (ht : RowsF F tv t) {rv : Value} {r : List Int} (hr : IntsF F rv r) (hla : x.length ≤ 9223372036854775807) (hlb : y.length ≤ 9223372036854775807) (hlc : ∀ q, q < y.length → (y.getD q []).length ≤ 9223372036854775807) (hld : w.length ≤ 9223372036854775807) :
    Does prog 195 [.agg #[ii (kd), xv, yv, wv], .agg #[ii (ld), uv, tv, rv]] F (L) (fun v F' L' => (.bool (decide ((kd, x, y, w) = (ld, u, t, r))) : Value) = v ∧ F = F' ∧ L = L') := by
 refine qz func195 rfl rfl rfl (qc (qa (cX (qW [ii (kd), xv, yv, wv] rfl rfl ?_))))
 intro b1
 refine cX (qW [ii (ld), uv, tv, rv] rfl rfl ?_)
 intro b2
 refine qf (.bool (false)) rfl (qb (qc (qc (qa (cX (qk (0) qZ rfl qJ (by decide) rfl rfl (cX (qh jn rfl (Rd.own [_] rfl rfl) (cX (qk (0) qZ rfl qJ (by decide) rfl rfl (cX (qh jn rfl (Rd.own [] rfl rfl) (cX (XOp.neq rfl rfl (qb ?_)))))))))))))))
 refine qx (p := (kd : Int) ≠ ld) rfl (fun h1 => ?_) (fun h1 => ?_)
 ·refine qc (qa (qf (.bool (false)) rfl (qb (qv (ql (qp (L' := L) [.bool (false)] (.bool (false)) (.tmp rfl .nil) rfl rF rF (sD (sD sR)) ?_))))))
  exact ⟨(vB (decide_eq_false (by intro e; simp_all))), rfl, rfl⟩
 refine qw (qc (qc (qa (cX (qk (1) qZ rfl qt (by decide) rfl rfl (cX (qh qM rfl (Rd.own [_] rfl rfl) (cX (qk (1) qZ rfl qt (by decide) rfl rfl (cX (qh qM rfl (Rd.own [] rfl rfl) (cX (qn (args := [xv, uv]) call79 rfl (eqInt64S_spec hx hu (hbd := (.inl hla))) ?_)))))))))))))
 rintro _ _ _ _ ⟨rfl, rfl, rfl⟩
 refine cX (jH rfl (qb ?_))
 refine qx (p := ¬(x = u)) rfl (fun h2 => ?_) (fun h2 => ?_)
 ·refine qc (qa (qf (.bool (false)) rfl (qb (qv (ql (qp (L' := L) [.bool (false)] (.bool (false)) (.tmp rfl .nil) rfl rF rF (sD (sD sR)) ?_))))))
  exact ⟨(vB (decide_eq_false (by intro e; simp_all))), rfl, rfl⟩
 refine qw (qc (qc (qa (cX (qk (2) qZ rfl qP (by decide) rfl rfl (cX (qh jg rfl (Rd.own [_] rfl rfl) (cX (qk (2) qZ rfl qP (by decide) rfl rfl (cX (qh jg rfl (Rd.own [] rfl rfl) (cX (qn (args := [yv, tv]) call294 rfl (eqInt64SS_spec hy ht (hal := (hlb)) (hbd := (hlc))) ?_)))))))))))))
 rintro _ _ _ _ ⟨rfl, rfl, rfl⟩
 refine cX (jH rfl (qb ?_))
 refine qx (p := ¬(y = t)) rfl (fun h3 => ?_) (fun h3 => ?_)
 ·refine qc (qa (qf (.bool (false)) rfl (qb (qv (ql (qp (L' := L) [.bool (false)] (.bool (false)) (.tmp rfl .nil) rfl rF rF (sD (sD sR)) ?_))))))
  exact ⟨(vB (decide_eq_false (by intro e; simp_all))), rfl, rfl⟩
 refine qw (qc (qc (qa (cX (qk (3) qZ rfl qt (by decide) rfl rfl (cX (qh qM rfl (Rd.own [_] rfl rfl) (cX (qk (3) qZ rfl qt (by decide) rfl rfl (cX (qh qM rfl (Rd.own [] rfl rfl) (cX (qn (args := [wv, rv]) call79 rfl (eqInt64S_spec hw hr (hbd := (.inl hld))) ?_)))))))))))))
 rintro _ _ _ _ ⟨rfl, rfl, rfl⟩
 refine cX (jH rfl (qb ?_))
 refine qx (p := ¬(w = r)) rfl (fun h4 => ?_) (fun h4 => ?_)
 ·refine qc (qa (qf (.bool (false)) rfl (qb (qv (ql (qp (L' := L) [.bool (false)] (.bool (false)) (.tmp rfl .nil) rfl rF rF (sD (sD sR)) ?_))))))
  exact ⟨(vB (decide_eq_false (by intro e; simp_all))), rfl, rfl⟩
 refine qw (qc (qa (qf (.bool (true)) rfl (qb (qv (qp (L' := L) [.bool (true)] (.bool (true)) (.tmp rfl .nil) rfl rF rF (sD (sD sR)) ?_))))))
 exact ⟨(vB (decide_eq_true (by simp_all))), rfl, rfl⟩

/- laws.eqNodeS -/
theorem eqNodeS_spec {F : FH} {L : List HP} {av : Value} {a : List NodeT} (ha : NodesF F av a) {bv : Value} {b : List NodeT} (hb : NodesF F bv b) (hal : a.length ≤ 9223372036854775807) (hbd : ∀ i, i < a.length → (a.getD i (0, [], [], [])).2.1.length ≤ 9223372036854775807 ∧ (a.getD i (0, [], [], [])).2.2.1.length ≤ 9223372036854775807 ∧ (∀ q, q < (a.getD i (0, [], [], [])).2.2.1.length → ((a.getD i (0, [], [], [])).2.2.1.getD q []).length ≤ 9223372036854775807) ∧ (a.getD i (0, [], [], [])).2.2.2.length ≤ 9223372036854775807) :
    Does prog 87 [av, bv] F (L) (fun v F' L' => (.bool (decide (a = b)) : Value) = v ∧ F = F' ∧ L = L') := by
 refine qz func87 rfl rfl rfl (qc (qa (qf (.bool (false)) rfl (qb (qc (qc (qa (qd (av) rfl (cX (qA jt rfl ha.slv (qd (bv) rfl (cX (qA jt rfl hb.slv (cX (XOp.neq rfl rfl (qb ?_))))))))))))))))
 refine qx (p := ((a.length : Int) : Int) ≠ (b.length : Int)) rfl (fun h1 => ?_) (fun h1 => ?_)
 ·refine qc (qa (qf (.bool (false)) rfl (qb (qv (ql (qp (L' := L) [.bool (false)] (.bool (false)) (.tmp rfl .nil) rfl rF rF sR ?_))))))
  exact ⟨(vB (decide_eq_false (fun e => by rw [e] at h1; omega))), rfl, rfl⟩
 refine qw (qc (qc (qa (qf (ii (0)) rfl (qb (qG (jc (α := Nat) (fun k => [(0, av), (1, bv), (5, ii ((k : Int)))]) (fun k => L) (fun k F' => F = F' ∧ (k ≤ a.length) ∧ (∀ i, i < k → a.getD i (0, [], [], []) = b.getD i (0, [], [], []))) (fun k => a.length - k) 0 ⟨rfl, rfl, rfl, ⟨⟩⟩ sR ⟨rfl, (by (try dsimp only) <;> omega), (fun i hi => absurd hi (by omega))⟩ ?_)))))))
 rintro k rE _ _ ⟨rfl, hk, hall⟩
 show X _ _ _ _ (envs [(0, av), (1, bv), (5, ii ((k : Int)))] rE) _ (L)
 have hbk := hbd k
 refine qc (qc (qa (qd (ii ((k : Int))) rfl (qd (av) rfl (cX (qA jt rfl ha.slv (cX (qT rfl rfl (qb ?_)))))))))
 refine qx (p := (k : Int) < (a.length : Int)) rfl (fun h2 => ?_) (fun h2 => ?_)
 ·refine qw (qc (qG (qc ?_)))
  obtain ⟨a1, a2, a3, ha1, ha2, ha3, hrg1, hq1⟩ := ha.rd (i := k) (by omega)
  obtain ⟨a4, a5, a6, ha4, ha5, ha6, hrg2, hq2⟩ := hb.rd (i := k) (by omega)
  refine jV [] L 8 [] [[], [], [0, 1], [2], [], [], [4, 5], [6]] (phiL [qe av, qe (ii ((k : Int)) : Value), qe (.pointer (some (elemA av (k * 4)))), qe (.agg #[ii ((a.getD k (0, [], [], [])).1), a1, a2, a3]), qe bv, qe (ii ((k : Int)) : Value), qe (.pointer (some (elemA bv (k * 4)))), qe (.agg #[ii ((b.getD k (0, [], [], [])).1), a4, a5, a6])]) (ownL []) mixed rfl rfl (by kernel_rfl) ?_ ?_
  ·refine pD (fun W R z9 => ?_) ?_
   ·refine qj (qr (av) rfl ?_)
    exact ⟨rfl, rfl, rfl⟩
   refine pD (fun W R z9 => ?_) ?_
   ·refine qj (qr (ii ((k : Int))) rfl ?_)
    exact ⟨rfl, rfl, rfl⟩
   refine pD (fun W R z9 => ?_) ?_
   ·rw [zB 0 1 (z9 0 rfl) (z9 1 rfl)]
    refine qj (qy k jt jF rfl rfl rfl ha.slv (by omega) rfl ?_)
    exact ⟨rfl, rfl, rfl⟩
   refine pD (fun W R z9 => ?_) ?_
   ·rw [zA 2 (z9 2 rfl)]
    refine qj (qq [ii ((a.getD k (0, [], [], [])).1), a1, a2, a3] isAgg145 jF rfl rfl (Rd.all (hrg1 _)) ?_)
    exact ⟨rfl, rfl, rfl⟩
   refine pD (fun W R z9 => ?_) ?_
   ·refine qj (qr (bv) rfl ?_)
    exact ⟨rfl, rfl, rfl⟩
   refine pD (fun W R z9 => ?_) ?_
   ·refine qj (qr (ii ((k : Int))) rfl ?_)
    exact ⟨rfl, rfl, rfl⟩
   refine pD (fun W R z9 => ?_) ?_
   ·rw [zB 4 5 (z9 4 rfl) (z9 5 rfl)]
    refine qj (qy k jt jF rfl rfl rfl hb.slv (by omega) rfl ?_)
    exact ⟨rfl, rfl, rfl⟩
   refine pD (fun W R z9 => ?_) ?_
   ·rw [zA 6 (z9 6 rfl)]
    refine qj (qq [ii ((b.getD k (0, [], [], [])).1), a4, a5, a6] isAgg145 jF rfl rfl (Rd.all (hrg2 _)) ?_)
    exact ⟨rfl, rfl, rfl⟩
   exact stepsP.nil
  intro W hphi
  rw [zB 3 7 (hphi 3 (by decide)) (hphi 7 (by decide))]
  show XL _ _ _ _ _ _ _ (L)
  refine cX (qn (args := [.agg #[ii ((a.getD k (0, [], [], [])).1), a1, a2, a3], .agg #[ii ((b.getD k (0, [], [], [])).1), a4, a5, a6]]) call195 rfl (eqNode_spec ha1 ha2 ha3 ha4 ha5 ha6 (hla := ((hbk (by omega)).1)) (hlb := ((hbk (by omega)).2.1)) (hlc := ((hbk (by omega)).2.2.1)) (hld := ((hbk (by omega)).2.2.2))) ?_)
  rintro _ _ _ _ ⟨rfl, rfl, rfl⟩
  refine cX (jH rfl (qb ?_))
  refine qx (p := ¬((((a.getD k (0, [], [], [])).1), ((a.getD k (0, [], [], [])).2.1), ((a.getD k (0, [], [], [])).2.2.1), ((a.getD k (0, [], [], [])).2.2.2)) = (((b.getD k (0, [], [], [])).1), ((b.getD k (0, [], [], [])).2.1), ((b.getD k (0, [], [], [])).2.2.1), ((b.getD k (0, [], [], [])).2.2.2)))) rfl (fun h3 => ?_) (fun h3 => ?_)
  ·refine qc (qa (qf (.bool (false)) rfl (qb (qv (qF (ql (ql (qF (ql (qp (L' := L) [.bool (false)] (.bool (false)) (.tmp rfl .nil) rfl rF rF sR ?_))))))))))
   exact ⟨(vB (decide_eq_false (fun e => by subst e; simp at *))), rfl, rfl⟩
  refine qw (qa (qd (ii ((k : Int))) rfl (cX (qN (((k + 1 : Nat) : Int)) rfl rfl (by omega) (by omega) (qf (ii (((k + 1 : Nat) : Int))) rfl (qb ?_))))))
  exact ⟨k + 1, _, FLe.refl _, rF, ⟨rfl, rfl, rfl, ⟨⟩⟩, sR, ⟨rfl, (by (try dsimp only) <;> omega), (fun i hi => (Nat.lt_or_ge i k).elim (fun h => hall i h) (fun h => by obtain rfl : i = k := (by omega); first | assumption | exact Classical.not_not.1 (by assumption)))⟩, (by omega)⟩
 refine jb (qo (qo (qI (qc (qa (qf (.bool (true)) rfl (qb (qv (qp (L' := L) [.bool (true)] (.bool (true)) (.tmp rfl .nil) rfl rF rF sR ?_)))))))))
 exact ⟨(vB (decide_eq_true (ext_any ((0, [], [], []) : NodeT) (by omega) (fun i hi => hall i (by omega))))), rfl, rfl⟩

/- laws.eqProof -/
theorem eqProof_spec {F : FH} {L : List HP} {av : Value} {a : List NodeT} (ha : NodesF F av a) {bv : Value} {b : List NodeT} (hb : NodesF F bv b) (hal : a.length ≤ 9223372036854775807) (hbd : ∀ i, i < a.length → (a.getD i (0, [], [], [])).2.1.length ≤ 9223372036854775807 ∧ (a.getD i (0, [], [], [])).2.2.1.length ≤ 9223372036854775807 ∧ (∀ q, q < (a.getD i (0, [], [], [])).2.2.1.length → ((a.getD i (0, [], [], [])).2.2.1.getD q []).length ≤ 9223372036854775807) ∧ (a.getD i (0, [], [], [])).2.2.2.length ≤ 9223372036854775807) :
    Does prog 22 [.agg #[av], .agg #[bv]] F (L) (fun v F' L' => (.bool (decide (a = b)) : Value) = v ∧ F = F' ∧ L = L') := by
 refine qz func22 rfl rfl rfl (qc (qa (cX (qW [av] rfl rfl ?_))))
 intro b1
 refine cX (qW [bv] rfl rfl ?_)
 intro b2
 refine qf (.bool (false)) rfl (qb (qc (qc (qa (cX (qk (0) jK rfl sizeOf51 (by decide) rfl rfl (cX (qh isAgg51 rfl (Rd.own [_] rfl rfl) (cX (qk (0) jK rfl sizeOf51 (by decide) rfl rfl (cX (qh isAgg51 rfl (Rd.own [] rfl rfl) (cX (qn (args := [av, bv]) call87 rfl (eqNodeS_spec ha hb (hal := (by first | assumption | rfl | omega | simp)) (hbd := (by first | assumption | rfl | omega | simp))) ?_))))))))))))))
 rintro _ _ _ _ ⟨rfl, rfl, rfl⟩
 refine cX (jH rfl (qb ?_))
 refine qx (p := ¬(a = b)) rfl (fun h1 => ?_) (fun h1 => ?_)
 ·refine qc (qa (qf (.bool (false)) rfl (qb (qv (ql (qp (L' := L) [.bool (false)] (.bool (false)) (.tmp rfl .nil) rfl rF rF (sD (sD sR)) ?_))))))
  exact ⟨(vB (decide_eq_false (by assumption))), rfl, rfl⟩
 refine qw (qc (qa (qf (.bool (true)) rfl (qb (qv (qp (L' := L) [.bool (true)] (.bool (true)) (.tmp rfl .nil) rfl rF rF (sD (sD sR)) ?_))))))
 exact ⟨(vB (decide_eq_true (by first | assumption | exact Classical.not_not.1 (by assumption)))), rfl, rfl⟩

/- laws.heldNodeS -/
theorem heldNodeS_spec {F : FH} {L : List HP} {xv : Value} {x : List NodeT} (hx : NodesF F xv x) {z : Int} (hzb : 0 ≤ z ∧ z + ((x.flatMap flatNd).length : Int) ≤ 9000000000) (hxl : x.length ≤ 4000000) (hxt : ∀ i, i < x.length → (x.getD i (0, [], [], [])).2.2.1.length ≤ 4000000) :
    Does prog 91 [xv, ii (z)] F (L) (fun v F' L' => (ii (heldF (x.flatMap flatNd) z) : Value) = v ∧ F = F' ∧ L = L') := by
 refine qz func91 rfl rfl rfl (qc (qa (qf (ii (0)) rfl (qb (qc (qc (qa (qf (ii (0)) rfl (qb (qG (jc (α := Nat) (fun k => [(0, xv), (1, ii (heldF ((x.take k).flatMap flatNd) z)), (5, ii ((k : Int)))]) (fun k => L) (fun k F' => F = F' ∧ (k ≤ x.length) ∧ (0 ≤ heldF ((x.take k).flatMap flatNd) z)) (fun k => x.length - k) 0 ⟨rfl, (show Value.int .i64 z = ii (heldF ((x.take 0).flatMap flatNd) z) from congrArg (Value.int .i64) (by simp [heldF_nil])), rfl, ⟨⟩⟩ sR ⟨rfl, (by (try dsimp only) <;> omega), (by simp [heldF_nil]; omega)⟩ ?_)))))))))))
 rintro k rE _ _ ⟨rfl, hk, hnn⟩
 show X _ _ _ _ (envs [(0, xv), (1, ii (heldF ((x.take k).flatMap flatNd) z)), (5, ii ((k : Int)))] rE) _ (L)
 have hhp := heldF_pos (a := (x.take k).flatMap flatNd) (k := z) (by omega)
 have htl := fun (h : k < x.length) => flat_take_le (f := flatNd) (l := x) ((0, [], [], []) : NodeT) h
 have hnx := fun (h : k < x.length) => held_next (f := flatNd) (l := x) (k := k) ((0, [], [], []) : NodeT) hzb.1 h (by omega)
 have hfe := flatNd_eq (x.getD k (0, [], [], []))
 have hr1 := heldF_range (xs := (x.getD k (0, [], [], [])).2.1) (k := heldF ((x.take k).flatMap flatNd) z + 1) (by omega)
 have hr2 : 0 ≤ heldF (x.getD k (0, [], [], [])).2.1 (heldF ((x.take k).flatMap flatNd) z + 1) → _ := fun h => heldF_range (xs := (x.getD k (0, [], [], [])).2.2.1.flatMap flatRow) (k := heldF (x.getD k (0, [], [], [])).2.1 (heldF ((x.take k).flatMap flatNd) z + 1)) h
 have hr3 : 0 ≤ heldF ((x.getD k (0, [], [], [])).2.2.1.flatMap flatRow) (heldF (x.getD k (0, [], [], [])).2.1 (heldF ((x.take k).flatMap flatNd) z + 1)) → _ := fun h => heldF_range (xs := (x.getD k (0, [], [], [])).2.2.2) (k := heldF ((x.getD k (0, [], [], [])).2.2.1.flatMap flatRow) (heldF (x.getD k (0, [], [], [])).2.1 (heldF ((x.take k).flatMap flatNd) z + 1))) h
 refine qc (qc (qa (qd (ii ((k : Int))) rfl (qd (xv) rfl (cX (qA jt rfl hx.slv (cX (qT rfl rfl (qb ?_)))))))))
 refine qx (p := (k : Int) < (x.length : Int)) rfl (fun h1 => ?_) (fun h1 => ?_)
 ·refine qw (qc (qG (qc (qc (qa (qd (xv) rfl (qd (ii ((k : Int))) rfl (cX (qy k jt jF rfl rfl rfl hx.slv (by omega) rfl (cX (jA (k * 4) qZ rfl qJ (by decide) rfl rfl ?_)))))))))))
  obtain ⟨a1, a2, a3, ha1, ha2, ha3, hrg1, hq1⟩ := hx.rd (i := k) (by omega)
  refine cX (qh jn rfl (hrg1 _ 0 _ rfl) (qd (ii (heldF ((x.take k).flatMap flatNd) z)) rfl (cX (XOp.neq rfl rfl (qb ?_)))))
  refine qx (p := ((x.getD k (0, [], [], [])).1 : Int) ≠ heldF ((x.take k).flatMap flatNd) z) rfl (fun h2 => ?_) (fun h2 => ?_)
  ·refine qc (qa (qf (ii (-1)) rfl (qb (qv (ql (qF (ql (ql (qF (ql (qp (L' := L) [ii (-1)] (ii (-1)) (.tmp rfl .nil) rfl rF rF sR ?_)))))))))))
   exact ⟨(vI (by exact held_fail (k := k) ((0, [], [], []) : NodeT) hzb.1 (by omega) (by rw [hnx (by omega), heldNd hnn, if_neg (by assumption)]; omega))), rfl, rfl⟩
  refine qw (qc (qa (qd (ii (heldF ((x.take k).flatMap flatNd) z)) rfl (cX (qN ((heldF ((x.take k).flatMap flatNd) z) + 1) rfl rfl (by omega) (by omega) (qf (ii ((heldF ((x.take k).flatMap flatNd) z) + 1)) rfl (qb (qc (qa (qd (xv) rfl (qd (ii ((k : Int))) rfl (cX (qy k jt jF rfl rfl rfl hx.slv (by omega) rfl (cX (jA (k * 4 + 1) qZ rfl qt (by decide) rfl rfl (cX (qh qM rfl (hrg1 _ 1 _ rfl) ?_)))))))))))))))))
  refine qd (ii ((heldF ((x.take k).flatMap flatNd) z) + 1)) rfl (cX (qn (args := [a1, ii ((heldF ((x.take k).flatMap flatNd) z) + 1)]) call198 rfl (heldInt64S_spec (z := (heldF ((x.take k).flatMap flatNd) z) + 1) ha1 (hzb := (by first | assumption | rfl | omega | simp))) ?_))
  rintro _ _ _ _ ⟨rfl, rfl, rfl⟩
  refine qf (ii (heldF ((x.getD k (0, [], [], [])).2.1) ((heldF ((x.take k).flatMap flatNd) z) + 1))) rfl (qb (qc (qc (qa (qd (ii (heldF ((x.getD k (0, [], [], [])).2.1) ((heldF ((x.take k).flatMap flatNd) z) + 1))) rfl (cX (qT rfl rfl (qb ?_))))))))
  refine qx (p := (heldF ((x.getD k (0, [], [], [])).2.1) ((heldF ((x.take k).flatMap flatNd) z) + 1) : Int) < 0) rfl (fun h3 => ?_) (fun h3 => ?_)
  ·refine qc (qa (qf (ii (-1)) rfl (qb (qv (ql (qF (ql (ql (qF (ql (qp (L' := L) [ii (-1)] (ii (-1)) (.tmp rfl .nil) rfl rF rF sR ?_)))))))))))
   exact ⟨(vI (by exact held_fail (k := k) ((0, [], [], []) : NodeT) hzb.1 (by omega) (by rw [hnx (by omega), heldNd hnn, if_pos (by first | assumption | exact Classical.not_not.1 (by assumption)), if_pos (by omega)]; omega))), rfl, rfl⟩
  refine qw (qc (qa (qd (xv) rfl (qd (ii ((k : Int))) rfl (cX (qy k jt jF rfl rfl rfl hx.slv (by omega) rfl (cX (jA (k * 4 + 2) qZ rfl qP (by decide) rfl rfl (cX (qh jg rfl (hrg1 _ 2 _ rfl) (qd (ii (heldF ((x.getD k (0, [], [], [])).2.1) ((heldF ((x.take k).flatMap flatNd) z) + 1))) rfl (cX (qn (args := [a2, ii (heldF ((x.getD k (0, [], [], [])).2.1) ((heldF ((x.take k).flatMap flatNd) z) + 1))]) call199 rfl (heldInt64SS_spec (z := heldF ((x.getD k (0, [], [], [])).2.1) ((heldF ((x.take k).flatMap flatNd) z) + 1)) ha2 (hzb := (by constructor <;> omega)) (hxl := (hxt k (by omega)))) ?_)))))))))))))
  rintro _ _ _ _ ⟨rfl, rfl, rfl⟩
  refine qf (ii (heldF (((x.getD k (0, [], [], [])).2.2.1).flatMap flatRow) (heldF ((x.getD k (0, [], [], [])).2.1) ((heldF ((x.take k).flatMap flatNd) z) + 1)))) rfl (qb (qc (qc (qa (qd (ii (heldF (((x.getD k (0, [], [], [])).2.2.1).flatMap flatRow) (heldF ((x.getD k (0, [], [], [])).2.1) ((heldF ((x.take k).flatMap flatNd) z) + 1)))) rfl (cX (qT rfl rfl (qb ?_))))))))
  refine qx (p := (heldF (((x.getD k (0, [], [], [])).2.2.1).flatMap flatRow) (heldF ((x.getD k (0, [], [], [])).2.1) ((heldF ((x.take k).flatMap flatNd) z) + 1)) : Int) < 0) rfl (fun h4 => ?_) (fun h4 => ?_)
  ·refine qc (qa (qf (ii (-1)) rfl (qb (qv (ql (qF (ql (ql (qF (ql (qp (L' := L) [ii (-1)] (ii (-1)) (.tmp rfl .nil) rfl rF rF sR ?_)))))))))))
   exact ⟨(vI (by exact held_fail (k := k) ((0, [], [], []) : NodeT) hzb.1 (by omega) (by rw [hnx (by omega), heldNd hnn, if_pos (by first | assumption | exact Classical.not_not.1 (by assumption)), if_neg (by omega), if_pos (by omega)]; omega))), rfl, rfl⟩
  refine qw (qc (qa (qd (xv) rfl (qd (ii ((k : Int))) rfl (cX (qy k jt jF rfl rfl rfl hx.slv (by omega) rfl (cX (jA (k * 4 + 3) qZ rfl qt (by decide) rfl rfl (cX (qh qM rfl (hrg1 _ 3 _ rfl) (qd (ii (heldF (((x.getD k (0, [], [], [])).2.2.1).flatMap flatRow) (heldF ((x.getD k (0, [], [], [])).2.1) ((heldF ((x.take k).flatMap flatNd) z) + 1)))) rfl (cX (qn (args := [a3, ii (heldF (((x.getD k (0, [], [], [])).2.2.1).flatMap flatRow) (heldF ((x.getD k (0, [], [], [])).2.1) ((heldF ((x.take k).flatMap flatNd) z) + 1)))]) call198 rfl (heldInt64S_spec (z := heldF (((x.getD k (0, [], [], [])).2.2.1).flatMap flatRow) (heldF ((x.getD k (0, [], [], [])).2.1) ((heldF ((x.take k).flatMap flatNd) z) + 1))) ha3 (hzb := (by first | assumption | rfl | omega | simp))) ?_)))))))))))))
  rintro _ _ _ _ ⟨rfl, rfl, rfl⟩
  refine qf (ii (heldF ((x.getD k (0, [], [], [])).2.2.2) (heldF (((x.getD k (0, [], [], [])).2.2.1).flatMap flatRow) (heldF ((x.getD k (0, [], [], [])).2.1) ((heldF ((x.take k).flatMap flatNd) z) + 1))))) rfl (qb (qc (qa (qd (ii (heldF ((x.getD k (0, [], [], [])).2.2.2) (heldF (((x.getD k (0, [], [], [])).2.2.1).flatMap flatRow) (heldF ((x.getD k (0, [], [], [])).2.1) ((heldF ((x.take k).flatMap flatNd) z) + 1))))) rfl (cX (qT rfl rfl (qb ?_)))))))
  refine qx (p := (heldF ((x.getD k (0, [], [], [])).2.2.2) (heldF (((x.getD k (0, [], [], [])).2.2.1).flatMap flatRow) (heldF ((x.getD k (0, [], [], [])).2.1) ((heldF ((x.take k).flatMap flatNd) z) + 1))) : Int) < 0) rfl (fun h5 => ?_) (fun h5 => ?_)
  ·refine qc (qa (qf (ii (-1)) rfl (qb (qv (qF (ql (ql (qF (ql (qp (L' := L) [ii (-1)] (ii (-1)) (.tmp rfl .nil) rfl rF rF sR ?_))))))))))
   exact ⟨(vI (by exact held_fail (k := k) ((0, [], [], []) : NodeT) hzb.1 (by omega) (by rw [hnx (by omega), heldNd hnn, if_pos (by first | assumption | exact Classical.not_not.1 (by assumption)), if_neg (by omega), if_neg (by omega)]; omega))), rfl, rfl⟩
  refine qw (qa (qd (ii ((k : Int))) rfl (cX (qN (((k + 1 : Nat) : Int)) rfl rfl (by omega) (by omega) (qf (ii (((k + 1 : Nat) : Int))) rfl (qb ?_))))))
  exact ⟨k + 1, _, FLe.refl _, rF, ⟨rfl, (vI (by rw [hnx (by omega), heldNd hnn, if_pos (by first | assumption | exact Classical.not_not.1 (by assumption)), if_neg (by omega), if_neg (by omega)])), rfl, ⟨⟩⟩, sR, ⟨rfl, (by (try dsimp only) <;> omega), (by (try dsimp only); rw [hnx (by omega), heldNd hnn, if_pos (by first | assumption | exact Classical.not_not.1 (by assumption)), if_neg (by omega), if_neg (by omega)]; omega)⟩, (by omega)⟩
 refine jb (qo (qo (qI (qc (qa (qd (ii (heldF ((x.take k).flatMap flatNd) z)) rfl (qf (ii (heldF ((x.take k).flatMap flatNd) z)) rfl (qb (qv (qp (L' := L) [ii (heldF ((x.take k).flatMap flatNd) z)] (ii (heldF ((x.take k).flatMap flatNd) z)) (.tmp rfl .nil) rfl rF rF sR ?_))))))))))
 exact ⟨(vI (by rw [List.take_of_length_le (by omega)])), rfl, rfl⟩

/- laws.heldProof -/
theorem heldProof_spec {F : FH} {L : List HP} {xv : Value} {x : List NodeT} (hx : NodesF F xv x) {z : Int} (hzb : 0 ≤ z ∧ z + ((x.flatMap flatNd).length : Int) ≤ 9000000000) (hxl : x.length ≤ 4000000) (hxt : ∀ i, i < x.length → (x.getD i (0, [], [], [])).2.2.1.length ≤ 4000000) :
    Does prog 25 [.agg #[xv], ii (z)] F (L) (fun v F' L' => (ii (heldF (x.flatMap flatNd) z) : Value) = v ∧ F = F' ∧ L = L') := by
 refine qz func25 rfl rfl rfl ?_
 have hh1 := heldF_range (xs := x.flatMap flatNd) hzb.1
 refine qc (qa (cX (qW [xv] rfl rfl ?_)))
 intro b1
 refine qf (ii (0)) rfl (qb (qc (qa (cX (qk (0) jK rfl sizeOf51 (by decide) rfl rfl (cX (qh isAgg51 rfl (Rd.own [] rfl rfl) (qd (ii (z)) rfl (cX (qn (args := [xv, ii (z)]) call91 rfl (heldNodeS_spec (z := z) hx (hzb := (by first | assumption | rfl | omega | simp)) (hxl := (by first | assumption | rfl | omega | simp)) (hxt := (by first | assumption | rfl | omega | simp))) ?_))))))))))
 rintro _ _ _ _ ⟨rfl, rfl, rfl⟩
 refine qf (ii (heldF (x.flatMap flatNd) z)) rfl (qb (qc (qc (qa (qd (ii (heldF (x.flatMap flatNd) z)) rfl (cX (qT rfl rfl (qb ?_))))))))
 refine qx (p := (heldF (x.flatMap flatNd) z : Int) < 0) rfl (fun h1 => ?_) (fun h1 => ?_)
 ·refine qc (qa (qf (ii (-1)) rfl (qb (qv (ql (qp (L' := L) [ii (-1)] (ii (-1)) (.tmp rfl .nil) rfl rF rF (sD sR) ?_))))))
  exact ⟨(vI (by have := hh1.1; omega)), rfl, rfl⟩
 refine qw (qc (qa (qd (ii (heldF (x.flatMap flatNd) z)) rfl (qf (ii (heldF (x.flatMap flatNd) z)) rfl (qb (qv (qp (L' := L) [ii (heldF (x.flatMap flatNd) z)] (ii (heldF (x.flatMap flatNd) z)) (.tmp rfl .nil) rfl rF rF (sD sR) ?_)))))))
 exact ⟨rfl, rfl, rfl⟩

/- laws.markNodeS -/
theorem markNodeS_spec {F : FH} {L : List HP} {xv : Value} {x : List NodeT} {z : Int} (hz : 0 ≤ z ∧ z + (((x.flatMap flatNd)).length : Int) ≤ 9000000000) (hnx : x.length ≤ 4000000) (hcn : ∀ i, i < x.length → (x.getD i (0, [], [], [])).2.2.1.length ≤ 4000000) :
    Does prog 90 [xv, ii (z)] F (nodesD 2 22 145 xv x :: L) (fun v F' L' => ∃ x' : List NodeT, ((x'.flatMap flatNd)) = iota z ((x.flatMap flatNd)).length ∧ (x'.length = x.length ∧ ∀ i, i < x'.length → (x'.getD i (0, [], [], [])).2.2.1.length = (x.getD i (0, [], [], [])).2.2.1.length) ∧ (ii (z + (((x.flatMap flatNd)).length : Int)) : Value) = v ∧ F = F' ∧ nodesD 2 22 145 xv x' :: L = L') := by
 refine qz func90 rfl rfl rfl (X.openDeep (fun cs Ls hd => (X.weaken (qK (A := [_])) ?_)))
 show X _ _ _ _ _ _ (star Ls :: slH 145 4 xv x.length cs :: L)
 refine qc (qa (qf (ii (0)) rfl (qb (qc (qc (qa (qf (ii (0)) rfl (qb (qG (jc (α := Nat × List NodeT × List HP × List Value) (fun xQ => [(0, xv), (1, ii (z + ((((x.take xQ.1).flatMap flatNd).length : Nat) : Int))), (5, ii (((xQ.1 : Nat) : Int)))]) (fun xQ => star xQ.2.2.1 :: slH 145 4 xv x.length xQ.2.2.2 :: L) (fun xQ F' => F = F' ∧ (DeepL 4 (NodeO 22 2) xQ.2.2.2 (xQ.2.1 ++ x.drop xQ.1) xQ.2.2.1) ∧ (xQ.1 ≤ x.length) ∧ (xQ.2.1.length = xQ.1) ∧ (∀ i, i < xQ.2.1.length → (xQ.2.1.getD i (0, [], [], [])).2.2.1.length = (x.getD i (0, [], [], [])).2.2.1.length) ∧ (xQ.2.1.flatMap flatNd = iota z ((x.take xQ.1).flatMap flatNd).length)) (fun xQ => x.length - xQ.1) (0, [], Ls, cs) ⟨rfl, (show Value.int .i64 z = ii (z + ((((x.take 0).flatMap flatNd).length : Nat) : Int)) from congrArg (Value.int .i64) (by simp)), rfl, ⟨⟩⟩ (sC (sC sR)) ⟨rfl, (hd), (by (try dsimp only) <;> omega), (rfl), (fun i hi => absurd hi (by simp)), (rfl)⟩ ?_))))))))))
 rintro ⟨k, os, Ls, cs⟩ rE _ _ ⟨rfl, hd, hk, hol, hterm, hfl⟩
 show X _ _ _ _ (envs [(0, xv), (1, ii (z + ((((x.take k).flatMap flatNd).length : Nat) : Int))), (5, ii ((k : Int)))] rE) _ (star Ls :: slH 145 4 xv x.length cs :: L)
 dsimp only at hd hk hol hterm hfl
 have htl := fun (h : k < x.length) => flat_take_le (f := flatNd) (l := x) ((0, [], [], []) : NodeT) h
 have hlen : (os ++ x.drop k).length = x.length := by rw [List.length_append, List.length_drop]; omega
 refine qc (qc (qa (qd (ii ((k : Int))) rfl (qd (xv) rfl (cX (qA jt rfl (SlV.own [_] rfl) (cX (qT rfl rfl (qb ?_)))))))))
 refine qx (p := (k : Int) < (x.length : Int)) rfl (fun h1 => ?_) (fun h1 => ?_)
 ·refine qw (qc (qG (qc (qa ?_))))
  have hkx : k < x.length := by omega
  have htl2 := htl hkx
  obtain ⟨A, K, B, es, hLs, hel, hR, hg, hput⟩ := hd.at (d := ((0, [], [], []) : NodeT)) (k := k) (by omega)
  rw [app_getD hol] at hR
  have hself := splice_self hel hg (hd.bound (k := k) (by omega))
  obtain ⟨a, b, c, he, hK⟩ := hR
  subst he hK
  have hfp : (flatNd (x.getD k (0, [], [], []))).length = 1 + (x.getD k (0, [], [], [])).2.1.length + ((x.getD k (0, [], [], [])).2.2.1.flatMap flatRow).length + (x.getD k (0, [], [], [])).2.2.2.length := flatNd_eq _
  have hcnk := hcn k hkx
  have hbd := hd.bound (k := k) (by omega)
  subst hLs
  refine jT (Sub.pull (A := A)) ?_
  show XL _ _ _ _ _ _ _ (intsH 2 a ((x.getD k (0, [], [], [])).2.1) :: rowsD 2 22 b ((x.getD k (0, [], [], [])).2.2.1) :: intsH 2 c ((x.getD k (0, [], [], [])).2.2.2) :: star (A ++ B) :: slH 145 4 xv x.length cs :: L)
  skip
  refine qd (xv) rfl (qd (ii ((k : Int))) rfl (qd (ii (z + ((((x.take k).flatMap flatNd).length : Nat) : Int))) rfl (cX (qy k jt jF rfl rfl rfl (SlV.own [_, _, _, _] rfl) (by omega) rfl (cX (jA (k * 4) qZ rfl qJ (by decide) rfl rfl (cX (XOp.storeS (i := k * 4) (cs := cs) [_, _, _, _] _ qJ rfl rfl rfl rfl (by (try simp only [List.length_set]); omega) (qb (qc (qa (qd (ii (z + ((((x.take k).flatMap flatNd).length : Nat) : Int))) rfl (cX (qN ((z + ((((x.take k).flatMap flatNd).length : Nat) : Int)) + 1) rfl rfl (by omega) (by omega) (qf (ii ((z + ((((x.take k).flatMap flatNd).length : Nat) : Int)) + 1)) rfl ?_)))))))))))))))
  refine qb (qc (qa (qd (xv) rfl (qd (ii ((k : Int))) rfl (cX (qy k jt jF rfl rfl rfl (SlV.own [_, _, _, _] rfl) (by omega) rfl (cX (jA (k * 4 + 1) qZ rfl qt (by decide) rfl rfl ?_))))))))
  refine cX (qh qM rfl (Rd.sl [_, _, _, _] rfl (by rw [List.getElem?_set_ne (by omega)]; exact hg 1 _ rfl)) ?_)
  refine qd (ii ((z + ((((x.take k).flatMap flatNd).length : Nat) : Int)) + 1)) rfl (cX (qn (args := [a, ii ((z + ((((x.take k).flatMap flatNd).length : Nat) : Int)) + 1)]) call196 rfl (markInt64S_spec (by omega)) ?_))
  rintro _ _ _ _ ⟨m1, hm1, rfl, rfl, rfl⟩
  have hml1 := congrArg List.length hm1
  rw [iota_len] at hml1
  try simp only [List.length_append] at hml1
  refine qf (ii (((z + ((((x.take k).flatMap flatNd).length : Nat) : Int)) + 1) + (((((x.getD k (0, [], [], [])).2.1))).length : Int))) rfl (qb (qc (qa (qd (xv) rfl (qd (ii ((k : Int))) rfl (cX (qy k jt jF rfl rfl rfl (SlV.own [_, _, _, _] rfl) (by omega) rfl (cX (jA (k * 4 + 2) qZ rfl qP (by decide) rfl rfl ?_)))))))))
  refine cX (qh jg rfl (Rd.sl [_, _, _, _] rfl (by rw [List.getElem?_set_ne (by omega)]; exact hg 2 _ rfl)) ?_)
  refine qd (ii (((z + ((((x.take k).flatMap flatNd).length : Nat) : Int)) + 1) + (((((x.getD k (0, [], [], [])).2.1))).length : Int))) rfl (jT (qK (A := [_])) ?_)
  show XL _ _ _ _ _ _ _ (rowsD 2 22 b ((x.getD k (0, [], [], [])).2.2.1) :: intsH 2 a m1 :: intsH 2 c ((x.getD k (0, [], [], [])).2.2.2) :: star (A ++ B) :: slH 145 4 xv x.length ((cs.set (k * 4) (ii (z + ((((x.take k).flatMap flatNd).length : Nat) : Int))))) :: L)
  refine cX (qn (args := [b, ii (((z + ((((x.take k).flatMap flatNd).length : Nat) : Int)) + 1) + (((((x.getD k (0, [], [], [])).2.1))).length : Int))]) call197 rfl (markInt64SS_spec (by omega) (by omega)) ?_)
  rintro _ _ _ _ ⟨m2, hm2, hk1, rfl, rfl, rfl⟩
  have hml2 := congrArg List.length hm2
  rw [iota_len] at hml2
  try simp only [List.length_append] at hml2
  refine qf (ii ((((z + ((((x.take k).flatMap flatNd).length : Nat) : Int)) + 1) + (((((x.getD k (0, [], [], [])).2.1))).length : Int)) + (((((x.getD k (0, [], [], [])).2.2.1).flatMap flatRow)).length : Int))) rfl (qb (qa (qd (xv) rfl (qd (ii ((k : Int))) rfl (cX (qy k jt jF rfl rfl rfl (SlV.own [_, _, _, _] rfl) (by omega) rfl (cX (jA (k * 4 + 3) qZ rfl qt (by decide) rfl rfl ?_))))))))
  refine cX (qh qM rfl (Rd.sl [_, _, _, _] rfl (by rw [List.getElem?_set_ne (by omega)]; exact hg 3 _ rfl)) ?_)
  refine qd (ii ((((z + ((((x.take k).flatMap flatNd).length : Nat) : Int)) + 1) + (((((x.getD k (0, [], [], [])).2.1))).length : Int)) + (((((x.getD k (0, [], [], [])).2.2.1).flatMap flatRow)).length : Int))) rfl (jT (qK (A := [_, _])) ?_)
  show XL _ _ _ _ _ _ _ (intsH 2 c ((x.getD k (0, [], [], [])).2.2.2) :: rowsD 2 22 b m2 :: intsH 2 a m1 :: star (A ++ B) :: slH 145 4 xv x.length ((cs.set (k * 4) (ii (z + ((((x.take k).flatMap flatNd).length : Nat) : Int))))) :: L)
  refine cX (qn (args := [c, ii ((((z + ((((x.take k).flatMap flatNd).length : Nat) : Int)) + 1) + (((((x.getD k (0, [], [], [])).2.1))).length : Int)) + (((((x.getD k (0, [], [], [])).2.2.1).flatMap flatRow)).length : Int))]) call196 rfl (markInt64S_spec (by omega)) ?_)
  rintro _ _ _ _ ⟨m3, hm3, rfl, rfl, rfl⟩
  have hml3 := congrArg List.length hm3
  rw [iota_len] at hml3
  try simp only [List.length_append] at hml3
  refine qf (ii (((((z + ((((x.take k).flatMap flatNd).length : Nat) : Int)) + 1) + (((((x.getD k (0, [], [], [])).2.1))).length : Int)) + (((((x.getD k (0, [], [], [])).2.2.1).flatMap flatRow)).length : Int)) + (((((x.getD k (0, [], [], [])).2.2.2))).length : Int))) rfl (qb (qa (jT (qQ (qK (A := [_, _, _, _])) (qQ (qK (A := [_, _, _, _])) (qQ (qK (A := [_, _])) (qQ (qK (A := [_, _, _])) (qQ (qK (A := [_, _, _, _])) (sC (sC (sC (sC (sC sR)))))))))) (jT (Sub.push (A := A) (K := [intsH 2 a m1, rowsD 2 22 b m2, intsH 2 c m3]) (B := B)) ?_))))
  show XL _ _ _ _ _ _ _ (star (A ++ ([intsH 2 a m1, rowsD 2 22 b m2, intsH 2 c m3] ++ B)) :: slH 145 4 xv x.length ((cs.set (k * 4) (ii (z + ((((x.take k).flatMap flatNd).length : Nat) : Int))))) :: L)
  have hdn := hput [ii (z + ((((x.take k).flatMap flatNd).length : Nat) : Int)), a, b, c] ((z + ((((x.take k).flatMap flatNd).length : Nat) : Int)), m1, m2, m3) _ rfl ⟨a, b, c, rfl, rfl⟩
  have hsh := set_head (s := 4) (r := [a, b, c]) (a' := ii (z + ((((x.take k).flatMap flatNd).length : Nat) : Int))) rfl rfl hself hbd
  rw [← hsh, app_set hol hkx] at hdn
  have hfx : flatNd ((z + ((((x.take k).flatMap flatNd).length : Nat) : Int)), m1, m2, m3) = iota (z + ((((x.take k).flatMap flatNd).length : Nat) : Int)) (flatNd (x.getD k (0, [], [], []))).length := flatNd_iota hm1 hm2 hm3 hfp
  have hnext : (z + ((((x.take k).flatMap flatNd).length : Nat) : Int)) + 1 + ((x.getD k (0, [], [], [])).2.1.length : Int) + (((x.getD k (0, [], [], [])).2.2.1.flatMap flatRow).length : Int) + ((x.getD k (0, [], [], [])).2.2.2.length : Int) = z + ((((x.take (k + 1)).flatMap flatNd).length : Nat) : Int) := by rw [flatMap_take_succ flatNd ((0, [], [], []) : NodeT) hkx, List.length_append, hfp]; omega
  skip
  refine qd (ii ((k : Int))) rfl (cX (qN (((k + 1 : Nat) : Int)) rfl rfl (by omega) (by omega) (qf (ii (((k + 1 : Nat) : Int))) rfl (qb ?_))))
  exact ⟨(k + 1, os ++ [((z + ((((x.take k).flatMap flatNd).length : Nat) : Int)), m1, m2, m3)], A ++ ([intsH 2 a m1, rowsD 2 22 b m2, intsH 2 c m3] ++ B), (cs.set (k * 4) (ii (z + ((((x.take k).flatMap flatNd).length : Nat) : Int))))), _, FLe.refl _, rF, ⟨rfl, (vI hnext), rfl, ⟨⟩⟩, (sC (sC sR)), ⟨rfl, (hdn), (by (try dsimp only) <;> omega), (by simp [hol]), (nodeTerms_snoc (el := ((z + ((((x.take k).flatMap flatNd).length : Nat) : Int)), m1, m2, m3)) hterm hol (by assumption)), (marked (d := ((0, [], [], []) : NodeT)) (by omega) hfl hfx)⟩, (by omega)⟩
 refine jb (qo (qo (qI (qc (qa (qd (ii (z + ((((x.take k).flatMap flatNd).length : Nat) : Int))) rfl (qf (ii (z + ((((x.take k).flatMap flatNd).length : Nat) : Int))) rfl (qb (qv (qp (L' := nodesD 2 22 145 xv os :: L) [ii (z + ((((x.take k).flatMap flatNd).length : Nat) : Int))] (ii (z + ((((x.take k).flatMap flatNd).length : Nat) : Int))) (.tmp rfl .nil) rfl rF rF (qQ (qK (A := [_])) (Sub.closeDeep (by rw [app_all (by omega)] at hd; exact hd) (by omega))) ?_))))))))))
 rw [app_all (by omega)] at hd
 have hkl : k = x.length := by omega
 exact ⟨os, by rw [hfl, hkl, List.take_length], ⟨by omega, hterm⟩, by rw [hkl, List.take_length], rfl, rfl⟩

/- laws.markProof -/
theorem markProof_spec {F : FH} {L : List HP} {yv : Value} {y : List NodeT} {z : Int} (hz : 0 ≤ z ∧ z + (((y.flatMap flatNd)).length : Int) ≤ 9000000000) (hny : y.length ≤ 4000000) (hcn : ∀ i, i < y.length → (y.getD i (0, [], [], [])).2.2.1.length ≤ 4000000) :
    Does prog 24 [.agg #[yv], ii (z)] F (nodesD 2 22 145 yv y :: L) (fun v F' L' => ∃ y' : List NodeT, ((y'.flatMap flatNd)) = iota z ((y.flatMap flatNd)).length ∧ (y'.length = y.length ∧ ∀ i, i < y'.length → (y'.getD i (0, [], [], [])).2.2.1.length = (y.getD i (0, [], [], [])).2.2.1.length) ∧ (ii (z + (((y.flatMap flatNd)).length : Int)) : Value) = v ∧ F = F' ∧ nodesD 2 22 145 yv y' :: L = L') := by
 refine qz func24 rfl rfl rfl (qc (qa (cX (qW [yv] rfl rfl ?_))))
 intro b1
 refine qf (ii (0)) rfl (qb (qc (qa (cX (qk (0) jK rfl sizeOf51 (by decide) rfl rfl (cX (qh isAgg51 rfl (Rd.own [] rfl rfl) (qd (ii (z)) rfl (jT (qK (A := [_])) ?_)))))))))
 show XL _ _ _ _ _ _ _ (nodesD 2 22 145 yv y :: cellsH b1 [yv] 53 :: L)
 refine cX (qn (args := [yv, ii (z)]) call90 rfl (markNodeS_spec (by omega) (by omega) (by first | assumption | exact hcn | exact hcnls)) ?_)
 rintro _ _ _ _ ⟨m1, hm1, hk1, rfl, rfl, rfl⟩
 have hml1 := congrArg List.length hm1
 rw [iota_len] at hml1
 try simp only [List.length_append] at hml1
 refine qf (ii (z + (((y.flatMap flatNd)).length : Int))) rfl (qb (qc (qa (qd (ii (z + (((y.flatMap flatNd)).length : Int))) rfl (qf (ii (z + (((y.flatMap flatNd)).length : Int))) rfl (qb (qv (qp (L' := nodesD 2 22 145 yv m1 :: L) [ii (z + (((y.flatMap flatNd)).length : Int))] (ii (z + (((y.flatMap flatNd)).length : Int))) (.tmp rfl .nil) rfl rF rF (sC (sD sR)) ?_))))))))
 exact ⟨m1, hm1, (by assumption), congrArg (Value.int .i64) (by first | rfl | (simp only [List.length_append]; omega)), rfl, rfl⟩

/- impl.LoopNode$1 -/
theorem LoopNode1_spec {F : FH} {L : List HP} {tv : Value} {t : List Int} (ht : IntsF F tv t) :
    Does prog 190 [tv] F (L) (fun v F' L' => (.bool (decide ((t.length : Int) > 60)) : Value) = v ∧ F = F' ∧ L = L') := by
 refine qz func190 rfl rfl rfl (qc (qa (qf (.bool (false)) rfl (qb (qc (qa (qd (tv) rfl (cX (qA qg rfl ht.slv (cX (jX rfl rfl (qf (.bool (decide (((t.length : Int) : Int) > 60))) rfl (qb (qv (qp (L' := L) [.bool (decide (((t.length : Int) : Int) > 60))] (.bool (decide (((t.length : Int) : Int) > 60))) (.tmp rfl .nil) rfl rF rF sR ?_)))))))))))))))
 exact ⟨rfl, rfl, rfl⟩

/- slices.IndexFunc[[][]int64,[]int64] -/
theorem IndexFuncSz_spec {F : FH} {L : List HP} {usv : Value} {us : List (List Int)} (hus : RowsF F usv us)  (hrw9 : ∀ i, (us.getD i []).length ≤ 60) (hul : us.length ≤ 4000000) :
    Does prog 292 [usv, .func (.func 190) #[] #[]] F (L) (fun v F' L' => (ii (-1) : Value) = v ∧ F = F' ∧ L = L') := by
 refine qz func292 rfl rfl rfl (qc (qa (qf (ii (0)) rfl (qb (qc (qc (qa (qd (usv) rfl (cX (qA qs rfl hus.slv (qd (ii (0)) rfl (qb (qG (jc (α := Nat) (fun k => [(0, usv), (1, .func (.func 190) #[] #[]), (7, ii ((us.length : Int))), (8, ii ((k : Int)))]) (fun k => L) (fun k F' => F = F' ∧ (k ≤ us.length)) (fun k => us.length - k) 0 ⟨rfl, rfl, rfl, rfl, ⟨⟩⟩ sR ⟨rfl, (by omega)⟩ ?_))))))))))))))
 rintro k rE _ _ ⟨rfl, hk⟩
 show X _ _ _ _ (envs [(0, usv), (1, .func (.func 190) #[] #[]), (7, ii ((us.length : Int))), (8, ii ((k : Int)))] rE) _ (L)
 refine qc (qa (cX (qT rfl rfl (qb (qc ?_)))))
 refine qx (p := (k : Int) < (us.length : Int)) rfl (fun h1 => ?_) (fun h1 => ?_)
 ·refine qw (qc (qG (qc (qa (qd (ii ((k : Int))) rfl (qf (ii ((k : Int))) rfl (qb (qc (qa (qd (.func (.func 190) #[] #[]) rfl (qd (usv) rfl (qd (ii ((k : Int))) rfl (cX (qy k qs qt rfl rfl rfl hus.slv (by omega) (Nat.mul_one _) ?_))))))))))))))
  obtain ⟨a1, ha1, hr1⟩ := hus.rd (i := k) (by omega)
  refine cX (qh qM rfl (hr1 _) (cX (XOp.callV (first := []) (captured := []) (args := [a1]) call190 rfl rfl (LoopNode1_spec ha1) ?_)))
  rintro _ _ _ _ ⟨rfl, rfl, rfl⟩
  refine qb ?_
  refine qx (p := (((us.getD k [])).length : Int) > 60) rfl (fun h2 => ?_) (fun h2 => ?_)
  ·exact absurd h2 (by have := hrw9 k; omega)
  refine qw (qa (cX (qN (((k + 1 : Nat) : Int)) rfl rfl (by omega) (by omega) (qd (ii (((k + 1 : Nat) : Int))) rfl (qb ?_)))))
  exact ⟨k + 1, _, FLe.refl _, rF, ⟨rfl, rfl, rfl, rfl, ⟨⟩⟩, sR, ⟨rfl, (by omega)⟩, (by omega)⟩
 refine jb (qo (qo (qI (qc (qa (qf (ii (-1)) rfl (qb (qv (qp (L' := L) [ii (-1)] (ii (-1)) (.tmp rfl .nil) rfl rF rF sR ?_)))))))))
 exact ⟨rfl, rfl, rfl⟩

/- slices.ContainsFunc[[][]int64,[]int64] -/
theorem ContainsFuncSz_spec {F : FH} {L : List HP} {usv : Value} {us : List (List Int)} (hus : RowsF F usv us)  (hrw9 : ∀ i, (us.getD i []).length ≤ 60) (hul : us.length ≤ 4000000) :
    Does prog 189 [usv, .func (.func 190) #[] #[]] F (L) (fun v F' L' => (.bool (false) : Value) = v ∧ F = F' ∧ L = L') := by
 refine qz func189 rfl rfl rfl (qc (qa (qf (.bool (false)) rfl (qb (qc (qa (qd (usv) rfl (qd (.func (.func 190) #[] #[]) rfl (cX (qn (args := [usv, .func (.func 190) #[] #[]]) call292 rfl (IndexFuncSz_spec hus (hrw9 := (by first | assumption | rfl | omega | simp)) (hul := (by first | assumption | rfl | omega | simp))) ?_))))))))))
 rintro _ _ _ _ ⟨rfl, rfl, rfl⟩
 refine cX (jY rfl rfl (qf (.bool (decide ((-1 : Int) ≥ 0))) rfl (qb (qv (qp (L' := L) [.bool (decide ((-1 : Int) ≥ 0))] (.bool (decide ((-1 : Int) ≥ 0))) (.tmp rfl .nil) rfl rF rF sR ?_)))))
 exact ⟨rfl, rfl, rfl⟩

/- impl.LoopNode -/
set_option maxRecDepth 20000 in
theorem LoopNode_spec {F : FH} {L : List HP} {fv : Value} {f : List Int} (hf : IntsF F fv f) {ssv : Value} {ss : List StepT} (hss : StepsF F ssv ss) {p : Int} {sv : Value} {s : List (List Int)} (hs : RowsF F sv s) (hG : LoopG f ss s) :
    Does prog 86 [.agg #[fv, ssv, ii (p), sv]] F (L) (fun v F' L' => ∃ (a : Value), ∃ (b : Value), (.agg #[ii (6), a, b, sN] : Value) = v ∧ (IntsF F' a (p :: numsL ss)) ∧ (RowsF F' b (f :: givesL (plainL s))) ∧ (Fresh F F' (star [intsH 2 a (p :: numsL ss), rowsD 2 22 b (f :: givesL (plainL s))])) ∧ L = L') := by
 refine qz func86 rfl rfl rfl ?_
 have hgl := hG.1
 have hgs := hG.2.1
 have hgw := hG.2.2.1
 have hgr := hG.2.2.2
 have hnl9 := nums_len (ss := ss)
 have hpl9 := plainL_le s
 have hgp := plain_row hgr
 refine qc (qa (cX (qW [fv, ssv, ii (p), sv] rfl rfl ?_)))
 intro b1
 refine cX (qS [ii (0), sN, sN, sN] zeroValue145 rfl ?_)
 intro b2
 refine qb (qc (qc (qa (cX (qk (0) jh rfl jr (by decide) rfl rfl (cX (qq [fv, ssv] isAgg45 jr rfl rfl (Rd.ownN [_] rfl rfl) (cX (qn (args := [.agg #[fv, ssv]]) call188 rfl (walkSized_spec hf hss) ?_)))))))))
 rintro _ _ _ _ ⟨rfl, rfl, rfl⟩
 refine cX (jH rfl (qd (.bool (decide (¬(ss.length ≤ 60 ∧ (1 ≤ f.length ∧ f.length ≤ 60))))) rfl ?_))
 by_cases h1 : ¬(ss.length ≤ 60 ∧ (1 ≤ f.length ∧ f.length ≤ 60))
 ·exact absurd h1 (by omega)
 refine qu (t := 10) rfl (vF h1) (qk (3) jh rfl qR (by decide) rfl rfl (qu (t := 10) rfl (vF h1) (qk (3) qO rfl qP (by decide) rfl rfl (qu (t := 10) rfl (vF h1) (qh jg rfl (Rd.own [_] rfl rfl) (qu (t := 10) rfl (vF h1) (qA qs rfl hs.slv (qu (t := 10) rfl (vF h1) (jX rfl rfl (cX (ja (.bool (decide (((s.length : Int) : Int) > 24))) (vF h1) rfl (qd (.bool (decide (((s.length : Int) : Int) > 24))) rfl ?_))))))))))))
 by_cases h2 : ((s.length : Int) : Int) > 24
 ·exact absurd h2 (by omega)
 refine qu (t := 17) rfl (vF h2) (qk (3) jh rfl qR (by decide) rfl rfl (qu (t := 17) rfl (vF h2) (qk (3) qO rfl qP (by decide) rfl rfl (qu (t := 17) rfl (vF h2) (qh jg rfl (Rd.own [_] rfl rfl) (qu (t := 17) rfl (vF h2) (qn (args := [sv, .func (.func 190) #[] #[]]) call189 rfl (ContainsFuncSz_spec hs (hrw9 := (hgr)) (hul := (by first | assumption | rfl | omega | simp))) ?_)))))))
 rintro _ _ _ _ ⟨rfl, rfl, rfl⟩
 refine cX (ja (.bool (false)) (vF h2) rfl (qb (X.condF rfl (qw (qc ?_)))))
 refine yd [cellsH b2 [ii (0), sN, sN, sN] 145, cellsH b1 [fv, ssv, ii (p), sv] 139] L 15 [[], [], [], [], [], [], [], [], [], [], [], [7], [11], [7, 12]] [[], [0], [1], [], [3], [4], [2, 5], [6], [], [8], [9], [7, 10], [7, 11], [7, 11, 12]] [] (phiG [pe (ptr b1 2), pe (ii (p)), fun FF us v => (v : Value) = v ∧ (IntsF FF v [p]), pe (ptr b1 0), pe (.agg #[fv, ssv]), fun FF us v => ((v) : Value) = v ∧ (IntsF FF (v) (numsL ss)) ∧ (FreshsF F FF (star [intsH 2 (v) (numsL ss)])), fun FF us v => (v : Value) = v ∧ (RowsF FF v ([[p], numsL ss] : List (List Int))), fun FF us v => ((v) : Value) = v ∧ (IntsF FF (v) ((([[p], numsL ss] : List (List Int))).flatten)) ∧ (FrIntsF F FF 2 (v) ((([[p], numsL ss] : List (List Int))).flatten)), pe (ptr b1 0), pe (ptr b1 0), pe fv, fun FF us v => ((v) : Value) = v ∧ (IntsF FF (v) (f)) ∧ (FrIntsF F FF 2 (v) (f)) ∧ (FreshsF F FF (star [intsH 2 ((us.getD 0 undef)) (((([[p], numsL ss] : List (List Int))).flatten)), intsH 2 v ((f))])), fun FF us v => ∃ b, v = .slice (some ⟨b, 0, none⟩) 1 1, fun FF us v => v = (.agg #[ii (6), ((us.getD 0 undef)), (us.getD 1 undef), sN] : Value), fun FF us v => v = ptr (blk v) 0]) (ownL [o0, o0, o0, o0, o0, o0, o0, o0, o0, o0, o0, o0, fun us v => [slH 22 1 v 1 [((us.getD 0 undef))]], o0, fun us v => [cellsH (blk v) [ii (0), sN, sN, sN] 145]]) mixed rfl rfl (by kernel_rfl) (by kernel_rfl) (MonoG.get (m1 (m1 (mC (fun le h => ⟨h.1, h.2.mono le⟩) (m1 (m1 (mC (fun le h => ⟨h.1, h.2.1.mono le, h.2.2.mono le⟩) (mC (fun le h => ⟨h.1, h.2.mono le⟩) (mC (fun le h => ⟨h.1, h.2.1.mono le, h.2.2.mono le⟩) (m1 (m1 (m1 (mC (fun le h => ⟨h.1, h.2.1.mono le, h.2.2.1.mono le, h.2.2.2.mono le⟩) (mC (fun le h => h) (mC (fun le h => h) (mC (fun le h => h) MonoG.nil)))))))))))))))) ?_ ?_
 ·refine gD (fun W Fs R lF z9 => ?_) ?_
  ·refine qj (qk (2) jh rfl qJ (by decide) rfl rfl ?_)
   exact ⟨rfl, rfl⟩
  refine gD (fun W Fs R lF z9 => ?_) ?_
  ·replace hf := hf.mono lF
   replace hss := hss.mono lF
   replace hs := hs.mono lF
   rw [zA 0 (z9 0 rfl)]
   refine qj (qh jn rfl (Rd.own [_] rfl rfl) ?_)
   exact ⟨rfl, rfl⟩
  refine gD (fun W Fs R lF z9 => ?_) ?_
  ·replace hf := hf.mono lF
   replace hss := hss.mono lF
   replace hs := hs.mono lF
   rw [zA 1 (z9 1 rfl)]
   refine qj (jM <| qL (s := 1) [ii (p)] [ii (0)] [(0, [ii (p)])] qg qJ jC rfl (by decide) rfl (.cons rfl CellsAre.nil) rfl ?_)
   intro v4 hv2
   refine ⟨_, _, rfl, fun F2 le2 hz1 => ?_⟩
   replace hf := hf.mono le2
   replace hss := hss.mono le2
   replace hs := hs.mono le2
   have hf1 : IntsF F2 v4 [p] := intsH.fz (xs := [p]) hz1.fz
   exact ⟨⟨rfl, hf1⟩, rfl⟩
  refine gD (fun W Fs R lF z9 => ?_) ?_
  ·refine qj (qk (0) jh rfl jr (by decide) rfl rfl ?_)
   exact ⟨rfl, rfl⟩
  refine gD (fun W Fs R lF z9 => ?_) ?_
  ·replace hf := hf.mono lF
   replace hss := hss.mono lF
   replace hs := hs.mono lF
   rw [zA 3 (z9 3 rfl)]
   refine qj (qq [fv, ssv] isAgg45 jr rfl rfl (Rd.ownN [_] rfl rfl) ?_)
   exact ⟨rfl, rfl⟩
  refine gD (fun W Fs R lF z9 => ?_) ?_
  ·replace hf := hf.mono lF
   replace hss := hss.mono lF
   replace hs := hs.mono lF
   rw [zA 4 (z9 4 rfl)]
   refine qj (qn (args := [.agg #[fv, ssv]]) call192 rfl (sequence_spec hf hss (hls := (by first | assumption | rfl | omega | simp))) ?_)
   rintro _ F3 _ le3 ⟨x2, rfl, hr3, hr4, rfl⟩
   replace hf := hf.mono le3
   replace hs := hs.mono le3
   exact ⟨⟨rfl, hr3, (hr4.base lF)⟩, rfl⟩
  refine gD (fun W Fs R lF z9 => ?_) ?_
  ·obtain ⟨e2, f2_1lit⟩ := z9 2 rfl
   obtain ⟨e5, f5_1hr, f5_1hz⟩ := z9 5 rfl
   replace hf := hf.mono lF
   replace hs := hs.mono lF
   rw [eS (l := [(2, (W 2)), (5, ((W 5)))]) ⟨(e2).symm, (e5).symm, ⟨⟩⟩]
   refine qj (jM <| qL (s := 1) [(W 2), ((W 5))] [sN] [(0, [(W 2)]), (1, [((W 5))])] qs qt jP rfl (by decide) rfl (.cons (cells_one (qB f2_1lit)) (.cons (cells_one (qB f5_1hr)) CellsAre.nil)) rfl ?_)
   intro v5 hv3
   refine ⟨_, _, rfl, fun F4 le4 hz2 => ?_⟩
   replace hf := hf.mono le4
   replace hs := hs.mono le4
   replace f2_1lit := f2_1lit.mono le4
   replace f5_1hr := f5_1hr.mono le4
   replace f5_1hz := f5_1hz.mono le4
   have hf2 : RowsF F4 v5 ([[p], numsL ss] : List (List Int)) := CO.fz (show RowsC F4 [(W 2), ((W 5))] ([[p], numsL ss] : List (List Int)) from (RowsC.snoc (RowsC.snoc (CO.nil : RowsC F4 [] []) f2_1lit) f5_1hr)) rfl hz2.fz
   exact ⟨⟨rfl, hf2⟩, rfl⟩
  refine gD (fun W Fs R lF z9 => ?_) ?_
  ·obtain ⟨e6, f6_1lit⟩ := z9 6 rfl
   replace hf := hf.mono lF
   replace hs := hs.mono lF
   rw [eS (l := [(6, (W 6))]) ⟨(e6).symm, ⟨⟩⟩]
   refine qj (jM <| qn (args := [(W 6)]) call191 rfl (Concat_spec f6_1lit (hg1 := (by simp)) (hn := (by first | assumption | rfl | omega | simp)) (hb := (fun i hi => by match i, hi with | 0, _ => simp | 1, _ => (show (numsL ss).length ≤ _; omega)))) ?_)
   rintro v6 _ _ _ ⟨rfl, hs3, rfl⟩
   refine ⟨_, _, rfl, fun F5 le5 hz3 => ?_⟩
   replace hf := hf.mono le5
   replace hs := hs.mono le5
   replace f6_1lit := f6_1lit.mono le5
   have hf3 : IntsF F5 v6 (((([[p], numsL ss] : List (List Int))).flatten)) := intsH.fz (xs := ((([[p], numsL ss] : List (List Int))).flatten)) hz3.fz
   exact ⟨⟨rfl, hf3, (hz3.base lF)⟩, rfl⟩
  refine gD (fun W Fs R lF z9 => ?_) ?_
  ·refine qj (qk (0) jh rfl jr (by decide) rfl rfl ?_)
   exact ⟨rfl, rfl⟩
  refine gD (fun W Fs R lF z9 => ?_) ?_
  ·rw [zA 8 (z9 8 rfl)]
   refine qj (qk (0) js rfl qt (by decide) rfl rfl ?_)
   exact ⟨rfl, rfl⟩
  refine gD (fun W Fs R lF z9 => ?_) ?_
  ·replace hf := hf.mono lF
   replace hs := hs.mono lF
   rw [zA 9 (z9 9 rfl)]
   refine qj (qh qM rfl (Rd.own [_] rfl rfl) ?_)
   exact ⟨rfl, rfl⟩
  refine gD (fun W Fs R lF z9 => ?_) ?_
  ·obtain ⟨e7, f7_1ha, f7_1hz⟩ := z9 7 rfl
   replace hf := hf.mono lF
   replace hs := hs.mono lF
   rw [eS (l := [(7, ((W 7))), (10, _)]) ⟨(e7).symm, z9 10 rfl, ⟨⟩⟩]
   have fjz9 := f7_1hz
   refine qj (jM <| qn (args := [fv]) call96 rfl (Clone_spec hf (hlt := (by first | assumption | rfl | omega | simp))) ?_)
   rintro v7 _ _ _ ⟨rfl, hs4, rfl⟩
   refine ⟨_, _, rfl, fun F6 le6 hz4 => ?_⟩
   replace hf := hf.mono le6
   replace hs := hs.mono le6
   replace f7_1ha := f7_1ha.mono le6
   replace f7_1hz := f7_1hz.mono le6
   have hf4 : IntsF F6 v7 ((f)) := intsH.fz (xs := (f)) hz4.fz
   exact ⟨⟨rfl, hf4, (hz4.base lF), (Fresh.app (Fresh.one fjz9) lF (Fresh.one hz4) le6)⟩, rfl⟩
  refine gD (fun W Fs R lF z9 => ?_) ?_
  ·obtain ⟨e7, f7_1ha, f7_1hz⟩ := z9 7 rfl
   obtain ⟨e11, f11_1ha, f11_1hz, f11_1jz⟩ : (((W 11)) : Value) = (W 11) ∧ (IntsF Fs ((W 11)) (f)) ∧ (FrIntsF F Fs 2 ((W 11)) (f)) ∧ (FreshsF F Fs (star [intsH 2 ((W 7)) (((([[p], numsL ss] : List (List Int))).flatten)), intsH 2 (W 11) ((f))])) := z9 11 rfl
   replace hf := hf.mono lF
   replace hs := hs.mono lF
   rw [eS (l := [(7, ((W 7))), (11, ((W 11)))]) ⟨(e7).symm, (e11).symm, ⟨⟩⟩]
   refine qj (qL (s := 1) [((W 11))] [sN] [(0, [((W 11))])] qs qt jP rfl (by decide) rfl (.cons (cells_one (qB f11_1ha)) CellsAre.nil) rfl ?_)
   intro v8 hv4
   exact ⟨hv4, rfl⟩
  refine gD (fun W Fs R lF z9 => ?_) ?_
  ·obtain ⟨e7, f7_1ha, f7_1hz⟩ := z9 7 rfl
   obtain ⟨e11, f11_1ha, f11_1hz, f11_1jz⟩ : (((W 11)) : Value) = (W 11) ∧ (IntsF Fs ((W 11)) (f)) ∧ (FrIntsF F Fs 2 ((W 11)) (f)) ∧ (FreshsF F Fs (star [intsH 2 ((W 7)) (((([[p], numsL ss] : List (List Int))).flatten)), intsH 2 (W 11) ((f))])) := z9 11 rfl
   have f12 : ∃ b, (W 12) = .slice (some ⟨b, 0, none⟩) 1 1 := z9 12 rfl
   replace hf := hf.mono lF
   replace hs := hs.mono lF
   rw [eS (l := [(7, ((W 7))), (11, ((W 11)))]) ⟨(e7).symm, (e11).symm, ⟨⟩⟩]
   refine qj (jf [ii (6), ((W 7)), (W 12), sN] [ii (0), sN, sN, sN] [(0, 1), (1, 1), (2, 1), (3, 1)] [(0, [ii (6)]), (1, [((W 7))]), (2, [(W 12)])] qZ zeroValue145 rfl (.cons rfl qJ (.cons rfl qt (.cons rfl qP (.cons rfl qt PlacesAre.nil)))) rfl (.cons rfl (.cons (cells_one (qB f7_1ha)) (.cons (cells_one (jD f12)) CellsAre.nil))) ?_)
   exact ⟨rfl, rfl⟩
  refine gD (fun W Fs R lF z9 => ?_) ?_
  ·replace hf := hf.mono lF
   replace hs := hs.mono lF
   refine qj (qS [ii (0), sN, sN, sN] zeroValue145 rfl ?_)
   intro b4
   exact ⟨rfl, rfl⟩
  exact stepsG.nil
 intro W F7 le7 hphi
 obtain ⟨e2, f2_1lit⟩ := hphi 2 (by decide)
 obtain ⟨e5, f5_1hr, f5_1hz⟩ := hphi 5 (by decide)
 obtain ⟨e6, f6_1lit⟩ := hphi 6 (by decide)
 obtain ⟨e7, f7_1ha, f7_1hz⟩ := hphi 7 (by decide)
 obtain ⟨e11, f11_1ha, f11_1hz, f11_1jz⟩ : (((W 11)) : Value) = (W 11) ∧ (IntsF F7 ((W 11)) (f)) ∧ (FrIntsF F F7 2 ((W 11)) (f)) ∧ (FreshsF F F7 (star [intsH 2 ((W 7)) (((([[p], numsL ss] : List (List Int))).flatten)), intsH 2 (W 11) ((f))])) := hphi 11 (by decide)
 have f12 : ∃ b, (W 12) = .slice (some ⟨b, 0, none⟩) 1 1 := hphi 12 (by decide)
 have e13 : W 13 = (.agg #[ii (6), ((W 7)), (W 12), sN] : Value) := hphi 13 (by decide)
 have e14 : W 14 = ptr (blk (W 14)) 0 := hphi 14 (by decide)
 generalize hu1 : (W 2) = u1 at e2 f2_1lit e5 f5_1hr f5_1hz e6 f6_1lit e7 f7_1ha f7_1hz e11 f11_1ha f11_1hz f11_1jz f12 e13 e14
 generalize hu2 : ((W 5)) = u2 at e2 f2_1lit e5 f5_1hr f5_1hz e6 f6_1lit e7 f7_1ha f7_1hz e11 f11_1ha f11_1hz f11_1jz f12 e13 e14
 generalize hu3 : (W 6) = u3 at e2 f2_1lit e5 f5_1hr f5_1hz e6 f6_1lit e7 f7_1ha f7_1hz e11 f11_1ha f11_1hz f11_1jz f12 e13 e14
 generalize hu4 : ((W 7)) = u4 at e2 f2_1lit e5 f5_1hr f5_1hz e6 f6_1lit e7 f7_1ha f7_1hz e11 f11_1ha f11_1hz f11_1jz f12 e13 e14
 generalize hu5 : ((W 11)) = u5 at e2 f2_1lit e5 f5_1hr f5_1hz e6 f6_1lit e7 f7_1ha f7_1hz e11 f11_1ha f11_1hz f11_1jz f12 e13 e14
 generalize huu12 : W 12 = u6 at e2 f2_1lit e5 f5_1hr f5_1hz e6 f6_1lit e7 f7_1ha f7_1hz e11 f11_1ha f11_1hz f11_1jz f12 e13 e14
 generalize hu6 : blk (W 14) = b5 at e2 f2_1lit e5 f5_1hr f5_1hz e6 f6_1lit e7 f7_1ha f7_1hz e11 f11_1ha f11_1hz f11_1jz f12 e13 e14
 rw [eS (l := [(7, u4), (11, u5), (12, u6), (13, (.agg #[ii (6), u4, u6, sN])), (14, ptr b5 0)]) ⟨hu4, hu5, huu12, e13, e14, ⟨⟩⟩]
 replace hs := hs.mono le7
 show XL _ _ _ _ _ _ _ (slH 22 1 u6 1 [u5] :: cellsH b5 [ii (0), sN, sN, sN] 145 :: cellsH b2 [ii (0), sN, sN, sN] 145 :: cellsH b1 [fv, ssv, ii (p), sv] 139 :: L)
 refine cX (qD [_] _ [ii (6), u4, u6, sN] jF rfl rfl rfl (qi rfl (qi (qC (qB f7_1ha)) (qi (qC (jD f12)) (qi rfl qH)))) rfl rfl rfl (qb (qc (qc (qa (cX (qk (3) jh rfl qR (by decide) rfl rfl (cX (qq [sv] jv qR rfl rfl (Rd.ownN [_, _, _] rfl rfl) (cX (qn (args := [.agg #[sv]]) call193 rfl (plainZ_spec hs (hsl := (by first | assumption | rfl | omega | simp)) (hsb := (fun i hi => by have := hgr i; omega))) ?_)))))))))))
 rintro _ F8 _ le8 ⟨x3, rfl, hr5, hr6, rfl⟩
 replace f7_1ha := f7_1ha.mono le8
 replace f11_1ha := f11_1ha.mono le8
 refine cX (XOp.field1 (x3) qO rfl jg rfl rfl (cX (qA qs rfl hr5.slv (qd (ii (0)) rfl (qb (qG ?_))))))
 have hc1 : RowsC F8 [u5] ([(f)] : List (List Int)) := (RowsC.snoc (CO.nil : RowsC F8 [] []) f11_1ha)
 obtain ⟨L0, hZ0, hLl, hleaf⟩ := fresh_rows hr6
 have hfl9 : [[p], numsL ss].flatten = p :: numsL ss := by simp
 rw [hfl9] at f11_1jz f7_1ha
 refine jc (α := Nat × Value × List (List Int) × List Value × Nat × List HP × List HP × FH) (fun xQ => [(2, ptr b2 0), (3, ptr b5 0), (41, x3), (42, ii ((((plainL s).length : Nat) : Int))), (43, ii (((xQ.1 : Nat) : Int)))]) (fun xQ => slH 22 1 xQ.2.1 xQ.2.2.2.2.1 xQ.2.2.2.1 :: cellsH b5 [ii (6), u4, xQ.2.1, sN] 145 :: cellsH b2 [ii (0), sN, sN, sN] 145 :: cellsH b1 [fv, ssv, ii (p), sv] 139 :: L) (fun xQ F' => xQ.2.2.2.2.2.2.2 = F' ∧ F8 ≤ xQ.2.2.2.2.2.2.2 ∧ (IsSl xQ.2.1) ∧ (RowsC xQ.2.2.2.2.2.2.2 xQ.2.2.2.1 xQ.2.2.1) ∧ (xQ.2.2.2.2.1 = xQ.2.2.1.length) ∧ (xQ.1 ≤ (plainL s).length) ∧ (xQ.2.2.1 = f :: (givesL (plainL s)).take xQ.1) ∧ (DeepL 1 (RowO 2) xQ.2.2.2.1 xQ.2.2.1 xQ.2.2.2.2.2.1) ∧ (xQ.2.2.2.2.2.2.1 = [intsH 2 u4 (p :: numsL ss)] ++ xQ.2.2.2.2.2.1) ∧ (Fresh F xQ.2.2.2.2.2.2.2 (star (xQ.2.2.2.2.2.2.1 ++ L0.drop xQ.1)))) (fun xQ => (plainL s).length - xQ.1) (0, u6, ([(f)] : List (List Int)), [u5], 1, [intsH 2 u5 f], [intsH 2 u4 (p :: numsL ss), intsH 2 u5 f], F8) ⟨rfl, rfl, rfl, rfl, rfl, ⟨⟩⟩ (sC (sC (sC (sC sR)))) ⟨rfl, FLe.refl _, ((jD f12)), (hc1), (rfl), (by (try dsimp only) <;> omega), (rfl), (DeepL.nil.snoc rfl ⟨_, rfl, rfl⟩), (rfl), ((Fresh.app f11_1jz le7 hZ0 le8))⟩ ?_
 rintro ⟨k, ov, os, cs, m, Ls, Us, G1⟩ rE _ _ ⟨rfl, leG, hov, hC, hm, hk, hos, hD, hU, hZ⟩
 show X _ _ _ _ (envs [(2, ptr b2 0), (3, ptr b5 0), (41, x3), (42, ii ((((plainL s).length : Nat) : Int))), (43, ii ((k : Int)))] rE) _ (slH 22 1 ov m cs :: cellsH b5 [ii (6), u4, ov, sN] 145 :: cellsH b2 [ii (0), sN, sN, sN] 145 :: cellsH b1 [fv, ssv, ii (p), sv] 139 :: L)
 replace leG : F8 ≤ G1 := leG
 dsimp only at hov hC hm hk hos hD hU hZ
 have hol9 : os.length = k + 1 := by rw [hos, List.length_cons, List.length_take, gives_len]; omega
 have leG1 := leG
 replace f7_1ha := f7_1ha.mono leG1
 replace hr5 := hr5.mono leG1
 refine qc (qa (cX (qT rfl rfl (qb (qc ?_)))))
 refine qx (p := (k : Int) < (((plainL s).length : Nat) : Int)) rfl (fun h3 => ?_) (fun h3 => ?_)
 ·refine qw (qc (qG (qc (qa (qd (ii ((k : Int))) rfl ?_)))))
  obtain ⟨a9, hl9, hi9, hr9⟩ := hleaf k (by omega)
  replace hi9 := hi9.mono leG1
  replace hr9 := fun M => Rd.mono (hr9 M) leG1
  skip
  refine cX (qy k qs qt rfl rfl rfl hr5.slv (by omega) (Nat.mul_one _) (cX (qh qM rfl (hr9 _) (qf (ii ((k : Int))) rfl (qf (a9) rfl (qb (qc (qc (qa (qd (a9) rfl (cX (qA qg rfl hi9.slv (cX (XOp.eql rfl rfl (qb ?_)))))))))))))))
  refine qx (p := ((((((plainL s).getD k [])).length : Nat) : Int) : Int) = 0) rfl (fun h4 => ?_) (fun h4 => ?_)
  ·have hrow : (plainL s).getD k [] = [] := List.eq_nil_of_length_eq_zero (by omega)
   refine qa (qd (ii ((k : Int))) rfl (cX (jM <| qn (args := [ii (k : Int)]) call194 rfl (variable_spec (i := k) (hi := (by first | assumption | rfl | omega | simp))) ?_)))
   rintro v9 _ _ _ ⟨rfl, hs5, rfl⟩
   refine ⟨_, _, rfl, fun F9 le9 hz5 => ?_⟩
   replace f7_1ha := f7_1ha.mono le9
   replace hC := hC.mono le9
   replace hi9 := hi9.mono le9
   have hf5 : IntsF F9 v9 (([-1 - (k : Int)])) := intsH.fz (xs := ([-1 - (k : Int)])) hz5.fz
   refine qf (v9) rfl (qb (qa (cX (qk (2) qZ rfl qP (by decide) rfl rfl (cX (qh jg rfl (Rd.own [_] rfl rfl) (qd (v9) rfl (cX (qL (s := 1) [v9] [sN] [(0, [v9])] qs qt jP rfl (by decide) rfl (.cons (cells_one (qB hf5)) CellsAre.nil) rfl ?_)))))))))
   intro v10 hv5
   refine cX (jQ (m := 1) (bytes := 24) (cs := cs) [_] _ [v9] qs typeInfo22 rfl rfl rfl rfl rfl rfl rfl (SlV.own [] rfl) rfl (Rd.lit [] rfl) (qi (qC (qB hf5)) qH) (by (try simp only [List.length_append, List.length_nil, List.length_cons, List.length_singleton]); omega) (by (try simp only [List.length_append, List.length_nil, List.length_cons, List.length_singleton]); omega) ?_)
   intro v11 hs6 hn1 hm1
   have hc2 := RowsC.snoc hC hf5
   refine cX (qk (2) qZ rfl qP (by decide) rfl rfl (cX (jw [_, _] _ [ii (6), u4, v11, sN] qP rfl rfl (qC hs6) rfl rfl rfl (qb (qa (cX (qN (((k + 1 : Nat) : Int)) rfl rfl (by omega) (by omega) (qd (ii (((k + 1 : Nat) : Int))) rfl (qb ?_)))))))))
   exact ⟨(k + 1, v11, os ++ [([-1 - (k : Int)])], cs ++ [v9], (m) + 1, Ls ++ [intsH 2 v9 (lk (plainL s) (-1 - (k : Int)))], Us ++ [intsH 2 v9 (lk (plainL s) (-1 - (k : Int)))], F9), _, (qm leG1 le9), rF, ⟨rfl, rfl, rfl, rfl, rfl, ⟨⟩⟩, (sD (sC (sC (sC (sC sR))))), ⟨rfl, (qm leG1 le9), (hs6), (hc2), (by (try dsimp only); rw [List.length_append]; simp only [List.length_singleton]; omega), (by (try dsimp only) <;> omega), (by (try dsimp only); first | (rw [hos, List.cons_append, ← gives_own hrow, gives_next (by omega)]) | (rw [hos, List.cons_append, ← gives_self hrow, gives_next (by omega)])), (by (try dsimp only); first | (rw [← gives_own hrow]; exact DeepL.snoc hD rfl ⟨_, rfl, rfl⟩) | (rw [← gives_self hrow]; exact DeepL.snoc hD rfl ⟨_, rfl, rfl⟩)), (by (try dsimp only); rw [hU, List.append_assoc]), ((show Fresh F F9 (star ((Us ++ [intsH 2 v9 (lk (plainL s) (-1 - (k : Int)))]) ++ L0.drop (k + 1))) from by have h9 := Fresh.mid9 (Fresh.app (Fresh.skipLeaf hZ hl9) (qm (qm le7 le8) leG1) (Fresh.one hz5) le9); rw [gives_self hrow]; exact h9))⟩, (by omega)⟩
  have hrow : (plainL s).getD k [] ≠ [] := fun e9 => h4 (by rw [e9]; rfl)
  refine qw (qa (cX (qk (2) qZ rfl qP (by decide) rfl rfl (cX (qh jg rfl (Rd.own [_] rfl rfl) (qd (a9) rfl (cX (qL (s := 1) [a9] [sN] [(0, [a9])] qs qt jP rfl (by decide) rfl (.cons (cells_one (qB hi9)) CellsAre.nil) rfl ?_))))))))
  intro v12 hv6
  refine cX (jQ (m := 1) (bytes := 24) (cs := cs) [_] _ [a9] qs typeInfo22 rfl rfl rfl rfl rfl rfl rfl (SlV.own [] rfl) rfl (Rd.lit [] rfl) (qi (qC (qB hi9)) qH) (by (try simp only [List.length_append, List.length_nil, List.length_cons, List.length_singleton]); omega) (by (try simp only [List.length_append, List.length_nil, List.length_cons, List.length_singleton]); omega) ?_)
  intro v13 hs7 hn2 hm2
  have hc3 := RowsC.snoc hC hi9
  refine cX (qk (2) qZ rfl qP (by decide) rfl rfl (cX (jw [_, _] _ [ii (6), u4, v13, sN] qP rfl rfl (qC hs7) rfl rfl rfl (qb (qa (cX (qN (((k + 1 : Nat) : Int)) rfl rfl (by omega) (by omega) (qd (ii (((k + 1 : Nat) : Int))) rfl (qb ?_)))))))))
  exact ⟨(k + 1, v13, os ++ [((plainL s).getD k [])], cs ++ [a9], (m) + 1, Ls ++ [intsH 2 a9 (lk (plainL s) (-1 - (k : Int)))], Us ++ [intsH 2 a9 (lk (plainL s) (-1 - (k : Int)))], G1), _, leG1, rF, ⟨rfl, rfl, rfl, rfl, rfl, ⟨⟩⟩, (sD (sC (sC (sC (sC sR))))), ⟨rfl, leG1, (hs7), (hc3), (by (try dsimp only); rw [List.length_append]; simp only [List.length_singleton]; omega), (by (try dsimp only) <;> omega), (by (try dsimp only); first | (rw [hos, List.cons_append, ← gives_own hrow, gives_next (by omega)]) | (rw [hos, List.cons_append, ← gives_self hrow, gives_next (by omega)])), (by (try dsimp only); first | (rw [← gives_own hrow]; exact DeepL.snoc hD rfl ⟨_, rfl, rfl⟩) | (rw [← gives_self hrow]; exact DeepL.snoc hD rfl ⟨_, rfl, rfl⟩)), (by (try dsimp only); rw [hU, List.append_assoc]), ((show Fresh F G1 (star ((Us ++ [intsH 2 a9 (lk (plainL s) (-1 - (k : Int)))]) ++ L0.drop (k + 1))) from by have h9 := Fresh.keepLeaf hZ hl9; rw [gives_own hrow]; exact h9))⟩, (by omega)⟩
 refine jb (qo (qo (qI (qc (qa (cX (qq [ii (6), u4, ov, sN] isAgg145 jF rfl rfl (Rd.ownN [_] rfl rfl) (cX (qD [_, _] _ [ii (6), u4, ov, sN] jF rfl rfl rfl (qi rfl (qi (qC (qB f7_1ha)) (qi (qC hov) (qi rfl qH)))) rfl rfl rfl (qb (jl [] _ _ rfl (fun F10 le10 hz6 => ?_))))))))))))
 replace f7_1ha := f7_1ha.mono le10
 replace hC := hC.mono le10
 have hf6 : RowsF F10 ov os := CO.fz hC (by first | rfl | omega | (rw [List.length_set]; omega) | (simp; done)) hz6.fz
 refine qv (qp (L' := L) [.agg #[ii (6), u4, ov, sN]] (.agg #[ii (6), u4, ov, sN]) (.cell rfl (jo [ii (6), u4, ov, sN] isAgg145 jF rfl (Rd.ownN [_] rfl rfl)) .nil) rfl (qm (qm (qm le7 le8) leG1) le10) rF (sD (sD (sD sR))) ?_)
 have e9 : os = f :: givesL (plainL s) := by rw [hos, List.take_of_length_le (by rw [gives_len]; omega)]
 subst e9
 rw [hU] at hZ
 have hzz := Fresh.deepM (M := [_]) hD (Fresh.none (B := L0.drop k) hZ) (qm (qm le7 le8) leG1) hz6 (by omega) le10
 exact ⟨_, _, rfl, f7_1ha, hf6, hzz, rfl⟩

/- impl.LoopProof -/
set_option maxRecDepth 20000 in
theorem LoopProof_spec {F : FH} {L : List HP} {arv : Value} {ar : List Int} (har : IntsF F arv ar) {rsv : Value} {rs : List (List Int × List Int)} (hrs : PairsF F rsv rs) {n : Int} :
    Does prog 21 [.agg #[arv, rsv], ii (n)] F (L) (fun v F' L' => ∃ (a : Value), (.tuple #[.agg #[a], .bool ((proofF ar rs n).2)] : Value) = v ∧ (NodesF F' a (proofF ar rs n).1) ∧ (Fresh F F' (star [nodesD 2 22 145 a (proofF ar rs n).1])) ∧ L = L') := by
 refine qz func21 rfl rfl rfl (qc (qa (cX (qW [arv, rsv] rfl rfl ?_))))
 intro b1
 refine cX (qS [sN] jU rfl ?_)
 intro b2
 refine qf (.bool (false)) rfl (qb (qc (qa (cX (qq [arv, rsv] jL jy rfl rfl (Rd.ownN [_] rfl rfl) (qd (ii (n)) rfl (cX (qn (args := [.agg #[arv, rsv], ii (n)]) call85 rfl (FirstLoop_spec (n := n) har hrs) ?_))))))))
 rintro _ F1 _ le1 ⟨x1, x2, x3, rfl, hr1, hr2, hr3, hr4, rfl⟩
 refine qd (.tuple #[.agg #[x1, x2, ii ((firstF ar rs n).2.2.1), x3], .bool ((firstF ar rs n).2.2.2.2)]) rfl (cX (qU (.agg #[x1, x2, ii ((firstF ar rs n).2.2.1), x3]) rfl rfl (cX (qU (.bool ((firstF ar rs n).2.2.2.2)) rfl rfl (cX (qS [sN, sN, ii (0), sN] jJ rfl ?_))))))
 intro b3
 refine cX (qD [] _ [x1, x2, ii ((firstF ar rs n).2.2.1), x3] ju rfl rfl rfl (qi (qC (qB hr1)) (qi (qC (StepsF.isSl hr2)) (qi rfl (qi (qC (RowsF.isSl hr3)) qH)))) rfl rfl rfl (qf (.bool ((firstF ar rs n).2.2.2.2)) rfl (qb (qc (qc (qa (qd (.bool ((firstF ar rs n).2.2.2.2)) rfl (cX (jx rfl (qb ?_))))))))))
 refine ya (t := !((firstF ar rs n).2.2.2.2)) rfl (fun h1 => ?_) (fun h1 => ?_)
 ·have hok := Bool.not_inj (y := false) h1
  refine qc (qa (cX (jf [sN] [sN] [(0, 1)] [] jK jU rfl (.cons rfl sizeOf51 PlacesAre.nil) rfl CellsAre.nil (cX (qD [_] _ [sN] jB rfl rfl rfl (qi rfl qH) rfl rfl rfl (qf (.bool (false)) rfl (qb (qv (ql (qp (L' := L) [.agg #[sN], .bool (false)] (.tuple #[.agg #[sN], .bool (false)]) (.cell rfl (jo [sN] ye jB rfl (Rd.ownN [_] rfl rfl)) (.tmp rfl .nil)) rfl le1 rF (sD (sD (sD sR))) ?_))))))))))
  rw [proofF_no hok]
  exact ⟨_, rfl, SlOf.nilV, Fresh.one (Fresh.empty nilNodesD), rfl⟩
 have hok := Bool.not_inj (y := true) h1
 have hG := firstF_good hok
 obtain ⟨hn1, hn2, hn3⟩ := node_pre (p := (firstF ar rs n).2.2.1) hG
 refine qw (qc (qa (cX (qq [x1, x2, ii ((firstF ar rs n).2.2.1), x3] yg ju rfl rfl (Rd.ownN [] rfl rfl) (cX (qn (args := [.agg #[x1, x2, ii ((firstF ar rs n).2.2.1), x3]]) call86 rfl (LoopNode_spec hr1 hr2 hr3 (hG := (hG))) ?_))))))
 rintro _ F2 _ le2 ⟨x4, x5, rfl, hr5, hr6, hr7, rfl⟩
 refine cX (qL (s := 4) [ii (6), x4, x5, sN] [ii (0), sN, sN, sN] [(0, [ii (6), x4, x5, sN])] jt jF zeroValue145 rfl (by decide) rfl (.cons rfl CellsAre.nil) rfl ?_)
 intro v1 hv1
 refine cX (jf [v1] [sN] [(0, 1)] [(0, [v1])] jK jU rfl (.cons rfl sizeOf51 PlacesAre.nil) rfl (.cons (cells_one (jD hv1)) CellsAre.nil) (cX (qD [_, _] _ [v1] jB rfl rfl rfl (qi (qC (jD hv1)) qH) rfl rfl rfl (qf (.bool (true)) rfl (qb ?_)))))
 have hc1 : NodesC F2 [ii (6), x4, x5, sN] ([(6, ((firstF ar rs n).2.2.1) :: numsL ((firstF ar rs n).2.1), ((firstF ar rs n).1) :: givesL (plainL ((firstF ar rs n).2.2.2.1)), [])] : List NodeT) := (NodesC.snoc (CO.nil : NodesC F2 [] []) (y0 := 6) (y1 := ((firstF ar rs n).2.2.1) :: numsL ((firstF ar rs n).2.1)) (y2 := ((firstF ar rs n).1) :: givesL (plainL ((firstF ar rs n).2.2.2.1))) (y3 := []) hr5 hr6 IntsF.nilV)
 refine jl [] _ _ rfl (fun F3 le3 hz1 => ?_)
 replace hc1 := hc1.mono le3
 have hf1 : NodesF F3 v1 (([(6, ((firstF ar rs n).2.2.1) :: numsL ((firstF ar rs n).2.1), ((firstF ar rs n).1) :: givesL (plainL ((firstF ar rs n).2.2.2.1)), [])] : List NodeT)) := CO.fz hc1 (by first | rfl | omega | (rw [List.length_set]; omega) | (simp; done)) hz1.fz
 refine qv (qp (L' := L) [.agg #[v1], .bool (true)] (.tuple #[.agg #[v1], .bool (true)]) (.cell rfl (jo [v1] ye jB rfl (Rd.ownN [_] rfl rfl)) (.tmp rfl .nil)) rfl (qm (qm le1 le2) le3) rF (sD (sD (sD sR))) ?_)
 rw [proofF_yes hok]
 exact ⟨_, rfl, hf1, (oneNode (node_fresh (Fresh.app (hr7.base le1) (qm le1 le2) (Fresh.one hz1) le3))), rfl⟩

/- laws.FnExactLoopProof -/
set_option maxRecDepth 20000 in
theorem FnExactLoopProof_does {F : FH} {L : List HP} {arv : Value} {ar : List Int} (har : IntsF F arv ar) {rsv : Value} {rs : List (List Int × List Int)} (hrs : PairsF F rsv rs) {n : Int} (hlar : ar.length ≤ 9223372036854775807) (hlrs : rs.length ≤ 9223372036854775807) (hbrs : ∀ i, i < rs.length → (rs.getD i ([], [])).1.length ≤ 9223372036854775807 ∧ (rs.getD i ([], [])).2.length ≤ 9223372036854775807) :
    Does prog 4 [.agg #[arv, rsv], ii (n)] F (L) (fun v F' L' => (.bool (true) : Value) = v ∧ F = F' ∧ L = L') := by
 refine qz func4 rfl rfl rfl ?_
 have hnb := proof_bound (ar := ar) (rs := rs) (n := n)
 have hn1 := hnb.1
 have hn2 := hnb.2.1
 have hn3 := hnb.2.2
 have hcn : ∀ i, i < (proofF ar rs n).1.length → ((proofF ar rs n).1.getD i (0, [], [], [])).2.2.1.length ≤ 4000000 := fun i hi => Nat.le_trans (hn2 i hi).2.1 (by decide)
 refine qc (qa (cX (qW [arv, rsv] rfl rfl ?_)))
 intro b1
 refine qf (.bool (false)) rfl (qb (qc (qa (qf (ii (1048576)) rfl (qb (qc (qa (cX (qq [arv, rsv] isAgg27 sizeOf27 rfl rfl (Rd.ownN [] rfl rfl) (qd (ii (1048576)) rfl (cX (qn (args := [.agg #[arv, rsv], ii (1048576)]) call9 rfl (szSystem_spec (z := 1048576) har hrs (hz := (by first | assumption | rfl | omega | simp)) (hal := (by first | assumption | rfl | omega | simp)) (hrl := (by first | assumption | rfl | omega | simp)) (hrb := (by first | assumption | rfl | omega | simp))) ?_))))))))))))
 rintro _ _ _ _ ⟨rfl, rfl, rfl⟩
 refine qf (ii (dec 1048576 (ar.length + szR rs))) rfl (qb (qc (qc (qa (qd (ii (dec 1048576 (ar.length + szR rs))) rfl (cX (qT rfl rfl (qb ?_))))))))
 refine qx (p := (dec 1048576 (ar.length + szR rs) : Int) < 0) rfl (fun h1 => ?_) (fun h1 => ?_)
 ·refine qc (qa (qf (.bool (true)) rfl (qb (qv (ql (qp (L' := L) [.bool (true)] (.bool (true)) (.tmp rfl .nil) rfl rF rF (sD sR) ?_))))))
  exact ⟨rfl, rfl, rfl⟩
 have hd1 := dec_le2 h1 (by omega)
 have hzrs := szR_le (rs := rs)
 have hirs := hzrs.2
 have hcrs : ∀ i, i < rs.length → (rs.getD i ([], [])).1.length ≤ 4000000 ∧ (rs.getD i ([], [])).2.length ≤ 4000000 := fun i hi => by have := hirs i hi; omega
 have hfrs := flatPair_len rs
 refine qw (qc (qa (cX (qq [arv, rsv] isAgg27 sizeOf27 rfl rfl (Rd.ownN [] rfl rfl) (cX (XOp.thawL (id (qn (args := [.agg #[arv, rsv]]) call13 rfl (toSystem_spec har hrs (hla := (by first | assumption | rfl | omega | simp)) (hrl := (by first | assumption | rfl | omega | simp)) (hrb := (by first | assumption | rfl | omega | simp))) ?_))))))))
 rintro _ F1 _ le1 ⟨x1, x2, rfl, hr1, hr2, hr3, rfl⟩
 refine ⟨[intsH 2 x1 ar, pairsD 2 76 x2 rs], hr3, ?_⟩
 show XL _ _ _ _ _ _ _ (intsH 2 x1 ar :: pairsD 2 76 x2 rs :: cellsH b1 [arv, rsv] 27 :: L)
 refine qd (ii (n)) rfl (XL.freezeF [] _ _ rfl (fun F2 le2 hz1 => ?_))
 replace har := har.mono le2
 replace hrs := hrs.mono le2
 have hf1 : IntsF F2 x1 ar := intsH.fz (xs := ar) hz1.fz
 refine XL.freezeF [] _ _ rfl (fun F3 le3 hz2 => ?_)
 replace har := har.mono le3
 replace hrs := hrs.mono le3
 replace hf1 := hf1.mono le3
 have hf2 : PairsF F3 x2 rs := pairsD.fz hz2.fz
 refine cX (qn (args := [.agg #[x1, x2], ii (n)]) call20 rfl (sLoopProof_spec (n := n) hf1 hf2 (hla := (by first | assumption | rfl | omega | simp)) (hlr := (by first | assumption | rfl | omega | simp)) (hrb := (by first | assumption | rfl | omega | simp))) ?_)
 rintro _ F4 _ le4 ⟨x3, rfl, hr4, rfl⟩
 replace har := har.mono le4
 replace hrs := hrs.mono le4
 refine qd (.tuple #[.agg #[x3], .bool ((proofF ar rs n).2)]) rfl (cX (qU (.agg #[x3]) rfl rfl (cX (qU (.bool ((proofF ar rs n).2)) rfl rfl (cX (qS [sN] jU rfl ?_))))))
 intro b2
 refine cX (qD [] _ [x3] jB rfl rfl rfl (qi (qC (NodesF.isSl hr4)) qH) rfl rfl rfl (qf (.bool ((proofF ar rs n).2)) rfl (qb (qc (qa (cX (qq [arv, rsv] isAgg27 sizeOf27 rfl rfl (Rd.ownN [_] rfl rfl) (cX (XOp.thawL (id (qn (args := [.agg #[arv, rsv]]) call13 rfl (toSystem_spec har hrs (hla := (by first | assumption | rfl | omega | simp)) (hrl := (by first | assumption | rfl | omega | simp)) (hrb := (by first | assumption | rfl | omega | simp))) ?_)))))))))))
 rintro _ F5 _ le5 ⟨x4, x5, rfl, hr5, hr6, hr7, rfl⟩
 refine ⟨[intsH 2 x4 ar, pairsD 2 76 x5 rs], hr7, ?_⟩
 show XL _ _ _ _ _ _ _ (intsH 2 x4 ar :: pairsD 2 76 x5 rs :: cellsH b2 [x3] 53 :: cellsH b1 [arv, rsv] 27 :: L)
 refine cX (qS [sN, sN] zeroValue39 rfl ?_)
 intro b3
 refine cX (qD [] _ [x4, x5] jy rfl rfl rfl (qi (qC (qB hr5)) (qi (qC (PairsF.isSl hr6)) qH)) rfl rfl rfl (qb (qc (qa (cX (qq [x4, x5] jL jy rfl rfl (Rd.ownN [] rfl rfl) (qd (ii (n)) rfl (cX (XOp.lend [_] _ _ rfl (fun F6 le6 hz3 => (id (XOp.lend [_] _ _ rfl (fun F7 le7 hz4 => ?_)))))))))))))
 have hf3 : IntsF _ x4 ar := (intsH.fz (xs := ar) hz3).mono le7
 have hf4 : PairsF _ x5 rs := pairsD.fz hz4
 refine id (XOp.thawL (id (qn (args := [.agg #[x4, x5], ii (n)]) call21 rfl (LoopProof_spec (n := n) hf3 hf4) ?_)))
 rintro _ F8 _ le8 ⟨x6, rfl, hr8, hr9, rfl⟩
 refine ⟨[nodesD 2 22 145 x6 ((proofF ar rs n).1)], hr9, ?_⟩
 show XL _ _ _ _ _ _ _ (intsH 2 x4 ar :: pairsD 2 76 x5 rs :: nodesD 2 22 145 x6 ((proofF ar rs n).1) :: cellsH b3 [x4, x5] 39 :: cellsH b2 [x3] 53 :: cellsH b1 [arv, rsv] 27 :: L)
 refine qd (.tuple #[.agg #[x6], .bool ((proofF ar rs n).2)]) rfl (cX (qU (.agg #[x6]) rfl rfl (cX (qU (.bool ((proofF ar rs n).2)) rfl rfl (cX (qS [sN] jU rfl ?_))))))
 intro b4
 refine cX (qD [] _ [x6] jB rfl rfl rfl (qi (qC (NodesF.isSl hr8)) qH) rfl rfl rfl (qf (.bool ((proofF ar rs n).2)) rfl (qb (qc (qc (qa (cX (qq [x6] ye jB rfl rfl (Rd.ownN [] rfl rfl) (cX (qq [x3] ye jB rfl rfl (Rd.ownN [_, _, _, _, _] rfl rfl) (cX (XOp.lend [_, _, _] _ _ rfl (fun F9 le9 hz5 => ?_)))))))))))))
 have hf5 : NodesF _ x6 ((proofF ar rs n).1) := nodesD.fz hz5
 refine id (qn (args := [.agg #[x6], .agg #[x3]]) call22 rfl (eqProof_spec hf5 ((hr4.mono le9)) (hal := (by omega)) (hbd := (by first | assumption | exact (fun i hi => ⟨Nat.le_trans (hn2 i hi).1 (by decide), Nat.le_trans (hn2 i hi).2.1 (by decide), fun q hq => Nat.le_trans ((hn2 i hi).2.2.1 q hq) (by decide), Nat.le_trans (hn2 i hi).2.2.2 (by decide)⟩)))) ?_)
 rintro _ _ _ _ ⟨rfl, rfl, rfl⟩
 show XL _ _ _ _ _ _ _ (nodesD 2 22 145 x6 ((proofF ar rs n).1) :: cellsH b4 [x6] 53 :: intsH 2 x4 ar :: pairsD 2 76 x5 rs :: cellsH b3 [x4, x5] 39 :: cellsH b2 [x3] 53 :: cellsH b1 [arv, rsv] 27 :: L)
 refine cX (jH rfl (qd (.bool (decide (¬(((proofF ar rs n).1) = ((proofF ar rs n).1))))) rfl ?_))
 by_cases h2 : ¬(((proofF ar rs n).1) = ((proofF ar rs n).1))
 ·exact absurd (by first | rfl | exact ⟨rfl, rfl⟩ | exact ⟨⟨rfl, rfl⟩, rfl, rfl⟩ | simp) h2
 refine qu (t := 40) rfl (vF h2) (qr (.bool ((proofF ar rs n).2)) rfl (qu (t := 40) rfl (vF h2) (qr (.bool ((proofF ar rs n).2)) rfl (qu (t := 40) rfl (vF h2) (XOp.neB (a := (proofF ar rs n).2) (b := (proofF ar rs n).2) runUnderlying4 rfl rfl (cX (ja (.bool (decide (((proofF ar rs n).2) ≠ ((proofF ar rs n).2)))) (vF h2) rfl (qb ?_))))))))
 refine qx (p := ((proofF ar rs n).2) ≠ ((proofF ar rs n).2)) rfl (fun h3 => ?_) (fun h3 => ?_)
 ·exact absurd rfl h3
 refine qw (qc (qc ?_))
 refine yd [nodesD 2 22 145 x6 ((proofF ar rs n).1), cellsH b4 [x6] 53, intsH 2 x4 ar, pairsD 2 76 x5 rs, cellsH b3 [x4, x5] 39, cellsH b2 [x3] 53, cellsH b1 [arv, rsv] 27] L 3 [] [[], [], [1]] [] (phiG [pe (.agg #[x4, x5]), pe (.agg #[arv, rsv]), fun FF us v => (.agg #[((aggAt v 0)), ((aggAt v 1))] : Value) = v ∧ (IntsF FF ((aggAt v 0)) ar) ∧ (PairsF FF ((aggAt v 1)) rs)]) (ownL []) mixed rfl rfl (by kernel_rfl) (by kernel_rfl) (MonoG.get (m1 (m1 (mC (fun le h => ⟨h.1, h.2.1.mono le, h.2.2.mono le⟩) MonoG.nil)))) ?_ ?_
 ·refine gD (fun W Fs R lF z9 => ?_) ?_
  ·replace har := har.mono lF
   replace hrs := hrs.mono lF
   replace hr4 := hr4.mono lF
   refine qj (qq [x4, x5] jL jy rfl rfl (Rd.ownN [_, _, _, _] rfl rfl) ?_)
   exact ⟨rfl, rfl⟩
  refine gD (fun W Fs R lF z9 => ?_) ?_
  ·replace har := har.mono lF
   replace hrs := hrs.mono lF
   replace hr4 := hr4.mono lF
   refine qj (qq [arv, rsv] isAgg27 sizeOf27 rfl rfl (Rd.ownN [_, _, _, _, _, _] rfl rfl) ?_)
   exact ⟨rfl, rfl⟩
  refine gD (fun W Fs R lF z9 => ?_) ?_
  ·replace har := har.mono lF
   replace hrs := hrs.mono lF
   replace hr4 := hr4.mono lF
   rw [zA 1 (z9 1 rfl)]
   refine qj (qn (args := [.agg #[arv, rsv]]) call13 rfl (toSystem_spec har hrs (hla := (by first | assumption | rfl | omega | simp)) (hrl := (by first | assumption | rfl | omega | simp)) (hrb := (by first | assumption | rfl | omega | simp))) ?_)
   rintro _ F11 _ le11 ⟨x9, x10, rfl, hr13, hr14, hr15, rfl⟩
   replace har := har.mono le11
   replace hrs := hrs.mono le11
   replace hr4 := hr4.mono le11
   exact ⟨⟨rfl, hr13, hr14⟩, rfl⟩
  exact stepsG.nil
 intro W F12 le12 hphi
 obtain ⟨e2, f2_1hr1, f2_1hr2⟩ := hphi 2 (by decide)
 generalize hu1 : ((aggAt (W 2) 0)) = u1 at e2 f2_1hr1 f2_1hr2
 generalize hu2 : ((aggAt (W 2) 1)) = u2 at e2 f2_1hr1 f2_1hr2
 rw [eS (l := [(0, _), (2, (.agg #[u1, u2]))]) ⟨(hphi 0 (by decide)), (e2).symm, ⟨⟩⟩]
 replace har := har.mono le12
 replace hrs := hrs.mono le12
 replace hr4 := hr4.mono le12
 show XL _ _ _ _ _ _ _ (nodesD 2 22 145 x6 ((proofF ar rs n).1) :: cellsH b4 [x6] 53 :: intsH 2 x4 ar :: pairsD 2 76 x5 rs :: cellsH b3 [x4, x5] 39 :: cellsH b2 [x3] 53 :: cellsH b1 [arv, rsv] 27 :: L)
 refine cX (XOp.lend [_, _] _ _ rfl (fun F13 le13 hz6 => (id (XOp.lend [_, _] _ _ rfl (fun F14 le14 hz7 => ?_)))))
 have hf6 : IntsF _ x4 ar := (intsH.fz (xs := ar) hz6).mono le14
 have hf7 : PairsF _ x5 rs := pairsD.fz hz7
 refine id (qn (args := [.agg #[x4, x5], .agg #[u1, u2]]) call17 rfl (eqSystem_spec hf6 hf7 ((f2_1hr1.mono (qm le13 le14))) ((f2_1hr2.mono (qm le13 le14))) (hcl := (by first | assumption | rfl | omega | simp)) (hal := (by first | assumption | rfl | omega | simp)) (hbd := (by first | assumption | rfl | omega | simp))) ?_)
 rintro _ _ _ _ ⟨rfl, rfl, rfl⟩
 show XL _ _ _ _ _ _ _ (intsH 2 x4 ar :: pairsD 2 76 x5 rs :: nodesD 2 22 145 x6 ((proofF ar rs n).1) :: cellsH b4 [x6] 53 :: cellsH b3 [x4, x5] 39 :: cellsH b2 [x3] 53 :: cellsH b1 [arv, rsv] 27 :: L)
 refine cX (jH rfl (qb ?_))
 refine qx (p := ¬(ar = ar ∧ rs = rs)) rfl (fun h4 => ?_) (fun h4 => ?_)
 ·exact absurd (by first | rfl | exact ⟨rfl, rfl⟩ | exact ⟨⟨rfl, rfl⟩, rfl, rfl⟩ | simp) h4
 refine qw (qc (qa (qf (ii (1)) rfl (qb (qc (qa (cX (qq [x4, x5] jL jy rfl rfl (Rd.ownN [_, _, _, _] rfl rfl) (qd (ii (1)) rfl (jT (qK (A := [_])) ?_))))))))))
 show XL _ _ _ _ _ _ _ (pairsD 2 76 x5 rs :: intsH 2 x4 ar :: nodesD 2 22 145 x6 ((proofF ar rs n).1) :: cellsH b4 [x6] 53 :: cellsH b3 [x4, x5] 39 :: cellsH b2 [x3] 53 :: cellsH b1 [arv, rsv] 27 :: L)
 refine jT (qK (A := [_])) ?_
 show XL _ _ _ _ _ _ _ (intsH 2 x4 ar :: pairsD 2 76 x5 rs :: nodesD 2 22 145 x6 ((proofF ar rs n).1) :: cellsH b4 [x6] 53 :: cellsH b3 [x4, x5] 39 :: cellsH b2 [x3] 53 :: cellsH b1 [arv, rsv] 27 :: L)
 refine cX (qn (args := [.agg #[x4, x5], ii (1)]) call23 rfl (markSystem_spec (by (try simp only [List.length_append]); omega) (by omega)) ?_)
 rintro _ _ _ _ ⟨m1, m2, hm1, hk1, rfl, rfl, rfl⟩
 have hml1 := congrArg List.length hm1
 rw [iota_len] at hml1
 try simp only [List.length_append] at hml1
 refine qf (ii (1 + (((ar) ++ (rs.flatMap flatPair)).length : Int))) rfl (qb (qc (qc (qa (qd (ii (1 + (((ar) ++ (rs.flatMap flatPair)).length : Int))) rfl (cX (qT rfl rfl (qd (.bool (decide ((1 + (((ar) ++ (rs.flatMap flatPair)).length : Int) : Int) < 0))) rfl ?_))))))))
 by_cases h5 : (1 + (((ar) ++ (rs.flatMap flatPair)).length : Int) : Int) < 0
 ·exact absurd h5 (by omega)
 refine qu (t := 55) rfl (vF h5) (qq [x6] ye jB rfl rfl (Rd.ownN [_, _, _] rfl rfl) (qu (t := 55) rfl (vF h5) (qq [x3] ye jB rfl rfl (Rd.ownN [_, _, _, _, _] rfl rfl) (qu (t := 55) rfl (vF h5) (XOp.lend [_, _] _ _ rfl (fun F15 le15 hz8 => ?_))))))
 have hf8 : NodesF _ x6 ((proofF ar rs n).1) := nodesD.fz hz8
 refine id (qn (args := [.agg #[x6], .agg #[x3]]) call22 rfl (eqProof_spec hf8 ((hr4.mono le15)) (hal := (by omega)) (hbd := (by first | assumption | exact (fun i hi => ⟨Nat.le_trans (hn2 i hi).1 (by decide), Nat.le_trans (hn2 i hi).2.1 (by decide), fun q hq => Nat.le_trans ((hn2 i hi).2.2.1 q hq) (by decide), Nat.le_trans (hn2 i hi).2.2.2 (by decide)⟩)))) ?_)
 rintro _ _ _ _ ⟨rfl, rfl, rfl⟩
 show XL _ _ _ _ _ _ _ (nodesD 2 22 145 x6 ((proofF ar rs n).1) :: intsH 2 x4 m1 :: pairsD 2 76 x5 m2 :: cellsH b4 [x6] 53 :: cellsH b3 [x4, x5] 39 :: cellsH b2 [x3] 53 :: cellsH b1 [arv, rsv] 27 :: L)
 refine qu (t := 55) rfl (vF h5) (jH rfl (cX (ja (.bool (decide (¬(((proofF ar rs n).1) = ((proofF ar rs n).1))))) (vF h5) rfl (qd (.bool (decide (¬(((proofF ar rs n).1) = ((proofF ar rs n).1))))) rfl (qu (t := 61) rfl (vF h2) (qr (.bool ((proofF ar rs n).2)) rfl (qu (t := 61) rfl (vF h2) (qr (.bool ((proofF ar rs n).2)) rfl (qu (t := 61) rfl (vF h2) (XOp.neB (a := (proofF ar rs n).2) (b := (proofF ar rs n).2) runUnderlying4 rfl rfl (cX (ja (.bool (decide (((proofF ar rs n).2) ≠ ((proofF ar rs n).2)))) (vF h2) rfl (qb (X.condF (vF h3) (qw (qc (qa ?_)))))))))))))))))
 refine qf (ii (1)) rfl (qb (qc (qa (cX (qq [x6] ye jB rfl rfl (Rd.ownN [_, _, _] rfl rfl) (qd (ii (1)) rfl (cX (qn (args := [.agg #[x6], ii (1)]) call24 rfl (markProof_spec (by (try simp only [List.length_append]); omega) (by omega) (by first | assumption | exact hcn | exact hcnls)) ?_))))))))
 rintro _ _ _ _ ⟨m3, hm2, hk2, rfl, rfl, rfl⟩
 have hml2 := congrArg List.length hm2
 rw [iota_len] at hml2
 try simp only [List.length_append] at hml2
 refine qf (ii (1 + (((((proofF ar rs n).1).flatMap flatNd)).length : Int))) rfl (qb (qc (qa (qf (ii (1)) rfl (qb (qc (qa (cX (qq [x6] ye jB rfl rfl (Rd.ownN [_, _, _] rfl rfl) (qd (ii (1)) rfl (cX (XOp.lend [] _ _ rfl (fun F16 le16 hz9 => ?_)))))))))))))
 have hf9 : NodesF _ x6 m3 := nodesD.fz hz9
 refine id (qn (args := [.agg #[x6], ii (1)]) call25 rfl (heldProof_spec (z := 1) hf9 (hzb := (by constructor <;> omega)) (hxl := (by omega)) (hxt := (by first | exact hcn | exact fun i hi => Nat.le_trans (Nat.le_of_eq (hk1.2 i hi)) (hcn i (hk1.1 ▸ hi)) | exact fun i hi => Nat.le_trans (Nat.le_of_eq (hk2.2 i hi)) (hcn i (hk2.1 ▸ hi)) | exact fun i hi => Nat.le_trans (Nat.le_of_eq (hk3.2 i hi)) (hcn i (hk3.1 ▸ hi)) | exact fun i hi => Nat.le_trans (Nat.le_of_eq (hk4.2 i hi)) (hcn i (hk4.1 ▸ hi)) | exact fun i hi => Nat.le_trans (Nat.le_of_eq (hk5.2 i hi)) (hcn i (hk5.1 ▸ hi)) | exact fun i hi => Nat.le_trans (Nat.le_of_eq (hk6.2 i hi)) (hcn i (hk6.1 ▸ hi)) | exact fun i hi => Nat.le_trans (Nat.le_of_eq (hk7.2 i hi)) (hcn i (hk7.1 ▸ hi)) | exact fun i hi => Nat.le_trans (Nat.le_of_eq (hk8.2 i hi)) (hcn i (hk8.1 ▸ hi)) | exact fun i hi => Nat.le_trans (Nat.le_of_eq (hk9.2 i hi)) (hcn i (hk9.1 ▸ hi)) | exact fun i hi => Nat.le_trans (Nat.le_of_eq (hk10.2 i hi)) (hcn i (hk10.1 ▸ hi)) | exact fun i hi => Nat.le_trans (Nat.le_of_eq (hk11.2 i hi)) (hcn i (hk11.1 ▸ hi)) | exact fun i hi => Nat.le_trans (Nat.le_of_eq (hk12.2 i hi)) (hcn i (hk12.1 ▸ hi))))) ?_)
 rintro _ _ _ _ ⟨rfl, rfl, rfl⟩
 show XL _ _ _ _ _ _ _ (nodesD 2 22 145 x6 m3 :: intsH 2 x4 m1 :: pairsD 2 76 x5 m2 :: cellsH b4 [x6] 53 :: cellsH b3 [x4, x5] 39 :: cellsH b2 [x3] 53 :: cellsH b1 [arv, rsv] 27 :: L)
 refine qf (ii (heldF (m3.flatMap flatNd) 1)) rfl (qb (qc (qc (qa (qd (ii (heldF (m3.flatMap flatNd) 1)) rfl (cX (qT rfl rfl (qb ?_))))))))
 refine qx (p := (heldF (m3.flatMap flatNd) 1 : Int) < 0) rfl (fun h6 => ?_) (fun h6 => ?_)
 ·rw [hm2, heldF_iota] at h6
  exact absurd h6 (by omega)
 have hh2 := (fun (l : List Int) (k k2 : Int) (n : Nat) (h : l = iota k n) (hk : k2 = k) => show heldF l k2 = k + n from (by subst hk; rw [h, heldF_iota])) _ _ (1) _ hm2 (by first | rfl | omega)
 have hh2l := hh2
 try simp only [List.length_append] at hh2l
 refine qw (qc (qc (qa (qd (ii (heldF (m3.flatMap flatNd) 1)) rfl (qd (ii (1 + (((((proofF ar rs n).1).flatMap flatNd)).length : Int))) rfl (cX (XOp.neq rfl rfl (qb ?_))))))))
 refine qx (p := (heldF (m3.flatMap flatNd) 1 : Int) ≠ 1 + (((((proofF ar rs n).1).flatMap flatNd)).length : Int)) rfl (fun h7 => ?_) (fun h7 => ?_)
 ·exact absurd (by rw [hm2, heldF_iota]) h7
 refine qw (qc (qa (cX (qq [arv, rsv] isAgg27 sizeOf27 rfl rfl (Rd.ownN [_, _, _, _, _, _] rfl rfl) (cX (XOp.thawL (id (qn (args := [.agg #[arv, rsv]]) call13 rfl (toSystem_spec har hrs (hla := (by first | assumption | rfl | omega | simp)) (hrl := (by first | assumption | rfl | omega | simp)) (hrb := (by first | assumption | rfl | omega | simp))) ?_))))))))
 rintro _ F17 _ le17 ⟨x11, x12, rfl, hr16, hr17, hr18, rfl⟩
 refine ⟨[intsH 2 x11 ar, pairsD 2 76 x12 rs], hr18, ?_⟩
 show XL _ _ _ _ _ _ _ (intsH 2 x11 ar :: pairsD 2 76 x12 rs :: nodesD 2 22 145 x6 m3 :: intsH 2 x4 m1 :: pairsD 2 76 x5 m2 :: cellsH b4 [x6] 53 :: cellsH b3 [x4, x5] 39 :: cellsH b2 [x3] 53 :: cellsH b1 [arv, rsv] 27 :: L)
 refine qd (ii (n)) rfl (cX (XOp.lend [] _ _ rfl (fun F18 le18 hz10 => (id (XOp.lend [] _ _ rfl (fun F19 le19 hz11 => ?_))))))
 have hf10 : IntsF _ x11 ar := (intsH.fz (xs := ar) hz10).mono le19
 have hf11 : PairsF _ x12 rs := pairsD.fz hz11
 refine id (XOp.thawL (id (qn (args := [.agg #[x11, x12], ii (n)]) call21 rfl (LoopProof_spec (n := n) hf10 hf11) ?_)))
 rintro _ F20 _ le20 ⟨x13, rfl, hr19, hr20, rfl⟩
 refine ⟨[nodesD 2 22 145 x13 ((proofF ar rs n).1)], hr20, ?_⟩
 show XL _ _ _ _ _ _ _ (intsH 2 x11 ar :: pairsD 2 76 x12 rs :: nodesD 2 22 145 x13 ((proofF ar rs n).1) :: nodesD 2 22 145 x6 m3 :: intsH 2 x4 m1 :: pairsD 2 76 x5 m2 :: cellsH b4 [x6] 53 :: cellsH b3 [x4, x5] 39 :: cellsH b2 [x3] 53 :: cellsH b1 [arv, rsv] 27 :: L)
 refine qd (.tuple #[.agg #[x13], .bool ((proofF ar rs n).2)]) rfl (cX (qU (.agg #[x13]) rfl rfl (cX (qU (.bool ((proofF ar rs n).2)) rfl rfl (cX (qS [sN] jU rfl ?_))))))
 intro b5
 refine cX (qD [] _ [x13] jB rfl rfl rfl (qi (qC (NodesF.isSl hr19)) qH) rfl rfl rfl (qf (.bool ((proofF ar rs n).2)) rfl (qb (qc (qc (qa (cX (qq [x13] ye jB rfl rfl (Rd.ownN [] rfl rfl) (cX (qq [x3] ye jB rfl rfl (Rd.ownN [_, _, _, _, _, _, _, _, _] rfl rfl) (cX (XOp.lend [_, _, _] _ _ rfl (fun F21 le21 hz12 => ?_)))))))))))))
 have hf12 : NodesF _ x13 ((proofF ar rs n).1) := nodesD.fz hz12
 refine id (qn (args := [.agg #[x13], .agg #[x3]]) call22 rfl (eqProof_spec hf12 ((hr4.mono le21)) (hal := (by omega)) (hbd := (by first | assumption | exact (fun i hi => ⟨Nat.le_trans (hn2 i hi).1 (by decide), Nat.le_trans (hn2 i hi).2.1 (by decide), fun q hq => Nat.le_trans ((hn2 i hi).2.2.1 q hq) (by decide), Nat.le_trans (hn2 i hi).2.2.2 (by decide)⟩)))) ?_)
 rintro _ _ _ _ ⟨rfl, rfl, rfl⟩
 show XL _ _ _ _ _ _ _ (nodesD 2 22 145 x13 ((proofF ar rs n).1) :: cellsH b5 [x13] 53 :: intsH 2 x11 ar :: pairsD 2 76 x12 rs :: nodesD 2 22 145 x6 m3 :: intsH 2 x4 m1 :: pairsD 2 76 x5 m2 :: cellsH b4 [x6] 53 :: cellsH b3 [x4, x5] 39 :: cellsH b2 [x3] 53 :: cellsH b1 [arv, rsv] 27 :: L)
 refine cX (jH rfl (qd (.bool (decide (¬(((proofF ar rs n).1) = ((proofF ar rs n).1))))) rfl (qu (t := 88) rfl (vF h2) (qr (.bool ((proofF ar rs n).2)) rfl (qu (t := 88) rfl (vF h2) (qr (.bool ((proofF ar rs n).2)) rfl (qu (t := 88) rfl (vF h2) (XOp.neB (a := (proofF ar rs n).2) (b := (proofF ar rs n).2) runUnderlying4 rfl rfl (cX (ja (.bool (decide (((proofF ar rs n).2) ≠ ((proofF ar rs n).2)))) (vF h2) rfl (qb (X.condF (vF h3) (qw (qc (qa (qf (ii (1)) rfl ?_))))))))))))))))
 refine qb (qc (qa (cX (qq [x6] ye jB rfl rfl (Rd.ownN [_, _, _, _, _, _, _] rfl rfl) (qd (ii (1)) rfl (cX (XOp.lend [_, _, _, _] _ _ rfl (fun F22 le22 hz13 => ?_))))))))
 have hf13 : NodesF _ x6 m3 := nodesD.fz hz13
 refine id (qn (args := [.agg #[x6], ii (1)]) call25 rfl (heldProof_spec (z := 1) hf13 (hzb := (by constructor <;> omega)) (hxl := (by omega)) (hxt := (by first | exact hcn | exact fun i hi => Nat.le_trans (Nat.le_of_eq (hk1.2 i hi)) (hcn i (hk1.1 ▸ hi)) | exact fun i hi => Nat.le_trans (Nat.le_of_eq (hk2.2 i hi)) (hcn i (hk2.1 ▸ hi)) | exact fun i hi => Nat.le_trans (Nat.le_of_eq (hk3.2 i hi)) (hcn i (hk3.1 ▸ hi)) | exact fun i hi => Nat.le_trans (Nat.le_of_eq (hk4.2 i hi)) (hcn i (hk4.1 ▸ hi)) | exact fun i hi => Nat.le_trans (Nat.le_of_eq (hk5.2 i hi)) (hcn i (hk5.1 ▸ hi)) | exact fun i hi => Nat.le_trans (Nat.le_of_eq (hk6.2 i hi)) (hcn i (hk6.1 ▸ hi)) | exact fun i hi => Nat.le_trans (Nat.le_of_eq (hk7.2 i hi)) (hcn i (hk7.1 ▸ hi)) | exact fun i hi => Nat.le_trans (Nat.le_of_eq (hk8.2 i hi)) (hcn i (hk8.1 ▸ hi)) | exact fun i hi => Nat.le_trans (Nat.le_of_eq (hk9.2 i hi)) (hcn i (hk9.1 ▸ hi)) | exact fun i hi => Nat.le_trans (Nat.le_of_eq (hk10.2 i hi)) (hcn i (hk10.1 ▸ hi)) | exact fun i hi => Nat.le_trans (Nat.le_of_eq (hk11.2 i hi)) (hcn i (hk11.1 ▸ hi)) | exact fun i hi => Nat.le_trans (Nat.le_of_eq (hk12.2 i hi)) (hcn i (hk12.1 ▸ hi))))) ?_)
 rintro _ _ _ _ ⟨rfl, rfl, rfl⟩
 show XL _ _ _ _ _ _ _ (nodesD 2 22 145 x6 m3 :: nodesD 2 22 145 x13 ((proofF ar rs n).1) :: cellsH b5 [x13] 53 :: intsH 2 x11 ar :: pairsD 2 76 x12 rs :: intsH 2 x4 m1 :: pairsD 2 76 x5 m2 :: cellsH b4 [x6] 53 :: cellsH b3 [x4, x5] 39 :: cellsH b2 [x3] 53 :: cellsH b1 [arv, rsv] 27 :: L)
 refine qf (ii (heldF (m3.flatMap flatNd) 1)) rfl (qb (qc (qc (qa (qd (ii (heldF (m3.flatMap flatNd) 1)) rfl (cX (qT rfl rfl (qb (X.condF (vF h6) (qw (qc (qc (qa (qd (ii (heldF (m3.flatMap flatNd) 1)) rfl (qd (ii (1 + (((((proofF ar rs n).1).flatMap flatNd)).length : Int))) rfl (cX (XOp.neq rfl rfl ?_)))))))))))))))))
 refine qb (X.condF (vF h7) (qw (qc (qa (qf (.bool (true)) rfl (qb (qv (qp (L' := L) [.bool (true)] (.bool (true)) (.tmp rfl .nil) rfl rF (qm (qm (qm le2 le3) le4) le12) (sD (sD (sD (sD (sD (sD (sD (sD (sD (sD (sD sR))))))))))) ?_))))))))
 exact ⟨rfl, rfl, rfl⟩
end Go.Proofs.YtjpfankibmeaaaaGreat
