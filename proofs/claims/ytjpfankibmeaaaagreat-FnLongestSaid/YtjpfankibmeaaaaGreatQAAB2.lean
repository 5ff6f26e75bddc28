/-
  Walks, one after the other (part 3).
-/
import Derived.Test.YtjpfankibmeaaaaGreatQAAL1
import Derived.Test.YtjpfankibmeaaaaGreatQAAB1
set_option linter.unusedSimpArgs false
set_option linter.unusedVariables false
namespace Go.Proofs.YtjpfankibmeaaaaGreat
open Go X M Tryz

/- spec.l2Order -/
theorem l2Order_spec {F : FH} {L : List HP}  {tv : Value} {t : List Int} (ht : IntsF F tv t) (hlt : t.length ≤ 4000000) :
    Does prog 327 [tv] F (L) (fun v F' L' => (∃ (a : Value), ∃ (os : List Int), (a : Value) = v ∧ (IntsF F' a os) ∧ (os.length ≤ t.length)) ∧ L = L') := by
 refine qI func327 rfl rfl rfl (qc (qa (qg (sN) rfl (qb (qc (qa (cX (qo (s := 1) [] [ii (0)] [] qf qB qS rfl (by decide) rfl CellsAre.nil rfl ?_))))))))
 intro v1 hv1
 refine qg (v1) rfl (qb (qc (qc (qa (qg (ii (0)) rfl (qb (qK (jl (α := Nat × Value × List Int × FH) (fun xQ => [(0, tv), (3, xQ.2.1), (4, ii (((xQ.1 : Nat) : Int)))]) (fun xQ => intsH 2 xQ.2.1 xQ.2.2.1 :: L) (fun xQ F' => xQ.2.2.2 = F' ∧ F ≤ xQ.2.2.2 ∧ (IsSl xQ.2.1) ∧ (xQ.1 ≤ t.length) ∧ (xQ.2.2.1.length ≤ xQ.1)) (fun xQ => t.length - xQ.1) (0, v1, [], F) ⟨rfl, rfl, rfl, ⟨⟩⟩ (sC sR) ⟨rfl, FLe.refl _, ((qN hv1)), (Nat.zero_le _), (Nat.le_refl _)⟩ ?_))))))))
 rintro ⟨k, ov, os, G1⟩ rE _ _ ⟨rfl, leG, hov, hk, hok⟩
 show X _ _ _ _ (envs [(0, tv), (3, ov), (4, ii ((k : Int)))] rE) _ (intsH 2 ov os :: L)
 replace leG : F ≤ G1 := leG
 dsimp only at hov hk hok
 have leG1 := leG
 replace ht := ht.mono leG1
 refine qc (qc (qa (qd (ii ((k : Int))) rfl (qd (tv) rfl (cX (qE qf rfl ht.slv (cX (qW rfl rfl (qb ?_)))))))))
 refine qA (p := (k : Int) < (t.length : Int)) rfl (fun h1 => ?_) (fun h1 => ?_)
 ·refine qw (qc (qK (qc (qa (qd (tv) rfl (qd (ii ((k : Int))) rfl (cX (qD k qf qB rfl rfl rfl ht.slv (by omega) (Nat.mul_one _) (cX (qj jm rfl (ht.rd (by omega)) (cX (qW rfl rfl (qd (.bool (decide ((t.getD k 0 : Int) < 0))) rfl ?_)))))))))))))
  by_cases h2 : (t.getD k 0 : Int) < 0
  ·refine qy (t := 17) rfl (vT h2) (qp (ov) rfl (qy (t := 17) rfl (vT h2) (qp (tv) rfl (qy (t := 17) rfl (vT h2) (qp (ii ((k : Int))) rfl (qy (t := 17) rfl (vT h2) (qD k qf qB rfl rfl rfl ht.slv (by omega) (Nat.mul_one _) (qy (t := 17) rfl (vT h2) (qj jm rfl (ht.rd (by omega)) (qy (t := 17) rfl (vT h2) (XOp.lend [] _ _ rfl (fun F1 le1 hz1 => ?_))))))))))))
   have hf1 : IntsF _ ov os := intsH.fz (xs := os) hz1
   refine id (qm (args := [ov, ii (t.getD k 0)]) call259 rfl (l1Has_spec (n := t.getD k 0) hf1 (hbd := (by first | assumption | rfl | omega | simp))) ?_)
   rintro _ _ _ _ ⟨rfl, rfl, rfl⟩
   show XL _ _ _ _ _ _ _ (intsH 2 ov os :: L)
   refine qy (t := 17) rfl (vT h2) (XOp.notD rfl (cX (jj (.bool (decide (¬((t.getD k 0) ∈ os)))) (vT h2) rfl (qb ?_))))
   refine qA (p := ¬((t.getD k 0) ∈ os)) rfl (fun h3 => ?_) (fun h3 => ?_)
   ·refine qa (qd (ov) rfl (qd (tv) rfl (qd (ii ((k : Int))) rfl (cX (qD k qf qB rfl rfl rfl ht.slv (by omega) (Nat.mul_one _) (cX (qj jm rfl (ht.rd (by omega)) (cX (qo (s := 1) [ii (t.getD k 0)] [ii (0)] [(0, [ii (t.getD k 0)])] qf qB qS rfl (by decide) rfl (.cons rfl CellsAre.nil) rfl ?_)))))))))
    intro v2 hv2
    refine cX (XOp.append1 (u := t.getD k 0) [_] _ qf typeInfo2 rfl rfl rfl rfl rfl rfl (SlV.own [] rfl) (Rd.sl [] rfl rfl) (by (try simp only [List.length_append, List.length_nil, List.length_cons, List.length_singleton, List.length_take, List.length_drop]); omega) ?_)
    intro v3 hs1 hn1
    refine qg (v3) rfl (qb (qa (qd (ii ((k : Int))) rfl (cX (qH (((k + 1 : Nat) : Int)) rfl rfl (by omega) (by omega) (qg (ii (((k + 1 : Nat) : Int))) rfl (qb ?_)))))))
    exact ⟨(k + 1, v3, os ++ [t.getD k 0], G1), _, leG1, rF, ⟨rfl, rfl, rfl, ⟨⟩⟩, (sD (sC sR)), ⟨rfl, leG1, (hs1), (by (try dsimp only) <;> omega), (by (try dsimp only); (try rw [List.length_append]); (try simp only [List.length_singleton]); omega)⟩, (by omega)⟩
   refine qw (qa (qd (ii ((k : Int))) rfl (cX (qH (((k + 1 : Nat) : Int)) rfl rfl (by omega) (by omega) (qg (ii (((k + 1 : Nat) : Int))) rfl (qb ?_))))))
   exact ⟨(k + 1, ov, os, G1), _, leG1, rF, ⟨rfl, rfl, rfl, ⟨⟩⟩, (sC sR), ⟨rfl, leG1, (hov), (by (try dsimp only) <;> omega), (by (try dsimp only); (try rw [List.length_append]); (try simp only [List.length_singleton]); omega)⟩, (by omega)⟩
  refine qx (t := 17) rfl (vF h2) (qx (t := 17) rfl (vF h2) (qx (t := 17) rfl (vF h2) (qx (t := 17) rfl (vF h2) (qx (t := 17) rfl (vF h2) (qx (t := 17) rfl (vF h2) (qx (t := 17) rfl (vF h2) (cX (qY (.bool (false)) (vF h2) rfl (qb (X.condF rfl ?_))))))))))
  refine qw (qa (qd (ii ((k : Int))) rfl (cX (qH (((k + 1 : Nat) : Int)) rfl rfl (by omega) (by omega) (qg (ii (((k + 1 : Nat) : Int))) rfl (qb ?_))))))
  exact ⟨(k + 1, ov, os, G1), _, leG1, rF, ⟨rfl, rfl, rfl, ⟨⟩⟩, (sC sR), ⟨rfl, leG1, (hov), (by (try dsimp only) <;> omega), (by (try dsimp only); (try rw [List.length_append]); (try simp only [List.length_singleton]); omega)⟩, (by omega)⟩
 refine jk (qt (qt (qM (qc (qa (qd (ov) rfl (qg (ov) rfl (qb (qQ [] _ _ rfl (fun F2 le2 hz2 => ?_))))))))))
 have hf2 : IntsF F2 ov os := intsH.fz (xs := os) hz2.fz
 refine qu (qq (L' := L) [ov] (ov) (.tmp rfl .nil) rfl (qh leG1 le2) rF sR ?_)
 exact ⟨⟨_, _, rfl, hf2, by omega⟩, rfl⟩

/- spec.l6DrawRule -/
set_option maxHeartbeats 2000000 in
set_option maxRecDepth 20000 in
theorem l6DrawRule_spec {F : FH} {L : List HP} {cb : Nat} {bsv : Value} {bs : List Int} (hbs : BytesF F bsv bs) (hbl : bs.length ≤ 4000000) {arv : Value} {ar : List Int} (har : IntsF F arv ar) (hso : sigOk ar = true) :
    Does prog 355 [ptr cb 0, .agg #[arv]] F (curH .i64 247 cb bsv bs.length :: L) (fun v F' L' => (∃ (a : Value), ∃ (b : Value), (.agg #[a, b] : Value) = v ∧ (SomesF F' a (fun u => u.length ≤ 2000)) ∧ (SomesF F' b (fun w => w.length ≤ 2000))) ∧ curH .i64 247 cb bsv bs.length :: L = L') := by
 refine qI func355 rfl rfl rfl ?_
 have hsl := sigOk_spec hso
 refine qc (qa (cX (jc [arv] rfl rfl ?_)))
 intro b1
 refine cX (ji [sN, sN] jr rfl ?_)
 intro b2
 refine qb (qc ?_)
 refine jW [cellsH b2 [sN, sN] 76, cellsH b1 [arv] 36, curH .i64 247 cb bsv bs.length] L 5 [[], [], [], [], [3]] [[], [], [], [2], [3]] [] (phiG [pe (ptr cb 0), pe (.agg #[arv]), pe (ptr cb 0), fun FF us v => (ii (((intAt v))) : Value) = v ∧ (0 ≤ ((intAt v)) ∧ (((intAt v)) < 2 ∨ ((intAt v)) = 0)), fun FF us v => v = (ii (2 + (((intAt (us.getD 0 undef))))) : Value)]) (ownL []) mixed rfl rfl (by kernel_rfl) (by kernel_rfl) (MonoG.get (m1 (m1 (m1 (mC (fun le h => ⟨h.1, h.2⟩) (mC (fun le h => h) MonoG.nil)))))) ?_ ?_
 ·refine gD (fun W Fs R lF z9 => ?_) ?_
  ·refine qi (qp (ptr cb 0) rfl ?_)
   exact ⟨rfl, rfl⟩
  refine gD (fun W Fs R lF z9 => ?_) ?_
  ·replace hbs := hbs.mono lF
   replace har := har.mono lF
   refine qi (qr [arv] qX qF rfl rfl (Rd.ownN [_] rfl rfl) ?_)
   exact ⟨rfl, rfl⟩
  refine gD (fun W Fs R lF z9 => ?_) ?_
  ·refine qi (qp (ptr cb 0) rfl ?_)
   exact ⟨rfl, rfl⟩
  refine gD (fun W Fs R lF z9 => ?_) ?_
  ·replace hbs := hbs.mono lF
   replace har := har.mono lF
   rw [eS (l := [(2, _)]) ⟨z9 2 rfl, ⟨⟩⟩]
   refine qi (qm (args := [ptr cb 0, ii (2)]) jL rfl (jf [_, _] (l1Below_spec (n := 2) hbs (by omega) (hn := (by first | assumption | rfl | omega | simp)))) ?_)
   rintro _ _ _ _ ⟨⟨rfl, x2, rfl, hr2⟩, rfl⟩
   exact ⟨⟨rfl, hr2⟩, rfl⟩
  refine gD (fun W Fs R lF z9 => ?_) ?_
  ·obtain ⟨e3, f3_1hx⟩ := z9 3 rfl
   rw [eS (l := [(3, (ii (((intAt (W 3))))))]) ⟨(e3).symm, ⟨⟩⟩]
   refine qi (qH (2 + (((intAt (W 3))))) rfl rfl (by omega) (by omega) ?_)
   exact ⟨rfl, rfl⟩
  exact stepsG.nil
 intro W F3 le3 hphi
 obtain ⟨e3, f3_1hx⟩ := hphi 3 (by decide)
 have e4 : W 4 = (ii (2 + (((intAt (W 3))))) : Value) := hphi 4 (by decide)
 generalize hu1 : (intAt (W 3)) = u1 at e3 f3_1hx e4
 rw [eS (l := [(0, _), (1, _), (3, (ii ((u1)))), (4, (ii (2 + ((u1)))))]) ⟨(hphi 0 (by decide)), (hphi 1 (by decide)), (e3).symm, e4, ⟨⟩⟩]
 replace hbs := hbs.mono le3
 replace har := har.mono le3
 show XL _ _ _ _ _ _ _ (cellsH b2 [sN, sN] 76 :: cellsH b1 [arv] 36 :: curH .i64 247 cb bsv bs.length :: L)
 refine cX (qm (args := [ptr cb 0, .agg #[arv], ii (((2 + ((u1))).toNat : Nat) : Int), ii (2)]) call252 (by rw [show (((2 + ((u1))).toNat : Nat) : Int) = 2 + ((u1)) from by omega]; rfl) (Does.atO [_, _] (l1DrawTerm_spec ((2 + ((u1))).toNat) (vs := 2) hbs (by omega) har (hso := (by first | assumption | rfl | omega | simp)) (hdp := (by first | assumption | rfl | omega | simp)) (hvs := (by first | assumption | rfl | omega | simp)))) ?_)
 rintro _ F4 _ le4 ⟨x4, ⟨rfl, hsl1⟩, rfl⟩
 replace hbs := hbs.mono le4
 replace har := har.mono le4
 show XL _ _ _ _ _ _ _ (drawnH 2 x4 (fun t => goodT ar t ∧ 1 ≤ t.length ∧ t.length ≤ szT ((2 + ((u1))).toNat)) :: cellsH b2 [sN, sN] 76 :: cellsH b1 [arv] 36 :: curH .i64 247 cb bsv bs.length :: L)
 refine XL.undraw [] rfl (fun t1 hq9 => ?_)
 obtain ⟨q1, q2, q3⟩ := hq9
 show XL _ _ _ _ _ _ _ (intsH 2 x4 t1 :: cellsH b2 [sN, sN] 76 :: cellsH b1 [arv] 36 :: curH .i64 247 cb bsv bs.length :: L)
 have hz9 := szT_le (d := (2 + ((u1))).toNat) (e := 3) (by omega)
 have hz8 : szT 3 = 40 := rfl
 have hz7 : szT 1 = 4 := rfl
 refine qg (x4) rfl (qb (qc (qc (qa (qd (x4) rfl (cX (qD 0 qf qB rfl rfl rfl (intsH.slv [] rfl) (by omega) (Nat.mul_one _) (cX (qj jm rfl (intsH.rd [] rfl (by omega)) (cX (qW rfl rfl (qb ?_))))))))))))
 refine qA (p := (t1.getD 0 0 : Int) < 0) rfl (fun h1 => ?_) (fun h1 => ?_)
 ·refine qc (qa (qd (ptr cb 0) rfl (cX (ql (0) jg rfl qs (by decide) rfl rfl (cX (qj qU rfl (Rd.own [_, _] rfl rfl) (cX (qE qf rfl har.slv (cX (qm (args := [ptr cb 0, ii ((ar.length : Int))]) jL rfl (jf [_, _, _] (l1Below_spec (n := (ar.length : Int)) hbs (by omega) (hn := (by first | assumption | rfl | omega | simp)))) ?_))))))))))
  rintro _ _ _ _ ⟨⟨rfl, x5, rfl, hr3⟩, rfl⟩
  show XL _ _ _ _ _ _ _ (intsH 2 x4 t1 :: cellsH b2 [sN, sN] 76 :: cellsH b1 [arv] 36 :: curH .i64 247 cb bsv bs.length :: L)
  refine qg (ii (x5)) rfl (qb (qc (qa (qd (ii (x5)) rfl (cX (qo (s := 1) [ii (x5)] [ii (0)] [(0, [ii (x5)])] qf qB qS rfl (by decide) rfl (.cons rfl CellsAre.nil) rfl ?_))))))
  intro v1 hv1
  refine qg (v1) rfl (qb (qc (qa ?_)))
  show XL _ _ _ _ _ _ _ (intsH 2 v1 ([x5] : List Int) :: intsH 2 x4 t1 :: cellsH b2 [sN, sN] 76 :: cellsH b1 [arv] 36 :: curH .i64 247 cb bsv bs.length :: L)
  skip
  refine cX (ql (0) jg rfl qs (by decide) rfl rfl (cX (qj qU rfl (Rd.own [_, _, _] rfl rfl) (qd (ii (x5)) rfl (cX (qD ((x5).toNat) qf qB rfl rfl (by omega) har.slv (by omega) (Nat.mul_one _) (cX (qj jm rfl (har.rd (by omega)) (qg (ii (ar.getD ((x5).toNat) 0)) rfl ?_)))))))))
  have hfr : 0 ≤ x5 ∧ x5 < (ar.length : Int) := by omega
  have hsp := (sigOk_spec hso).2.2 (x5).toNat (by omega)
  obtain ⟨haK, hKe⟩ : ∃ q : Nat, q = (ar.getD ((x5).toNat) 0).toNat := ⟨_, rfl⟩
  have hK3 : haK ≤ 3 := by omega
  have hKa : arity ar x5 = (haK : Int) := by rw [arity, if_neg (by omega)]; omega
  refine qb (qK (jl (α := Nat × Value × List Int × List Int × FH) (fun xQ => [(0, ptr cb 0), (3, ptr b1 0), (4, ptr b2 0), (5, xQ.2.1), (7, ii (((xQ.1 : Nat) : Int)))]) (fun xQ => intsH 2 xQ.2.1 xQ.2.2.1 :: intsH 2 x4 t1 :: cellsH b2 [sN, sN] 76 :: cellsH b1 [arv] 36 :: curH .i64 247 cb bsv bs.length :: L) (fun xQ F' => xQ.2.2.2.2 = F' ∧ F4 ≤ xQ.2.2.2.2 ∧ (IsSl xQ.2.1) ∧ (xQ.2.2.1 = x5 :: xQ.2.2.2.1) ∧ (xQ.1 + (haK - xQ.1) = haK ∧ xQ.1 ≤ haK) ∧ (goodN ar xQ.2.2.2.1 (haK - xQ.1)) ∧ (xQ.2.2.2.1.length ≤ (haK - xQ.1) * (szT 1))) (fun xQ => xQ.1) ((ar.getD ((x5).toNat) 0).toNat, v1, [x5], [], F4) ⟨rfl, rfl, rfl, rfl, (vI (by omega)), ⟨⟩⟩ (sC (sC (sC (sC (sC sR))))) ⟨rfl, FLe.refl _, ((qN hv1)), (rfl), (by (try dsimp only); omega), (by (try dsimp only); rw [show haK - (ar.getD ((x5).toNat) 0).toNat = 0 from by omega]; exact goodN.nil), (by (try dsimp only); simp)⟩ ?_))
  rintro ⟨n, ov, os, ot, G1⟩ rE _ _ ⟨rfl, leG, hov, hoe, hn3, hgo, hol⟩
  show X _ _ _ _ (envs [(0, ptr cb 0), (3, ptr b1 0), (4, ptr b2 0), (5, ov), (7, ii ((n : Int)))] rE) _ (intsH 2 ov os :: intsH 2 x4 t1 :: cellsH b2 [sN, sN] 76 :: cellsH b1 [arv] 36 :: curH .i64 247 cb bsv bs.length :: L)
  replace leG : F4 ≤ G1 := leG
  dsimp only at hov hoe hn3 hgo hol
  have hm9 : (haK - n) * (szT 1) ≤ 3 * (szT 1) := Nat.mul_le_mul_right _ (by omega)
  have hool : os.length = ot.length + 1 := by rw [hoe]; rfl
  have leG1 := leG
  replace hbs := hbs.mono leG1
  replace har := har.mono leG1
  refine qc (qc (qa (qd (ii ((n : Int))) rfl (cX (jI rfl rfl (qb ?_))))))
  refine qA (p := (n : Int) > 0) rfl (fun h2 => ?_) (fun h2 => ?_)
  ·refine qw (qc (qK (qa (qd (ov) rfl (qd (ptr cb 0) rfl (cX (qr [arv] qX qF rfl rfl (Rd.ownN [_, _, _] rfl rfl) (cX (qm (args := [ptr cb 0, .agg #[arv], ii ((1 : Nat) : Int), ii (2)]) call252 rfl (Does.atO [_, _, _, _] (l1DrawTerm_spec 1 (vs := 2) hbs (by omega) har (hso := (by first | assumption | rfl | omega | simp)) (hdp := (by first | assumption | rfl | omega | simp)) (hvs := (by first | assumption | rfl | omega | simp)))) ?_)))))))))
   rintro _ F6 _ le6 ⟨x7, ⟨rfl, hsl2⟩, rfl⟩
   replace hbs := hbs.mono le6
   replace har := har.mono le6
   show XL _ _ _ _ _ _ _ (drawnH 2 x7 (fun t => goodT ar t ∧ 1 ≤ t.length ∧ t.length ≤ szT 1) :: intsH 2 ov os :: intsH 2 x4 t1 :: cellsH b2 [sN, sN] 76 :: cellsH b1 [arv] 36 :: curH .i64 247 cb bsv bs.length :: L)
   refine XL.undraw [] rfl (fun t2 hq9 => ?_)
   obtain ⟨q4, q5, q6⟩ := hq9
   show XL _ _ _ _ _ _ _ (intsH 2 x7 t2 :: intsH 2 ov os :: intsH 2 x4 t1 :: cellsH b2 [sN, sN] 76 :: cellsH b1 [arv] 36 :: curH .i64 247 cb bsv bs.length :: L)
   refine jO [] _ _ rfl (fun F7 le7 hz1 => ?_)
   replace hbs := hbs.mono le7
   replace har := har.mono le7
   have hf1 : IntsF F7 x7 t2 := intsH.fz (xs := t2) hz1.fz
   refine cX (XOp.appendI [] _ qf typeInfo2 rfl rfl rfl rfl rfl rfl hf1 (by (try simp only [List.length_append, List.length_nil, List.length_cons, List.length_singleton, List.length_take, List.length_drop]); omega) ?_)
   intro v2 hs1 hn1 hm1
   refine qg (v2) rfl (qb (qa (qd (ii ((n : Int))) rfl (cX (jq (((n - 1 : Nat) : Int)) rfl rfl (by omega) (by omega) (qg (ii (((n - 1 : Nat) : Int))) rfl (qb ?_)))))))
   exact ⟨(n - 1, v2, os ++ t2, (ot ++ t2), F7), _, (qh (qh leG1 le6) le7), rF, ⟨rfl, rfl, rfl, rfl, rfl, ⟨⟩⟩, (sC (sC (sC (sC (sC sR))))), ⟨rfl, (qh (qh leG1 le6) le7), (hs1), (by (try dsimp only); rw [hoe] <;> rfl), (by (try dsimp only); omega), (by (try dsimp only); rw [show haK - (n - 1) = haK - n + 1 from by omega]; exact hgo.snoc q4), (by (try dsimp only); rw [show haK - (n - 1) = haK - n + 1 from by omega, Nat.succ_mul, List.length_append]; omega)⟩, (by (try dsimp only); omega)⟩
  refine jk (qt (qt (qM (qc ?_))))
  refine jW [intsH 2 ov os, intsH 2 x4 t1, cellsH b2 [sN, sN] 76, cellsH b1 [arv] 36, curH .i64 247 cb bsv bs.length] L 5 [[], [], [], [], [3]] [[], [], [], [2], [3]] [] (phiG [pe (ptr cb 0), pe (.agg #[arv]), pe (ptr cb 0), fun FF us v => (ii (((intAt v))) : Value) = v ∧ (0 ≤ ((intAt v)) ∧ (((intAt v)) < 3 ∨ ((intAt v)) = 0)), fun FF us v => v = (ii (1 + (((intAt (us.getD 0 undef))))) : Value)]) (ownL []) mixed rfl rfl (by kernel_rfl) (by kernel_rfl) (MonoG.get (m1 (m1 (m1 (mC (fun le h => ⟨h.1, h.2⟩) (mC (fun le h => h) MonoG.nil)))))) ?_ ?_
  ·refine gD (fun W Fs R lF z9 => ?_) ?_
   ·refine qi (qp (ptr cb 0) rfl ?_)
    exact ⟨rfl, rfl⟩
   refine gD (fun W Fs R lF z9 => ?_) ?_
   ·replace hbs := hbs.mono lF
    replace har := har.mono lF
    refine qi (qr [arv] qX qF rfl rfl (Rd.ownN [_, _, _] rfl rfl) ?_)
    exact ⟨rfl, rfl⟩
   refine gD (fun W Fs R lF z9 => ?_) ?_
   ·refine qi (qp (ptr cb 0) rfl ?_)
    exact ⟨rfl, rfl⟩
   refine gD (fun W Fs R lF z9 => ?_) ?_
   ·replace hbs := hbs.mono lF
    replace har := har.mono lF
    rw [eS (l := [(2, _)]) ⟨z9 2 rfl, ⟨⟩⟩]
    refine qi (qm (args := [ptr cb 0, ii (3)]) jL rfl (jf [_, _, _, _] (l1Below_spec (n := 3) hbs (by omega) (hn := (by first | assumption | rfl | omega | simp)))) ?_)
    rintro _ _ _ _ ⟨⟨rfl, x9, rfl, hr5⟩, rfl⟩
    exact ⟨⟨rfl, hr5⟩, rfl⟩
   refine gD (fun W Fs R lF z9 => ?_) ?_
   ·obtain ⟨e3, f3_2hx⟩ := z9 3 rfl
    rw [eS (l := [(3, (ii (((intAt (W 3))))))]) ⟨(e3).symm, ⟨⟩⟩]
    refine qi (qH (1 + (((intAt (W 3))))) rfl rfl (by omega) (by omega) ?_)
    exact ⟨rfl, rfl⟩
   exact stepsG.nil
  intro W F10 le10 hphi
  obtain ⟨e3, f3_2hx⟩ := hphi 3 (by decide)
  have e4 : W 4 = (ii (1 + (((intAt (W 3))))) : Value) := hphi 4 (by decide)
  generalize hu2 : (intAt (W 3)) = u2 at e3 f3_2hx e4
  rw [eS (l := [(0, _), (1, _), (3, (ii ((u2)))), (4, (ii (1 + ((u2)))))]) ⟨(hphi 0 (by decide)), (hphi 1 (by decide)), (e3).symm, e4, ⟨⟩⟩]
  replace hbs := hbs.mono le10
  replace har := har.mono le10
  show XL _ _ _ _ _ _ _ (intsH 2 ov os :: intsH 2 x4 t1 :: cellsH b2 [sN, sN] 76 :: cellsH b1 [arv] 36 :: curH .i64 247 cb bsv bs.length :: L)
  refine cX (qm (args := [ptr cb 0, .agg #[arv], ii (((1 + ((u2))).toNat : Nat) : Int), ii (2)]) call252 (by rw [show (((1 + ((u2))).toNat : Nat) : Int) = 1 + ((u2)) from by omega]; rfl) (Does.atO [_, _, _, _] (l1DrawTerm_spec ((1 + ((u2))).toNat) (vs := 2) hbs (by omega) har (hso := (by first | assumption | rfl | omega | simp)) (hdp := (by first | assumption | rfl | omega | simp)) (hvs := (by first | assumption | rfl | omega | simp)))) ?_)
  rintro _ F11 _ le11 ⟨x11, ⟨rfl, hsl3⟩, rfl⟩
  replace hbs := hbs.mono le11
  replace har := har.mono le11
  show XL _ _ _ _ _ _ _ (drawnH 2 x11 (fun t => goodT ar t ∧ 1 ≤ t.length ∧ t.length ≤ szT ((1 + ((u2))).toNat)) :: intsH 2 ov os :: intsH 2 x4 t1 :: cellsH b2 [sN, sN] 76 :: cellsH b1 [arv] 36 :: curH .i64 247 cb bsv bs.length :: L)
  refine XL.undraw [] rfl (fun t3 hq9 => ?_)
  obtain ⟨q7, q8, q9⟩ := hq9
  show XL _ _ _ _ _ _ _ (intsH 2 x11 t3 :: intsH 2 ov os :: intsH 2 x4 t1 :: cellsH b2 [sN, sN] 76 :: cellsH b1 [arv] 36 :: curH .i64 247 cb bsv bs.length :: L)
  have hoT : goodT ar os := by rw [hoe]; exact goodT.node hfr.1 (by omega) hKa (by have h9 := hgo; rwa [show haK - n = haK from by omega] at h9)
  have hol : termOk ar os = true := goodT.ok hso (by omega) hoT
  refine jO [_] _ _ rfl (fun F12 le12 hz2 => ?_)
  replace hbs := hbs.mono le12
  replace har := har.mono le12
  have hf2 : IntsF F12 ov os := intsH.fz (xs := os) hz2.fz
  have hy9 := szT_le (d := (1 + ((u2))).toNat) (e := 3) (by omega)
  refine qg (x11) rfl (qb (qc (qc (qa (qg (ii (0)) rfl (qb (qK (jl (α := Nat × List Int × FH) (fun xQ => [(3, ptr b1 0), (4, ptr b2 0), (5, ov), (8, x11), (9, ii (((xQ.1 : Nat) : Int)))]) (fun xQ => intsH 2 x11 xQ.2.1 :: intsH 2 x4 t1 :: cellsH b2 [sN, sN] 76 :: cellsH b1 [arv] 36 :: curH .i64 247 cb bsv bs.length :: L) (fun xQ F' => xQ.2.2 = F' ∧ F12 ≤ xQ.2.2 ∧ (xQ.1 ≤ xQ.2.1.length) ∧ (xQ.2.1.length = t3.length)) (fun xQ => xQ.2.1.length - xQ.1) (0, t3, F12) ⟨rfl, rfl, rfl, rfl, rfl, ⟨⟩⟩ (sC (sC (sC (sC (sC sR))))) ⟨rfl, FLe.refl _, (Nat.zero_le _), (rfl)⟩ ?_))))))))
  rintro ⟨k, rr, G2⟩ rE _ _ ⟨rfl, leG, hk, hrl⟩
  show X _ _ _ _ (envs [(3, ptr b1 0), (4, ptr b2 0), (5, ov), (8, x11), (9, ii ((k : Int)))] rE) _ (intsH 2 x11 rr :: intsH 2 x4 t1 :: cellsH b2 [sN, sN] 76 :: cellsH b1 [arv] 36 :: curH .i64 247 cb bsv bs.length :: L)
  replace leG : F12 ≤ G2 := leG
  dsimp only at hk hrl
  have leG2 := leG
  replace hbs := hbs.mono leG2
  replace har := har.mono leG2
  replace hf2 := hf2.mono leG2
  refine qc (qc (qa (qd (ii ((k : Int))) rfl (qd (x11) rfl (cX (qE qf rfl (intsH.slv [] rfl) (cX (qW rfl rfl (qb ?_)))))))))
  refine qA (p := (k : Int) < (rr.length : Int)) rfl (fun h3 => ?_) (fun h3 => ?_)
  ·refine qw (qc (qK (qc (qa (qd (x11) rfl (qd (ii ((k : Int))) rfl (cX (qD k qf qB rfl rfl rfl (intsH.slv [] rfl) (by omega) (Nat.mul_one _) (cX (qj jm rfl (intsH.rd [] rfl (by omega)) (cX (qW rfl rfl (qd (.bool (decide ((rr.getD k 0 : Int) < 0))) rfl ?_)))))))))))))
   by_cases h4 : (rr.getD k 0 : Int) < 0
   ·refine qy (t := 59) rfl (vT h4) (qp (ov) rfl (qy (t := 59) rfl (vT h4) (qp (x11) rfl (qy (t := 59) rfl (vT h4) (qp (ii ((k : Int))) rfl (qy (t := 59) rfl (vT h4) (qD k qf qB rfl rfl rfl (intsH.slv [] rfl) (by omega) (Nat.mul_one _) (qy (t := 59) rfl (vT h4) (qj jm rfl (intsH.rd [] rfl (by omega)) (qy (t := 59) rfl (vT h4) (qm (args := [ov, ii (rr.getD k 0)]) call259 rfl (l1Has_spec (n := rr.getD k 0) hf2 (hbd := (by first | assumption | rfl | omega | simp))) ?_)))))))))))
    rintro _ _ _ _ ⟨rfl, rfl, rfl⟩
    refine qy (t := 59) rfl (vT h4) (XOp.notD rfl (cX (jj (.bool (decide (¬((rr.getD k 0) ∈ os)))) (vT h4) rfl (qb ?_))))
    refine qA (p := ¬((rr.getD k 0) ∈ os)) rfl (fun h5 => ?_) (fun h5 => ?_)
    ·refine qc (qa (qd (ov) rfl (cX (qm (args := [ov]) call327 rfl (l2Order_spec hf2 (hlt := (by first | assumption | rfl | omega | simp))) ?_))))
     rintro _ F13 _ le13 ⟨⟨x12, x13, rfl, hr6, hr7⟩, rfl⟩
     replace hbs := hbs.mono le13
     replace har := har.mono le13
     replace hf2 := hf2.mono le13
     show XL _ _ _ _ _ _ _ (intsH 2 x11 rr :: intsH 2 x4 t1 :: cellsH b2 [sN, sN] 76 :: cellsH b1 [arv] 36 :: curH .i64 247 cb bsv bs.length :: L)
     refine qg (x12) rfl (qb (qc (qc (qa (qd (x12) rfl (cX (qE qf rfl hr6.slv (cX (js rfl rfl (qb ?_))))))))))
     refine qA (p := ((x13.length : Int) : Int) = 0) rfl (fun h6 => ?_) (fun h6 => ?_)
     ·refine qc (qa (qd (ov) rfl (cX (qr [arv] qX qF rfl rfl (Rd.ownN [_, _, _] rfl rfl) (qd (ov) rfl (qd (ov) rfl (cX (qE qf rfl hf2.slv (cX (jq (((((os).length) - 1 : Nat) : Int)) rfl rfl (by omega) (by omega) (cX (jZ <| qm (args := [.agg #[arv], ov, ii ((((os).length) - 1 : Nat) : Int)]) call150 rfl (l1Sub_spec (p := ((os).length) - 1) har hf2 (ho := (hol)) (hp := (by first | assumption | rfl | omega | simp))) ?_))))))))))))
      rintro v3 _ _ _ ⟨rfl, hs2, rfl⟩
      refine ⟨_, _, rfl, fun F14 le14 hz3 => ?_⟩
      replace hbs := hbs.mono le14
      replace har := har.mono le14
      replace hf2 := hf2.mono le14
      replace hr6 := hr6.mono le14
      have hf3 : IntsF F14 v3 ((sub ar os (((os).length) - 1))) := intsH.fz (xs := (sub ar os (((os).length) - 1))) hz3.fz
      refine cX (jh [ov, v3] [sN, sN] [(0, 1), (1, 1)] [(0, [ov]), (1, [v3])] qV jr rfl (.cons rfl qs (.cons rfl qs PlacesAre.nil)) rfl (.cons (cells_one (qz hf2)) (.cons (cells_one (qz hf3)) CellsAre.nil)) (cX (qL [_, _] _ [ov, v3] jA rfl rfl rfl (qn (qG (qz hf2)) (qn (qG (qz hf3)) qO)) rfl rfl rfl (qb (qu (qk (qC (qk (qk (qC (qk (qq (L' := curH .i64 247 cb bsv bs.length :: L) [.agg #[ov, v3]] (.agg #[ov, v3]) (.cell rfl (ju [ov, v3] isAgg76 jA rfl (Rd.ownN [_, _] rfl rfl)) .nil) rfl (qh (qh (qh (qh (qh (qh (qh (qh le3 le4) leG1) le10) le11) le12) leG2) le13) le14) rF (sD (sD (sD (sD (sC sR))))) ?_))))))))))))
      exact ⟨⟨_, _, rfl, ⟨_, hf2, by omega⟩, ⟨_, hf3, by have h9 := sub_le (ar := ar) (t := os) (p := os.length - 1); omega⟩⟩, rfl⟩
     refine qw (qa (qd (x11) rfl (qd (ii ((k : Int))) rfl (qd (x12) rfl (cX (qD 0 qf qB rfl rfl rfl hr6.slv (by omega) (Nat.mul_one _) (cX (qj jm rfl (hr6.rd (by omega)) (cX (qD k qf qB rfl rfl rfl (intsH.slv [] rfl) (by omega) (Nat.mul_one _) (cX (intsH.storeX (i := k) (v := x11) [] _ (rr.set k (x13.getD 0 0)) qB rfl rfl rfl (by omega) rfl (qb (qa (qd (ii ((k : Int))) rfl ?_)))))))))))))))
     refine cX (qH (((k + 1 : Nat) : Int)) rfl rfl (by omega) (by omega) (qg (ii (((k + 1 : Nat) : Int))) rfl (qb ?_)))
     exact ⟨(k + 1, (rr.set k (x13.getD 0 0)), F13), _, (qh leG2 le13), rF, ⟨rfl, rfl, rfl, rfl, rfl, ⟨⟩⟩, (sC (sC (sC (sC (sC sR))))), ⟨rfl, (qh leG2 le13), (by (try dsimp only); (try rw [List.length_set]); omega), (by (try dsimp only); (try rw [List.length_set]); omega)⟩, (by (try dsimp only); (try rw [List.length_set]); omega)⟩
    refine qw (qa (qd (ii ((k : Int))) rfl (cX (qH (((k + 1 : Nat) : Int)) rfl rfl (by omega) (by omega) (qg (ii (((k + 1 : Nat) : Int))) rfl (qb ?_))))))
    exact ⟨(k + 1, rr, G2), _, leG2, rF, ⟨rfl, rfl, rfl, rfl, rfl, ⟨⟩⟩, (sC (sC (sC (sC (sC sR))))), ⟨rfl, leG2, (by (try dsimp only); (try rw [List.length_set]); omega), (by (try dsimp only); (try rw [List.length_set]); omega)⟩, (by (try dsimp only); (try rw [List.length_set]); omega)⟩
   refine qx (t := 59) rfl (vF h4) (qx (t := 59) rfl (vF h4) (qx (t := 59) rfl (vF h4) (qx (t := 59) rfl (vF h4) (qx (t := 59) rfl (vF h4) (qx (t := 59) rfl (vF h4) (qx (t := 59) rfl (vF h4) (cX (qY (.bool (false)) (vF h4) rfl (qb (X.condF rfl ?_))))))))))
   refine qw (qa (qd (ii ((k : Int))) rfl (cX (qH (((k + 1 : Nat) : Int)) rfl rfl (by omega) (by omega) (qg (ii (((k + 1 : Nat) : Int))) rfl (qb ?_))))))
   exact ⟨(k + 1, rr, G2), _, leG2, rF, ⟨rfl, rfl, rfl, rfl, rfl, ⟨⟩⟩, (sC (sC (sC (sC (sC sR))))), ⟨rfl, leG2, (by (try dsimp only); (try rw [List.length_set]); omega), (by (try dsimp only); (try rw [List.length_set]); omega)⟩, (by (try dsimp only); (try rw [List.length_set]); omega)⟩
  refine jk (qt (qt (qM (qc (qa (qd (ov) rfl (qd (x11) rfl (cX (jh [ov, x11] [sN, sN] [(0, 1), (1, 1)] [(0, [ov]), (1, [x11])] qV jr rfl (.cons rfl qs (.cons rfl qs PlacesAre.nil)) rfl (.cons (cells_one (qz hf2)) (.cons (cells_one hsl3) CellsAre.nil)) (cX (qL [_, _] _ [ov, x11] jA rfl rfl rfl (qn (qG (qz hf2)) (qn (qG hsl3) qO)) rfl rfl rfl (qb (qQ [] _ _ rfl (fun F15 le15 hz4 => ?_))))))))))))))
  replace hbs := hbs.mono le15
  replace har := har.mono le15
  replace hf2 := hf2.mono le15
  have hf4 : IntsF F15 x11 rr := intsH.fz (xs := rr) hz4.fz
  refine qu (qq (L' := curH .i64 247 cb bsv bs.length :: L) [.agg #[ov, x11]] (.agg #[ov, x11]) (.cell rfl (ju [ov, x11] isAgg76 jA rfl (Rd.ownN [_] rfl rfl)) .nil) rfl (qh (qh (qh (qh (qh (qh (qh le3 le4) leG1) le10) le11) le12) leG2) le15) rF (sD (sD (sD (sC sR)))) ?_)
  exact ⟨⟨_, _, rfl, ⟨_, hf2, by omega⟩, ⟨_, hf4, by omega⟩⟩, rfl⟩
 refine qw (qc ?_)
 refine jW [intsH 2 x4 t1, cellsH b2 [sN, sN] 76, cellsH b1 [arv] 36, curH .i64 247 cb bsv bs.length] L 5 [[], [], [], [], [3]] [[], [], [], [2], [3]] [] (phiG [pe (ptr cb 0), pe (.agg #[arv]), pe (ptr cb 0), fun FF us v => (ii (((intAt v))) : Value) = v ∧ (0 ≤ ((intAt v)) ∧ (((intAt v)) < 3 ∨ ((intAt v)) = 0)), fun FF us v => v = (ii (1 + (((intAt (us.getD 0 undef))))) : Value)]) (ownL []) mixed rfl rfl (by kernel_rfl) (by kernel_rfl) (MonoG.get (m1 (m1 (m1 (mC (fun le h => ⟨h.1, h.2⟩) (mC (fun le h => h) MonoG.nil)))))) ?_ ?_
 ·refine gD (fun W Fs R lF z9 => ?_) ?_
  ·refine qi (qp (ptr cb 0) rfl ?_)
   exact ⟨rfl, rfl⟩
  refine gD (fun W Fs R lF z9 => ?_) ?_
  ·replace hbs := hbs.mono lF
   replace har := har.mono lF
   refine qi (qr [arv] qX qF rfl rfl (Rd.ownN [_, _] rfl rfl) ?_)
   exact ⟨rfl, rfl⟩
  refine gD (fun W Fs R lF z9 => ?_) ?_
  ·refine qi (qp (ptr cb 0) rfl ?_)
   exact ⟨rfl, rfl⟩
  refine gD (fun W Fs R lF z9 => ?_) ?_
  ·replace hbs := hbs.mono lF
   replace har := har.mono lF
   rw [eS (l := [(2, _)]) ⟨z9 2 rfl, ⟨⟩⟩]
   refine qi (qm (args := [ptr cb 0, ii (3)]) jL rfl (jf [_, _, _] (l1Below_spec (n := 3) hbs (by omega) (hn := (by first | assumption | rfl | omega | simp)))) ?_)
   rintro _ _ _ _ ⟨⟨rfl, x15, rfl, hr9⟩, rfl⟩
   exact ⟨⟨rfl, hr9⟩, rfl⟩
  refine gD (fun W Fs R lF z9 => ?_) ?_
  ·obtain ⟨e3, f3_3hx⟩ := z9 3 rfl
   rw [eS (l := [(3, (ii (((intAt (W 3))))))]) ⟨(e3).symm, ⟨⟩⟩]
   refine qi (qH (1 + (((intAt (W 3))))) rfl rfl (by omega) (by omega) ?_)
   exact ⟨rfl, rfl⟩
  exact stepsG.nil
 intro W F18 le18 hphi
 obtain ⟨e3, f3_3hx⟩ := hphi 3 (by decide)
 have e4 : W 4 = (ii (1 + (((intAt (W 3))))) : Value) := hphi 4 (by decide)
 generalize hu3 : (intAt (W 3)) = u3 at e3 f3_3hx e4
 rw [eS (l := [(0, _), (1, _), (3, (ii ((u3)))), (4, (ii (1 + ((u3)))))]) ⟨(hphi 0 (by decide)), (hphi 1 (by decide)), (e3).symm, e4, ⟨⟩⟩]
 replace hbs := hbs.mono le18
 replace har := har.mono le18
 show XL _ _ _ _ _ _ _ (intsH 2 x4 t1 :: cellsH b2 [sN, sN] 76 :: cellsH b1 [arv] 36 :: curH .i64 247 cb bsv bs.length :: L)
 refine cX (qm (args := [ptr cb 0, .agg #[arv], ii (((1 + ((u3))).toNat : Nat) : Int), ii (2)]) call252 (by rw [show (((1 + ((u3))).toNat : Nat) : Int) = 1 + ((u3)) from by omega]; rfl) (Does.atO [_, _, _] (l1DrawTerm_spec ((1 + ((u3))).toNat) (vs := 2) hbs (by omega) har (hso := (by first | assumption | rfl | omega | simp)) (hdp := (by first | assumption | rfl | omega | simp)) (hvs := (by first | assumption | rfl | omega | simp)))) ?_)
 rintro _ F19 _ le19 ⟨x17, ⟨rfl, hsl4⟩, rfl⟩
 replace har := har.mono le19
 show XL _ _ _ _ _ _ _ (drawnH 2 x17 (fun t => goodT ar t ∧ 1 ≤ t.length ∧ t.length ≤ szT ((1 + ((u3))).toNat)) :: intsH 2 x4 t1 :: cellsH b2 [sN, sN] 76 :: cellsH b1 [arv] 36 :: curH .i64 247 cb bsv bs.length :: L)
 refine XL.undraw [] rfl (fun t4 hq9 => ?_)
 obtain ⟨q10, q11, q12⟩ := hq9
 show XL _ _ _ _ _ _ _ (intsH 2 x17 t4 :: intsH 2 x4 t1 :: cellsH b2 [sN, sN] 76 :: cellsH b1 [arv] 36 :: curH .i64 247 cb bsv bs.length :: L)
 have hol : termOk ar t1 = true := goodT.ok hso (by omega) q1
 refine jO [_] _ _ rfl (fun F20 le20 hz5 => ?_)
 replace har := har.mono le20
 have hf5 : IntsF F20 x4 t1 := intsH.fz (xs := t1) hz5.fz
 have hy9 := szT_le (d := (1 + ((u3))).toNat) (e := 3) (by omega)
 refine qg (x17) rfl (qb (qc (qc (qa (qg (ii (0)) rfl (qb (qK (jl (α := Nat × List Int × FH) (fun xQ => [(3, ptr b1 0), (4, ptr b2 0), (5, x4), (8, x17), (9, ii (((xQ.1 : Nat) : Int)))]) (fun xQ => intsH 2 x17 xQ.2.1 :: cellsH b2 [sN, sN] 76 :: cellsH b1 [arv] 36 :: curH .i64 247 cb bsv bs.length :: L) (fun xQ F' => xQ.2.2 = F' ∧ F20 ≤ xQ.2.2 ∧ (xQ.1 ≤ xQ.2.1.length) ∧ (xQ.2.1.length = t4.length)) (fun xQ => xQ.2.1.length - xQ.1) (0, t4, F20) ⟨rfl, rfl, rfl, rfl, rfl, ⟨⟩⟩ (sC (sC (sC (sC sR)))) ⟨rfl, FLe.refl _, (Nat.zero_le _), (rfl)⟩ ?_))))))))
 rintro ⟨k, rr, G3⟩ rE _ _ ⟨rfl, leG, hk, hrl⟩
 show X _ _ _ _ (envs [(3, ptr b1 0), (4, ptr b2 0), (5, x4), (8, x17), (9, ii ((k : Int)))] rE) _ (intsH 2 x17 rr :: cellsH b2 [sN, sN] 76 :: cellsH b1 [arv] 36 :: curH .i64 247 cb bsv bs.length :: L)
 replace leG : F20 ≤ G3 := leG
 dsimp only at hk hrl
 have leG3 := leG
 replace har := har.mono leG3
 replace hf5 := hf5.mono leG3
 refine qc (qc (qa (qd (ii ((k : Int))) rfl (qd (x17) rfl (cX (qE qf rfl (intsH.slv [] rfl) (cX (qW rfl rfl (qb ?_)))))))))
 refine qA (p := (k : Int) < (rr.length : Int)) rfl (fun h7 => ?_) (fun h7 => ?_)
 ·refine qw (qc (qK (qc (qa (qd (x17) rfl (qd (ii ((k : Int))) rfl (cX (qD k qf qB rfl rfl rfl (intsH.slv [] rfl) (by omega) (Nat.mul_one _) (cX (qj jm rfl (intsH.rd [] rfl (by omega)) (cX (qW rfl rfl (qd (.bool (decide ((rr.getD k 0 : Int) < 0))) rfl ?_)))))))))))))
  by_cases h8 : (rr.getD k 0 : Int) < 0
  ·refine qy (t := 59) rfl (vT h8) (qp (x4) rfl (qy (t := 59) rfl (vT h8) (qp (x17) rfl (qy (t := 59) rfl (vT h8) (qp (ii ((k : Int))) rfl (qy (t := 59) rfl (vT h8) (qD k qf qB rfl rfl rfl (intsH.slv [] rfl) (by omega) (Nat.mul_one _) (qy (t := 59) rfl (vT h8) (qj jm rfl (intsH.rd [] rfl (by omega)) (qy (t := 59) rfl (vT h8) (qm (args := [x4, ii (rr.getD k 0)]) call259 rfl (l1Has_spec (n := rr.getD k 0) hf5 (hbd := (by first | assumption | rfl | omega | simp))) ?_)))))))))))
   rintro _ _ _ _ ⟨rfl, rfl, rfl⟩
   refine qy (t := 59) rfl (vT h8) (XOp.notD rfl (cX (jj (.bool (decide (¬((rr.getD k 0) ∈ t1)))) (vT h8) rfl (qb ?_))))
   refine qA (p := ¬((rr.getD k 0) ∈ t1)) rfl (fun h9 => ?_) (fun h9 => ?_)
   ·refine qc (qa (qd (x4) rfl (cX (qm (args := [x4]) call327 rfl (l2Order_spec hf5 (hlt := (by first | assumption | rfl | omega | simp))) ?_))))
    rintro _ F21 _ le21 ⟨⟨x18, x19, rfl, hr10, hr11⟩, rfl⟩
    replace har := har.mono le21
    replace hf5 := hf5.mono le21
    show XL _ _ _ _ _ _ _ (intsH 2 x17 rr :: cellsH b2 [sN, sN] 76 :: cellsH b1 [arv] 36 :: curH .i64 247 cb bsv bs.length :: L)
    refine qg (x18) rfl (qb (qc (qc (qa (qd (x18) rfl (cX (qE qf rfl hr10.slv (cX (js rfl rfl (qb ?_))))))))))
    refine qA (p := ((x19.length : Int) : Int) = 0) rfl (fun h10 => ?_) (fun h10 => ?_)
    ·refine qc (qa (qd (x4) rfl (cX (qr [arv] qX qF rfl rfl (Rd.ownN [_, _] rfl rfl) (qd (x4) rfl (qd (x4) rfl (cX (qE qf rfl hf5.slv (cX (jq (((((t1).length) - 1 : Nat) : Int)) rfl rfl (by omega) (by omega) (cX (jZ <| qm (args := [.agg #[arv], x4, ii ((((t1).length) - 1 : Nat) : Int)]) call150 rfl (l1Sub_spec (p := ((t1).length) - 1) har hf5 (ho := (hol)) (hp := (by first | assumption | rfl | omega | simp))) ?_))))))))))))
     rintro v4 _ _ _ ⟨rfl, hs3, rfl⟩
     refine ⟨_, _, rfl, fun F22 le22 hz6 => ?_⟩
     replace hf5 := hf5.mono le22
     replace hr10 := hr10.mono le22
     have hf6 : IntsF F22 v4 ((sub ar t1 (((t1).length) - 1))) := intsH.fz (xs := (sub ar t1 (((t1).length) - 1))) hz6.fz
     refine cX (jh [x4, v4] [sN, sN] [(0, 1), (1, 1)] [(0, [x4]), (1, [v4])] qV jr rfl (.cons rfl qs (.cons rfl qs PlacesAre.nil)) rfl (.cons (cells_one (qz hf5)) (.cons (cells_one (qz hf6)) CellsAre.nil)) (cX (qL [_] _ [x4, v4] jA rfl rfl rfl (qn (qG (qz hf5)) (qn (qG (qz hf6)) qO)) rfl rfl rfl (qb (qu (qk (qC (qk (qk (qC (qk (qq (L' := curH .i64 247 cb bsv bs.length :: L) [.agg #[x4, v4]] (.agg #[x4, v4]) (.cell rfl (ju [x4, v4] isAgg76 jA rfl (Rd.ownN [_] rfl rfl)) .nil) rfl (qh (qh (qh (qh (qh (qh (qh le3 le4) le18) le19) le20) leG3) le21) le22) rF (sD (sD (sD (sC sR)))) ?_))))))))))))
     exact ⟨⟨_, _, rfl, ⟨_, hf5, by omega⟩, ⟨_, hf6, by have h9 := sub_le (ar := ar) (t := t1) (p := t1.length - 1); omega⟩⟩, rfl⟩
    refine qw (qa (qd (x17) rfl (qd (ii ((k : Int))) rfl (qd (x18) rfl (cX (qD 0 qf qB rfl rfl rfl hr10.slv (by omega) (Nat.mul_one _) (cX (qj jm rfl (hr10.rd (by omega)) (cX (qD k qf qB rfl rfl rfl (intsH.slv [] rfl) (by omega) (Nat.mul_one _) (cX (intsH.storeX (i := k) (v := x17) [] _ (rr.set k (x19.getD 0 0)) qB rfl rfl rfl (by omega) rfl (qb (qa (qd (ii ((k : Int))) rfl ?_)))))))))))))))
    refine cX (qH (((k + 1 : Nat) : Int)) rfl rfl (by omega) (by omega) (qg (ii (((k + 1 : Nat) : Int))) rfl (qb ?_)))
    exact ⟨(k + 1, (rr.set k (x19.getD 0 0)), F21), _, (qh leG3 le21), rF, ⟨rfl, rfl, rfl, rfl, rfl, ⟨⟩⟩, (sC (sC (sC (sC sR)))), ⟨rfl, (qh leG3 le21), (by (try dsimp only); (try rw [List.length_set]); omega), (by (try dsimp only); (try rw [List.length_set]); omega)⟩, (by (try dsimp only); (try rw [List.length_set]); omega)⟩
   refine qw (qa (qd (ii ((k : Int))) rfl (cX (qH (((k + 1 : Nat) : Int)) rfl rfl (by omega) (by omega) (qg (ii (((k + 1 : Nat) : Int))) rfl (qb ?_))))))
   exact ⟨(k + 1, rr, G3), _, leG3, rF, ⟨rfl, rfl, rfl, rfl, rfl, ⟨⟩⟩, (sC (sC (sC (sC sR)))), ⟨rfl, leG3, (by (try dsimp only); (try rw [List.length_set]); omega), (by (try dsimp only); (try rw [List.length_set]); omega)⟩, (by (try dsimp only); (try rw [List.length_set]); omega)⟩
  refine qx (t := 59) rfl (vF h8) (qx (t := 59) rfl (vF h8) (qx (t := 59) rfl (vF h8) (qx (t := 59) rfl (vF h8) (qx (t := 59) rfl (vF h8) (qx (t := 59) rfl (vF h8) (qx (t := 59) rfl (vF h8) (cX (qY (.bool (false)) (vF h8) rfl (qb (X.condF rfl ?_))))))))))
  refine qw (qa (qd (ii ((k : Int))) rfl (cX (qH (((k + 1 : Nat) : Int)) rfl rfl (by omega) (by omega) (qg (ii (((k + 1 : Nat) : Int))) rfl (qb ?_))))))
  exact ⟨(k + 1, rr, G3), _, leG3, rF, ⟨rfl, rfl, rfl, rfl, rfl, ⟨⟩⟩, (sC (sC (sC (sC sR)))), ⟨rfl, leG3, (by (try dsimp only); (try rw [List.length_set]); omega), (by (try dsimp only); (try rw [List.length_set]); omega)⟩, (by (try dsimp only); (try rw [List.length_set]); omega)⟩
 refine jk (qt (qt (qM (qc (qa (qd (x4) rfl (qd (x17) rfl (cX (jh [x4, x17] [sN, sN] [(0, 1), (1, 1)] [(0, [x4]), (1, [x17])] qV jr rfl (.cons rfl qs (.cons rfl qs PlacesAre.nil)) rfl (.cons (cells_one (qz hf5)) (.cons (cells_one hsl4) CellsAre.nil)) (cX (qL [_] _ [x4, x17] jA rfl rfl rfl (qn (qG (qz hf5)) (qn (qG hsl4) qO)) rfl rfl rfl (qb (qQ [] _ _ rfl (fun F23 le23 hz7 => ?_))))))))))))))
 replace hf5 := hf5.mono le23
 have hf7 : IntsF F23 x17 rr := intsH.fz (xs := rr) hz7.fz
 refine qu (qq (L' := curH .i64 247 cb bsv bs.length :: L) [.agg #[x4, x17]] (.agg #[x4, x17]) (.cell rfl (ju [x4, x17] isAgg76 jA rfl (Rd.ownN [] rfl rfl)) .nil) rfl (qh (qh (qh (qh (qh (qh le3 le4) le18) le19) le20) leG3) le23) rF (sD (sD (sC sR))) ?_)
 exact ⟨⟨_, _, rfl, ⟨_, hf5, by omega⟩, ⟨_, hf7, by omega⟩⟩, rfl⟩

/- spec.l6Known -/
theorem l6Known_spec {F : FH} {L : List HP}  {k : Int} :
    Does prog 360 [ii (k)] F (L) (fun v F' L' => ∃ (a b : Value) (ar : List Int) (rs : List (List Int × List Int)) (cs : List Value), ((.agg #[a, b] : Value) = v ∧ IntsF F' a ar ∧ IsSl b ∧ PairsC F' cs rs ∧ ar.length ≤ 20 ∧ rs.length ≤ 12 ∧ smallR rs) ∧ slH 76 2 b rs.length cs :: L = L') := by
 refine qI func360 rfl rfl rfl (qc (qa (cX (ji [sN, sN] jK rfl ?_))))
 intro b1
 refine qb (qc (qa (cX (qo (s := 1) [ii (2), ii (1), ii (0)] [ii (0)] [(0, [ii (2)]), (1, [ii (1)]), (2, [ii (0)])] qf qB qS rfl (by decide) rfl (.cons rfl (.cons rfl (.cons rfl CellsAre.nil))) rfl ?_))))
 intro v1 hv1
 refine cX (jh [v1] [sN] [(0, 1)] [(0, [v1])] jg zeroValue36 rfl (.cons rfl qs PlacesAre.nil) rfl (.cons (cells_one (qN hv1)) CellsAre.nil) (cX (ji [sN] zeroValue36 rfl ?_)))
 intro b2
 refine cX (qL [] _ [v1] qF rfl rfl rfl (qn (qG (qN hv1)) qO) rfl rfl rfl (qb (qc (qc (qa (qd (ii (k)) rfl (qb (qK (qc (qa (cX (js rfl rfl (qg (.bool (decide ((k : Int) = 0))) rfl (qb ?_))))))))))))))
 refine qA (p := (k : Int) = 0) rfl (fun h1 => ?_) (fun h1 => ?_)
 ·refine qc (qa (cX (qr [v1] qX qF rfl rfl (Rd.ownN [] rfl rfl) (cX (qo (s := 1) [ii (0), ii (2), ii (-1)] [ii (0)] [(0, [ii (0)]), (1, [ii (2)]), (2, [ii (-1)])] qf qB qS rfl (by decide) rfl (.cons rfl (.cons rfl (.cons rfl CellsAre.nil))) rfl ?_)))))
  intro v2 hv2
  refine cX (qo (s := 1) [ii (-1)] [ii (0)] [(0, [ii (-1)])] qf qB qS rfl (by decide) rfl (.cons rfl CellsAre.nil) rfl ?_)
  intro v3 hv3
  refine cX (jh [v2, v3] [sN, sN] [(0, 1), (1, 1)] [(0, [v2]), (1, [v3])] qV jr rfl (.cons rfl qs (.cons rfl qs PlacesAre.nil)) rfl (.cons (cells_one (qN hv2)) (.cons (cells_one (qN hv3)) CellsAre.nil)) (cX (qo (s := 1) [ii (0), ii (1), ii (-1), ii (-2)] [ii (0)] [(0, [ii (0)]), (1, [ii (1)]), (2, [ii (-1)]), (3, [ii (-2)])] qf qB qS rfl (by decide) rfl (.cons rfl (.cons rfl (.cons rfl (.cons rfl CellsAre.nil)))) rfl ?_)))
  intro v4 hv4
  refine cX (qo (s := 1) [ii (1), ii (0), ii (-1), ii (-2)] [ii (0)] [(0, [ii (1)]), (1, [ii (0)]), (2, [ii (-1)]), (3, [ii (-2)])] qf qB qS rfl (by decide) rfl (.cons rfl (.cons rfl (.cons rfl (.cons rfl CellsAre.nil)))) rfl ?_)
  intro v5 hv5
  refine cX (jh [v4, v5] [sN, sN] [(0, 1), (1, 1)] [(0, [v4]), (1, [v5])] qV jr rfl (.cons rfl qs (.cons rfl qs PlacesAre.nil)) rfl (.cons (cells_one (qN hv4)) (.cons (cells_one (qN hv5)) CellsAre.nil)) (cX (qo (s := 2) [v2, v3, v4, v5] [sN, sN] [(0, [v2, v3]), (1, [v4, v5])] jd jA jr rfl (by decide) rfl (.cons rfl (.cons rfl CellsAre.nil)) rfl ?_)))
  intro v6 hv6
  refine cX (jh [v1, v6] [sN, sN] [(0, 1), (1, 1)] [(0, [v1]), (1, [v6])] qJ jK rfl (.cons rfl qF (.cons rfl jw PlacesAre.nil)) rfl (.cons rfl (.cons (cells_one (qN hv6)) CellsAre.nil)) (cX (qL [_, _, _, _, _, _, _] _ [v1, v6] qP rfl rfl rfl (qn (qG (qN hv1)) (qn (qG (qN hv6)) qO)) rfl rfl rfl (qb ?_))))
  show X _ _ _ _ _ _ (slH 76 2 v6 2 [v2, v3, v4, v5] :: slH 2 1 v5 4 [ii (1), ii (0), ii (-1), ii (-2)] :: slH 2 1 v4 4 [ii (0), ii (1), ii (-1), ii (-2)] :: slH 2 1 v3 1 [ii (-1)] :: intsH 2 v2 ([0, 2, -1] : List Int) :: cellsH b2 [v1] 36 :: slH 2 1 v1 3 [ii (2), ii (1), ii (0)] :: cellsH b1 [v1, v6] 39 :: L)
  refine qQ [_, _, _, _] _ _ rfl (fun F1 le1 hz1 => ?_)
  have hf1 : IntsF F1 v2 ([0, 2, -1]) := intsH.fz (xs := [0, 2, -1]) hz1.fz
  show X _ _ _ _ _ _ (slH 76 2 v6 2 [v2, v3, v4, v5] :: slH 2 1 v5 4 [ii (1), ii (0), ii (-1), ii (-2)] :: slH 2 1 v4 4 [ii (0), ii (1), ii (-1), ii (-2)] :: intsH 2 v3 ([-1] : List Int) :: cellsH b2 [v1] 36 :: slH 2 1 v1 3 [ii (2), ii (1), ii (0)] :: cellsH b1 [v1, v6] 39 :: L)
  refine qQ [_, _, _] _ _ rfl (fun F2 le2 hz2 => ?_)
  replace hf1 := hf1.mono le2
  have hf2 : IntsF F2 v3 ([-1]) := intsH.fz (xs := [-1]) hz2.fz
  show X _ _ _ _ _ _ (slH 76 2 v6 2 [v2, v3, v4, v5] :: slH 2 1 v5 4 [ii (1), ii (0), ii (-1), ii (-2)] :: intsH 2 v4 ([0, 1, -1, -2] : List Int) :: cellsH b2 [v1] 36 :: slH 2 1 v1 3 [ii (2), ii (1), ii (0)] :: cellsH b1 [v1, v6] 39 :: L)
  refine qQ [_, _] _ _ rfl (fun F3 le3 hz3 => ?_)
  replace hf1 := hf1.mono le3
  replace hf2 := hf2.mono le3
  have hf3 : IntsF F3 v4 ([0, 1, -1, -2]) := intsH.fz (xs := [0, 1, -1, -2]) hz3.fz
  show X _ _ _ _ _ _ (slH 76 2 v6 2 [v2, v3, v4, v5] :: intsH 2 v5 ([1, 0, -1, -2] : List Int) :: cellsH b2 [v1] 36 :: slH 2 1 v1 3 [ii (2), ii (1), ii (0)] :: cellsH b1 [v1, v6] 39 :: L)
  refine qQ [_] _ _ rfl (fun F4 le4 hz4 => ?_)
  replace hf1 := hf1.mono le4
  replace hf2 := hf2.mono le4
  replace hf3 := hf3.mono le4
  have hf4 : IntsF F4 v5 ([1, 0, -1, -2]) := intsH.fz (xs := [1, 0, -1, -2]) hz4.fz
  have hc1 : PairsC F4 [v2, v3, v4, v5] ([([0, 2, -1], [-1]), ([0, 1, -1, -2], [1, 0, -1, -2])] : List (List Int × List Int)) := (PairsC.snoc (PairsC.snoc (CO.nil : PairsC F4 [] []) hf1 hf2) hf3 hf4)
  show X _ _ _ _ _ _ (slH 76 2 v6 2 ([v2, v3, v4, v5]) :: cellsH b2 [v1] 36 :: intsH 2 v1 ([2, 1, 0] : List Int) :: cellsH b1 [v1, v6] 39 :: L)
  refine qQ [_, _] _ _ rfl (fun F5 le5 hz5 => ?_)
  replace hc1 := hc1.mono le5
  have hf5 : IntsF F5 v1 ([2, 1, 0]) := intsH.fz (xs := [2, 1, 0]) hz5.fz
  refine qu (qC (qk (qq (L' := slH 76 2 v6 ((([([0, 2, -1], [-1]), ([0, 1, -1, -2], [1, 0, -1, -2])] : List (List Int × List Int))).length) ([v2, v3, v4, v5]) :: L) [.agg #[v1, v6]] (.agg #[v1, v6]) (.cell rfl (ju [v1, v6] ja qP rfl (Rd.ownN [_, _] rfl rfl)) .nil) rfl (qh (qh (qh (qh le1 le2) le3) le4) le5) rF (qR (sC (sD (sD sR))) (jU (fun l hl => by first | exact hl | (rw [show 2 = (([([0, 2, -1], [-1]), ([0, 1, -1, -2], [1, 0, -1, -2])] : List (List Int × List Int))).length from by first | rfl | assumption | omega] at hl; exact hl)) sR)) ?_)))
  exact ⟨_, _, _, ([([0, 2, -1], [-1]), ([0, 1, -1, -2], [1, 0, -1, -2])] : List (List Int × List Int)), _, ⟨rfl, hf5, (qN hv6), hc1, by decide, by decide, by unfold smallR; decide⟩, rfl⟩
 refine qc (qa (cX (js rfl rfl (qg (.bool (decide ((k : Int) = 1))) rfl (qb ?_)))))
 refine qA (p := (k : Int) = 1) rfl (fun h2 => ?_) (fun h2 => ?_)
 ·refine qc (qa (cX (qr [v1] qX qF rfl rfl (Rd.ownN [] rfl rfl) (cX (qo (s := 1) [ii (0), ii (0), ii (-1), ii (-2), ii (-3)] [ii (0)] [(0, [ii (0)]), (1, [ii (0)]), (2, [ii (-1)]), (3, [ii (-2)]), (4, [ii (-3)])] qf qB qS rfl (by decide) rfl (.cons rfl (.cons rfl (.cons rfl (.cons rfl (.cons rfl CellsAre.nil))))) rfl ?_)))))
  intro v7 hv7
  refine cX (qo (s := 1) [ii (0), ii (-1), ii (0), ii (-2), ii (-3)] [ii (0)] [(0, [ii (0)]), (1, [ii (-1)]), (2, [ii (0)]), (3, [ii (-2)]), (4, [ii (-3)])] qf qB qS rfl (by decide) rfl (.cons rfl (.cons rfl (.cons rfl (.cons rfl (.cons rfl CellsAre.nil))))) rfl ?_)
  intro v8 hv8
  refine cX (jh [v7, v8] [sN, sN] [(0, 1), (1, 1)] [(0, [v7]), (1, [v8])] qV jr rfl (.cons rfl qs (.cons rfl qs PlacesAre.nil)) rfl (.cons (cells_one (qN hv7)) (.cons (cells_one (qN hv8)) CellsAre.nil)) (cX (qo (s := 2) [v7, v8] [sN, sN] [(0, [v7, v8])] jd jA jr rfl (by decide) rfl (.cons rfl CellsAre.nil) rfl ?_)))
  intro v9 hv9
  refine cX (jh [v1, v9] [sN, sN] [(0, 1), (1, 1)] [(0, [v1]), (1, [v9])] qJ jK rfl (.cons rfl qF (.cons rfl jw PlacesAre.nil)) rfl (.cons rfl (.cons (cells_one (qN hv9)) CellsAre.nil)) (cX (qL [_, _, _, _, _] _ [v1, v9] qP rfl rfl rfl (qn (qG (qN hv1)) (qn (qG (qN hv9)) qO)) rfl rfl rfl (qb ?_))))
  show X _ _ _ _ _ _ (slH 76 2 v9 1 [v7, v8] :: slH 2 1 v8 5 [ii (0), ii (-1), ii (0), ii (-2), ii (-3)] :: intsH 2 v7 ([0, 0, -1, -2, -3] : List Int) :: cellsH b2 [v1] 36 :: slH 2 1 v1 3 [ii (2), ii (1), ii (0)] :: cellsH b1 [v1, v9] 39 :: L)
  refine qQ [_, _] _ _ rfl (fun F6 le6 hz6 => ?_)
  have hf6 : IntsF F6 v7 ([0, 0, -1, -2, -3]) := intsH.fz (xs := [0, 0, -1, -2, -3]) hz6.fz
  show X _ _ _ _ _ _ (slH 76 2 v9 1 [v7, v8] :: intsH 2 v8 ([0, -1, 0, -2, -3] : List Int) :: cellsH b2 [v1] 36 :: slH 2 1 v1 3 [ii (2), ii (1), ii (0)] :: cellsH b1 [v1, v9] 39 :: L)
  refine qQ [_] _ _ rfl (fun F7 le7 hz7 => ?_)
  replace hf6 := hf6.mono le7
  have hf7 : IntsF F7 v8 ([0, -1, 0, -2, -3]) := intsH.fz (xs := [0, -1, 0, -2, -3]) hz7.fz
  have hc2 : PairsC F7 [v7, v8] ([([0, 0, -1, -2, -3], [0, -1, 0, -2, -3])] : List (List Int × List Int)) := (PairsC.snoc (CO.nil : PairsC F7 [] []) hf6 hf7)
  show X _ _ _ _ _ _ (slH 76 2 v9 1 ([v7, v8]) :: cellsH b2 [v1] 36 :: intsH 2 v1 ([2, 1, 0] : List Int) :: cellsH b1 [v1, v9] 39 :: L)
  refine qQ [_, _] _ _ rfl (fun F8 le8 hz8 => ?_)
  replace hc2 := hc2.mono le8
  have hf8 : IntsF F8 v1 ([2, 1, 0]) := intsH.fz (xs := [2, 1, 0]) hz8.fz
  refine qu (qC (qk (qq (L' := slH 76 2 v9 ((([([0, 0, -1, -2, -3], [0, -1, 0, -2, -3])] : List (List Int × List Int))).length) ([v7, v8]) :: L) [.agg #[v1, v9]] (.agg #[v1, v9]) (.cell rfl (ju [v1, v9] ja qP rfl (Rd.ownN [_, _] rfl rfl)) .nil) rfl (qh (qh le6 le7) le8) rF (qR (sC (sD (sD sR))) (jU (fun l hl => by first | exact hl | (rw [show 1 = (([([0, 0, -1, -2, -3], [0, -1, 0, -2, -3])] : List (List Int × List Int))).length from by first | rfl | assumption | omega] at hl; exact hl)) sR)) ?_)))
  exact ⟨_, _, _, ([([0, 0, -1, -2, -3], [0, -1, 0, -2, -3])] : List (List Int × List Int)), _, ⟨rfl, hf8, (qN hv9), hc2, by decide, by decide, by unfold smallR; decide⟩, rfl⟩
 refine qc (qa (cX (js rfl rfl (qg (.bool (decide ((k : Int) = 2))) rfl (qb ?_)))))
 refine qA (p := (k : Int) = 2) rfl (fun h3 => ?_) (fun h3 => ?_)
 ·refine qc (qa (cX (qr [v1] qX qF rfl rfl (Rd.ownN [] rfl rfl) (cX (qo (s := 1) [ii (1), ii (1), ii (-1)] [ii (0)] [(0, [ii (1)]), (1, [ii (1)]), (2, [ii (-1)])] qf qB qS rfl (by decide) rfl (.cons rfl (.cons rfl (.cons rfl CellsAre.nil))) rfl ?_)))))
  intro v10 hv10
  refine cX (qo (s := 1) [ii (-1)] [ii (0)] [(0, [ii (-1)])] qf qB qS rfl (by decide) rfl (.cons rfl CellsAre.nil) rfl ?_)
  intro v11 hv11
  refine cX (jh [v10, v11] [sN, sN] [(0, 1), (1, 1)] [(0, [v10]), (1, [v11])] qV jr rfl (.cons rfl qs (.cons rfl qs PlacesAre.nil)) rfl (.cons (cells_one (qN hv10)) (.cons (cells_one (qN hv11)) CellsAre.nil)) (cX (qo (s := 2) [v10, v11] [sN, sN] [(0, [v10, v11])] jd jA jr rfl (by decide) rfl (.cons rfl CellsAre.nil) rfl ?_)))
  intro v12 hv12
  refine cX (jh [v1, v12] [sN, sN] [(0, 1), (1, 1)] [(0, [v1]), (1, [v12])] qJ jK rfl (.cons rfl qF (.cons rfl jw PlacesAre.nil)) rfl (.cons rfl (.cons (cells_one (qN hv12)) CellsAre.nil)) (cX (qL [_, _, _, _, _] _ [v1, v12] qP rfl rfl rfl (qn (qG (qN hv1)) (qn (qG (qN hv12)) qO)) rfl rfl rfl (qb ?_))))
  show X _ _ _ _ _ _ (slH 76 2 v12 1 [v10, v11] :: slH 2 1 v11 1 [ii (-1)] :: intsH 2 v10 ([1, 1, -1] : List Int) :: cellsH b2 [v1] 36 :: slH 2 1 v1 3 [ii (2), ii (1), ii (0)] :: cellsH b1 [v1, v12] 39 :: L)
  refine qQ [_, _] _ _ rfl (fun F9 le9 hz9 => ?_)
  have hf9 : IntsF F9 v10 ([1, 1, -1]) := intsH.fz (xs := [1, 1, -1]) hz9.fz
  show X _ _ _ _ _ _ (slH 76 2 v12 1 [v10, v11] :: intsH 2 v11 ([-1] : List Int) :: cellsH b2 [v1] 36 :: slH 2 1 v1 3 [ii (2), ii (1), ii (0)] :: cellsH b1 [v1, v12] 39 :: L)
  refine qQ [_] _ _ rfl (fun F10 le10 hz10 => ?_)
  replace hf9 := hf9.mono le10
  have hf10 : IntsF F10 v11 ([-1]) := intsH.fz (xs := [-1]) hz10.fz
  have hc3 : PairsC F10 [v10, v11] ([([1, 1, -1], [-1])] : List (List Int × List Int)) := (PairsC.snoc (CO.nil : PairsC F10 [] []) hf9 hf10)
  show X _ _ _ _ _ _ (slH 76 2 v12 1 ([v10, v11]) :: cellsH b2 [v1] 36 :: intsH 2 v1 ([2, 1, 0] : List Int) :: cellsH b1 [v1, v12] 39 :: L)
  refine qQ [_, _] _ _ rfl (fun F11 le11 hz11 => ?_)
  replace hc3 := hc3.mono le11
  have hf11 : IntsF F11 v1 ([2, 1, 0]) := intsH.fz (xs := [2, 1, 0]) hz11.fz
  refine qu (qC (qk (qq (L' := slH 76 2 v12 ((([([1, 1, -1], [-1])] : List (List Int × List Int))).length) ([v10, v11]) :: L) [.agg #[v1, v12]] (.agg #[v1, v12]) (.cell rfl (ju [v1, v12] ja qP rfl (Rd.ownN [_, _] rfl rfl)) .nil) rfl (qh (qh le9 le10) le11) rF (qR (sC (sD (sD sR))) (jU (fun l hl => by first | exact hl | (rw [show 1 = (([([1, 1, -1], [-1])] : List (List Int × List Int))).length from by first | rfl | assumption | omega] at hl; exact hl)) sR)) ?_)))
  exact ⟨_, _, _, ([([1, 1, -1], [-1])] : List (List Int × List Int)), _, ⟨rfl, hf11, (qN hv12), hc3, by decide, by decide, by unfold smallR; decide⟩, rfl⟩
 refine qc (qa (cX (js rfl rfl (qg (.bool (decide ((k : Int) = 3))) rfl (qb ?_)))))
 refine qA (p := (k : Int) = 3) rfl (fun h4 => ?_) (fun h4 => ?_)
 ·refine qc (qa (cX (qr [v1] qX qF rfl rfl (Rd.ownN [] rfl rfl) (cX (qo (s := 1) [ii (1), ii (-1)] [ii (0)] [(0, [ii (1)]), (1, [ii (-1)])] qf qB qS rfl (by decide) rfl (.cons rfl (.cons rfl CellsAre.nil)) rfl ?_)))))
  intro v13 hv13
  refine cX (qo (s := 1) [ii (1), ii (1), ii (-1)] [ii (0)] [(0, [ii (1)]), (1, [ii (1)]), (2, [ii (-1)])] qf qB qS rfl (by decide) rfl (.cons rfl (.cons rfl (.cons rfl CellsAre.nil))) rfl ?_)
  intro v14 hv14
  refine cX (jh [v13, v14] [sN, sN] [(0, 1), (1, 1)] [(0, [v13]), (1, [v14])] qV jr rfl (.cons rfl qs (.cons rfl qs PlacesAre.nil)) rfl (.cons (cells_one (qN hv13)) (.cons (cells_one (qN hv14)) CellsAre.nil)) (cX (qo (s := 2) [v13, v14] [sN, sN] [(0, [v13, v14])] jd jA jr rfl (by decide) rfl (.cons rfl CellsAre.nil) rfl ?_)))
  intro v15 hv15
  refine cX (jh [v1, v15] [sN, sN] [(0, 1), (1, 1)] [(0, [v1]), (1, [v15])] qJ jK rfl (.cons rfl qF (.cons rfl jw PlacesAre.nil)) rfl (.cons rfl (.cons (cells_one (qN hv15)) CellsAre.nil)) (cX (qL [_, _, _, _, _] _ [v1, v15] qP rfl rfl rfl (qn (qG (qN hv1)) (qn (qG (qN hv15)) qO)) rfl rfl rfl (qb ?_))))
  show X _ _ _ _ _ _ (slH 76 2 v15 1 [v13, v14] :: slH 2 1 v14 3 [ii (1), ii (1), ii (-1)] :: intsH 2 v13 ([1, -1] : List Int) :: cellsH b2 [v1] 36 :: slH 2 1 v1 3 [ii (2), ii (1), ii (0)] :: cellsH b1 [v1, v15] 39 :: L)
  refine qQ [_, _] _ _ rfl (fun F12 le12 hz12 => ?_)
  have hf12 : IntsF F12 v13 ([1, -1]) := intsH.fz (xs := [1, -1]) hz12.fz
  show X _ _ _ _ _ _ (slH 76 2 v15 1 [v13, v14] :: intsH 2 v14 ([1, 1, -1] : List Int) :: cellsH b2 [v1] 36 :: slH 2 1 v1 3 [ii (2), ii (1), ii (0)] :: cellsH b1 [v1, v15] 39 :: L)
  refine qQ [_] _ _ rfl (fun F13 le13 hz13 => ?_)
  replace hf12 := hf12.mono le13
  have hf13 : IntsF F13 v14 ([1, 1, -1]) := intsH.fz (xs := [1, 1, -1]) hz13.fz
  have hc4 : PairsC F13 [v13, v14] ([([1, -1], [1, 1, -1])] : List (List Int × List Int)) := (PairsC.snoc (CO.nil : PairsC F13 [] []) hf12 hf13)
  show X _ _ _ _ _ _ (slH 76 2 v15 1 ([v13, v14]) :: cellsH b2 [v1] 36 :: intsH 2 v1 ([2, 1, 0] : List Int) :: cellsH b1 [v1, v15] 39 :: L)
  refine qQ [_, _] _ _ rfl (fun F14 le14 hz14 => ?_)
  replace hc4 := hc4.mono le14
  have hf14 : IntsF F14 v1 ([2, 1, 0]) := intsH.fz (xs := [2, 1, 0]) hz14.fz
  refine qu (qC (qk (qq (L' := slH 76 2 v15 ((([([1, -1], [1, 1, -1])] : List (List Int × List Int))).length) ([v13, v14]) :: L) [.agg #[v1, v15]] (.agg #[v1, v15]) (.cell rfl (ju [v1, v15] ja qP rfl (Rd.ownN [_, _] rfl rfl)) .nil) rfl (qh (qh le12 le13) le14) rF (qR (sC (sD (sD sR))) (jU (fun l hl => by first | exact hl | (rw [show 1 = (([([1, -1], [1, 1, -1])] : List (List Int × List Int))).length from by first | rfl | assumption | omega] at hl; exact hl)) sR)) ?_)))
  exact ⟨_, _, _, ([([1, -1], [1, 1, -1])] : List (List Int × List Int)), _, ⟨rfl, hf14, (qN hv15), hc4, by decide, by decide, by unfold smallR; decide⟩, rfl⟩
 refine qc (qa (cX (js rfl rfl (qg (.bool (decide ((k : Int) = 4))) rfl (qb ?_)))))
 refine qA (p := (k : Int) = 4) rfl (fun h5 => ?_) (fun h5 => ?_)
 ·refine qc (qa (cX (qr [v1] qX qF rfl rfl (Rd.ownN [] rfl rfl) (cX (qo (s := 1) [ii (0), ii (-1), ii (-2)] [ii (0)] [(0, [ii (0)]), (1, [ii (-1)]), (2, [ii (-2)])] qf qB qS rfl (by decide) rfl (.cons rfl (.cons rfl (.cons rfl CellsAre.nil))) rfl ?_)))))
  intro v16 hv16
  refine cX (qo (s := 1) [ii (-1)] [ii (0)] [(0, [ii (-1)])] qf qB qS rfl (by decide) rfl (.cons rfl CellsAre.nil) rfl ?_)
  intro v17 hv17
  refine cX (jh [v16, v17] [sN, sN] [(0, 1), (1, 1)] [(0, [v16]), (1, [v17])] qV jr rfl (.cons rfl qs (.cons rfl qs PlacesAre.nil)) rfl (.cons (cells_one (qN hv16)) (.cons (cells_one (qN hv17)) CellsAre.nil)) (cX (qo (s := 1) [ii (0), ii (-1), ii (-2)] [ii (0)] [(0, [ii (0)]), (1, [ii (-1)]), (2, [ii (-2)])] qf qB qS rfl (by decide) rfl (.cons rfl (.cons rfl (.cons rfl CellsAre.nil))) rfl ?_)))
  intro v18 hv18
  refine cX (qo (s := 1) [ii (-2)] [ii (0)] [(0, [ii (-2)])] qf qB qS rfl (by decide) rfl (.cons rfl CellsAre.nil) rfl ?_)
  intro v19 hv19
  refine cX (jh [v18, v19] [sN, sN] [(0, 1), (1, 1)] [(0, [v18]), (1, [v19])] qV jr rfl (.cons rfl qs (.cons rfl qs PlacesAre.nil)) rfl (.cons (cells_one (qN hv18)) (.cons (cells_one (qN hv19)) CellsAre.nil)) (cX (qo (s := 2) [v16, v17, v18, v19] [sN, sN] [(0, [v16, v17]), (1, [v18, v19])] jd jA jr rfl (by decide) rfl (.cons rfl (.cons rfl CellsAre.nil)) rfl ?_)))
  intro v20 hv20
  refine cX (jh [v1, v20] [sN, sN] [(0, 1), (1, 1)] [(0, [v1]), (1, [v20])] qJ jK rfl (.cons rfl qF (.cons rfl jw PlacesAre.nil)) rfl (.cons rfl (.cons (cells_one (qN hv20)) CellsAre.nil)) (cX (qL [_, _, _, _, _, _, _] _ [v1, v20] qP rfl rfl rfl (qn (qG (qN hv1)) (qn (qG (qN hv20)) qO)) rfl rfl rfl (qb ?_))))
  show X _ _ _ _ _ _ (slH 76 2 v20 2 [v16, v17, v18, v19] :: slH 2 1 v19 1 [ii (-2)] :: slH 2 1 v18 3 [ii (0), ii (-1), ii (-2)] :: slH 2 1 v17 1 [ii (-1)] :: intsH 2 v16 ([0, -1, -2] : List Int) :: cellsH b2 [v1] 36 :: slH 2 1 v1 3 [ii (2), ii (1), ii (0)] :: cellsH b1 [v1, v20] 39 :: L)
  refine qQ [_, _, _, _] _ _ rfl (fun F15 le15 hz15 => ?_)
  have hf15 : IntsF F15 v16 ([0, -1, -2]) := intsH.fz (xs := [0, -1, -2]) hz15.fz
  show X _ _ _ _ _ _ (slH 76 2 v20 2 [v16, v17, v18, v19] :: slH 2 1 v19 1 [ii (-2)] :: slH 2 1 v18 3 [ii (0), ii (-1), ii (-2)] :: intsH 2 v17 ([-1] : List Int) :: cellsH b2 [v1] 36 :: slH 2 1 v1 3 [ii (2), ii (1), ii (0)] :: cellsH b1 [v1, v20] 39 :: L)
  refine qQ [_, _, _] _ _ rfl (fun F16 le16 hz16 => ?_)
  replace hf15 := hf15.mono le16
  have hf16 : IntsF F16 v17 ([-1]) := intsH.fz (xs := [-1]) hz16.fz
  show X _ _ _ _ _ _ (slH 76 2 v20 2 [v16, v17, v18, v19] :: slH 2 1 v19 1 [ii (-2)] :: intsH 2 v18 ([0, -1, -2] : List Int) :: cellsH b2 [v1] 36 :: slH 2 1 v1 3 [ii (2), ii (1), ii (0)] :: cellsH b1 [v1, v20] 39 :: L)
  refine qQ [_, _] _ _ rfl (fun F17 le17 hz17 => ?_)
  replace hf15 := hf15.mono le17
  replace hf16 := hf16.mono le17
  have hf17 : IntsF F17 v18 ([0, -1, -2]) := intsH.fz (xs := [0, -1, -2]) hz17.fz
  show X _ _ _ _ _ _ (slH 76 2 v20 2 [v16, v17, v18, v19] :: intsH 2 v19 ([-2] : List Int) :: cellsH b2 [v1] 36 :: slH 2 1 v1 3 [ii (2), ii (1), ii (0)] :: cellsH b1 [v1, v20] 39 :: L)
  refine qQ [_] _ _ rfl (fun F18 le18 hz18 => ?_)
  replace hf15 := hf15.mono le18
  replace hf16 := hf16.mono le18
  replace hf17 := hf17.mono le18
  have hf18 : IntsF F18 v19 ([-2]) := intsH.fz (xs := [-2]) hz18.fz
  have hc5 : PairsC F18 [v16, v17, v18, v19] ([([0, -1, -2], [-1]), ([0, -1, -2], [-2])] : List (List Int × List Int)) := (PairsC.snoc (PairsC.snoc (CO.nil : PairsC F18 [] []) hf15 hf16) hf17 hf18)
  show X _ _ _ _ _ _ (slH 76 2 v20 2 ([v16, v17, v18, v19]) :: cellsH b2 [v1] 36 :: intsH 2 v1 ([2, 1, 0] : List Int) :: cellsH b1 [v1, v20] 39 :: L)
  refine qQ [_, _] _ _ rfl (fun F19 le19 hz19 => ?_)
  replace hc5 := hc5.mono le19
  have hf19 : IntsF F19 v1 ([2, 1, 0]) := intsH.fz (xs := [2, 1, 0]) hz19.fz
  refine qu (qC (qk (qq (L' := slH 76 2 v20 ((([([0, -1, -2], [-1]), ([0, -1, -2], [-2])] : List (List Int × List Int))).length) ([v16, v17, v18, v19]) :: L) [.agg #[v1, v20]] (.agg #[v1, v20]) (.cell rfl (ju [v1, v20] ja qP rfl (Rd.ownN [_, _] rfl rfl)) .nil) rfl (qh (qh (qh (qh le15 le16) le17) le18) le19) rF (qR (sC (sD (sD sR))) (jU (fun l hl => by first | exact hl | (rw [show 2 = (([([0, -1, -2], [-1]), ([0, -1, -2], [-2])] : List (List Int × List Int))).length from by first | rfl | assumption | omega] at hl; exact hl)) sR)) ?_)))
  exact ⟨_, _, _, ([([0, -1, -2], [-1]), ([0, -1, -2], [-2])] : List (List Int × List Int)), _, ⟨rfl, hf19, (qN hv20), hc5, by decide, by decide, by unfold smallR; decide⟩, rfl⟩
 refine qc (qa (cX (js rfl rfl (qg (.bool (decide ((k : Int) = 5))) rfl (qb ?_)))))
 refine qA (p := (k : Int) = 5) rfl (fun h6 => ?_) (fun h6 => ?_)
 ·refine qc (qa (cX (qr [v1] qX qF rfl rfl (Rd.ownN [] rfl rfl) (cX (qo (s := 1) [ii (0), ii (-1), ii (-2)] [ii (0)] [(0, [ii (0)]), (1, [ii (-1)]), (2, [ii (-2)])] qf qB qS rfl (by decide) rfl (.cons rfl (.cons rfl (.cons rfl CellsAre.nil))) rfl ?_)))))
  intro v21 hv21
  refine cX (qo (s := 1) [ii (0), ii (-2), ii (-1)] [ii (0)] [(0, [ii (0)]), (1, [ii (-2)]), (2, [ii (-1)])] qf qB qS rfl (by decide) rfl (.cons rfl (.cons rfl (.cons rfl CellsAre.nil))) rfl ?_)
  intro v22 hv22
  refine cX (jh [v21, v22] [sN, sN] [(0, 1), (1, 1)] [(0, [v21]), (1, [v22])] qV jr rfl (.cons rfl qs (.cons rfl qs PlacesAre.nil)) rfl (.cons (cells_one (qN hv21)) (.cons (cells_one (qN hv22)) CellsAre.nil)) (cX (qo (s := 2) [v21, v22] [sN, sN] [(0, [v21, v22])] jd jA jr rfl (by decide) rfl (.cons rfl CellsAre.nil) rfl ?_)))
  intro v23 hv23
  refine cX (jh [v1, v23] [sN, sN] [(0, 1), (1, 1)] [(0, [v1]), (1, [v23])] qJ jK rfl (.cons rfl qF (.cons rfl jw PlacesAre.nil)) rfl (.cons rfl (.cons (cells_one (qN hv23)) CellsAre.nil)) (cX (qL [_, _, _, _, _] _ [v1, v23] qP rfl rfl rfl (qn (qG (qN hv1)) (qn (qG (qN hv23)) qO)) rfl rfl rfl (qb ?_))))
  show X _ _ _ _ _ _ (slH 76 2 v23 1 [v21, v22] :: slH 2 1 v22 3 [ii (0), ii (-2), ii (-1)] :: intsH 2 v21 ([0, -1, -2] : List Int) :: cellsH b2 [v1] 36 :: slH 2 1 v1 3 [ii (2), ii (1), ii (0)] :: cellsH b1 [v1, v23] 39 :: L)
  refine qQ [_, _] _ _ rfl (fun F20 le20 hz20 => ?_)
  have hf20 : IntsF F20 v21 ([0, -1, -2]) := intsH.fz (xs := [0, -1, -2]) hz20.fz
  show X _ _ _ _ _ _ (slH 76 2 v23 1 [v21, v22] :: intsH 2 v22 ([0, -2, -1] : List Int) :: cellsH b2 [v1] 36 :: slH 2 1 v1 3 [ii (2), ii (1), ii (0)] :: cellsH b1 [v1, v23] 39 :: L)
  refine qQ [_] _ _ rfl (fun F21 le21 hz21 => ?_)
  replace hf20 := hf20.mono le21
  have hf21 : IntsF F21 v22 ([0, -2, -1]) := intsH.fz (xs := [0, -2, -1]) hz21.fz
  have hc6 : PairsC F21 [v21, v22] ([([0, -1, -2], [0, -2, -1])] : List (List Int × List Int)) := (PairsC.snoc (CO.nil : PairsC F21 [] []) hf20 hf21)
  show X _ _ _ _ _ _ (slH 76 2 v23 1 ([v21, v22]) :: cellsH b2 [v1] 36 :: intsH 2 v1 ([2, 1, 0] : List Int) :: cellsH b1 [v1, v23] 39 :: L)
  refine qQ [_, _] _ _ rfl (fun F22 le22 hz22 => ?_)
  replace hc6 := hc6.mono le22
  have hf22 : IntsF F22 v1 ([2, 1, 0]) := intsH.fz (xs := [2, 1, 0]) hz22.fz
  refine qu (qC (qk (qq (L' := slH 76 2 v23 ((([([0, -1, -2], [0, -2, -1])] : List (List Int × List Int))).length) ([v21, v22]) :: L) [.agg #[v1, v23]] (.agg #[v1, v23]) (.cell rfl (ju [v1, v23] ja qP rfl (Rd.ownN [_, _] rfl rfl)) .nil) rfl (qh (qh le20 le21) le22) rF (qR (sC (sD (sD sR))) (jU (fun l hl => by first | exact hl | (rw [show 1 = (([([0, -1, -2], [0, -2, -1])] : List (List Int × List Int))).length from by first | rfl | assumption | omega] at hl; exact hl)) sR)) ?_)))
  exact ⟨_, _, _, ([([0, -1, -2], [0, -2, -1])] : List (List Int × List Int)), _, ⟨rfl, hf22, (qN hv23), hc6, by decide, by decide, by unfold smallR; decide⟩, rfl⟩
 refine qw (qc (qa (cX (qr [v1] qX qF rfl rfl (Rd.ownN [] rfl rfl) (cX (qo (s := 1) [ii (0), ii (2), ii (-1)] [ii (0)] [(0, [ii (0)]), (1, [ii (2)]), (2, [ii (-1)])] qf qB qS rfl (by decide) rfl (.cons rfl (.cons rfl (.cons rfl CellsAre.nil))) rfl ?_))))))
 intro v24 hv24
 refine cX (qo (s := 1) [ii (-1)] [ii (0)] [(0, [ii (-1)])] qf qB qS rfl (by decide) rfl (.cons rfl CellsAre.nil) rfl ?_)
 intro v25 hv25
 refine cX (jh [v24, v25] [sN, sN] [(0, 1), (1, 1)] [(0, [v24]), (1, [v25])] qV jr rfl (.cons rfl qs (.cons rfl qs PlacesAre.nil)) rfl (.cons (cells_one (qN hv24)) (.cons (cells_one (qN hv25)) CellsAre.nil)) (cX (qo (s := 1) [ii (0), ii (1), ii (-1), ii (-1)] [ii (0)] [(0, [ii (0)]), (1, [ii (1)]), (2, [ii (-1)]), (3, [ii (-1)])] qf qB qS rfl (by decide) rfl (.cons rfl (.cons rfl (.cons rfl (.cons rfl CellsAre.nil)))) rfl ?_)))
 intro v26 hv26
 refine cX (qo (s := 1) [ii (2)] [ii (0)] [(0, [ii (2)])] qf qB qS rfl (by decide) rfl (.cons rfl CellsAre.nil) rfl ?_)
 intro v27 hv27
 refine cX (jh [v26, v27] [sN, sN] [(0, 1), (1, 1)] [(0, [v26]), (1, [v27])] qV jr rfl (.cons rfl qs (.cons rfl qs PlacesAre.nil)) rfl (.cons (cells_one (qN hv26)) (.cons (cells_one (qN hv27)) CellsAre.nil)) (cX (qo (s := 1) [ii (0), ii (0), ii (-1), ii (-2), ii (-3)] [ii (0)] [(0, [ii (0)]), (1, [ii (0)]), (2, [ii (-1)]), (3, [ii (-2)]), (4, [ii (-3)])] qf qB qS rfl (by decide) rfl (.cons rfl (.cons rfl (.cons rfl (.cons rfl (.cons rfl CellsAre.nil))))) rfl ?_)))
 intro v28 hv28
 refine cX (qo (s := 1) [ii (0), ii (-1), ii (0), ii (-2), ii (-3)] [ii (0)] [(0, [ii (0)]), (1, [ii (-1)]), (2, [ii (0)]), (3, [ii (-2)]), (4, [ii (-3)])] qf qB qS rfl (by decide) rfl (.cons rfl (.cons rfl (.cons rfl (.cons rfl (.cons rfl CellsAre.nil))))) rfl ?_)
 intro v29 hv29
 refine cX (jh [v28, v29] [sN, sN] [(0, 1), (1, 1)] [(0, [v28]), (1, [v29])] qV jr rfl (.cons rfl qs (.cons rfl qs PlacesAre.nil)) rfl (.cons (cells_one (qN hv28)) (.cons (cells_one (qN hv29)) CellsAre.nil)) (cX (qo (s := 2) [v24, v25, v26, v27, v28, v29] [sN, sN] [(0, [v24, v25]), (1, [v26, v27]), (2, [v28, v29])] jd jA jr rfl (by decide) rfl (.cons rfl (.cons rfl (.cons rfl CellsAre.nil))) rfl ?_)))
 intro v30 hv30
 refine cX (jh [v1, v30] [sN, sN] [(0, 1), (1, 1)] [(0, [v1]), (1, [v30])] qJ jK rfl (.cons rfl qF (.cons rfl jw PlacesAre.nil)) rfl (.cons rfl (.cons (cells_one (qN hv30)) CellsAre.nil)) (cX (qL [_, _, _, _, _, _, _, _, _] _ [v1, v30] qP rfl rfl rfl (qn (qG (qN hv1)) (qn (qG (qN hv30)) qO)) rfl rfl rfl (qb ?_))))
 show X _ _ _ _ _ _ (slH 76 2 v30 3 [v24, v25, v26, v27, v28, v29] :: slH 2 1 v29 5 [ii (0), ii (-1), ii (0), ii (-2), ii (-3)] :: slH 2 1 v28 5 [ii (0), ii (0), ii (-1), ii (-2), ii (-3)] :: slH 2 1 v27 1 [ii (2)] :: slH 2 1 v26 4 [ii (0), ii (1), ii (-1), ii (-1)] :: slH 2 1 v25 1 [ii (-1)] :: intsH 2 v24 ([0, 2, -1] : List Int) :: cellsH b2 [v1] 36 :: slH 2 1 v1 3 [ii (2), ii (1), ii (0)] :: cellsH b1 [v1, v30] 39 :: L)
 refine qQ [_, _, _, _, _, _] _ _ rfl (fun F23 le23 hz23 => ?_)
 have hf23 : IntsF F23 v24 ([0, 2, -1]) := intsH.fz (xs := [0, 2, -1]) hz23.fz
 show X _ _ _ _ _ _ (slH 76 2 v30 3 [v24, v25, v26, v27, v28, v29] :: slH 2 1 v29 5 [ii (0), ii (-1), ii (0), ii (-2), ii (-3)] :: slH 2 1 v28 5 [ii (0), ii (0), ii (-1), ii (-2), ii (-3)] :: slH 2 1 v27 1 [ii (2)] :: slH 2 1 v26 4 [ii (0), ii (1), ii (-1), ii (-1)] :: intsH 2 v25 ([-1] : List Int) :: cellsH b2 [v1] 36 :: slH 2 1 v1 3 [ii (2), ii (1), ii (0)] :: cellsH b1 [v1, v30] 39 :: L)
 refine qQ [_, _, _, _, _] _ _ rfl (fun F24 le24 hz24 => ?_)
 replace hf23 := hf23.mono le24
 have hf24 : IntsF F24 v25 ([-1]) := intsH.fz (xs := [-1]) hz24.fz
 show X _ _ _ _ _ _ (slH 76 2 v30 3 [v24, v25, v26, v27, v28, v29] :: slH 2 1 v29 5 [ii (0), ii (-1), ii (0), ii (-2), ii (-3)] :: slH 2 1 v28 5 [ii (0), ii (0), ii (-1), ii (-2), ii (-3)] :: slH 2 1 v27 1 [ii (2)] :: intsH 2 v26 ([0, 1, -1, -1] : List Int) :: cellsH b2 [v1] 36 :: slH 2 1 v1 3 [ii (2), ii (1), ii (0)] :: cellsH b1 [v1, v30] 39 :: L)
 refine qQ [_, _, _, _] _ _ rfl (fun F25 le25 hz25 => ?_)
 replace hf23 := hf23.mono le25
 replace hf24 := hf24.mono le25
 have hf25 : IntsF F25 v26 ([0, 1, -1, -1]) := intsH.fz (xs := [0, 1, -1, -1]) hz25.fz
 show X _ _ _ _ _ _ (slH 76 2 v30 3 [v24, v25, v26, v27, v28, v29] :: slH 2 1 v29 5 [ii (0), ii (-1), ii (0), ii (-2), ii (-3)] :: slH 2 1 v28 5 [ii (0), ii (0), ii (-1), ii (-2), ii (-3)] :: intsH 2 v27 ([2] : List Int) :: cellsH b2 [v1] 36 :: slH 2 1 v1 3 [ii (2), ii (1), ii (0)] :: cellsH b1 [v1, v30] 39 :: L)
 refine qQ [_, _, _] _ _ rfl (fun F26 le26 hz26 => ?_)
 replace hf23 := hf23.mono le26
 replace hf24 := hf24.mono le26
 replace hf25 := hf25.mono le26
 have hf26 : IntsF F26 v27 ([2]) := intsH.fz (xs := [2]) hz26.fz
 show X _ _ _ _ _ _ (slH 76 2 v30 3 [v24, v25, v26, v27, v28, v29] :: slH 2 1 v29 5 [ii (0), ii (-1), ii (0), ii (-2), ii (-3)] :: intsH 2 v28 ([0, 0, -1, -2, -3] : List Int) :: cellsH b2 [v1] 36 :: slH 2 1 v1 3 [ii (2), ii (1), ii (0)] :: cellsH b1 [v1, v30] 39 :: L)
 refine qQ [_, _] _ _ rfl (fun F27 le27 hz27 => ?_)
 replace hf23 := hf23.mono le27
 replace hf24 := hf24.mono le27
 replace hf25 := hf25.mono le27
 replace hf26 := hf26.mono le27
 have hf27 : IntsF F27 v28 ([0, 0, -1, -2, -3]) := intsH.fz (xs := [0, 0, -1, -2, -3]) hz27.fz
 show X _ _ _ _ _ _ (slH 76 2 v30 3 [v24, v25, v26, v27, v28, v29] :: intsH 2 v29 ([0, -1, 0, -2, -3] : List Int) :: cellsH b2 [v1] 36 :: slH 2 1 v1 3 [ii (2), ii (1), ii (0)] :: cellsH b1 [v1, v30] 39 :: L)
 refine qQ [_] _ _ rfl (fun F28 le28 hz28 => ?_)
 replace hf23 := hf23.mono le28
 replace hf24 := hf24.mono le28
 replace hf25 := hf25.mono le28
 replace hf26 := hf26.mono le28
 replace hf27 := hf27.mono le28
 have hf28 : IntsF F28 v29 ([0, -1, 0, -2, -3]) := intsH.fz (xs := [0, -1, 0, -2, -3]) hz28.fz
 have hc7 : PairsC F28 [v24, v25, v26, v27, v28, v29] ([([0, 2, -1], [-1]), ([0, 1, -1, -1], [2]), ([0, 0, -1, -2, -3], [0, -1, 0, -2, -3])] : List (List Int × List Int)) := (PairsC.snoc (PairsC.snoc (PairsC.snoc (CO.nil : PairsC F28 [] []) hf23 hf24) hf25 hf26) hf27 hf28)
 show X _ _ _ _ _ _ (slH 76 2 v30 3 ([v24, v25, v26, v27, v28, v29]) :: cellsH b2 [v1] 36 :: intsH 2 v1 ([2, 1, 0] : List Int) :: cellsH b1 [v1, v30] 39 :: L)
 refine qQ [_, _] _ _ rfl (fun F29 le29 hz29 => ?_)
 replace hc7 := hc7.mono le29
 have hf29 : IntsF F29 v1 ([2, 1, 0]) := intsH.fz (xs := [2, 1, 0]) hz29.fz
 refine qu (qq (L' := slH 76 2 v30 ((([([0, 2, -1], [-1]), ([0, 1, -1, -1], [2]), ([0, 0, -1, -2, -3], [0, -1, 0, -2, -3])] : List (List Int × List Int))).length) ([v24, v25, v26, v27, v28, v29]) :: L) [.agg #[v1, v30]] (.agg #[v1, v30]) (.cell rfl (ju [v1, v30] ja qP rfl (Rd.ownN [_, _] rfl rfl)) .nil) rfl (qh (qh (qh (qh (qh (qh le23 le24) le25) le26) le27) le28) le29) rF (qR (sC (sD (sD sR))) (jU (fun l hl => by first | exact hl | (rw [show 3 = (([([0, 2, -1], [-1]), ([0, 1, -1, -1], [2]), ([0, 0, -1, -2, -3], [0, -1, 0, -2, -3])] : List (List Int × List Int))).length from by first | rfl | assumption | omega] at hl; exact hl)) sR)) ?_)
 exact ⟨_, _, _, ([([0, 2, -1], [-1]), ([0, 1, -1, -1], [2]), ([0, 0, -1, -2, -3], [0, -1, 0, -2, -3])] : List (List Int × List Int)), _, ⟨rfl, hf29, (qN hv30), hc7, by decide, by decide, by unfold smallR; decide⟩, rfl⟩

/- spec.l6Draw -/
set_option maxHeartbeats 1000000 in
set_option maxRecDepth 20000 in
theorem l6Draw_spec {F : FH} {L : List HP} {cb : Nat} {bsv : Value} {bs : List Int} (hbs : BytesF F bsv bs) (hbl : bs.length ≤ 4000000) :
    Does prog 313 [ptr cb 0] F (curH .i64 247 cb bsv bs.length :: L) (fun v F' L' => ∃ (a b : Value) (ar : List Int) (rs : List (List Int × List Int)) (cs : List Value), ((.agg #[a, b] : Value) = v ∧ IntsF F' a ar ∧ IsSl b ∧ PairsC F' cs rs ∧ ar.length ≤ 20 ∧ rs.length ≤ 12 ∧ smallR rs) ∧ slH 76 2 b rs.length cs :: curH .i64 247 cb bsv bs.length :: L = L') := by
 refine qI func313 rfl rfl rfl (qc (qa (cX (ji [sN, sN] jK rfl ?_))))
 intro b1
 refine qb (qc (qc (qa (qd (ptr cb 0) rfl (cX (qm (args := [ptr cb 0, ii (2)]) call102 rfl (jf [_] (l1Once_spec (n := 2) hbs (by omega) (hn := (by first | assumption | rfl | omega | simp)))) ?_))))))
 rintro _ _ _ _ ⟨⟨rfl, x1, rfl⟩, rfl⟩
 show XL _ _ _ _ _ _ _ (cellsH b1 [sN, sN] 39 :: curH .i64 247 cb bsv bs.length :: L)
 refine qb ?_
 refine jz (t := x1) rfl (fun h1 => ?_) (fun h1 => ?_)
 ·refine qc (qa (qd (ptr cb 0) rfl (cX (qm (args := [ptr cb 0, ii (7)]) jL rfl (jf [_] (l1Below_spec (n := 7) hbs (by omega) (hn := (by first | assumption | rfl | omega | simp)))) ?_))))
  rintro _ _ _ _ ⟨⟨rfl, x2, rfl, hr1⟩, rfl⟩
  show XL _ _ _ _ _ _ _ (cellsH b1 [sN, sN] 39 :: curH .i64 247 cb bsv bs.length :: L)
  refine cX (qm (args := [ii (x2)]) call360 rfl (l6Known_spec (k := x2)) ?_)
  rintro _ F3 _ le3 ⟨x3, x4, ar1, rs1, cs1, ⟨rfl, ha1, hsl1, hc1, h_1, h_2, h_3⟩, rfl⟩
  replace hbs := hbs.mono le3
  show XL _ _ _ _ _ _ _ (slH 76 2 x4 rs1.length cs1 :: cellsH b1 [sN, sN] 39 :: curH .i64 247 cb bsv bs.length :: L)
  refine cX (qL [_] _ [x3, x4] qP rfl rfl rfl (qn (qG (qz ha1)) (qn (qG hsl1) qO)) rfl rfl rfl (qb (qu (qk (qq (L' := slH 76 2 x4 rs1.length cs1 :: curH .i64 247 cb bsv bs.length :: L) [.agg #[x3, x4]] (.agg #[x3, x4]) (.cell rfl (ju [x3, x4] ja qP rfl (Rd.ownN [_] rfl rfl)) .nil) rfl le3 rF ((sC (sD (sC sR)))) ?_)))))
  exact ⟨_, _, _, rs1, _, ⟨rfl, ha1, hsl1, hc1, h_1, h_2, h_3⟩, rfl⟩
 refine qw (qc (qa (qd (ptr cb 0) rfl (cX (qm (args := [ptr cb 0]) call222 rfl (Does.atO [_] (l1DrawSig_spec hbs (by omega))) ?_)))))
 rintro _ F4 _ le4 ⟨x6, ⟨rfl, hsl2⟩, rfl⟩
 replace hbs := hbs.mono le4
 show XL _ _ _ _ _ _ _ (drawnH 2 x6 (fun ar => sigOk ar = true) :: cellsH b1 [sN, sN] 39 :: curH .i64 247 cb bsv bs.length :: L)
 refine XL.undraw [] rfl (fun t1 hq9 => ?_)
 have q1 := hq9
 show XL _ _ _ _ _ _ _ (intsH 2 x6 t1 :: cellsH b1 [sN, sN] 39 :: curH .i64 247 cb bsv bs.length :: L)
 refine jO [] _ _ rfl (fun F5 le5 hz1 => ?_)
 replace hbs := hbs.mono le5
 have hf1 : IntsF F5 x6 t1 := intsH.fz (xs := t1) hz1.fz
 have hsl9 := sigOk_spec q1
 refine cX (jh [x6, sN] [sN, sN] [(0, 1), (1, 1)] [(0, [x6])] qJ jK rfl (.cons rfl qF (.cons rfl jw PlacesAre.nil)) rfl (.cons rfl CellsAre.nil) (cX (ji [sN, sN] jK rfl ?_)))
 intro b2
 refine cX (qL [] _ [x6, sN] qP rfl rfl rfl (qn (qG (qz hf1)) (qn rfl qO)) rfl rfl rfl (qb (qc (qc (qa (qd (ptr cb 0) rfl (cX (qm (args := [ptr cb 0, ii (4)]) jL rfl (jf [_, _] (l1Below_spec (n := 4) hbs (by omega) (hn := (by first | assumption | rfl | omega | simp)))) ?_))))))))
 rintro _ _ _ _ ⟨⟨rfl, x7, rfl, hr2⟩, rfl⟩
 show XL _ _ _ _ _ _ _ (cellsH b2 [x6, sN] 39 :: cellsH b1 [sN, sN] 39 :: curH .i64 247 cb bsv bs.length :: L)
 refine qg (ii (x7)) rfl (qb (qK (jl (α := Nat × Value × List (List Int × List Int) × List Value × Nat × FH) (fun xQ => [(0, ptr cb 0), (2, ptr b1 0), (3, ptr b2 0), (4, ii (((xQ.1 : Nat) : Int)))]) (fun xQ => slH 76 2 xQ.2.1 xQ.2.2.2.2.1 xQ.2.2.2.1 :: cellsH b2 [x6, xQ.2.1] 39 :: cellsH b1 [sN, sN] 39 :: curH .i64 247 cb bsv bs.length :: L) (fun xQ F' => xQ.2.2.2.2.2 = F' ∧ F5 ≤ xQ.2.2.2.2.2 ∧ (IsSl xQ.2.1) ∧ (PairsC xQ.2.2.2.2.2 xQ.2.2.2.1 xQ.2.2.1) ∧ (xQ.2.2.2.2.1 = xQ.2.2.1.length) ∧ (xQ.2.2.1.length + xQ.1 ≤ 4) ∧ (smallR xQ.2.2.1)) (fun xQ => xQ.1) (x7.toNat, sN, [], [], 0, F5) ⟨rfl, rfl, rfl, (vI (by omega)), ⟨⟩⟩ (qR (Sub.addNil 76 2 _ _) (sC (sC (sC (sC sR))))) ⟨rfl, FLe.refl _, (⟨_, _, _, rfl⟩), (CO.nil), (rfl), (by (try dsimp only); simp only [List.length_nil]; omega), (smallR.nil)⟩ ?_)))
 rintro ⟨n, ov, os, cs, m, G1⟩ rE _ _ ⟨rfl, leG, hov, hC, hm, hon, hos⟩
 show X _ _ _ _ (envs [(0, ptr cb 0), (2, ptr b1 0), (3, ptr b2 0), (4, ii ((n : Int)))] rE) _ (slH 76 2 ov m cs :: cellsH b2 [x6, ov] 39 :: cellsH b1 [sN, sN] 39 :: curH .i64 247 cb bsv bs.length :: L)
 replace leG : F5 ≤ G1 := leG
 dsimp only at hov hC hm hon hos
 have leG1 := leG
 replace hbs := hbs.mono leG1
 replace hf1 := hf1.mono leG1
 refine qc (qc (qa (qd (ii ((n : Int))) rfl (cX (jI rfl rfl (qb ?_))))))
 refine qA (p := (n : Int) > 0) rfl (fun h2 => ?_) (fun h2 => ?_)
 ·refine qw (qc (qK ?_))
  refine jW [slH 76 2 ov m cs, cellsH b2 [x6, ov] 39, cellsH b1 [sN, sN] 39, curH .i64 247 cb bsv bs.length] L 7 [[], [], [], [], [], [], [5]] [[], [0], [], [], [3], [2, 4], [5]] [] (phiG [pe (ptr b2 1), pe ov, pe (ptr cb 0), pe (ptr b2 0), pe (.agg #[x6]), fun FF us v => (.agg #[((aggAt v 0)), ((aggAt v 1))] : Value) = v ∧ (SomesF FF ((aggAt v 0)) (fun u => u.length ≤ 2000)) ∧ (SomesF FF ((aggAt v 1)) (fun w => w.length ≤ 2000)), fun FF us v => ∃ b, v = .slice (some ⟨b, 0, none⟩) 1 1]) (ownL [o0, o0, o0, o0, o0, o0, fun us v => [slH 76 2 v 1 [((aggAt (us.getD 0 undef) 0)), ((aggAt (us.getD 0 undef) 1))]]]) mixed rfl rfl (by kernel_rfl) (by kernel_rfl) (MonoG.get (m1 (m1 (m1 (m1 (m1 (mC (fun le h => ⟨h.1, h.2.1.mono le, h.2.2.mono le⟩) (mC (fun le h => h) MonoG.nil)))))))) ?_ ?_
  ·refine gD (fun W Fs R lF z9 => ?_) ?_
   ·refine qi (ql (1) qJ rfl jw (by decide) rfl rfl ?_)
    exact ⟨rfl, rfl⟩
   refine gD (fun W Fs R lF z9 => ?_) ?_
   ·replace hbs := hbs.mono lF
    replace hf1 := hf1.mono lF
    replace hC := hC.mono lF
    rw [eS (l := [(0, _)]) ⟨z9 0 rfl, ⟨⟩⟩]
    refine qi (qj yb rfl (Rd.own [_] rfl rfl) ?_)
    exact ⟨rfl, rfl⟩
   refine gD (fun W Fs R lF z9 => ?_) ?_
   ·refine qi (qp (ptr cb 0) rfl ?_)
    exact ⟨rfl, rfl⟩
   refine gD (fun W Fs R lF z9 => ?_) ?_
   ·refine qi (ql (0) qJ rfl qF (by decide) rfl rfl ?_)
    exact ⟨rfl, rfl⟩
   refine gD (fun W Fs R lF z9 => ?_) ?_
   ·replace hbs := hbs.mono lF
    replace hf1 := hf1.mono lF
    replace hC := hC.mono lF
    rw [eS (l := [(3, _)]) ⟨z9 3 rfl, ⟨⟩⟩]
    refine qi (qr [x6] qX qF rfl rfl (Rd.ownN [_] rfl rfl) ?_)
    exact ⟨rfl, rfl⟩
   refine gD (fun W Fs R lF z9 => ?_) ?_
   ·replace hbs := hbs.mono lF
    replace hf1 := hf1.mono lF
    replace hC := hC.mono lF
    rw [eS (l := [(2, _), (4, _)]) ⟨z9 2 rfl, z9 4 rfl, ⟨⟩⟩]
    refine qi (qm (args := [ptr cb 0, .agg #[x6]]) call355 rfl (jf [_, _, _] (l6DrawRule_spec hbs (by omega) hf1 (hso := (by first | assumption | rfl | omega | simp)))) ?_)
    rintro _ F8 _ le8 ⟨⟨x10, x11, rfl, hr5, hr6⟩, rfl⟩
    replace hf1 := hf1.mono le8
    replace hC := hC.mono le8
    exact ⟨⟨rfl, hr5, hr6⟩, rfl⟩
   refine gD (fun W Fs R lF z9 => ?_) ?_
   ·obtain ⟨e5, f5_1hp_a, f5_1hp_b⟩ := z9 5 rfl
    obtain ⟨t5X1_a, f5_1hp_a, q5_1_a0⟩ := f5_1hp_a
    obtain ⟨t5X1_b, f5_1hp_b, q5_1_b0⟩ := f5_1hp_b
    replace hf1 := hf1.mono lF
    replace hC := hC.mono lF
    rw [eS (l := [(5, (.agg #[((aggAt (W 5) 0)), ((aggAt (W 5) 1))]))]) ⟨(e5).symm, ⟨⟩⟩]
    refine qi (qo (s := 2) [((aggAt (W 5) 0)), ((aggAt (W 5) 1))] [sN, sN] [(0, [((aggAt (W 5) 0)), ((aggAt (W 5) 1))])] jd jA jr rfl (by decide) rfl (.cons rfl CellsAre.nil) rfl ?_)
    intro v2 hv2
    exact ⟨hv2, rfl⟩
   exact stepsG.nil
  intro W F9 le9 hphi
  obtain ⟨e5, f5_1hp_a, f5_1hp_b⟩ := hphi 5 (by decide)
  obtain ⟨t5X1_a, f5_1hp_a, q5_1_a0⟩ := f5_1hp_a
  obtain ⟨t5X1_b, f5_1hp_b, q5_1_b0⟩ := f5_1hp_b
  have f6 : ∃ b, (W 6) = .slice (some ⟨b, 0, none⟩) 1 1 := hphi 6 (by decide)
  generalize hu1 : ((aggAt (W 5) 0)) = u1 at e5 f5_1hp_a f5_1hp_b f6
  generalize hu2 : ((aggAt (W 5) 1)) = u2 at e5 f5_1hp_a f5_1hp_b f6
  generalize hu6 : W 6 = u3 at e5 f5_1hp_a f5_1hp_b f6
  rw [eS (l := [(1, _), (5, (.agg #[u1, u2])), (6, u3)]) ⟨(hphi 1 (by decide)), (e5).symm, hu6, ⟨⟩⟩]
  replace hf1 := hf1.mono le9
  replace hC := hC.mono le9
  show XL _ _ _ _ _ _ _ (slH 76 2 u3 1 [u1, u2] :: slH 76 2 ov m cs :: cellsH b2 [x6, ov] 39 :: cellsH b1 [sN, sN] 39 :: curH .i64 247 cb bsv bs.length :: L)
  refine cX (jG (m := 1) (bytes := 48) (cs := cs) [_] _ [u1, u2] jd typeInfo76 rfl rfl rfl rfl rfl rfl rfl (SlV.own [] rfl) rfl (Rd.lit [] rfl) (qn (qG (qz f5_1hp_a)) (qn (qG (qz f5_1hp_b)) qO)) (by (try simp only [List.length_append, List.length_nil, List.length_cons, List.length_singleton]); omega) (by (try simp only [List.length_append, List.length_nil, List.length_cons, List.length_singleton]); omega) ?_)
  intro v3 hs1 hn1 hm1
  have hc2 := PairsC.snoc hC f5_1hp_a f5_1hp_b
  refine cX (ql (1) qJ rfl jw (by decide) rfl rfl (cX (jv [_, _] _ [x6, v3] jw rfl rfl (qG hs1) rfl rfl rfl (qb (qa (qd (ii ((n : Int))) rfl (cX (jq (((n : Int)) - 1) rfl rfl (by omega) (by omega) (qg (ii (((n : Int)) - 1)) rfl (qb ?_))))))))))
  exact ⟨(n - 1, v3, os ++ [(t5X1_a, t5X1_b)], cs ++ [u1, u2], (m) + 1, F9), _, (qh leG1 le9), rF, ⟨rfl, rfl, rfl, (vI (by (try dsimp only); omega)), ⟨⟩⟩, (sD (sC (sC (sC (sC sR))))), ⟨rfl, (qh leG1 le9), (hs1), (hc2), (by (try dsimp only); rw [List.length_append]; simp only [List.length_singleton]; omega), (by (try dsimp only); rw [List.length_append]; simp only [List.length_singleton]; omega), (smallR.snoc hos q5_1_a0 q5_1_b0)⟩, (by (try dsimp only); omega)⟩
 refine jk (qt (qt (qM (qc (qa (cX (qr [x6, ov] ja qP rfl rfl (Rd.ownN [_] rfl rfl) (cX (qL [_, _] _ [x6, ov] qP rfl rfl rfl (qn (qG (qz hf1)) (qn (qG hov) qO)) rfl rfl rfl (qb (qu (qq (L' := slH 76 2 ov os.length cs :: curH .i64 247 cb bsv bs.length :: L) [.agg #[x6, ov]] (.agg #[x6, ov]) (.cell rfl (ju [x6, ov] ja qP rfl (Rd.ownN [_, _] rfl rfl)) .nil) rfl (qh (qh le4 le5) leG1) rF (qR (sC (sD (sD (sC sR)))) (jU (fun l hl => by first | exact hl | (rw [show m = os.length from by first | rfl | assumption | omega] at hl; exact hl)) sR)) ?_))))))))))))
 exact ⟨_, _, _, os, _, ⟨rfl, hf1, hov, hC, by omega, by omega, hos⟩, rfl⟩

/- spec.l6DrawAny -/
set_option maxHeartbeats 1000000 in
set_option maxRecDepth 20000 in
theorem l6DrawAny_spec {F : FH} {L : List HP} {cb : Nat} {bsv : Value} {bs : List Int} (hbs : BytesF F bsv bs) (hbl : bs.length ≤ 4000000) :
    Does prog 239 [ptr cb 0] F (curH .i64 247 cb bsv bs.length :: L) (fun v F' L' => (∃ (a : Value), ∃ (b : Value), ∃ (ar : List Int), ∃ (rs : List (List Int × List Int)), (.agg #[a, b] : Value) = v ∧ (IntsF F' a ar) ∧ (PairsF F' b rs) ∧ (smallS ar rs)) ∧ curH .i64 247 cb bsv bs.length :: L = L') := by
 refine qI func239 rfl rfl rfl (qc (qa (cX (ji [sN, sN] jK rfl ?_))))
 intro b1
 refine qb (qc (qa (qd (ptr cb 0) rfl (cX (qm (args := [ptr cb 0]) call313 rfl ((Does.weaken (qZ (A := [_])) (l6Draw_spec hbs (by omega)))) ?_)))))
 rintro _ F1 _ le1 ⟨x1, x2, ar1, rs1, cs1, ⟨rfl, ha1, hsl1, hc1, h_1, h_2, h_3⟩, rfl⟩
 replace hbs := hbs.mono le1
 show XL _ _ _ _ _ _ _ (slH 76 2 x2 rs1.length cs1 :: curH .i64 247 cb bsv bs.length :: cellsH b1 [sN, sN] 39 :: L)
 skip
 refine cX (ji [sN, sN] jK rfl ?_)
 intro b2
 refine cX (qL [] _ [x1, x2] qP rfl rfl rfl (qn (qG (qz ha1)) (qn (qG hsl1) qO)) rfl rfl rfl (qb (qc (qc (qa (qd (ptr cb 0) rfl (cX (qm (args := [ptr cb 0, ii (15)]) call102 rfl (jf [_, _] (l1Once_spec (n := 15) hbs (by omega) (hn := (by first | assumption | rfl | omega | simp)))) ?_))))))))
 rintro _ _ _ _ ⟨⟨rfl, x3, rfl⟩, rfl⟩
 show XL _ _ _ _ _ _ _ (cellsH b2 [x1, x2] 39 :: slH 76 2 x2 rs1.length cs1 :: curH .i64 247 cb bsv bs.length :: cellsH b1 [sN, sN] 39 :: L)
 refine qb ?_
 refine jz (t := x3) rfl (fun h1 => ?_) (fun h1 => ?_)
 ·refine qc (qa (qd (ptr cb 0) rfl (cX (qm (args := [ptr cb 0, ii (4)]) jL rfl (jf [_, _] (l1Below_spec (n := 4) hbs (by omega) (hn := (by first | assumption | rfl | omega | simp)))) ?_))))
  rintro _ _ _ _ ⟨⟨rfl, x4, rfl, hr1⟩, rfl⟩
  show XL _ _ _ _ _ _ _ (cellsH b2 [x1, x2] 39 :: slH 76 2 x2 rs1.length cs1 :: curH .i64 247 cb bsv bs.length :: cellsH b1 [sN, sN] 39 :: L)
  refine qb (qK (qc (qa (cX (js rfl rfl (qg (.bool (decide ((x4 : Int) = 0))) rfl (qb ?_)))))))
  refine qA (p := (x4 : Int) = 0) rfl (fun h2 => ?_) (fun h2 => ?_)
  ·refine jW [cellsH b2 [x1, x2] 39, slH 76 2 x2 rs1.length cs1, curH .i64 247 cb bsv bs.length, cellsH b1 [sN, sN] 39] L 12 [[], [], [], [], [], [], [], [], [], [], [5, 9], [5, 9]] [[], [0], [], [], [3], [2, 4], [], [], [7], [6, 8], [5, 9], [5, 9, 10]] [] (phiG [pe (ptr b2 1), pe x2, pe (ptr cb 0), pe (ptr b2 0), pe (.agg #[x1]), fun FF us v => ((v) : Value) = v ∧ (SomesF FF (v) (fun u => u.length ≤ 2000)), pe (ptr cb 0), pe (ptr b2 0), pe (.agg #[x1]), fun FF us v => ((v) : Value) = v ∧ (SomesF FF (v) (fun u => u.length ≤ 2000)), fun FF us v => v = (.agg #[((us.getD 0 undef)), ((us.getD 1 undef))] : Value), fun FF us v => ∃ b, v = .slice (some ⟨b, 0, none⟩) 1 1]) (ownL [o0, o0, o0, o0, o0, o0, o0, o0, o0, o0, o0, fun us v => [slH 76 2 v 1 [((us.getD 0 undef)), ((us.getD 1 undef))]]]) mixed rfl rfl (by kernel_rfl) (by kernel_rfl) (MonoG.get (m1 (m1 (m1 (m1 (m1 (mC (fun le h => ⟨h.1, h.2.mono le⟩) (m1 (m1 (m1 (mC (fun le h => ⟨h.1, h.2.mono le⟩) (mC (fun le h => h) (mC (fun le h => h) MonoG.nil))))))))))))) ?_ ?_
   ·refine gD (fun W Fs R lF z9 => ?_) ?_
    ·refine qi (ql (1) qJ rfl jw (by decide) rfl rfl ?_)
     exact ⟨rfl, rfl⟩
    refine gD (fun W Fs R lF z9 => ?_) ?_
    ·replace hbs := hbs.mono lF
     replace ha1 := ha1.mono lF
     replace hc1 := hc1.mono lF
     rw [eS (l := [(0, _)]) ⟨z9 0 rfl, ⟨⟩⟩]
     refine qi (qj yb rfl (Rd.own [] rfl rfl) ?_)
     exact ⟨rfl, rfl⟩
    refine gD (fun W Fs R lF z9 => ?_) ?_
    ·refine qi (qp (ptr cb 0) rfl ?_)
     exact ⟨rfl, rfl⟩
    refine gD (fun W Fs R lF z9 => ?_) ?_
    ·refine qi (ql (0) qJ rfl qF (by decide) rfl rfl ?_)
     exact ⟨rfl, rfl⟩
    refine gD (fun W Fs R lF z9 => ?_) ?_
    ·replace hbs := hbs.mono lF
     replace ha1 := ha1.mono lF
     replace hc1 := hc1.mono lF
     rw [eS (l := [(3, _)]) ⟨z9 3 rfl, ⟨⟩⟩]
     refine qi (qr [x1] qX qF rfl rfl (Rd.ownN [] rfl rfl) ?_)
     exact ⟨rfl, rfl⟩
    refine gD (fun W Fs R lF z9 => ?_) ?_
    ·replace hbs := hbs.mono lF
     replace ha1 := ha1.mono lF
     replace hc1 := hc1.mono lF
     rw [eS (l := [(2, _), (4, _)]) ⟨z9 2 rfl, z9 4 rfl, ⟨⟩⟩]
     refine qi (qm (args := [ptr cb 0, .agg #[x1]]) call251 rfl (jf [_, _] (l1DrawAny_spec hbs (by omega) ha1 (hal := (by first | assumption | rfl | omega | simp)))) ?_)
     rintro _ F6 _ le6 ⟨⟨x7, rfl, hr4⟩, rfl⟩
     replace hbs := hbs.mono le6
     replace ha1 := ha1.mono le6
     replace hc1 := hc1.mono le6
     exact ⟨⟨rfl, hr4⟩, rfl⟩
    refine gD (fun W Fs R lF z9 => ?_) ?_
    ·refine qi (qp (ptr cb 0) rfl ?_)
     exact ⟨rfl, rfl⟩
    refine gD (fun W Fs R lF z9 => ?_) ?_
    ·refine qi (ql (0) qJ rfl qF (by decide) rfl rfl ?_)
     exact ⟨rfl, rfl⟩
    refine gD (fun W Fs R lF z9 => ?_) ?_
    ·replace hbs := hbs.mono lF
     replace ha1 := ha1.mono lF
     replace hc1 := hc1.mono lF
     rw [eS (l := [(7, _)]) ⟨z9 7 rfl, ⟨⟩⟩]
     refine qi (qr [x1] qX qF rfl rfl (Rd.ownN [] rfl rfl) ?_)
     exact ⟨rfl, rfl⟩
    refine gD (fun W Fs R lF z9 => ?_) ?_
    ·replace hbs := hbs.mono lF
     replace ha1 := ha1.mono lF
     replace hc1 := hc1.mono lF
     rw [eS (l := [(6, _), (8, _)]) ⟨z9 6 rfl, z9 8 rfl, ⟨⟩⟩]
     refine qi (qm (args := [ptr cb 0, .agg #[x1]]) call251 rfl (jf [_, _] (l1DrawAny_spec hbs (by omega) ha1 (hal := (by first | assumption | rfl | omega | simp)))) ?_)
     rintro _ F7 _ le7 ⟨⟨x8, rfl, hr5⟩, rfl⟩
     replace hbs := hbs.mono le7
     replace ha1 := ha1.mono le7
     replace hc1 := hc1.mono le7
     exact ⟨⟨rfl, hr5⟩, rfl⟩
    refine gD (fun W Fs R lF z9 => ?_) ?_
    ·obtain ⟨e5, f5_1hp_a⟩ := z9 5 rfl
     obtain ⟨t5X1_a, f5_1hp_a, q5_1_a0⟩ := f5_1hp_a
     obtain ⟨e9, f9_1hp_a⟩ := z9 9 rfl
     obtain ⟨t9X1_a, f9_1hp_a, q9_1_a0⟩ := f9_1hp_a
     replace hbs := hbs.mono lF
     replace ha1 := ha1.mono lF
     replace hc1 := hc1.mono lF
     rw [eS (l := [(5, ((W 5))), (9, ((W 9)))]) ⟨(e5).symm, (e9).symm, ⟨⟩⟩]
     refine qi (jh [((W 5)), ((W 9))] [sN, sN] [(0, 1), (1, 1)] [(0, [((W 5))]), (1, [((W 9))])] qV jr rfl (.cons rfl qs (.cons rfl qs PlacesAre.nil)) rfl (.cons (cells_one (qz f5_1hp_a)) (.cons (cells_one (qz f9_1hp_a)) CellsAre.nil)) ?_)
     exact ⟨rfl, rfl⟩
    refine gD (fun W Fs R lF z9 => ?_) ?_
    ·obtain ⟨e5, f5_1hp_a⟩ := z9 5 rfl
     obtain ⟨t5X1_a, f5_1hp_a, q5_1_a0⟩ := f5_1hp_a
     obtain ⟨e9, f9_1hp_a⟩ := z9 9 rfl
     obtain ⟨t9X1_a, f9_1hp_a, q9_1_a0⟩ := f9_1hp_a
     have e10 : W 10 = (.agg #[((W 5)), ((W 9))] : Value) := z9 10 rfl
     replace hbs := hbs.mono lF
     replace ha1 := ha1.mono lF
     replace hc1 := hc1.mono lF
     rw [eS (l := [(5, ((W 5))), (9, ((W 9))), (10, (.agg #[((W 5)), ((W 9))]))]) ⟨(e5).symm, (e9).symm, e10, ⟨⟩⟩]
     refine qi (qo (s := 2) [((W 5)), ((W 9))] [sN, sN] [(0, [((W 5)), ((W 9))])] jd jA jr rfl (by decide) rfl (.cons rfl CellsAre.nil) rfl ?_)
     intro v2 hv2
     exact ⟨hv2, rfl⟩
    exact stepsG.nil
   intro W F8 le8 hphi
   obtain ⟨e5, f5_1hp_a⟩ := hphi 5 (by decide)
   obtain ⟨t5X1_a, f5_1hp_a, q5_1_a0⟩ := f5_1hp_a
   obtain ⟨e9, f9_1hp_a⟩ := hphi 9 (by decide)
   obtain ⟨t9X1_a, f9_1hp_a, q9_1_a0⟩ := f9_1hp_a
   have e10 : W 10 = (.agg #[((W 5)), ((W 9))] : Value) := hphi 10 (by decide)
   have f11 : ∃ b, (W 11) = .slice (some ⟨b, 0, none⟩) 1 1 := hphi 11 (by decide)
   generalize hu1 : ((W 5)) = u1 at e5 f5_1hp_a e9 f9_1hp_a e10 f11
   generalize hu2 : ((W 9)) = u2 at e5 f5_1hp_a e9 f9_1hp_a e10 f11
   generalize hu11 : W 11 = u3 at e5 f5_1hp_a e9 f9_1hp_a e10 f11
   rw [eS (l := [(1, _), (5, u1), (9, u2), (11, u3)]) ⟨(hphi 1 (by decide)), hu1, hu2, hu11, ⟨⟩⟩]
   replace hbs := hbs.mono le8
   replace ha1 := ha1.mono le8
   replace hc1 := hc1.mono le8
   show XL _ _ _ _ _ _ _ (slH 76 2 u3 1 [u1, u2] :: cellsH b2 [x1, x2] 39 :: slH 76 2 x2 rs1.length cs1 :: curH .i64 247 cb bsv bs.length :: cellsH b1 [sN, sN] 39 :: L)
   refine cX (jG (m := 1) (bytes := 48) (cs := cs1) [_, _] _ [u1, u2] jd typeInfo76 rfl rfl rfl rfl rfl rfl rfl (SlV.own [] rfl) rfl (Rd.lit [] rfl) (qn (qG (qz f5_1hp_a)) (qn (qG (qz f9_1hp_a)) qO)) (by (try simp only [List.length_append, List.length_nil, List.length_cons, List.length_singleton]); omega) (by (try simp only [List.length_append, List.length_nil, List.length_cons, List.length_singleton]); omega) ?_)
   intro v3 hs1 hn1 hm1
   have hc2 := PairsC.snoc hc1 f5_1hp_a f9_1hp_a
   refine cX (ql (1) qJ rfl jw (by decide) rfl rfl (cX (jv [_] _ [x1, v3] jw rfl rfl (qG hs1) rfl rfl rfl (qb (qc (qa (cX (qr [x1, v3] ja qP rfl rfl (Rd.ownN [_] rfl rfl) (cX (qL [_, _, _, _] _ [x1, v3] qP rfl rfl rfl (qn (qG (qz ha1)) (qn (qG hs1) qO)) rfl rfl rfl (qb (qQ [_, _] _ _ rfl (fun F9 le9 hz1 => ?_)))))))))))))
   replace hbs := hbs.mono le9
   replace ha1 := ha1.mono le9
   replace hc1 := hc1.mono le9
   replace hc2 := hc2.mono le9
   have hf1 : PairsF F9 v3 (rs1 ++ [(t5X1_a, t9X1_a)]) := CO.fz hc2 (by first | rfl | omega | (rw [List.length_set]; omega) | (simp; done)) hz1.fz
   refine qu (qq (L' := curH .i64 247 cb bsv bs.length :: L) [.agg #[x1, v3]] (.agg #[x1, v3]) (.cell rfl (ju [x1, v3] ja qP rfl (Rd.ownN [_, _, _] rfl rfl)) .nil) rfl (qh (qh le1 le8) le9) rF (sD (sD (sC (sD sR)))) ?_)
   exact ⟨⟨_, _, _, _, rfl, ha1, hf1, smallS.mk' (by omega) (by (try simp only [List.length_append, List.length_cons, List.length_nil]); omega) (smallR.snoc h_3 q5_1_a0 q9_1_a0)⟩, rfl⟩
  refine qc (qa (cX (js rfl rfl (qg (.bool (decide ((x4 : Int) = 1))) rfl (qb ?_)))))
  refine qA (p := (x4 : Int) = 1) rfl (fun h3 => ?_) (fun h3 => ?_)
  ·refine qa (qd (ptr cb 0) rfl (cX (qm (args := [ptr cb 0]) call210 rfl (jf [_, _] (l1DrawSigAny_spec hbs (by omega))) ?_)))
   rintro _ F10 _ le10 ⟨⟨x9, x10, rfl, hr6, hr7⟩, rfl⟩
   replace ha1 := ha1.mono le10
   replace hc1 := hc1.mono le10
   show XL _ _ _ _ _ _ _ (cellsH b2 [x1, x2] 39 :: slH 76 2 x2 rs1.length cs1 :: curH .i64 247 cb bsv bs.length :: cellsH b1 [sN, sN] 39 :: L)
   refine cX (ql (0) qJ rfl qF (by decide) rfl rfl (cX (qL [] _ [x9, x2] qF rfl rfl rfl (qn (qG (qz hr6)) qO) rfl rfl rfl (qb (qc (qa (cX (qr [x9, x2] ja qP rfl rfl (Rd.ownN [] rfl rfl) (cX (qL [_, _, _] _ [x9, x2] qP rfl rfl rfl (qn (qG (qz hr6)) (qn (qG hsl1) qO)) rfl rfl rfl (qb (qQ [_] _ _ rfl (fun F11 le11 hz2 => ?_)))))))))))))
   replace ha1 := ha1.mono le11
   replace hc1 := hc1.mono le11
   replace hr6 := hr6.mono le11
   have hf2 : PairsF F11 x2 rs1 := CO.fz hc1 (by first | rfl | omega | (rw [List.length_set]; omega) | (simp; done)) hz2.fz
   refine qu (qq (L' := curH .i64 247 cb bsv bs.length :: L) [.agg #[x9, x2]] (.agg #[x9, x2]) (.cell rfl (ju [x9, x2] ja qP rfl (Rd.ownN [_, _] rfl rfl)) .nil) rfl (qh (qh le1 le10) le11) rF (sD (sC (sD sR))) ?_)
   exact ⟨⟨_, _, _, _, rfl, hr6, hf2, smallS.mk' (by omega) (by (try simp only [List.length_append, List.length_cons, List.length_nil]); omega) h_3⟩, rfl⟩
  refine qc (qa (cX (js rfl rfl (qg (.bool (decide ((x4 : Int) = 2))) rfl (qb ?_)))))
  refine qA (p := (x4 : Int) = 2) rfl (fun h4 => ?_) (fun h4 => ?_)
  ·refine qK (jl (α := Value × List (List Int × List Int) × List Value × Nat × FH) (fun xQ => [(2, ptr b1 0), (3, ptr b2 0)]) (fun xQ => slH 76 2 xQ.1 xQ.2.2.2.1 xQ.2.2.1 :: cellsH b2 [x1, xQ.1] 39 :: curH .i64 247 cb bsv bs.length :: cellsH b1 [sN, sN] 39 :: L) (fun xQ F' => xQ.2.2.2.2 = F' ∧ F1 ≤ xQ.2.2.2.2 ∧ (IsSl xQ.1) ∧ (PairsC xQ.2.2.2.2 xQ.2.2.1 xQ.2.1) ∧ (xQ.2.2.2.1 = xQ.2.1.length) ∧ (xQ.2.1.length ≤ 13) ∧ (smallR xQ.2.1)) (fun xQ => 13 - xQ.2.2.2.1) (x2, rs1, cs1, rs1.length, F1) ⟨rfl, rfl, ⟨⟩⟩ (qR (qZ (A := [_, _, _])) (qR (qZ (A := [_, _, _])) (qR (qZ (A := [_, _])) (qR (qZ (A := [_, _, _])) (sC (sC (sC (sC sR)))))))) ⟨rfl, FLe.refl _, (hsl1), (hc1), (rfl), (by (try dsimp only); omega), (h_3)⟩ ?_)
   rintro ⟨ov, os, cs, m, G1⟩ rE _ _ ⟨rfl, leG, hov, hC, hm, hon, hos⟩
   show X _ _ _ _ (envs [(2, ptr b1 0), (3, ptr b2 0)] rE) _ (slH 76 2 ov m cs :: cellsH b2 [x1, ov] 39 :: curH .i64 247 cb bsv bs.length :: cellsH b1 [sN, sN] 39 :: L)
   replace leG : F1 ≤ G1 := leG
   dsimp only at hov hC hm hon hos
   have leG1 := leG
   replace ha1 := ha1.mono leG1
   replace hc1 := hc1.mono leG1
   refine qc (qc (qa (cX (ql (1) qJ rfl jw (by decide) rfl rfl (cX (qj yb rfl (Rd.own [_] rfl rfl) (cX (qE jd rfl (SlV.own [] rfl) (cX (qW rfl rfl (qb ?_)))))))))))
   refine qA (p := (m : Int) < 13) rfl (fun h5 => ?_) (fun h5 => ?_)
   ·refine qw (qK (qa (cX (ql (1) qJ rfl jw (by decide) rfl rfl (cX (qj yb rfl (Rd.own [_] rfl rfl) (cX (qo (s := 1) [ii (2)] [ii (0)] [(0, [ii (2)])] qf qB qS rfl (by decide) rfl (.cons rfl CellsAre.nil) rfl ?_))))))))
    intro v4 hv3
    refine cX (qo (s := 1) [ii (2)] [ii (0)] [(0, [ii (2)])] qf qB qS rfl (by decide) rfl (.cons rfl CellsAre.nil) rfl ?_)
    intro v5 hv4
    refine cX (jh [v4, v5] [sN, sN] [(0, 1), (1, 1)] [(0, [v4]), (1, [v5])] qV jr rfl (.cons rfl qs (.cons rfl qs PlacesAre.nil)) rfl (.cons (cells_one (qN hv3)) (.cons (cells_one (qN hv4)) CellsAre.nil)) (cX (qo (s := 2) [v4, v5] [sN, sN] [(0, [v4, v5])] jd jA jr rfl (by decide) rfl (.cons rfl CellsAre.nil) rfl ?_)))
    intro v6 hv5
    show XL _ _ _ _ _ _ _ (slH 76 2 v6 1 [v4, v5] :: slH 2 1 v5 1 [ii (2)] :: intsH 2 v4 ([2] : List Int) :: slH 76 2 ov m cs :: cellsH b2 [x1, ov] 39 :: curH .i64 247 cb bsv bs.length :: cellsH b1 [sN, sN] 39 :: L)
    refine jO [_, _] _ _ rfl (fun F12 le12 hz3 => ?_)
    replace ha1 := ha1.mono le12
    replace hc1 := hc1.mono le12
    replace hC := hC.mono le12
    have hf3 : IntsF F12 v4 ([2]) := intsH.fz (xs := [2]) hz3.fz
    show XL _ _ _ _ _ _ _ (slH 76 2 v6 1 [v4, v5] :: intsH 2 v5 ([2] : List Int) :: slH 76 2 ov m cs :: cellsH b2 [x1, ov] 39 :: curH .i64 247 cb bsv bs.length :: cellsH b1 [sN, sN] 39 :: L)
    refine jO [_] _ _ rfl (fun F13 le13 hz4 => ?_)
    replace ha1 := ha1.mono le13
    replace hc1 := hc1.mono le13
    replace hC := hC.mono le13
    replace hf3 := hf3.mono le13
    have hf4 : IntsF F13 v5 ([2]) := intsH.fz (xs := [2]) hz4.fz
    refine cX (jG (m := 1) (bytes := 48) (cs := cs) [_] _ [v4, v5] jd typeInfo76 rfl rfl rfl rfl rfl rfl rfl (SlV.own [] rfl) rfl (Rd.lit [] rfl) (qn (qG (qz hf3)) (qn (qG (qz hf4)) qO)) (by (try simp only [List.length_append, List.length_nil, List.length_cons, List.length_singleton]); omega) (by (try simp only [List.length_append, List.length_nil, List.length_cons, List.length_singleton]); omega) ?_)
    intro v7 hs2 hn2 hm2
    have hc3 := PairsC.snoc hC hf3 hf4
    refine cX (ql (1) qJ rfl jw (by decide) rfl rfl (cX (jv [_, _] _ [x1, v7] jw rfl rfl (qG hs2) rfl rfl rfl (qb ?_))))
    exact ⟨(v7, os ++ [([2], [2])], cs ++ [v4, v5], (m) + 1, F13), _, (qh (qh leG1 le12) le13), rF, ⟨rfl, rfl, ⟨⟩⟩, (sD (sC (sC (sC (sC sR))))), ⟨rfl, (qh (qh leG1 le12) le13), (hs2), (hc3), (by (try dsimp only); rw [List.length_append]; simp only [List.length_singleton]; omega), (by (try dsimp only); rw [List.length_append]; simp only [List.length_singleton]; omega), (smallR.snoc hos (by decide) (by decide))⟩, (by (try dsimp only); omega)⟩
   refine jk (qt (qt (qM (qc (qa (cX (qr [x1, ov] ja qP rfl rfl (Rd.ownN [_] rfl rfl) (cX (qL [_, _, _] _ [x1, ov] qP rfl rfl rfl (qn (qG (qz ha1)) (qn (qG hov) qO)) rfl rfl rfl (qb (qQ [] _ _ rfl (fun F14 le14 hz5 => ?_))))))))))))
   replace ha1 := ha1.mono le14
   replace hc1 := hc1.mono le14
   replace hC := hC.mono le14
   have hf5 : PairsF F14 ov os := CO.fz hC (by first | rfl | omega | (rw [List.length_set]; omega) | (simp; done)) hz5.fz
   refine qu (qq (L' := curH .i64 247 cb bsv bs.length :: L) [.agg #[x1, ov]] (.agg #[x1, ov]) (.cell rfl (ju [x1, ov] ja qP rfl (Rd.ownN [_, _] rfl rfl)) .nil) rfl (qh (qh le1 leG1) le14) rF (sD (sC (sD sR))) ?_)
   exact ⟨⟨_, _, _, _, rfl, ha1, hf5, smallS.mk' (by omega) (by (try simp only [List.length_append, List.length_cons, List.length_nil]); omega) hos⟩, rfl⟩
  refine qc (qa (cX (js rfl rfl (qg (.bool (decide ((x4 : Int) = 3))) rfl (qb ?_)))))
  refine qA (p := (x4 : Int) = 3) rfl (fun h6 => ?_) (fun h6 => ?_)
  ·refine qa (cX (ql (1) qJ rfl jw (by decide) rfl rfl (cX (qj yb rfl (Rd.own [] rfl rfl) (cX (qo (s := 1) [ii (-1)] [ii (0)] [(0, [ii (-1)])] qf qB qS rfl (by decide) rfl (.cons rfl CellsAre.nil) rfl ?_))))))
   intro v8 hv6
   refine cX (qo (s := 1) [ii (-1)] [ii (0)] [(0, [ii (-1)])] qf qB qS rfl (by decide) rfl (.cons rfl CellsAre.nil) rfl ?_)
   intro v9 hv7
   refine cX (jh [v8, v9] [sN, sN] [(0, 1), (1, 1)] [(0, [v8]), (1, [v9])] qV jr rfl (.cons rfl qs (.cons rfl qs PlacesAre.nil)) rfl (.cons (cells_one (qN hv6)) (.cons (cells_one (qN hv7)) CellsAre.nil)) (cX (qo (s := 2) [v8, v9] [sN, sN] [(0, [v8, v9])] jd jA jr rfl (by decide) rfl (.cons rfl CellsAre.nil) rfl ?_)))
   intro v10 hv8
   show XL _ _ _ _ _ _ _ (slH 76 2 v10 1 [v8, v9] :: slH 2 1 v9 1 [ii (-1)] :: intsH 2 v8 ([-1] : List Int) :: cellsH b2 [x1, x2] 39 :: slH 76 2 x2 rs1.length cs1 :: curH .i64 247 cb bsv bs.length :: cellsH b1 [sN, sN] 39 :: L)
   refine jO [_, _] _ _ rfl (fun F15 le15 hz6 => ?_)
   replace ha1 := ha1.mono le15
   replace hc1 := hc1.mono le15
   have hf6 : IntsF F15 v8 ([-1]) := intsH.fz (xs := [-1]) hz6.fz
   show XL _ _ _ _ _ _ _ (slH 76 2 v10 1 [v8, v9] :: intsH 2 v9 ([-1] : List Int) :: cellsH b2 [x1, x2] 39 :: slH 76 2 x2 rs1.length cs1 :: curH .i64 247 cb bsv bs.length :: cellsH b1 [sN, sN] 39 :: L)
   refine jO [_] _ _ rfl (fun F16 le16 hz7 => ?_)
   replace ha1 := ha1.mono le16
   replace hc1 := hc1.mono le16
   replace hf6 := hf6.mono le16
   have hf7 : IntsF F16 v9 ([-1]) := intsH.fz (xs := [-1]) hz7.fz
   refine cX (jG (m := 1) (bytes := 48) (cs := cs1) [_, _] _ [v8, v9] jd typeInfo76 rfl rfl rfl rfl rfl rfl rfl (SlV.own [] rfl) rfl (Rd.lit [] rfl) (qn (qG (qz hf6)) (qn (qG (qz hf7)) qO)) (by (try simp only [List.length_append, List.length_nil, List.length_cons, List.length_singleton]); omega) (by (try simp only [List.length_append, List.length_nil, List.length_cons, List.length_singleton]); omega) ?_)
   intro v11 hs3 hn3 hm3
   have hc4 := PairsC.snoc hc1 hf6 hf7
   refine cX (ql (1) qJ rfl jw (by decide) rfl rfl (cX (jv [_] _ [x1, v11] jw rfl rfl (qG hs3) rfl rfl rfl (qb (qc (qa (cX (qr [x1, v11] ja qP rfl rfl (Rd.ownN [_] rfl rfl) (cX (qL [_, _, _, _] _ [x1, v11] qP rfl rfl rfl (qn (qG (qz ha1)) (qn (qG hs3) qO)) rfl rfl rfl (qb (qQ [_, _] _ _ rfl (fun F17 le17 hz8 => ?_)))))))))))))
   replace ha1 := ha1.mono le17
   replace hc1 := hc1.mono le17
   replace hc4 := hc4.mono le17
   have hf8 : PairsF F17 v11 (rs1 ++ [([-1], [-1])]) := CO.fz hc4 (by first | rfl | omega | (rw [List.length_set]; omega) | (simp; done)) hz8.fz
   refine qu (qq (L' := curH .i64 247 cb bsv bs.length :: L) [.agg #[x1, v11]] (.agg #[x1, v11]) (.cell rfl (ju [x1, v11] ja qP rfl (Rd.ownN [_, _, _] rfl rfl)) .nil) rfl (qh (qh (qh le1 le15) le16) le17) rF (sD (sD (sC (sD sR)))) ?_)
   exact ⟨⟨_, _, _, _, rfl, ha1, hf8, smallS.mk' (by omega) (by (try simp only [List.length_append, List.length_cons, List.length_nil]); omega) (smallR.snoc h_3 (by decide) (by decide))⟩, rfl⟩
  refine qw (qc (qa (cX (qr [x1, x2] ja qP rfl rfl (Rd.ownN [] rfl rfl) (cX (qL [_, _, _] _ [x1, x2] qP rfl rfl rfl (qn (qG (qz ha1)) (qn (qG hsl1) qO)) rfl rfl rfl (qb (qQ [_] _ _ rfl (fun F18 le18 hz9 => ?_)))))))))
  replace ha1 := ha1.mono le18
  replace hc1 := hc1.mono le18
  have hf9 : PairsF F18 x2 rs1 := CO.fz hc1 (by first | rfl | omega | (rw [List.length_set]; omega) | (simp; done)) hz9.fz
  refine qu (qq (L' := curH .i64 247 cb bsv bs.length :: L) [.agg #[x1, x2]] (.agg #[x1, x2]) (.cell rfl (ju [x1, x2] ja qP rfl (Rd.ownN [_, _] rfl rfl)) .nil) rfl (qh le1 le18) rF (sD (sC (sD sR))) ?_)
  exact ⟨⟨_, _, _, _, rfl, ha1, hf9, smallS.mk' (by omega) (by (try simp only [List.length_append, List.length_cons, List.length_nil]); omega) h_3⟩, rfl⟩
 refine qw (qc (qa (cX (qr [x1, x2] ja qP rfl rfl (Rd.ownN [] rfl rfl) (cX (qL [_, _, _] _ [x1, x2] qP rfl rfl rfl (qn (qG (qz ha1)) (qn (qG hsl1) qO)) rfl rfl rfl (qb (qQ [_] _ _ rfl (fun F19 le19 hz10 => ?_)))))))))
 replace ha1 := ha1.mono le19
 replace hc1 := hc1.mono le19
 have hf10 : PairsF F19 x2 rs1 := CO.fz hc1 (by first | rfl | omega | (rw [List.length_set]; omega) | (simp; done)) hz10.fz
 refine qu (qq (L' := curH .i64 247 cb bsv bs.length :: L) [.agg #[x1, x2]] (.agg #[x1, x2]) (.cell rfl (ju [x1, x2] ja qP rfl (Rd.ownN [_, _] rfl rfl)) .nil) rfl (qh le1 le19) rF (sD (sC (sD sR))) ?_)
 exact ⟨⟨_, _, _, _, rfl, ha1, hf10, smallS.mk' (by omega) (by (try simp only [List.length_append, List.length_cons, List.length_nil]); omega) h_3⟩, rfl⟩
theorem l2FilledW_spec {F : FH} {L : List HP} {sv : Value} {s : List (List Int)} (hs : RowsF F sv s) {tv : Value} {t : List Int} (ht : IntsF F tv t) (hsl : s.length ≤ 4000000) (hsb : ∀ i, (s.getD i []).length ≤ 4000000) (htl : t.length ≤ 4000000) (htg : ∀ k, k < t.length → -4000000 ≤ t.getD k 0) :
    Does prog 154 [.agg #[sv], tv] F (L) (fun v F' L' => (∃ (a : Value) (b : Bool), (.tuple #[a, .bool b] : Value) = v ∧ (SomesF F' a (fun u => u.length ≤ 60))) ∧ L = L') :=
  (l2Filled_spec hs ht hsl hsb htl htg).mono (by rintro _ F' L' le ⟨a, rfl, h, rfl⟩; exact ⟨⟨a, _, rfl, ⟨_, h, fill_le60⟩⟩, rfl⟩)

/- spec.l7DrawTerm -/
set_option maxHeartbeats 1000000 in
set_option maxRecDepth 20000 in
theorem l7DrawTerm_spec {F : FH} {L : List HP} {cb : Nat} {bsv : Value} {bs : List Int} (hbs : BytesF F bsv bs) (hbl : bs.length ≤ 4000000) {arv : Value} {ar : List Int} (har : IntsF F arv ar) {rsv : Value} {rs : List (List Int × List Int)} (hrs : PairsF F rsv rs) (hsm : smallS ar rs) :
    Does prog 240 [ptr cb 0, .agg #[arv, rsv]] F (curH .i64 247 cb bsv bs.length :: L) (fun v F' L' => (∃ (a : Value), (a : Value) = v ∧ (SomesF F' a (fun u => u.length ≤ 2000))) ∧ curH .i64 247 cb bsv bs.length :: L = L') := by
 refine qI func240 rfl rfl rfl ?_
 have hla := hsm.la
 have hlr := hsm.lr
 have hrb := hsm.each
 refine qc (qa (cX (jc [arv, rsv] rfl rfl ?_)))
 intro b1
 refine qg (sN) rfl (qb (qc (qc (qa (cX (qr [arv, rsv] ja qP rfl rfl (Rd.ownN [] rfl rfl) (cX (qm (args := [.agg #[arv, rsv]]) call82 rfl (sSystemOk_spec har hrs (hla := (by first | assumption | rfl | omega | simp)) (hlr := (by first | assumption | rfl | omega | simp)) (hrb := (by first | assumption | rfl | omega | simp))) ?_))))))))
 rintro _ _ _ _ ⟨rfl, rfl, rfl⟩
 refine cX (jE rfl (qb ?_))
 refine jz (t := !(sysOk ar rs)) rfl (fun h1 => ?_) (fun h1 => ?_)
 ·refine qc (qa (qd (ptr cb 0) rfl (cX (ql (0) qJ rfl qF (by decide) rfl rfl (cX (qr [arv] qX qF rfl rfl (Rd.ownN [] rfl rfl) (cX (qm (args := [ptr cb 0, .agg #[arv]]) call251 rfl (jf [_] (l1DrawAny_spec hbs (by omega) har (hal := (by first | assumption | rfl | omega | simp)))) ?_))))))))
  rintro _ F1 _ le1 ⟨⟨x1, rfl, hr1⟩, rfl⟩
  obtain ⟨t1, hr1, q1⟩ := hr1
  replace hbs := hbs.mono le1
  replace har := har.mono le1
  replace hrs := hrs.mono le1
  show XL _ _ _ _ _ _ _ (cellsH b1 [arv, rsv] 39 :: curH .i64 247 cb bsv bs.length :: L)
  refine qg (x1) rfl (qb (qu (qk (qq (L' := curH .i64 247 cb bsv bs.length :: L) [x1] (x1) (.tmp rfl .nil) rfl le1 rF (sD (sC sR)) ?_))))
  exact ⟨⟨_, rfl, ⟨_, hr1, by omega⟩⟩, rfl⟩
 have hsys : sysOk ar rs = true := by simpa using h1
 have hsq := sysOk_iff.1 hsys
 have hso := hsq.1
 refine qw (qc (qc (qa (cX (ql (1) qJ rfl jw (by decide) rfl rfl (cX (qj yb rfl (Rd.own [] rfl rfl) (cX (qE jd rfl hrs.slv (cX (jI rfl rfl (qd (.bool (decide (((rs.length : Int) : Int) > 0))) rfl ?_))))))))))))
 by_cases h2 : ((rs.length : Int) : Int) > 0
 ·refine qy (t := 21) rfl (vT h2) (qp (ptr cb 0) rfl (qy (t := 21) rfl (vT h2) (qm (args := [ptr cb 0, ii (2)]) call102 rfl (jf [_] (l1Once_spec (n := 2) hbs (by omega) (hn := (by first | assumption | rfl | omega | simp)))) ?_)))
  rintro _ _ _ _ ⟨⟨rfl, x2, rfl⟩, rfl⟩
  show XL _ _ _ _ _ _ _ (cellsH b1 [arv, rsv] 39 :: curH .i64 247 cb bsv bs.length :: L)
  refine cX (jj (.bool (x2)) (vT h2) rfl (qb ?_))
  refine jz (t := x2) rfl (fun h3 => ?_) (fun h3 => ?_)
  ·refine qc ?_
   refine jW [cellsH b1 [arv, rsv] 39, curH .i64 247 cb bsv bs.length] L 19 [[], [], [], [], [], [], [], [], [], [], [], [10], [10], [10], [], [14], [14], [14], [14]] [[], [], [1], [0, 2], [], [4], [], [], [7], [8], [6, 9], [5, 10], [10, 11], [10, 12], [3, 10, 13], [14], [14, 15], [14, 15], [14, 16]] [] (phiG [pe (ptr cb 0), pe (ptr b1 0), pe (.agg #[arv]), fun FF us v => (.agg #[((aggAt v 0))] : Value) = v ∧ (SomeRowsF FF ((aggAt v 0)) (fun s => s.length ≤ 4 ∧ ∀ i, (s.getD i []).length ≤ 2000)), pe (ptr b1 1), pe rsv, pe (ptr cb 0), pe (ptr b1 1), pe rsv, pe (ii ((rs.length : Int)) : Value), fun FF us v => (ii (((intAt v))) : Value) = v ∧ (0 ≤ ((intAt v)) ∧ (((intAt v)) < ((rs.length : Int)) ∨ ((intAt v)) = 0)), fun FF us v => v = (.pointer (some (elemA rsv (((((intAt (us.getD 0 undef)))).toNat) * 2))) : Value), fun FF us v => v = (.pointer (some (elemA rsv (((((intAt (us.getD 0 undef)))).toNat) * 2))) : Value), fun FF us v => (v : Value) = v ∧ (IntsF FF v ((rs.getD ((((intAt (us.getD 0 undef)))).toNat) ([], [])).1)), fun FF us v => (.tuple #[((tupAt v 0)), .bool (((boolAt (tupAt v 1))))] : Value) = v ∧ (SomesF FF ((tupAt v 0)) (fun u => u.length ≤ 60)), fun FF us v => v = (.tuple #[((tupAt (us.getD 0 undef) 0)), .bool (((boolAt (tupAt (us.getD 0 undef) 1))))] : Value), fun FF us v => v = ((tupAt (us.getD 0 undef) 0)), fun FF us v => v = (.bool (((boolAt (tupAt (us.getD 0 undef) 1)))) : Value), fun FF us v => v = ((tupAt (us.getD 0 undef) 0))]) (ownL []) mixed rfl rfl (by kernel_rfl) (by kernel_rfl) (MonoG.get (m1 (m1 (m1 (mC (fun le h => ⟨h.1, h.2.mono le⟩) (m1 (m1 (m1 (m1 (m1 (m1 (mC (fun le h => ⟨h.1, h.2⟩) (mC (fun le h => h) (mC (fun le h => h) (mC (fun le h => ⟨h.1, h.2.mono le⟩) (mC (fun le h => ⟨h.1, h.2.mono le⟩) (mC (fun le h => h) (mC (fun le h => h) (mC (fun le h => h) (mC (fun le h => h) MonoG.nil)))))))))))))))))))) ?_ ?_
   ·refine gD (fun W Fs R lF z9 => ?_) ?_
    ·refine qi (qp (ptr cb 0) rfl ?_)
     exact ⟨rfl, rfl⟩
    refine gD (fun W Fs R lF z9 => ?_) ?_
    ·refine qi (ql (0) qJ rfl qF (by decide) rfl rfl ?_)
     exact ⟨rfl, rfl⟩
    refine gD (fun W Fs R lF z9 => ?_) ?_
    ·replace hbs := hbs.mono lF
     replace har := har.mono lF
     replace hrs := hrs.mono lF
     rw [eS (l := [(1, _)]) ⟨z9 1 rfl, ⟨⟩⟩]
     refine qi (qr [arv] qX qF rfl rfl (Rd.ownN [] rfl rfl) ?_)
     exact ⟨rfl, rfl⟩
    refine gD (fun W Fs R lF z9 => ?_) ?_
    ·replace hbs := hbs.mono lF
     replace har := har.mono lF
     replace hrs := hrs.mono lF
     rw [eS (l := [(0, _), (2, _)]) ⟨z9 0 rfl, z9 2 rfl, ⟨⟩⟩]
     refine qi (qm (args := [ptr cb 0, .agg #[arv]]) call314 rfl (jf [_] (l2Draw_spec hbs (by omega) har (hso := (by first | assumption | rfl | omega | simp)))) ?_)
     rintro _ F6 _ le6 ⟨⟨x7, rfl, hr7⟩, rfl⟩
     replace hbs := hbs.mono le6
     replace har := har.mono le6
     replace hrs := hrs.mono le6
     exact ⟨⟨rfl, hr7⟩, rfl⟩
    refine gD (fun W Fs R lF z9 => ?_) ?_
    ·refine qi (ql (1) qJ rfl jw (by decide) rfl rfl ?_)
     exact ⟨rfl, rfl⟩
    refine gD (fun W Fs R lF z9 => ?_) ?_
    ·replace hbs := hbs.mono lF
     replace har := har.mono lF
     replace hrs := hrs.mono lF
     rw [eS (l := [(4, _)]) ⟨z9 4 rfl, ⟨⟩⟩]
     refine qi (qj yb rfl (Rd.own [] rfl rfl) ?_)
     exact ⟨rfl, rfl⟩
    refine gD (fun W Fs R lF z9 => ?_) ?_
    ·refine qi (qp (ptr cb 0) rfl ?_)
     exact ⟨rfl, rfl⟩
    refine gD (fun W Fs R lF z9 => ?_) ?_
    ·refine qi (ql (1) qJ rfl jw (by decide) rfl rfl ?_)
     exact ⟨rfl, rfl⟩
    refine gD (fun W Fs R lF z9 => ?_) ?_
    ·replace hbs := hbs.mono lF
     replace har := har.mono lF
     replace hrs := hrs.mono lF
     rw [eS (l := [(7, _)]) ⟨z9 7 rfl, ⟨⟩⟩]
     refine qi (qj yb rfl (Rd.own [] rfl rfl) ?_)
     exact ⟨rfl, rfl⟩
    refine gD (fun W Fs R lF z9 => ?_) ?_
    ·replace hbs := hbs.mono lF
     replace har := har.mono lF
     replace hrs := hrs.mono lF
     rw [eS (l := [(8, _)]) ⟨z9 8 rfl, ⟨⟩⟩]
     refine qi (qE jd rfl hrs.slv ?_)
     exact ⟨rfl, rfl⟩
    refine gD (fun W Fs R lF z9 => ?_) ?_
    ·replace hbs := hbs.mono lF
     replace har := har.mono lF
     replace hrs := hrs.mono lF
     rw [eS (l := [(6, _), (9, _)]) ⟨z9 6 rfl, z9 9 rfl, ⟨⟩⟩]
     refine qi (qm (args := [ptr cb 0, ii ((rs.length : Int))]) jL rfl (jf [_] (l1Below_spec (n := (rs.length : Int)) hbs (by omega) (hn := (by first | assumption | rfl | omega | simp)))) ?_)
     rintro _ _ _ _ ⟨⟨rfl, x8, rfl, hr8⟩, rfl⟩
     exact ⟨⟨rfl, hr8⟩, rfl⟩
    refine gD (fun W Fs R lF z9 => ?_) ?_
    ·obtain ⟨e10, f10_1hx⟩ := z9 10 rfl
     replace hbs := hbs.mono lF
     replace har := har.mono lF
     replace hrs := hrs.mono lF
     rw [eS (l := [(5, _), (10, (ii (((intAt (W 10))))))]) ⟨z9 5 rfl, (e10).symm, ⟨⟩⟩]
     refine qi (qD ((((intAt (W 10)))).toNat) jd jA rfl rfl (by omega) hrs.slv (by omega) rfl ?_)
     exact ⟨rfl, rfl⟩
    refine gD (fun W Fs R lF z9 => ?_) ?_
    ·obtain ⟨e10, f10_1hx⟩ := z9 10 rfl
     have e11 : W 11 = (.pointer (some (elemA rsv (((((intAt (W 10)))).toNat) * 2))) : Value) := z9 11 rfl
     rw [eS (l := [(10, (ii (((intAt (W 10)))))), (11, (.pointer (some (elemA rsv (((((intAt (W 10)))).toNat) * 2)))))]) ⟨(e10).symm, e11, ⟨⟩⟩]
     refine qi (XOp.fieldE (((((intAt (W 10)))).toNat) * 2) qV rfl qs (by decide) rfl rfl ?_)
     exact ⟨rfl, rfl⟩
    refine gD (fun W Fs R lF z9 => ?_) ?_
    ·obtain ⟨e10, f10_1hx⟩ := z9 10 rfl
     have e12 : W 12 = (.pointer (some (elemA rsv (((((intAt (W 10)))).toNat) * 2))) : Value) := z9 12 rfl
     replace hbs := hbs.mono lF
     replace har := har.mono lF
     replace hrs := hrs.mono lF
     rw [eS (l := [(10, (ii (((intAt (W 10)))))), (12, (.pointer (some (elemA rsv (((((intAt (W 10)))).toNat) * 2)))))]) ⟨(e10).symm, e12, ⟨⟩⟩]
     obtain ⟨a3, a4, ha3, ha4, hr9, hr10⟩ := hrs.rd (i := (((intAt (W 10)))).toNat) (by omega)
     refine qi (qj qU rfl (hr9 _) ?_)
     exact ⟨⟨rfl, ha3⟩, rfl⟩
    refine gD (fun W Fs R lF z9 => ?_) ?_
    ·obtain ⟨e3, f3_1hp_a⟩ := z9 3 rfl
     obtain ⟨t3X1_a, f3_1hp_a, q3_1_a0, q3_1_a1⟩ := f3_1hp_a
     obtain ⟨e10, f10_1hx⟩ := z9 10 rfl
     obtain ⟨e13, f13_1ld⟩ : ((W 13) : Value) = (W 13) ∧ (IntsF Fs (W 13) ((rs.getD ((((intAt (W 10)))).toNat) ([], [])).1)) := z9 13 rfl
     replace hbs := hbs.mono lF
     replace har := har.mono lF
     rw [eS (l := [(3, (.agg #[((aggAt (W 3) 0))])), (10, (ii (((intAt (W 10)))))), (13, (W 13))]) ⟨(e3).symm, (e10).symm, (e13).symm, ⟨⟩⟩]
     refine qi (qm (args := [.agg #[((aggAt (W 3) 0))], (W 13)]) call154 rfl (l2FilledW_spec f3_1hp_a f13_1ld (hsl := (by first | assumption | rfl | omega | simp)) (hsb := (fun i => Nat.le_trans (by first | exact q3_1_a1 i | exact q3_2_a1 i) (show 2000 ≤ 4000000 by omega))) (htl := ((hrb _ (by omega)).1)) (htg := (fun k hk => Int.le_trans (show (-4000000 : Int) ≤ -24 by omega) (termOk_ge (ruleOk_iff.1 (hsq.2.2 _ (by omega))).left hk)))) ?_)
     rintro _ F8 _ le8 ⟨⟨x9, x10, rfl, hr11⟩, rfl⟩
     replace hbs := hbs.mono le8
     replace har := har.mono le8
     replace f3_1hp_a := f3_1hp_a.mono le8
     replace f13_1ld := f13_1ld.mono le8
     exact ⟨⟨rfl, hr11⟩, rfl⟩
    refine gD (fun W Fs R lF z9 => ?_) ?_
    ·obtain ⟨e14, f14_1hp_a⟩ := z9 14 rfl
     obtain ⟨t14X1_a, f14_1hp_a, q14_1_a0⟩ := f14_1hp_a
     rw [eS (l := [(14, (.tuple #[((tupAt (W 14) 0)), .bool (((boolAt (tupAt (W 14) 1))))]))]) ⟨(e14).symm, ⟨⟩⟩]
     refine qi (qp (.tuple #[((tupAt (W 14) 0)), .bool (((boolAt (tupAt (W 14) 1))))]) rfl ?_)
     exact ⟨rfl, rfl⟩
    refine gD (fun W Fs R lF z9 => ?_) ?_
    ·obtain ⟨e14, f14_1hp_a⟩ := z9 14 rfl
     obtain ⟨t14X1_a, f14_1hp_a, q14_1_a0⟩ := f14_1hp_a
     have e15 : W 15 = (.tuple #[((tupAt (W 14) 0)), .bool (((boolAt (tupAt (W 14) 1))))] : Value) := z9 15 rfl
     rw [eS (l := [(14, (.tuple #[((tupAt (W 14) 0)), .bool (((boolAt (tupAt (W 14) 1))))])), (15, (.tuple #[((tupAt (W 14) 0)), .bool (((boolAt (tupAt (W 14) 1))))]))]) ⟨(e14).symm, e15, ⟨⟩⟩]
     refine qi (je (((tupAt (W 14) 0))) rfl rfl ?_)
     exact ⟨rfl, rfl⟩
    refine gD (fun W Fs R lF z9 => ?_) ?_
    ·obtain ⟨e14, f14_1hp_a⟩ := z9 14 rfl
     obtain ⟨t14X1_a, f14_1hp_a, q14_1_a0⟩ := f14_1hp_a
     have e15 : W 15 = (.tuple #[((tupAt (W 14) 0)), .bool (((boolAt (tupAt (W 14) 1))))] : Value) := z9 15 rfl
     rw [eS (l := [(14, (.tuple #[((tupAt (W 14) 0)), .bool (((boolAt (tupAt (W 14) 1))))])), (15, (.tuple #[((tupAt (W 14) 0)), .bool (((boolAt (tupAt (W 14) 1))))]))]) ⟨(e14).symm, e15, ⟨⟩⟩]
     refine qi (je (.bool (((boolAt (tupAt (W 14) 1))))) rfl rfl ?_)
     exact ⟨rfl, rfl⟩
    refine gD (fun W Fs R lF z9 => ?_) ?_
    ·obtain ⟨e14, f14_1hp_a⟩ := z9 14 rfl
     obtain ⟨t14X1_a, f14_1hp_a, q14_1_a0⟩ := f14_1hp_a
     have e16 : W 16 = ((tupAt (W 14) 0)) := z9 16 rfl
     rw [eS (l := [(14, (.tuple #[((tupAt (W 14) 0)), .bool (((boolAt (tupAt (W 14) 1))))])), (16, ((tupAt (W 14) 0)))]) ⟨(e14).symm, e16, ⟨⟩⟩]
     refine qi (XOp.assign (((tupAt (W 14) 0))) rfl ?_)
     exact ⟨rfl, rfl⟩
    exact stepsG.nil
   intro W F9 le9 hphi
   obtain ⟨e3, f3_1hp_a⟩ := hphi 3 (by decide)
   obtain ⟨t3X1_a, f3_1hp_a, q3_1_a0, q3_1_a1⟩ := f3_1hp_a
   obtain ⟨e10, f10_1hx⟩ := hphi 10 (by decide)
   have e11 : W 11 = (.pointer (some (elemA rsv (((((intAt (W 10)))).toNat) * 2))) : Value) := hphi 11 (by decide)
   have e12 : W 12 = (.pointer (some (elemA rsv (((((intAt (W 10)))).toNat) * 2))) : Value) := hphi 12 (by decide)
   obtain ⟨e13, f13_1ld⟩ : ((W 13) : Value) = (W 13) ∧ (IntsF F9 (W 13) ((rs.getD ((((intAt (W 10)))).toNat) ([], [])).1)) := hphi 13 (by decide)
   obtain ⟨e14, f14_1hp_a⟩ := hphi 14 (by decide)
   obtain ⟨t14X1_a, f14_1hp_a, q14_1_a0⟩ := f14_1hp_a
   have e15 : W 15 = (.tuple #[((tupAt (W 14) 0)), .bool (((boolAt (tupAt (W 14) 1))))] : Value) := hphi 15 (by decide)
   have e16 : W 16 = ((tupAt (W 14) 0)) := hphi 16 (by decide)
   have e17 : W 17 = (.bool (((boolAt (tupAt (W 14) 1)))) : Value) := hphi 17 (by decide)
   have e18 : W 18 = ((tupAt (W 14) 0)) := hphi 18 (by decide)
   generalize hu1 : ((aggAt (W 3) 0)) = u1 at e3 f3_1hp_a e10 f10_1hx e11 e12 e13 f13_1ld e14 f14_1hp_a e15 e16 e17 e18
   generalize hu2 : (intAt (W 10)) = u2 at e3 f3_1hp_a e10 f10_1hx e11 e12 e13 f13_1ld e14 f14_1hp_a e15 e16 e17 e18
   generalize hu3 : (W 13) = u3 at e3 f3_1hp_a e10 f10_1hx e11 e12 e13 f13_1ld e14 f14_1hp_a e15 e16 e17 e18
   generalize hu4 : ((tupAt (W 14) 0)) = u4 at e3 f3_1hp_a e10 f10_1hx e11 e12 e13 f13_1ld e14 f14_1hp_a e15 e16 e17 e18
   generalize hu5 : (boolAt (tupAt (W 14) 1)) = u5 at e3 f3_1hp_a e10 f10_1hx e11 e12 e13 f13_1ld e14 f14_1hp_a e15 e16 e17 e18
   rw [eS (l := [(10, (ii ((u2)))), (14, (.tuple #[u4, .bool ((u5))])), (17, (.bool ((u5)))), (18, u4)]) ⟨(e10).symm, (e14).symm, e17, e18, ⟨⟩⟩]
   replace hbs := hbs.mono le9
   replace har := har.mono le9
   show XL _ _ _ _ _ _ _ (cellsH b1 [arv, rsv] 39 :: curH .i64 247 cb bsv bs.length :: L)
   refine qg (.bool ((u5))) rfl (qb (qc (qa (qd (.bool ((u5))) rfl (qb ?_)))))
   refine jz (t := (u5)) rfl (fun h4 => ?_) (fun h4 => ?_)
   ·refine qc (qc (qa (qd (ptr cb 0) rfl (cX (qm (args := [ptr cb 0, ii (2)]) call102 rfl (jf [_] (l1Once_spec (n := 2) hbs (by omega) (hn := (by first | assumption | rfl | omega | simp)))) ?_)))))
    rintro _ _ _ _ ⟨⟨rfl, x11, rfl⟩, rfl⟩
    show XL _ _ _ _ _ _ _ (cellsH b1 [arv, rsv] 39 :: curH .i64 247 cb bsv bs.length :: L)
    refine qb ?_
    refine jz (t := x11) rfl (fun h5 => ?_) (fun h5 => ?_)
    ·refine qc (qa (qd (u4) rfl (qg (u4) rfl (qb (qu (qk (qk (qq (L' := curH .i64 247 cb bsv bs.length :: L) [u4] (u4) (.tmp rfl .nil) rfl le9 rF (sD (sC sR)) ?_))))))))
     exact ⟨⟨_, rfl, ⟨_, f14_1hp_a, by omega⟩⟩, rfl⟩
    refine qw (qc (qa (qd (ptr cb 0) rfl (cX (ql (0) qJ rfl qF (by decide) rfl rfl (cX (qr [arv] qX qF rfl rfl (Rd.ownN [] rfl rfl) (cX (qm (args := [ptr cb 0, .agg #[arv], ii ((3 : Nat) : Int), ii (2)]) call252 rfl (Does.atO [_] (l1DrawTerm_spec 3 (vs := 2) hbs (by omega) har (hso := (by first | assumption | rfl | omega | simp)) (hdp := (by first | assumption | rfl | omega | simp)) (hvs := (by first | assumption | rfl | omega | simp)))) ?_)))))))))
    rintro _ F11 _ le11 ⟨x13, ⟨rfl, hsl1⟩, rfl⟩
    replace hbs := hbs.mono le11
    replace har := har.mono le11
    replace f14_1hp_a := f14_1hp_a.mono le11
    show XL _ _ _ _ _ _ _ (drawnH 2 x13 (fun t => goodT ar t ∧ 1 ≤ t.length ∧ t.length ≤ szT 3) :: cellsH b1 [arv, rsv] 39 :: curH .i64 247 cb bsv bs.length :: L)
    refine XL.undraw [] rfl (fun t2 hq9 => ?_)
    obtain ⟨q2, q3, q4⟩ := hq9
    show XL _ _ _ _ _ _ _ (intsH 2 x13 t2 :: cellsH b1 [arv, rsv] 39 :: curH .i64 247 cb bsv bs.length :: L)
    refine qg (x13) rfl (jO [] _ _ rfl (fun F12 le12 hz1 => ?_))
    replace hbs := hbs.mono le12
    replace har := har.mono le12
    replace f14_1hp_a := f14_1hp_a.mono le12
    have hf1 : IntsF F12 x13 t2 := intsH.fz (xs := t2) hz1.fz
    have hz8 : szT 3 = 40 := rfl
    have hou : termOk ar t2 = true := goodT.ok hso (by omega) q2
    refine qb (qc ?_)
    refine jW [cellsH b1 [arv, rsv] 39, curH .i64 247 cb bsv bs.length] L 13 [[], [], [], [], [], [], [], [], [6], [6, 8], [8], [6], [8]] [[], [0], [], [], [], [4], [3, 5], [], [1, 2, 6, 7], [6, 8], [6, 8, 9], [6, 8, 9], [6, 8, 10]] [] (phiG [pe (ptr b1 0), pe (.agg #[arv]), pe x13, pe (ptr cb 0), pe x13, pe (ii ((t2.length : Int)) : Value), fun FF us v => (ii (((intAt v))) : Value) = v ∧ (0 ≤ ((intAt v)) ∧ (((intAt v)) < ((t2.length : Int)) ∨ ((intAt v)) = 0)), pe u4, fun FF us v => (.tuple #[((tupAt v 0)), .bool ((putL ar t2 ((((intAt (us.getD 0 undef)))).toNat) t14X1_a).isSome)] : Value) = v ∧ (IntsF FF ((tupAt v 0)) ((putL ar t2 ((((intAt (us.getD 0 undef)))).toNat) t14X1_a).getD [])), fun FF us v => v = (.tuple #[((tupAt (us.getD 1 undef) 0)), .bool ((putL ar t2 ((((intAt (us.getD 0 undef)))).toNat) t14X1_a).isSome)] : Value), fun FF us v => v = ((tupAt (us.getD 0 undef) 0)), fun FF us v => v = (.bool ((putL ar t2 ((((intAt (us.getD 0 undef)))).toNat) t14X1_a).isSome) : Value), fun FF us v => v = ((tupAt (us.getD 0 undef) 0))]) (ownL []) mixed rfl rfl (by kernel_rfl) (by kernel_rfl) (MonoG.get (m1 (m1 (m1 (m1 (m1 (m1 (mC (fun le h => ⟨h.1, h.2⟩) (m1 (mC (fun le h => ⟨h.1, h.2.mono le⟩) (mC (fun le h => h) (mC (fun le h => h) (mC (fun le h => h) (mC (fun le h => h) MonoG.nil)))))))))))))) ?_ ?_
    ·refine gD (fun W Fs R lF z9 => ?_) ?_
     ·refine qi (ql (0) qJ rfl qF (by decide) rfl rfl ?_)
      exact ⟨rfl, rfl⟩
     refine gD (fun W Fs R lF z9 => ?_) ?_
     ·replace hbs := hbs.mono lF
      replace har := har.mono lF
      replace f14_1hp_a := f14_1hp_a.mono lF
      replace hf1 := hf1.mono lF
      rw [eS (l := [(0, _)]) ⟨z9 0 rfl, ⟨⟩⟩]
      refine qi (qr [arv] qX qF rfl rfl (Rd.ownN [] rfl rfl) ?_)
      exact ⟨rfl, rfl⟩
     refine gD (fun W Fs R lF z9 => ?_) ?_
     ·refine qi (qp (x13) rfl ?_)
      exact ⟨rfl, rfl⟩
     refine gD (fun W Fs R lF z9 => ?_) ?_
     ·refine qi (qp (ptr cb 0) rfl ?_)
      exact ⟨rfl, rfl⟩
     refine gD (fun W Fs R lF z9 => ?_) ?_
     ·refine qi (qp (x13) rfl ?_)
      exact ⟨rfl, rfl⟩
     refine gD (fun W Fs R lF z9 => ?_) ?_
     ·replace hbs := hbs.mono lF
      replace har := har.mono lF
      replace f14_1hp_a := f14_1hp_a.mono lF
      replace hf1 := hf1.mono lF
      rw [eS (l := [(4, _)]) ⟨z9 4 rfl, ⟨⟩⟩]
      refine qi (qE qf rfl hf1.slv ?_)
      exact ⟨rfl, rfl⟩
     refine gD (fun W Fs R lF z9 => ?_) ?_
     ·replace hbs := hbs.mono lF
      replace har := har.mono lF
      replace f14_1hp_a := f14_1hp_a.mono lF
      replace hf1 := hf1.mono lF
      rw [eS (l := [(3, _), (5, _)]) ⟨z9 3 rfl, z9 5 rfl, ⟨⟩⟩]
      refine qi (qm (args := [ptr cb 0, ii ((t2.length : Int))]) jL rfl (jf [_] (l1Below_spec (n := (t2.length : Int)) hbs (by omega) (hn := (by first | assumption | rfl | omega | simp)))) ?_)
      rintro _ _ _ _ ⟨⟨rfl, x16, rfl, hr14⟩, rfl⟩
      exact ⟨⟨rfl, hr14⟩, rfl⟩
     refine gD (fun W Fs R lF z9 => ?_) ?_
     ·refine qi (qp (u4) rfl ?_)
      exact ⟨rfl, rfl⟩
     refine gD (fun W Fs R lF z9 => ?_) ?_
     ·obtain ⟨e6, f6_2hx⟩ := z9 6 rfl
      replace hbs := hbs.mono lF
      replace har := har.mono lF
      replace f14_1hp_a := f14_1hp_a.mono lF
      replace hf1 := hf1.mono lF
      rw [eS (l := [(1, _), (2, _), (6, (ii (((intAt (W 6)))))), (7, _)]) ⟨z9 1 rfl, z9 2 rfl, (e6).symm, z9 7 rfl, ⟨⟩⟩]
      refine qi (qm (args := [.agg #[arv], x13, ii (((((intAt (W 6)))).toNat : Nat) : Int), u4]) call155 (by rw [show (((((intAt (W 6)))).toNat : Nat) : Int) = ((intAt (W 6))) from by omega]; rfl) (l3Put_spec (p := (((intAt (W 6)))).toNat) har hf1 f14_1hp_a (ho := (hou)) (hp := (by first | assumption | rfl | omega | simp)) (hul := (by first | assumption | rfl | omega | simp))) ?_)
      rintro _ F16 _ le16 ⟨x17, rfl, hr15, rfl⟩
      replace hbs := hbs.mono le16
      replace har := har.mono le16
      exact ⟨⟨rfl, hr15⟩, rfl⟩
     refine gD (fun W Fs R lF z9 => ?_) ?_
     ·obtain ⟨e6, f6_2hx⟩ := z9 6 rfl
      obtain ⟨e8, f8_2hr⟩ : (.tuple #[((tupAt (W 8) 0)), .bool ((putL ar t2 ((((intAt (W 6)))).toNat) t14X1_a).isSome)] : Value) = (W 8) ∧ (IntsF Fs ((tupAt (W 8) 0)) ((putL ar t2 ((((intAt (W 6)))).toNat) t14X1_a).getD [])) := z9 8 rfl
      rw [eS (l := [(6, (ii (((intAt (W 6)))))), (8, (.tuple #[((tupAt (W 8) 0)), .bool ((putL ar t2 ((((intAt (W 6)))).toNat) t14X1_a).isSome)]))]) ⟨(e6).symm, (e8).symm, ⟨⟩⟩]
      refine qi (qp (.tuple #[((tupAt (W 8) 0)), .bool ((putL ar t2 ((((intAt (W 6)))).toNat) t14X1_a).isSome)]) rfl ?_)
      exact ⟨rfl, rfl⟩
     refine gD (fun W Fs R lF z9 => ?_) ?_
     ·obtain ⟨e6, f6_2hx⟩ := z9 6 rfl
      obtain ⟨e8, f8_2hr⟩ : (.tuple #[((tupAt (W 8) 0)), .bool ((putL ar t2 ((((intAt (W 6)))).toNat) t14X1_a).isSome)] : Value) = (W 8) ∧ (IntsF Fs ((tupAt (W 8) 0)) ((putL ar t2 ((((intAt (W 6)))).toNat) t14X1_a).getD [])) := z9 8 rfl
      have e9 : W 9 = (.tuple #[((tupAt (W 8) 0)), .bool ((putL ar t2 ((((intAt (W 6)))).toNat) t14X1_a).isSome)] : Value) := z9 9 rfl
      rw [eS (l := [(6, (ii (((intAt (W 6)))))), (8, (.tuple #[((tupAt (W 8) 0)), .bool ((putL ar t2 ((((intAt (W 6)))).toNat) t14X1_a).isSome)])), (9, (.tuple #[((tupAt (W 8) 0)), .bool ((putL ar t2 ((((intAt (W 6)))).toNat) t14X1_a).isSome)]))]) ⟨(e6).symm, (e8).symm, e9, ⟨⟩⟩]
      refine qi (je (((tupAt (W 8) 0))) rfl rfl ?_)
      exact ⟨rfl, rfl⟩
     refine gD (fun W Fs R lF z9 => ?_) ?_
     ·obtain ⟨e6, f6_2hx⟩ := z9 6 rfl
      obtain ⟨e8, f8_2hr⟩ : (.tuple #[((tupAt (W 8) 0)), .bool ((putL ar t2 ((((intAt (W 6)))).toNat) t14X1_a).isSome)] : Value) = (W 8) ∧ (IntsF Fs ((tupAt (W 8) 0)) ((putL ar t2 ((((intAt (W 6)))).toNat) t14X1_a).getD [])) := z9 8 rfl
      have e9 : W 9 = (.tuple #[((tupAt (W 8) 0)), .bool ((putL ar t2 ((((intAt (W 6)))).toNat) t14X1_a).isSome)] : Value) := z9 9 rfl
      rw [eS (l := [(6, (ii (((intAt (W 6)))))), (8, (.tuple #[((tupAt (W 8) 0)), .bool ((putL ar t2 ((((intAt (W 6)))).toNat) t14X1_a).isSome)])), (9, (.tuple #[((tupAt (W 8) 0)), .bool ((putL ar t2 ((((intAt (W 6)))).toNat) t14X1_a).isSome)]))]) ⟨(e6).symm, (e8).symm, e9, ⟨⟩⟩]
      refine qi (je (.bool ((putL ar t2 ((((intAt (W 6)))).toNat) t14X1_a).isSome)) rfl rfl ?_)
      exact ⟨rfl, rfl⟩
     refine gD (fun W Fs R lF z9 => ?_) ?_
     ·obtain ⟨e6, f6_2hx⟩ := z9 6 rfl
      obtain ⟨e8, f8_2hr⟩ : (.tuple #[((tupAt (W 8) 0)), .bool ((putL ar t2 ((((intAt (W 6)))).toNat) t14X1_a).isSome)] : Value) = (W 8) ∧ (IntsF Fs ((tupAt (W 8) 0)) ((putL ar t2 ((((intAt (W 6)))).toNat) t14X1_a).getD [])) := z9 8 rfl
      have e10 : W 10 = ((tupAt (W 8) 0)) := z9 10 rfl
      rw [eS (l := [(6, (ii (((intAt (W 6)))))), (8, (.tuple #[((tupAt (W 8) 0)), .bool ((putL ar t2 ((((intAt (W 6)))).toNat) t14X1_a).isSome)])), (10, ((tupAt (W 8) 0)))]) ⟨(e6).symm, (e8).symm, e10, ⟨⟩⟩]
      refine qi (XOp.assign (((tupAt (W 8) 0))) rfl ?_)
      exact ⟨rfl, rfl⟩
     exact stepsG.nil
    intro W F17 le17 hphi
    obtain ⟨e6, f6_2hx⟩ := hphi 6 (by decide)
    obtain ⟨e8, f8_2hr⟩ : (.tuple #[((tupAt (W 8) 0)), .bool ((putL ar t2 ((((intAt (W 6)))).toNat) t14X1_a).isSome)] : Value) = (W 8) ∧ (IntsF F17 ((tupAt (W 8) 0)) ((putL ar t2 ((((intAt (W 6)))).toNat) t14X1_a).getD [])) := hphi 8 (by decide)
    have e9 : W 9 = (.tuple #[((tupAt (W 8) 0)), .bool ((putL ar t2 ((((intAt (W 6)))).toNat) t14X1_a).isSome)] : Value) := hphi 9 (by decide)
    have e10 : W 10 = ((tupAt (W 8) 0)) := hphi 10 (by decide)
    have e11 : W 11 = (.bool ((putL ar t2 ((((intAt (W 6)))).toNat) t14X1_a).isSome) : Value) := hphi 11 (by decide)
    have e12 : W 12 = ((tupAt (W 8) 0)) := hphi 12 (by decide)
    generalize hu6 : (intAt (W 6)) = u6 at e6 f6_2hx e8 f8_2hr e9 e10 e11 e12
    generalize hu7 : ((tupAt (W 8) 0)) = u7 at e6 f6_2hx e8 f8_2hr e9 e10 e11 e12
    rw [eS (l := [(6, (ii ((u6)))), (8, (.tuple #[u7, .bool ((putL ar t2 (((u6)).toNat) t14X1_a).isSome)])), (11, (.bool ((putL ar t2 (((u6)).toNat) t14X1_a).isSome))), (12, u7)]) ⟨(e6).symm, (e8).symm, e11, e12, ⟨⟩⟩]
    replace hbs := hbs.mono le17
    replace har := har.mono le17
    show XL _ _ _ _ _ _ _ (cellsH b1 [arv, rsv] 39 :: curH .i64 247 cb bsv bs.length :: L)
    refine qg (.bool ((putL ar t2 (((u6)).toNat) t14X1_a).isSome)) rfl (qb (qc (qa (qd (.bool ((putL ar t2 (((u6)).toNat) t14X1_a).isSome)) rfl (qb ?_)))))
    refine jz (t := (putL ar t2 (((u6)).toNat) t14X1_a).isSome) rfl (fun h6 => ?_) (fun h6 => ?_)
    ·refine qc (qa (qd (u7) rfl (qg (u7) rfl (qb (qu (qk (qq (L' := curH .i64 247 cb bsv bs.length :: L) [u7] (u7) (.tmp rfl .nil) rfl (qh (qh (qh le9 le11) le12) le17) rF (sD (sC sR)) ?_)))))))
     exact ⟨⟨_, rfl, ⟨_, f8_2hr, Nat.le_trans put_le60 (by omega)⟩⟩, rfl⟩
    refine qw (qc (qa (qd (ptr cb 0) rfl (cX (ql (0) qJ rfl qF (by decide) rfl rfl (cX (qr [arv] qX qF rfl rfl (Rd.ownN [] rfl rfl) (cX (qm (args := [ptr cb 0, .agg #[arv]]) call251 rfl (jf [_] (l1DrawAny_spec hbs (by omega) har (hal := (by first | assumption | rfl | omega | simp)))) ?_)))))))))
    rintro _ F18 _ le18 ⟨⟨x18, rfl, hr16⟩, rfl⟩
    obtain ⟨t3, hr16, q5⟩ := hr16
    replace hbs := hbs.mono le18
    replace har := har.mono le18
    show XL _ _ _ _ _ _ _ (cellsH b1 [arv, rsv] 39 :: curH .i64 247 cb bsv bs.length :: L)
    refine qg (x18) rfl (qb (qu (qq (L' := curH .i64 247 cb bsv bs.length :: L) [x18] (x18) (.tmp rfl .nil) rfl (qh (qh (qh (qh le9 le11) le12) le17) le18) rF (sD (sC sR)) ?_)))
    exact ⟨⟨_, rfl, ⟨_, hr16, by omega⟩⟩, rfl⟩
   refine qw (qc (qa (qd (ptr cb 0) rfl (cX (ql (0) qJ rfl qF (by decide) rfl rfl (cX (qr [arv] qX qF rfl rfl (Rd.ownN [] rfl rfl) (cX (qm (args := [ptr cb 0, .agg #[arv]]) call251 rfl (jf [_] (l1DrawAny_spec hbs (by omega) har (hal := (by first | assumption | rfl | omega | simp)))) ?_)))))))))
   rintro _ F19 _ le19 ⟨⟨x19, rfl, hr17⟩, rfl⟩
   obtain ⟨t4, hr17, q6⟩ := hr17
   replace hbs := hbs.mono le19
   replace har := har.mono le19
   show XL _ _ _ _ _ _ _ (cellsH b1 [arv, rsv] 39 :: curH .i64 247 cb bsv bs.length :: L)
   refine qg (x19) rfl (qb (qu (qq (L' := curH .i64 247 cb bsv bs.length :: L) [x19] (x19) (.tmp rfl .nil) rfl (qh le9 le19) rF (sD (sC sR)) ?_)))
   exact ⟨⟨_, rfl, ⟨_, hr17, by omega⟩⟩, rfl⟩
  refine qw (qc (qa (qd (ptr cb 0) rfl (cX (ql (0) qJ rfl qF (by decide) rfl rfl (cX (qr [arv] qX qF rfl rfl (Rd.ownN [] rfl rfl) (cX (qm (args := [ptr cb 0, .agg #[arv]]) call251 rfl (jf [_] (l1DrawAny_spec hbs (by omega) har (hal := (by first | assumption | rfl | omega | simp)))) ?_)))))))))
  rintro _ F20 _ le20 ⟨⟨x20, rfl, hr18⟩, rfl⟩
  obtain ⟨t5, hr18, q7⟩ := hr18
  replace hbs := hbs.mono le20
  replace har := har.mono le20
  show XL _ _ _ _ _ _ _ (cellsH b1 [arv, rsv] 39 :: curH .i64 247 cb bsv bs.length :: L)
  refine qg (x20) rfl (qb (qu (qq (L' := curH .i64 247 cb bsv bs.length :: L) [x20] (x20) (.tmp rfl .nil) rfl le20 rF (sD (sC sR)) ?_)))
  exact ⟨⟨_, rfl, ⟨_, hr18, by omega⟩⟩, rfl⟩
 refine qx (t := 21) rfl (vF h2) (qx (t := 21) rfl (vF h2) (cX (qY (.bool (false)) (vF h2) rfl (qb (X.condF rfl (qw (qc (qa (qd (ptr cb 0) rfl (cX (ql (0) qJ rfl qF (by decide) rfl rfl (cX (qr [arv] qX qF rfl rfl (Rd.ownN [] rfl rfl) (cX (qm (args := [ptr cb 0, .agg #[arv]]) call251 rfl (jf [_] (l1DrawAny_spec hbs (by omega) har (hal := (by first | assumption | rfl | omega | simp)))) ?_)))))))))))))))
 rintro _ F21 _ le21 ⟨⟨x21, rfl, hr19⟩, rfl⟩
 obtain ⟨t6, hr19, q8⟩ := hr19
 show XL _ _ _ _ _ _ _ (cellsH b1 [arv, rsv] 39 :: curH .i64 247 cb bsv bs.length :: L)
 refine qg (x21) rfl (qb (qu (qq (L' := curH .i64 247 cb bsv bs.length :: L) [x21] (x21) (.tmp rfl .nil) rfl le21 rF (sD (sC sR)) ?_)))
 exact ⟨⟨_, rfl, ⟨_, hr19, by omega⟩⟩, rfl⟩

/- spec.l7Draw -/
theorem l7Draw_spec {F : FH} {L : List HP} {cb : Nat} {bsv : Value} {bs : List Int} (hbs : BytesF F bsv bs) (hbl : bs.length ≤ 4000000) :
    Does prog 125 [ptr cb 0] F (curH .i64 247 cb bsv bs.length :: L) (fun v F' L' => (∃ (a : Value), ∃ (b : Value), ∃ (c : Value), ∃ (ar : List Int), ∃ (rs : List (List Int × List Int)), ∃ (t : List Int), (.tuple #[.agg #[a, b], c] : Value) = v ∧ (IntsF F' a ar) ∧ (PairsF F' b rs) ∧ (IntsF F' c t) ∧ (smallS ar rs) ∧ (t.length ≤ 2000)) ∧ curH .i64 247 cb bsv bs.length :: L = L') := by
 refine qI func125 rfl rfl rfl (qc (qa (cX (ji [sN, sN] jK rfl ?_))))
 intro b1
 refine qg (sN) rfl (qb (qc (qa (qd (ptr cb 0) rfl (cX (qm (args := [ptr cb 0]) call239 rfl (jf [_] (l6DrawAny_spec hbs (by omega))) ?_))))))
 rintro _ F1 _ le1 ⟨⟨x1, x2, x3, x4, rfl, hr1, hr2, hr3⟩, rfl⟩
 replace hbs := hbs.mono le1
 show XL _ _ _ _ _ _ _ (cellsH b1 [sN, sN] 39 :: curH .i64 247 cb bsv bs.length :: L)
 have hsm7 := hr3
 refine cX (ji [sN, sN] jK rfl ?_)
 intro b2
 refine cX (qL [] _ [x1, x2] qP rfl rfl rfl (qn (qG (qz hr1)) (qn (qG (PairsF.isSl hr2)) qO)) rfl rfl rfl (qb (qc ?_)))
 refine jW [cellsH b2 [x1, x2] 39, cellsH b1 [sN, sN] 39, curH .i64 247 cb bsv bs.length] L 4 [] [[], [], [], [1, 2]] [] (phiG [pe (.agg #[x1, x2]), pe (ptr cb 0), pe (.agg #[x1, x2]), fun FF us v => ((v) : Value) = v ∧ (SomesF FF (v) (fun u => u.length ≤ 2000))]) (ownL []) mixed rfl rfl (by kernel_rfl) (by kernel_rfl) (MonoG.get (m1 (m1 (m1 (mC (fun le h => ⟨h.1, h.2.mono le⟩) MonoG.nil))))) ?_ ?_
 ·refine gD (fun W Fs R lF z9 => ?_) ?_
  ·replace hbs := hbs.mono lF
   replace hr1 := hr1.mono lF
   replace hr2 := hr2.mono lF
   refine qi (qr [x1, x2] ja qP rfl rfl (Rd.ownN [] rfl rfl) ?_)
   exact ⟨rfl, rfl⟩
  refine gD (fun W Fs R lF z9 => ?_) ?_
  ·refine qi (qp (ptr cb 0) rfl ?_)
   exact ⟨rfl, rfl⟩
  refine gD (fun W Fs R lF z9 => ?_) ?_
  ·replace hbs := hbs.mono lF
   replace hr1 := hr1.mono lF
   replace hr2 := hr2.mono lF
   refine qi (qr [x1, x2] ja qP rfl rfl (Rd.ownN [] rfl rfl) ?_)
   exact ⟨rfl, rfl⟩
  refine gD (fun W Fs R lF z9 => ?_) ?_
  ·replace hbs := hbs.mono lF
   replace hr1 := hr1.mono lF
   replace hr2 := hr2.mono lF
   rw [eS (l := [(1, _), (2, _)]) ⟨z9 1 rfl, z9 2 rfl, ⟨⟩⟩]
   refine qi (qm (args := [ptr cb 0, .agg #[x1, x2]]) call240 rfl (jf [_, _] (l7DrawTerm_spec hbs (by omega) hr1 hr2 (hsm := (by first | assumption | rfl | omega | simp)))) ?_)
   rintro _ F3 _ le3 ⟨⟨x6, rfl, hr5⟩, rfl⟩
   replace hr1 := hr1.mono le3
   replace hr2 := hr2.mono le3
   exact ⟨⟨rfl, hr5⟩, rfl⟩
  exact stepsG.nil
 intro W F4 le4 hphi
 obtain ⟨e3, f3_1hp_a⟩ := hphi 3 (by decide)
 obtain ⟨t3X1_a, f3_1hp_a, q3_1_a0⟩ := f3_1hp_a
 generalize hu1 : ((W 3)) = u1 at e3 f3_1hp_a
 rw [eS (l := [(0, _), (3, u1)]) ⟨(hphi 0 (by decide)), hu1, ⟨⟩⟩]
 replace hr1 := hr1.mono le4
 replace hr2 := hr2.mono le4
 show XL _ _ _ _ _ _ _ (cellsH b2 [x1, x2] 39 :: cellsH b1 [sN, sN] 39 :: curH .i64 247 cb bsv bs.length :: L)
 refine cX (qL [_] _ [x1, x2] qP rfl rfl rfl (qn (qG (qz hr1)) (qn (qG (PairsF.isSl hr2)) qO)) rfl rfl rfl (qg (u1) rfl (qb (qu (qq (L' := curH .i64 247 cb bsv bs.length :: L) [.agg #[x1, x2], u1] (.tuple #[.agg #[x1, x2], u1]) (.cell rfl (ju [x1, x2] ja qP rfl (Rd.ownN [_] rfl rfl)) (.tmp rfl .nil)) rfl (qh le1 le4) rF (sD (sD (sC sR))) ?_)))))
 exact ⟨⟨_, _, _, _, _, _, rfl, hr1, hr2, f3_1hp_a, hr3, q3_1_a0⟩, rfl⟩

/- spec.l1Min -/
theorem l1Min_spec {F : FH} {L : List HP} {a : Int} {b : Int} :
    Does prog 296 [ii (a), ii (b)] F (L) (fun v F' L' => (ii (min a b) : Value) = v ∧ F = F' ∧ L = L') := by
 refine qI func296 rfl rfl rfl (qc (qa (qg (ii (0)) rfl (qb (qc (qc (qa (qd (ii (a)) rfl (qd (ii (b)) rfl (cX (qW rfl rfl (qb ?_))))))))))))
 refine qA (p := (a : Int) < b) rfl (fun h1 => ?_) (fun h1 => ?_)
 ·refine qc (qa (qd (ii (a)) rfl (qg (ii (a)) rfl (qb (qu (qk (qq (L' := L) [ii (a)] (ii (a)) (.tmp rfl .nil) rfl rF rF sR ?_)))))))
  exact ⟨(vI (by omega)), rfl, rfl⟩
 refine qw (qc (qa (qd (ii (b)) rfl (qg (ii (b)) rfl (qb (qu (qq (L' := L) [ii (b)] (ii (b)) (.tmp rfl .nil) rfl rF rF sR ?_)))))))
 exact ⟨(vI (by omega)), rfl, rfl⟩

/- spec.l1Num -/
theorem l1Num_spec {F : FH} {L : List HP} {cb : Nat} {bsv : Value} {bs : List Int} (hbs : BytesF F bsv bs) (hbl : bs.length ≤ 4000000) {m : Int} (hm : 0 ≤ m ∧ m ≤ 1000) :
    Does prog 203 [ptr cb 0, ii (m)] F (curH .i64 247 cb bsv bs.length :: L) (fun v F' L' => (F = F' ∧ ∃ (x : Int), (ii (x) : Value) = v) ∧ curH .i64 247 cb bsv bs.length :: L = L') := by
 refine qI func203 rfl rfl rfl (qc (qa (qg (ii (0)) rfl (qb (qc (qc (qa (qd (ptr cb 0) rfl (cX (qm (args := [ptr cb 0, ii (10)]) call102 rfl (jf [] (l1Once_spec (n := 10) hbs (by omega) (hn := (by first | assumption | rfl | omega | simp)))) ?_))))))))))
 rintro _ _ _ _ ⟨⟨rfl, x1, rfl⟩, rfl⟩
 show XL _ _ _ _ _ _ _ (curH .i64 247 cb bsv bs.length :: L)
 refine qb ?_
 refine jz (t := x1) rfl (fun h1 => ?_) (fun h1 => ?_)
 ·refine qc (qa (qd (ii (m)) rfl (qd (ii (m)) rfl (cX (qH (m + 1) rfl rfl (by omega) (by omega) (qd (ptr cb 0) rfl (cX (qm (args := [ptr cb 0]) call295 rfl (jf [] (l1Odd_spec hbs (by omega))) ?_))))))))
  rintro _ _ _ _ ⟨⟨rfl, x2, rfl⟩, rfl⟩
  show XL _ _ _ _ _ _ _ (curH .i64 247 cb bsv bs.length :: L)
  refine cX (qo (s := 1) [ii (-1), ii (m), ii (m + 1), ii (x2)] [ii (0)] [(0, [ii (-1)]), (1, [ii (m)]), (2, [ii (m + 1)]), (3, [ii (x2)])] qf qB qS rfl (by decide) rfl (.cons rfl (.cons rfl (.cons rfl (.cons rfl CellsAre.nil)))) rfl ?_)
  intro v1 hv1
  show XL _ _ _ _ _ _ _ (intsH 2 v1 ([-1, m, m + 1, x2] : List Int) :: curH .i64 247 cb bsv bs.length :: L)
  have hl4 : ([-1, m, m + 1, x2] : List Int).length = 4 := rfl
  refine qd (ptr cb 0) rfl (cX (qm (args := [ptr cb 0, ii (4)]) jL rfl (jf [_] (l1Below_spec (n := 4) hbs (by omega) (hn := (by first | assumption | rfl | omega | simp)))) ?_))
  rintro _ _ _ _ ⟨⟨rfl, x3, rfl, hr1⟩, rfl⟩
  show XL _ _ _ _ _ _ _ (intsH 2 v1 ([-1, m, m + 1, x2] : List Int) :: curH .i64 247 cb bsv bs.length :: L)
  refine cX (qD ((x3).toNat) qf qB rfl rfl (by omega) (intsH.slv [] rfl) (by omega) (Nat.mul_one _) (cX (qj jm rfl (intsH.rd [] rfl (by omega)) (qg (ii (([-1, m, m + 1, x2]).getD ((x3).toNat) 0)) rfl (qb (qu (qk (qq (L' := curH .i64 247 cb bsv bs.length :: L) [ii (([-1, m, m + 1, x2]).getD ((x3).toNat) 0)] (ii (([-1, m, m + 1, x2]).getD ((x3).toNat) 0)) (.tmp rfl .nil) rfl rF rF (sD (sC sR)) ?_))))))))
  exact ⟨⟨rfl, _, rfl⟩, rfl⟩
 refine qw (qc (qc (qa (qd (ptr cb 0) rfl (cX (qm (args := [ptr cb 0, ii (2)]) call102 rfl (jf [] (l1Once_spec (n := 2) hbs (by omega) (hn := (by first | assumption | rfl | omega | simp)))) ?_))))))
 rintro _ _ _ _ ⟨⟨rfl, x4, rfl⟩, rfl⟩
 show XL _ _ _ _ _ _ _ (curH .i64 247 cb bsv bs.length :: L)
 refine qb ?_
 refine jz (t := x4) rfl (fun h2 => ?_) (fun h2 => ?_)
 ·refine qc (qa (qd (ptr cb 0) rfl (qd (ii (m)) rfl (cX (qm (args := [ii (m), ii (4)]) call296 rfl (l1Min_spec (a := m) (b := 4)) ?_)))))
  rintro _ _ _ _ ⟨rfl, rfl, rfl⟩
  refine cX (qH ((min m 4) + 1) rfl rfl (by omega) (by omega) (cX (qm (args := [ptr cb 0, ii ((min m 4) + 1)]) jL rfl (jf [] (l1Below_spec (n := (min m 4) + 1) hbs (by omega) (hn := (by first | assumption | rfl | omega | simp)))) ?_)))
  rintro _ _ _ _ ⟨⟨rfl, x5, rfl, hr2⟩, rfl⟩
  show XL _ _ _ _ _ _ _ (curH .i64 247 cb bsv bs.length :: L)
  refine qg (ii (x5)) rfl (qb (qu (qk (qq (L' := curH .i64 247 cb bsv bs.length :: L) [ii (x5)] (ii (x5)) (.tmp rfl .nil) rfl rF rF (sC sR) ?_))))
  exact ⟨⟨rfl, _, rfl⟩, rfl⟩
 refine qw (qc (qa (qd (ptr cb 0) rfl (qd (ii (m)) rfl (cX (qH (m + 1) rfl rfl (by omega) (by omega) (cX (qm (args := [ptr cb 0, ii (m + 1)]) jL rfl (jf [] (l1Below_spec (n := m + 1) hbs (by omega) (hn := (by first | assumption | rfl | omega | simp)))) ?_))))))))
 rintro _ _ _ _ ⟨⟨rfl, x6, rfl, hr3⟩, rfl⟩
 show XL _ _ _ _ _ _ _ (curH .i64 247 cb bsv bs.length :: L)
 refine qg (ii (x6)) rfl (qb (qu (qq (L' := curH .i64 247 cb bsv bs.length :: L) [ii (x6)] (ii (x6)) (.tmp rfl .nil) rfl rF rF (sC sR) ?_)))
 exact ⟨⟨rfl, _, rfl⟩, rfl⟩

/- spec.l9DrawSteps -/
theorem l9DrawSteps_spec {F : FH} {L : List HP} {cb : Nat} {bsv : Value} {bs : List Int} (hbs : BytesF F bsv bs) (hbl : bs.length ≤ 4000000) :
    Does prog 126 [ptr cb 0] F (curH .i64 247 cb bsv bs.length :: L) (fun v F' L' => (F = F' ∧ ∃ (x : Int), (ii (x) : Value) = v) ∧ curH .i64 247 cb bsv bs.length :: L = L') := by
 refine qI func126 rfl rfl rfl (qc (qa (qg (ii (0)) rfl (qb (qc (qc (qa (qd (ptr cb 0) rfl (cX (qm (args := [ptr cb 0, ii (12)]) call102 rfl (jf [] (l1Once_spec (n := 12) hbs (by omega) (hn := (by first | assumption | rfl | omega | simp)))) ?_))))))))))
 rintro _ _ _ _ ⟨⟨rfl, x1, rfl⟩, rfl⟩
 show XL _ _ _ _ _ _ _ (curH .i64 247 cb bsv bs.length :: L)
 refine qb ?_
 refine jz (t := x1) rfl (fun h1 => ?_) (fun h1 => ?_)
 ·refine qc (qa (qd (ptr cb 0) rfl (cX (qm (args := [ptr cb 0, ii (20)]) call203 rfl (jf [] (l1Num_spec (m := 20) hbs (by omega) (hm := (by first | assumption | rfl | omega | simp)))) ?_))))
  rintro _ _ _ _ ⟨⟨rfl, x2, rfl⟩, rfl⟩
  show XL _ _ _ _ _ _ _ (curH .i64 247 cb bsv bs.length :: L)
  refine qg (ii (x2)) rfl (qb (qu (qk (qq (L' := curH .i64 247 cb bsv bs.length :: L) [ii (x2)] (ii (x2)) (.tmp rfl .nil) rfl rF rF (sC sR) ?_))))
  exact ⟨⟨rfl, _, rfl⟩, rfl⟩
 refine qw (qc (qa (qd (ptr cb 0) rfl (cX (qm (args := [ptr cb 0, ii (5)]) jL rfl (jf [] (l1Below_spec (n := 5) hbs (by omega) (hn := (by first | assumption | rfl | omega | simp)))) ?_)))))
 rintro _ _ _ _ ⟨⟨rfl, x3, rfl, hr1⟩, rfl⟩
 show XL _ _ _ _ _ _ _ (curH .i64 247 cb bsv bs.length :: L)
 refine qg (ii (x3)) rfl (qb (qu (qq (L' := curH .i64 247 cb bsv bs.length :: L) [ii (x3)] (ii (x3)) (.tmp rfl .nil) rfl rF rF (sC sR) ?_)))
 exact ⟨⟨rfl, _, rfl⟩, rfl⟩

/- impl.walkBy -/
theorem walkBy_spec {F : FH} {L : List HP} {arv : Value} {ar : List Int} (har : IntsF F arv ar) {rsv : Value} {rs : List (List Int × List Int)} (hrs : PairsF F rsv rs) {tv : Value} {t : List Int} (ht : IntsF F tv t) {st : Int} {n : Nat} (hsys : sysOk ar rs = true) (ho : termOk ar t = true) (hst : 1 ≤ st ∧ st ≤ 3) (hn : n ≤ 60) :
    Does prog 136 [.agg #[arv, rsv], tv, ii (st), ii ((n : Int))] F (L) (fun v F' L' => ∃ (a : Value), ∃ (b : Value), (.tuple #[.agg #[a, b], .bool ((walkGo ar rs st n t).2)] : Value) = v ∧ (IntsF F' a t) ∧ (StepsF F' b (walkGo ar rs st n t).1) ∧ (Fresh F F' (star [intsH 2 a t, stepsD 2 192 b (walkGo ar rs st n t).1])) ∧ L = L') := by
 refine qI func136 rfl rfl rfl ?_
 have hnn := jt ht (by have := termOk_len ho; omega)
 have htl := termOk_len ho
 have hrl := (sysOk_iff.1 hsys).2.1
 have hsig := (sysOk_iff.1 hsys).1
 have hsl := sigOk_spec hsig
 refine qc (qa (cX (jc [arv, rsv] rfl rfl ?_)))
 intro b1
 refine cX (ji [sN, sN] zeroValue45 rfl ?_)
 intro b2
 refine qg (.bool (false)) rfl (qb (qc (qa (qd (tv) rfl (cX (jZ <| qm (args := [tv]) call96 rfl (Clone_spec ht (hlt := (by first | assumption | rfl | omega | simp))) ?_))))))
 rintro v1 _ _ _ ⟨rfl, hs1, rfl⟩
 refine ⟨_, _, rfl, fun F1 le1 hz1 => ?_⟩
 replace har := har.mono le1
 replace hrs := hrs.mono le1
 replace ht := ht.mono le1
 have hf1 : IntsF F1 v1 ((t)) := intsH.fz (xs := (t)) hz1.fz
 refine cX (jh [v1, sN] [sN, sN] [(0, 1), (1, 1)] [(0, [v1])] runUnderlying45 zeroValue45 rfl (.cons rfl qs (.cons rfl sizeOf43 PlacesAre.nil)) rfl (.cons (cells_one (qz hf1)) CellsAre.nil) (cX (ji [sN, sN] zeroValue45 rfl ?_)))
 intro b3
 refine cX (qL [] _ [v1, sN] yc rfl rfl rfl (qn (qG (qz hf1)) (qn rfl qO)) rfl rfl rfl (qb (qK (jl (α := Value × List Int × Value × List StepT × List Value × List HP × Nat × FH) (fun xQ => [(1, xQ.1), (2, ii (st)), (3, ii ((n : Int))), (4, ptr b1 0), (8, ptr b2 0), (10, ptr b3 0)]) (fun xQ => slH 192 3 xQ.2.2.1 xQ.2.2.2.2.2.2.1 xQ.2.2.2.2.1 :: cellsH b3 [v1, xQ.2.2.1] 45 :: cellsH b2 [sN, sN] 45 :: cellsH b1 [arv, rsv] 39 :: L) (fun xQ F' => xQ.2.2.2.2.2.2.2 = F' ∧ F1 ≤ xQ.2.2.2.2.2.2.2 ∧ (IntsF xQ.2.2.2.2.2.2.2 xQ.1 xQ.2.1) ∧ (termOk ar xQ.2.1 = true) ∧ (IsSl xQ.2.2.1) ∧ (StepsC xQ.2.2.2.2.2.2.2 xQ.2.2.2.2.1 xQ.2.2.2.1) ∧ (xQ.2.2.2.2.2.2.1 = xQ.2.2.2.1.length) ∧ (DeepL 3 (StepO 2) xQ.2.2.2.2.1 xQ.2.2.2.1 xQ.2.2.2.2.2.1) ∧ (Fresh F1 xQ.2.2.2.2.2.2.2 (star xQ.2.2.2.2.2.1)) ∧ (xQ.2.2.2.1.length ≤ n) ∧ ((walkGo ar rs st n t).1 = xQ.2.2.2.1 ++ (walkGo ar rs st (n - xQ.2.2.2.1.length) xQ.2.1).1) ∧ ((walkGo ar rs st n t).2 = (walkGo ar rs st (n - xQ.2.2.2.1.length) xQ.2.1).2)) (fun xQ => n - xQ.2.2.2.2.2.2.1) (tv, t, sN, [], [], [], 0, F1) ⟨rfl, rfl, rfl, rfl, rfl, rfl, ⟨⟩⟩ (qR (Sub.addNil 192 3 _ _) (sC (sC (sC (sC sR))))) ⟨rfl, FLe.refl _, (ht), (ho), (⟨_, _, _, rfl⟩), (CO.nil), (rfl), (DeepL.nil), (Fresh.nilL), (by simp), (rfl), (rfl)⟩ ?_))))
 rintro ⟨cv, cur, sv, ss, cs, Ls, m, G1⟩ rE _ _ ⟨rfl, leG, hcv, hoc, hsv, hC, hm, hD, hZ, hln, hwa, hwb⟩
 show X _ _ _ _ (envs [(1, cv), (2, ii (st)), (3, ii ((n : Int))), (4, ptr b1 0), (8, ptr b2 0), (10, ptr b3 0)] rE) _ (slH 192 3 sv m cs :: cellsH b3 [v1, sv] 45 :: cellsH b2 [sN, sN] 45 :: cellsH b1 [arv, rsv] 39 :: L)
 replace leG : F1 ≤ G1 := leG
 dsimp only at hcv hoc hsv hC hm hD hZ hln hwa hwb
 have hcl := termOk_len hoc
 have leG1 := leG
 replace har := har.mono leG1
 replace hrs := hrs.mono leG1
 replace hf1 := hf1.mono leG1
 refine qK (qc (qa (cX (qr [arv, rsv] ja qP rfl rfl (Rd.ownN [_, _, _] rfl rfl) (qd (cv) rfl (qd (ii (st)) rfl (cX (qm (args := [.agg #[arv, rsv], cv, ii (st)]) call248 rfl (pick_all (st := st) har hrs hcv (by assumption) (by assumption) (by omega)) ?_))))))))
 rintro _ _ _ _ ⟨rfl, rfl, rfl⟩
 refine qg (ii (pickL ar rs cur st)) rfl (qb (qc (qc (qa (qd (ii (pickL ar rs cur st)) rfl (cX (qW rfl rfl (qb ?_))))))))
 refine qA (p := (pickL ar rs cur st : Int) < 0) rfl (fun h1 => ?_) (fun h1 => ?_)
 ·have he := pick_neg (ar := ar) (rs := rs) (t := cur) (st := st) (by omega)
  refine qc (qa (cX (qr [v1, sv] isAgg45 yc rfl rfl (Rd.ownN [_] rfl rfl) (cX (qL [_, _] _ [v1, sv] yc rfl rfl rfl (qn (qG (qz hf1)) (qn (qG hsv) qO)) rfl rfl rfl (qg (.bool (true)) rfl (qb (qQ [] _ _ rfl (fun F2 le2 hz2 => ?_)))))))))
  replace har := har.mono le2
  replace hrs := hrs.mono le2
  replace hf1 := hf1.mono le2
  replace hcv := hcv.mono le2
  replace hC := hC.mono le2
  have hf2 : StepsF F2 sv ss := CO.fz hC (by first | rfl | omega | (rw [List.length_set]; omega) | (simp; done)) hz2.fz
  refine qu (qk (qC (qk (qC (qq (L' := L) [.agg #[v1, sv], .bool (true)] (.tuple #[.agg #[v1, sv], .bool (true)]) (.cell rfl (ju [v1, sv] isAgg45 yc rfl (Rd.ownN [_] rfl rfl)) (.tmp rfl .nil)) rfl (qh (qh le1 leG1) le2) rF (sD (sD (sD sR))) ?_)))))
  have hw := walk_nil (st := st) (m := n - ss.length) he
  have e1 : (walkGo ar rs st n t).1 = ss := by rw [hwa, hw]; simp
  have e2 : (walkGo ar rs st n t).2 = true := by rw [hwb, hw]
  exact ⟨_, _, by rw [e2], hf1, by rw [e1]; exact hf2, by rw [e1]; exact (Fresh.app (Fresh.one hz1) le1 (Fresh.one (Fresh.deep hD hZ leG1 hz2 (by omega) le2)) (qh leG1 le2)), rfl⟩
 obtain ⟨q, hq1, hq2, hq3, hne⟩ := (pick_spec (ar := ar) (rs := rs) (t := cur) st).resolve_left (fun h => by have := h.1; omega)
 have hpn : (pickL ar rs cur st).toNat = q := by omega
 have hrr : 0 ≤ ruleAtL ar rs cur (pickL ar rs cur st).toNat := by rw [hpn]; simpa [hasR] using hq3
 obtain ⟨k, hk1, hk2, _⟩ := (M.ruleAt_spec (ar := ar) (rs := rs) (t := cur) (p := (pickL ar rs cur st).toNat)).resolve_left (by omega)
 refine qw (qc (qc (qa (cX (ql (1) runUnderlying45 rfl sizeOf43 (by decide) rfl rfl (cX (qj isAgg43 rfl (Rd.own [_] rfl rfl) (cX (qE jp rfl (SlV.own [] rfl) (qd (ii ((n : Int))) rfl (cX (js rfl rfl (qb ?_)))))))))))))
 refine qA (p := (m : Int) = (n : Int)) rfl (fun h2 => ?_) (fun h2 => ?_)
 ·refine qc (qa (cX (qr [v1, sv] isAgg45 yc rfl rfl (Rd.ownN [_] rfl rfl) (cX (qL [_, _] _ [v1, sv] yc rfl rfl rfl (qn (qG (qz hf1)) (qn (qG hsv) qO)) rfl rfl rfl (qg (.bool (false)) rfl (qb (qQ [] _ _ rfl (fun F3 le3 hz3 => ?_)))))))))
  replace har := har.mono le3
  replace hrs := hrs.mono le3
  replace hf1 := hf1.mono le3
  replace hcv := hcv.mono le3
  replace hC := hC.mono le3
  have hf3 : StepsF F3 sv ss := CO.fz hC (by first | rfl | omega | (rw [List.length_set]; omega) | (simp; done)) hz3.fz
  refine qu (qk (qC (qk (qC (qq (L' := L) [.agg #[v1, sv], .bool (false)] (.tuple #[.agg #[v1, sv], .bool (false)]) (.cell rfl (ju [v1, sv] isAgg45 yc rfl (Rd.ownN [_] rfl rfl)) (.tmp rfl .nil)) rfl (qh (qh le1 leG1) le3) rF (sD (sD (sD sR))) ?_)))))
  have hw := walk_zero (st := st) (m := n - ss.length) (by omega) hne
  have e1 : (walkGo ar rs st n t).1 = ss := by rw [hwa, hw]; simp
  have e2 : (walkGo ar rs st n t).2 = false := by rw [hwb, hw]
  exact ⟨_, _, by rw [e2], hf1, by rw [e1]; exact hf3, by rw [e1]; exact (Fresh.app (Fresh.one hz1) le1 (Fresh.one (Fresh.deep hD hZ leG1 hz3 (by omega) le3)) (qh leG1 le3)), rfl⟩
 refine qw (qc (qa (cX (qr [arv, rsv] ja qP rfl rfl (Rd.ownN [_, _, _] rfl rfl) (qd (cv) rfl (qd (ii (pickL ar rs cur st)) rfl (cX (qm (args := [.agg #[arv, rsv], cv, ii (((pickL ar rs cur st).toNat : Nat) : Int)]) call247 (by rw [show (((pickL ar rs cur st).toNat : Nat) : Int) = pickL ar rs cur st from by omega]; rfl) (ruleAt_spec (p := (pickL ar rs cur st).toNat) har hrs hcv (hsys := (by first | assumption | rfl | omega | simp)) (ho := (by first | assumption | rfl | omega | simp)) (hp := (by first | assumption | rfl | omega | simp))) ?_))))))))
 rintro _ _ _ _ ⟨rfl, rfl, rfl⟩
 refine qg (ii (ruleAtL ar rs cur ((pickL ar rs cur st).toNat))) rfl (qb (qc (qa (cX (qr [arv, rsv] ja qP rfl rfl (Rd.ownN [_, _, _] rfl rfl) (qd (cv) rfl (qd (ii (pickL ar rs cur st)) rfl (qd (ii (ruleAtL ar rs cur ((pickL ar rs cur st).toNat))) rfl (cX (qm (args := [.agg #[arv, rsv], cv, ii (((pickL ar rs cur st).toNat : Nat) : Int), ii (((ruleAtL ar rs cur ((pickL ar rs cur st).toNat)).toNat : Nat) : Int)]) call249 (by rw [show (((pickL ar rs cur st).toNat : Nat) : Int) = pickL ar rs cur st from by omega, show (((ruleAtL ar rs cur ((pickL ar rs cur st).toNat)).toNat : Nat) : Int) = ruleAtL ar rs cur ((pickL ar rs cur st).toNat) from by omega]; rfl) (step_spec (p := (pickL ar rs cur st).toNat) (r := (ruleAtL ar rs cur ((pickL ar rs cur st).toNat)).toNat) har hrs hcv (hsys := (by first | assumption | rfl | omega | simp)) (ho := (by first | assumption | rfl | omega | simp)) (hp := (by first | assumption | rfl | omega | simp)) (hr := (by first | assumption | rfl | omega | simp))) ?_))))))))))
 rintro _ F4 _ le4 ⟨x1, rfl, hr1, hr2, hr3, rfl⟩
 replace hf1 := hf1.mono le4
 replace hC := hC.mono le4
 refine qd (.tuple #[x1, .bool ((stepL ar rs cur ((pickL ar rs cur st).toNat) ((ruleAtL ar rs cur ((pickL ar rs cur st).toNat)).toNat)).isSome)]) rfl (cX (je (x1) rfl rfl (cX (je (.bool ((stepL ar rs cur ((pickL ar rs cur st).toNat) ((ruleAtL ar rs cur ((pickL ar rs cur st).toNat)).toNat)).isSome)) rfl rfl (qg (x1) rfl (qg (.bool ((stepL ar rs cur ((pickL ar rs cur st).toNat) ((ruleAtL ar rs cur ((pickL ar rs cur st).toNat)).toNat)).isSome)) rfl (qb (qc (qc (qa (qd (.bool ((stepL ar rs cur ((pickL ar rs cur st).toNat) ((ruleAtL ar rs cur ((pickL ar rs cur st).toNat)).toNat)).isSome)) rfl (cX (jE rfl (qb ?_))))))))))))))
 refine jz (t := !((stepL ar rs cur ((pickL ar rs cur st).toNat) ((ruleAtL ar rs cur ((pickL ar rs cur st).toNat)).toNat)).isSome)) rfl (fun h3 => ?_) (fun h3 => ?_)
 ·have hu : (stepL ar rs cur (pickL ar rs cur st).toNat (ruleAtL ar rs cur (pickL ar rs cur st).toNat).toNat).isSome = false := by simpa using h3
  refine qc (qa (cX (qr [v1, sv] isAgg45 yc rfl rfl (Rd.ownN [_] rfl rfl) (cX (qL [_, _] _ [v1, sv] yc rfl rfl rfl (qn (qG (qz hf1)) (qn (qG hsv) qO)) rfl rfl rfl (qg (.bool (false)) rfl (qb (qQ [] _ _ rfl (fun F5 le5 hz4 => ?_)))))))))
  replace hf1 := hf1.mono le5
  replace hC := hC.mono le5
  replace hr1 := hr1.mono le5
  have hf4 : StepsF F5 sv ss := CO.fz hC (by first | rfl | omega | (rw [List.length_set]; omega) | (simp; done)) hz4.fz
  refine qu (qk (qC (qk (qC (qq (L' := L) [.agg #[v1, sv], .bool (false)] (.tuple #[.agg #[v1, sv], .bool (false)]) (.cell rfl (ju [v1, sv] isAgg45 yc rfl (Rd.ownN [_] rfl rfl)) (.tmp rfl .nil)) rfl (qh (qh (qh le1 leG1) le4) le5) rF (sD (sD (sD sR))) ?_)))))
  have hw := walk_stuck (m := n - ss.length) (by omega) hne hu
  have e1 : (walkGo ar rs st n t).1 = ss := by rw [hwa, hw]; simp
  have e2 : (walkGo ar rs st n t).2 = false := by rw [hwb, hw]
  exact ⟨_, _, by rw [e2], hf1, by rw [e1]; exact hf4, by rw [e1]; exact (Fresh.app (Fresh.one hz1) le1 (Fresh.one (Fresh.deep hD (hZ.mono le4) (qh leG1 le4) hz4 (by omega) le5)) (qh (qh leG1 le4) le5)), rfl⟩
 obtain ⟨u, hu⟩ := Option.isSome_iff_exists.1 (show (stepL ar rs cur (pickL ar rs cur st).toNat (ruleAtL ar rs cur (pickL ar rs cur st).toNat).toNat).isSome = true from by simpa using h3)
 refine qw (qc (qa (cX (ql (1) runUnderlying45 rfl sizeOf43 (by decide) rfl rfl (cX (qj isAgg43 rfl (Rd.own [_] rfl rfl) (qd (ii (pickL ar rs cur st)) rfl (qd (ii (ruleAtL ar rs cur ((pickL ar rs cur st).toNat))) rfl (qd (x1) rfl (cX (jh [ii (pickL ar rs cur st), ii (ruleAtL ar rs cur ((pickL ar rs cur st).toNat)), x1] [ii (0), ii (0), sN] [(0, 1), (1, 1), (2, 1)] [(0, [ii (pickL ar rs cur st)]), (1, [ii (ruleAtL ar rs cur ((pickL ar rs cur st).toNat))]), (2, [x1])] jJ jX rfl (.cons rfl qB (.cons rfl qB (.cons rfl qs PlacesAre.nil))) rfl (.cons rfl (.cons rfl (.cons (cells_one (qz hr1)) CellsAre.nil))) (cX (qo (s := 3) [ii (pickL ar rs cur st), ii (ruleAtL ar rs cur ((pickL ar rs cur st).toNat)), x1] [ii (0), ii (0), sN] [(0, [ii (pickL ar rs cur st), ii (ruleAtL ar rs cur ((pickL ar rs cur st).toNat)), x1])] jp jH jX rfl (by decide) rfl (.cons rfl CellsAre.nil) rfl ?_)))))))))))))
 intro v2 hv1
 refine cX (jG (m := 1) (bytes := 40) (cs := cs) [_] _ [ii (pickL ar rs cur st), ii (ruleAtL ar rs cur ((pickL ar rs cur st).toNat)), x1] jp typeInfo192 rfl rfl rfl rfl rfl rfl rfl (SlV.own [] rfl) rfl (Rd.lit [] rfl) (qn rfl (qn rfl (qn (qG (qz hr1)) qO))) (by (try simp only [List.length_append, List.length_nil, List.length_cons, List.length_singleton]); omega) (by (try simp only [List.length_append, List.length_nil, List.length_cons, List.length_singleton]); omega) ?_)
 intro v3 hs2 hn1 hm1
 have hc1 := StepsC.snoc hC (i := pickL ar rs cur st) (j := ruleAtL ar rs cur ((pickL ar rs cur st).toNat)) hr1
 refine cX (ql (1) runUnderlying45 rfl sizeOf43 (by decide) rfl rfl (cX (jv [_, _] _ [v1, v3] sizeOf43 rfl rfl (qG hs2) rfl rfl rfl (qb (qa (qd (x1) rfl (qg (x1) rfl (qb ?_))))))))
 exact ⟨(x1, (stepL ar rs cur ((pickL ar rs cur st).toNat) ((ruleAtL ar rs cur ((pickL ar rs cur st).toNat)).toNat)).getD [], v3, ss ++ [(pickL ar rs cur st, ruleAtL ar rs cur ((pickL ar rs cur st).toNat), (stepL ar rs cur ((pickL ar rs cur st).toNat) ((ruleAtL ar rs cur ((pickL ar rs cur st).toNat)).toNat)).getD [])], cs ++ [ii (pickL ar rs cur st), ii (ruleAtL ar rs cur ((pickL ar rs cur st).toNat)), x1], Ls ++ [intsH 2 x1 ((stepL ar rs cur ((pickL ar rs cur st).toNat) ((ruleAtL ar rs cur ((pickL ar rs cur st).toNat)).toNat)).getD [])], (m) + 1, F4), _, (qh leG1 le4), rF, ⟨rfl, rfl, rfl, rfl, rfl, rfl, ⟨⟩⟩, (sD (sC (sC (sC (sC sR))))), ⟨rfl, (qh leG1 le4), (hr1), (by dsimp only; rw [hu]; exact stepL_ok hsys hoc (by omega) (by omega) hu), (hs2), (hc1), (by (try dsimp only); rw [List.length_append]; simp only [List.length_singleton]; omega), (DeepL.snoc hD rfl ⟨_, rfl, rfl⟩), ((Fresh.app hZ leG1 (Fresh.one hr3) le4)), (by dsimp only; rw [List.length_append]; simp only [List.length_singleton]; omega), (by dsimp only; rw [hwa, walk_next (m := n - ss.length) (by omega) hne hu, hu]; simp only [Option.getD_some, List.length_append, List.length_singleton, List.append_assoc, List.singleton_append]; rw [show n - ss.length - 1 = n - (ss.length + 1) from by omega]), (by dsimp only; rw [hwb, walk_next (m := n - ss.length) (by omega) hne hu, hu]; simp only [Option.getD_some, List.length_append, List.length_singleton]; rw [show n - ss.length - 1 = n - (ss.length + 1) from by omega])⟩, (by dsimp only; omega)⟩

/- impl.WalkBy -/
theorem WalkBy_spec {F : FH} {L : List HP} {arv : Value} {ar : List Int} (har : IntsF F arv ar) {rsv : Value} {rs : List (List Int × List Int)} (hrs : PairsF F rsv rs) {tv : Value} {t : List Int} (ht : IntsF F tv t) {st : Int} {n : Int} :
    Does prog 53 [.agg #[arv, rsv], tv, ii (st), ii (n)] F (L) (fun v F' L' => ∃ (a : Value), ∃ (b : Value), (.tuple #[.agg #[a, b], .bool ((walkB ar rs t st n).2.2)] : Value) = v ∧ (IntsF F' a (walkB ar rs t st n).1) ∧ (StepsF F' b (walkB ar rs t st n).2.1) ∧ (Fresh F F' (star [intsH 2 a (walkB ar rs t st n).1, stepsD 2 192 b (walkB ar rs t st n).2.1])) ∧ L = L') := by
 refine qI func53 rfl rfl rfl (qc (qa (cX (jc [arv, rsv] rfl rfl ?_))))
 intro b1
 refine cX (ji [sN, sN] zeroValue45 rfl ?_)
 intro b2
 refine qg (.bool (false)) rfl (qb (qc (qc (qa (cX (qr [arv, rsv] ja qP rfl rfl (Rd.ownN [_] rfl rfl) (qd (tv) rfl (qd (ii (st)) rfl (cX (qm (args := [.agg #[arv, rsv], tv, ii (st)]) call135 rfl (strategyOk_spec (st := st) har hrs ht) ?_))))))))))
 rintro _ _ _ _ ⟨rfl, rfl, rfl⟩
 refine cX (jE rfl (qd (.bool (!((rightB ar rs t && decide (1 ≤ st ∧ st ≤ 3))))) rfl ?_))
 by_cases h1 : (!((rightB ar rs t && decide (1 ≤ st ∧ st ≤ 3)))) = true
 ·refine qx (t := 15) rfl (vB h1) (qx (t := 15) rfl (vB h1) (cX (jj (.bool (true)) (vB h1) rfl (qd (.bool (true)) rfl (qx (t := 19) rfl rfl (qx (t := 19) rfl rfl (cX (jj (.bool (true)) rfl rfl (qb (yd rfl (qc (qa ?_))))))))))))
  refine cX (jh [sN, sN] [sN, sN] [(0, 1), (1, 1)] [] runUnderlying45 zeroValue45 rfl (.cons rfl qs (.cons rfl sizeOf43 PlacesAre.nil)) rfl CellsAre.nil (cX (qL [] _ [sN, sN] yc rfl rfl rfl (qn rfl (qn rfl qO)) rfl rfl rfl (qg (.bool (false)) rfl (qb (qu (qk (qq (L' := L) [.agg #[sN, sN], .bool (false)] (.tuple #[.agg #[sN, sN], .bool (false)]) (.cell rfl (ju [sN, sN] isAgg45 yc rfl (Rd.ownN [] rfl rfl)) (.tmp rfl .nil)) rfl rF rF (sD (sD sR)) ?_))))))))
  have hw : walkB ar rs t st n = ([], [], false) := walkB_no (by rw [wOk]; cases hx : (rightB ar rs t && decide (1 ≤ st ∧ st ≤ 3)) <;> simp_all <;> (intros; omega))
  exact ⟨_, _, by rw [hw], by rw [hw]; exact IntsF.nilV, by rw [hw]; exact SlOf.nilV, by rw [hw]; exact Fresh.empty nilWalk, rfl⟩
 rw [Bool.not_eq_true] at h1
 have hri : rightB ar rs t = true ∧ (1 ≤ st ∧ st ≤ 3) := by simpa using h1
 have hsys := (right_iff.1 hri.1).1
 have ho := (right_iff.1 hri.1).2
 refine qy (t := 15) rfl (vB h1) (qp (ii (n)) rfl (qy (t := 15) rfl (vB h1) (qW rfl rfl (cX (qY (.bool (decide ((n : Int) < 0))) (vB h1) rfl (qd (.bool (decide ((n : Int) < 0))) rfl ?_))))))
 by_cases h2 : (n : Int) < 0
 ·refine qx (t := 19) rfl (vT h2) (qx (t := 19) rfl (vT h2) (cX (jj (.bool (true)) (vT h2) rfl (qb (yd rfl (qc (qa (cX (jh [sN, sN] [sN, sN] [(0, 1), (1, 1)] [] runUnderlying45 zeroValue45 rfl (.cons rfl qs (.cons rfl sizeOf43 PlacesAre.nil)) rfl CellsAre.nil (cX (qL [] _ [sN, sN] yc rfl rfl rfl (qn rfl (qn rfl qO)) rfl rfl rfl (qg (.bool (false)) rfl (qb ?_)))))))))))))
  refine qu (qk (qq (L' := L) [.agg #[sN, sN], .bool (false)] (.tuple #[.agg #[sN, sN], .bool (false)]) (.cell rfl (ju [sN, sN] isAgg45 yc rfl (Rd.ownN [] rfl rfl)) (.tmp rfl .nil)) rfl rF rF (sD (sD sR)) ?_))
  have hw : walkB ar rs t st n = ([], [], false) := walkB_no (by rw [wOk]; cases hx : (rightB ar rs t && decide (1 ≤ st ∧ st ≤ 3)) <;> simp_all <;> (intros; omega))
  exact ⟨_, _, by rw [hw], by rw [hw]; exact IntsF.nilV, by rw [hw]; exact SlOf.nilV, by rw [hw]; exact Fresh.empty nilWalk, rfl⟩
 refine qy (t := 19) rfl (vF h2) (qp (ii (n)) rfl (qy (t := 19) rfl (vF h2) (jI rfl rfl (cX (qY (.bool (decide ((n : Int) > 60))) (vF h2) rfl (qb ?_))))))
 refine qA (p := (n : Int) > 60) rfl (fun h3 => ?_) (fun h3 => ?_)
 ·refine qc (qa (cX (jh [sN, sN] [sN, sN] [(0, 1), (1, 1)] [] runUnderlying45 zeroValue45 rfl (.cons rfl qs (.cons rfl sizeOf43 PlacesAre.nil)) rfl CellsAre.nil (cX (qL [] _ [sN, sN] yc rfl rfl rfl (qn rfl (qn rfl qO)) rfl rfl rfl (qg (.bool (false)) rfl (qb (qu (qk (qq (L' := L) [.agg #[sN, sN], .bool (false)] (.tuple #[.agg #[sN, sN], .bool (false)]) (.cell rfl (ju [sN, sN] isAgg45 yc rfl (Rd.ownN [] rfl rfl)) (.tmp rfl .nil)) rfl rF rF (sD (sD sR)) ?_))))))))))
  have hw : walkB ar rs t st n = ([], [], false) := walkB_no (by rw [wOk]; cases hx : (rightB ar rs t && decide (1 ≤ st ∧ st ≤ 3)) <;> simp_all <;> (intros; omega))
  exact ⟨_, _, by rw [hw], by rw [hw]; exact IntsF.nilV, by rw [hw]; exact SlOf.nilV, by rw [hw]; exact Fresh.empty nilWalk, rfl⟩
 refine qw (qc (qa (cX (qr [arv, rsv] ja qP rfl rfl (Rd.ownN [_] rfl rfl) (qd (tv) rfl (qd (ii (st)) rfl (qd (ii (n)) rfl (cX (qm (args := [.agg #[arv, rsv], tv, ii (st), ii (((n).toNat : Nat) : Int)]) call136 (by rw [show (((n).toNat : Nat) : Int) = n from by omega]; rfl) (walkBy_spec (st := st) (n := (n).toNat) har hrs ht (hsys := (by first | assumption | rfl | omega | simp)) (ho := (by first | assumption | rfl | omega | simp)) (hst := (by first | assumption | rfl | omega | simp)) (hn := (by first | assumption | rfl | omega | simp))) ?_)))))))))
 rintro _ F1 _ le1 ⟨x1, x2, rfl, hr1, hr2, hr3, rfl⟩
 refine cX (je (.agg #[x1, x2]) rfl rfl (cX (je (.bool ((walkGo ar rs st ((n).toNat) t).2)) rfl rfl (cX (qL [] _ [x1, x2] yc rfl rfl rfl (qn (qG (qz hr1)) (qn (qG (StepsF.isSl hr2)) qO)) rfl rfl rfl (qg (.bool ((walkGo ar rs st ((n).toNat) t).2)) rfl (qb (qu (qq (L' := L) [.agg #[x1, x2], .bool ((walkGo ar rs st ((n).toNat) t).2)] (.tuple #[.agg #[x1, x2], .bool ((walkGo ar rs st ((n).toNat) t).2)]) (.cell rfl (ju [x1, x2] isAgg45 yc rfl (Rd.ownN [] rfl rfl)) (.tmp rfl .nil)) rfl le1 rF (sD (sD sR)) ?_)))))))))
 have hw := walkB_yes (ar := ar) (rs := rs) (t := t) (st := st) (n := n) (by rw [wOk]; simp [hri, hri.2]; omega)
 exact ⟨_, _, by rw [hw], by rw [hw]; exact hr1, by rw [hw]; exact hr2, by rw [hw]; exact hr3, rfl⟩

/- spec.l7Redexes -/
theorem l7Redexes_spec {F : FH} {L : List HP} {arv : Value} {ar : List Int} (har : IntsF F arv ar) {rsv : Value} {rs : List (List Int × List Int)} (hrs : PairsF F rsv rs) {tv : Value} {t : List Int} (ht : IntsF F tv t) (hsys : sysOk ar rs = true) (ho : termOk ar t = true) :
    Does prog 244 [.agg #[arv, rsv], tv] F (L) (fun v F' L' => (ii (((cntP ar rs t t.length : Nat) : Int)) : Value) = v ∧ F = F' ∧ L = L') := by
 refine qI func244 rfl rfl rfl ?_
 have hnn := jt ht (by have := termOk_len ho; omega)
 have htl := termOk_len ho
 have hrl := (sysOk_iff.1 hsys).2.1
 have hsig := (sysOk_iff.1 hsys).1
 have hsl := sigOk_spec hsig
 refine qc (qa (cX (jc [arv, rsv] rfl rfl ?_)))
 intro b1
 refine qg (ii (0)) rfl (qb (qc (qa (qg (ii (0)) rfl (qb (qc (qc (qa (qg (ii (0)) rfl (qb (qK (jl (α := Nat) (fun k => [(1, tv), (2, ptr b1 0), (5, ii (((cntP ar rs t k : Nat) : Int))), (6, ii ((k : Int)))]) (fun k => cellsH b1 [arv, rsv] 39 :: L) (fun k F' => F = F' ∧ (k ≤ t.length)) (fun k => t.length - k) 0 ⟨rfl, rfl, rfl, rfl, ⟨⟩⟩ (sC sR) ⟨rfl, (by (try dsimp only) <;> omega)⟩ ?_))))))))))))
 rintro k rE _ _ ⟨rfl, hk⟩
 show X _ _ _ _ (envs [(1, tv), (2, ptr b1 0), (5, ii (((cntP ar rs t k : Nat) : Int))), (6, ii ((k : Int)))] rE) _ (cellsH b1 [arv, rsv] 39 :: L)
 have hcp := cntP_le (ar := ar) (rs := rs) (t := t) hrl k
 refine qc (qc (qa (qd (ii ((k : Int))) rfl (qd (tv) rfl (cX (qE qf rfl ht.slv (cX (qW rfl rfl (qb ?_)))))))))
 refine qA (p := (k : Int) < (t.length : Int)) rfl (fun h1 => ?_) (fun h1 => ?_)
 ·refine qw (qc (qK (qc (qa (qg (ii (0)) rfl (qb (qK (jl (α := Nat) (fun j => [(1, tv), (2, ptr b1 0), (5, ii (((cntP ar rs t k + cntR ar rs t k j : Nat) : Int))), (6, ii ((k : Int))), (7, ii ((j : Int)))]) (fun j => cellsH b1 [arv, rsv] 39 :: L) (fun j F' => F = F' ∧ (j ≤ rs.length)) (fun j => rs.length - j) 0 ⟨rfl, rfl, rfl, rfl, rfl, ⟨⟩⟩ (sC sR) ⟨rfl, (by (try dsimp only) <;> omega)⟩ ?_))))))))
  rintro j rE _ _ ⟨rfl, hj⟩
  show X _ _ _ _ (envs [(1, tv), (2, ptr b1 0), (5, ii (((cntP ar rs t k + cntR ar rs t k j : Nat) : Int))), (6, ii ((k : Int))), (7, ii ((j : Int)))] rE) _ (cellsH b1 [arv, rsv] 39 :: L)
  have hcr := cntR_le (ar := ar) (rs := rs) (t := t) (p := k) (k := j)
  refine qc (qc (qa (qd (ii ((j : Int))) rfl (cX (ql (1) qJ rfl jw (by decide) rfl rfl (cX (qj yb rfl (Rd.own [] rfl rfl) (cX (qE jd rfl hrs.slv (cX (qW rfl rfl (qb ?_))))))))))))
  refine qA (p := (j : Int) < (rs.length : Int)) rfl (fun h2 => ?_) (fun h2 => ?_)
  ·refine qw (qc (qK (qc ?_)))
   obtain ⟨a1, a2, ha1, ha2, hr1, hr2⟩ := hrs.rd (i := j) (by omega)
   refine jW [cellsH b1 [arv, rsv] 39] L 19 [[], [], [], [], [], [], [], [], [], [], [], [], [], [], [13], [13], [], [], [13, 17]] [[], [0], [], [2], [], [3, 4], [5], [6], [], [8], [], [], [9, 10, 11], [1, 7, 12], [13], [13, 14], [13, 14], [], [13, 15, 17]] [[], [], [], [], [], [], [], [], [], [], [], [], [], [], [], [], [], [], [17]] (phiG [pe (ptr b1 0), pe (.agg #[arv]), pe (ptr b1 1), pe rsv, pe (ii ((j : Int)) : Value), pe (.pointer (some (elemA rsv (j * 2)))), pe (.pointer (some (elemA rsv (j * 2)))), pe a1, pe (ptr b1 0), pe (.agg #[arv]), pe tv, pe (ii ((k : Int)) : Value), fun FF us v => ((v) : Value) = v ∧ (IntsF FF (v) (sub ar t k)), fun FF us v => (.tuple #[.agg #[((aggAt (tupAt v 0) 0))], .bool ((matchB ar ((rs.getD j ([], [])).1) ((sub ar t k))).isSome)] : Value) = v ∧ (RowsF FF ((aggAt (tupAt v 0) 0)) (matchP ar ((rs.getD j ([], [])).1) ((sub ar t k)))), fun FF us v => v = (.tuple #[.agg #[((aggAt (tupAt (us.getD 0 undef) 0) 0))], .bool ((matchB ar ((rs.getD j ([], [])).1) ((sub ar t k))).isSome)] : Value), fun FF us v => v = (.agg #[((aggAt (tupAt (us.getD 0 undef) 0) 0))] : Value), pe (.bool ((matchB ar ((rs.getD j ([], [])).1) ((sub ar t k))).isSome)), fun FF us v => v = ptr (blk v) 0, fun FF us v => True]) (ownL [o0, o0, o0, o0, o0, o0, o0, o0, o0, o0, o0, o0, o0, o0, o0, o0, o0, fun us v => [cellsH (blk v) [sN] 137], fun us v => [cellsH (blk (us.getD 1 undef)) [((aggAt (tupAt (us.getD 0 undef) 0) 0))] 137]]) mixed rfl rfl (by kernel_rfl) (by kernel_rfl) (MonoG.get (m1 (m1 (m1 (m1 (m1 (m1 (m1 (m1 (m1 (m1 (m1 (m1 (mC (fun le h => ⟨h.1, h.2.mono le⟩) (mC (fun le h => ⟨h.1, h.2.mono le⟩) (mC (fun le h => h) (mC (fun le h => h) (m1 (mC (fun le h => h) (mC (fun le h => h) MonoG.nil)))))))))))))))))))) ?_ ?_
   ·refine gD (fun W Fs R lF z9 => ?_) ?_
    ·refine qi (ql (0) qJ rfl qF (by decide) rfl rfl ?_)
     exact ⟨rfl, rfl⟩
    refine gD (fun W Fs R lF z9 => ?_) ?_
    ·replace har := har.mono lF
     replace hrs := hrs.mono lF
     replace ht := ht.mono lF
     replace ha1 := ha1.mono lF
     replace hr1 := Rd.monoA hr1 lF
     rw [eS (l := [(0, _)]) ⟨z9 0 rfl, ⟨⟩⟩]
     refine qi (qr [arv] qX qF rfl rfl (Rd.ownN [] rfl rfl) ?_)
     exact ⟨rfl, rfl⟩
    refine gD (fun W Fs R lF z9 => ?_) ?_
    ·refine qi (ql (1) qJ rfl jw (by decide) rfl rfl ?_)
     exact ⟨rfl, rfl⟩
    refine gD (fun W Fs R lF z9 => ?_) ?_
    ·replace har := har.mono lF
     replace hrs := hrs.mono lF
     replace ht := ht.mono lF
     replace ha1 := ha1.mono lF
     replace hr1 := Rd.monoA hr1 lF
     rw [eS (l := [(2, _)]) ⟨z9 2 rfl, ⟨⟩⟩]
     refine qi (qj yb rfl (Rd.own [] rfl rfl) ?_)
     exact ⟨rfl, rfl⟩
    refine gD (fun W Fs R lF z9 => ?_) ?_
    ·refine qi (qp (ii ((j : Int))) rfl ?_)
     exact ⟨rfl, rfl⟩
    refine gD (fun W Fs R lF z9 => ?_) ?_
    ·replace har := har.mono lF
     replace hrs := hrs.mono lF
     replace ht := ht.mono lF
     replace ha1 := ha1.mono lF
     replace hr1 := Rd.monoA hr1 lF
     rw [eS (l := [(3, _), (4, _)]) ⟨z9 3 rfl, z9 4 rfl, ⟨⟩⟩]
     refine qi (qD j jd jA rfl rfl rfl hrs.slv (by omega) rfl ?_)
     exact ⟨rfl, rfl⟩
    refine gD (fun W Fs R lF z9 => ?_) ?_
    ·rw [eS (l := [(5, _)]) ⟨z9 5 rfl, ⟨⟩⟩]
     refine qi (XOp.fieldE (j * 2) qV rfl qs (by decide) rfl rfl ?_)
     exact ⟨rfl, rfl⟩
    refine gD (fun W Fs R lF z9 => ?_) ?_
    ·replace har := har.mono lF
     replace ht := ht.mono lF
     replace ha1 := ha1.mono lF
     replace hr1 := Rd.monoA hr1 lF
     rw [eS (l := [(6, _)]) ⟨z9 6 rfl, ⟨⟩⟩]
     refine qi (qj qU rfl (hr1 _) ?_)
     exact ⟨rfl, rfl⟩
    refine gD (fun W Fs R lF z9 => ?_) ?_
    ·refine qi (ql (0) qJ rfl qF (by decide) rfl rfl ?_)
     exact ⟨rfl, rfl⟩
    refine gD (fun W Fs R lF z9 => ?_) ?_
    ·replace har := har.mono lF
     replace ht := ht.mono lF
     replace ha1 := ha1.mono lF
     rw [eS (l := [(8, _)]) ⟨z9 8 rfl, ⟨⟩⟩]
     refine qi (qr [arv] qX qF rfl rfl (Rd.ownN [] rfl rfl) ?_)
     exact ⟨rfl, rfl⟩
    refine gD (fun W Fs R lF z9 => ?_) ?_
    ·refine qi (qp (tv) rfl ?_)
     exact ⟨rfl, rfl⟩
    refine gD (fun W Fs R lF z9 => ?_) ?_
    ·refine qi (qp (ii ((k : Int))) rfl ?_)
     exact ⟨rfl, rfl⟩
    refine gD (fun W Fs R lF z9 => ?_) ?_
    ·replace har := har.mono lF
     replace ht := ht.mono lF
     replace ha1 := ha1.mono lF
     rw [eS (l := [(9, _), (10, _), (11, _)]) ⟨z9 9 rfl, z9 10 rfl, z9 11 rfl, ⟨⟩⟩]
     refine qi (jZ <| qm (args := [.agg #[arv], tv, ii (k : Int)]) call150 rfl (l1Sub_spec (p := k) har ht (ho := (by first | assumption | rfl | omega | simp)) (hp := (by first | assumption | rfl | omega | simp))) ?_)
     rintro v2 _ _ _ ⟨rfl, hs2, rfl⟩
     refine ⟨_, _, rfl, fun F2 le2 hz1 => ?_⟩
     replace har := har.mono le2
     replace ha1 := ha1.mono le2
     have hf1 : IntsF F2 v2 ((sub ar t k)) := intsH.fz (xs := (sub ar t k)) hz1.fz
     exact ⟨⟨rfl, hf1⟩, rfl⟩
    refine gD (fun W Fs R lF z9 => ?_) ?_
    ·obtain ⟨e12, f12_1ha⟩ := z9 12 rfl
     replace har := har.mono lF
     replace ha1 := ha1.mono lF
     rw [eS (l := [(1, _), (7, _), (12, ((W 12)))]) ⟨z9 1 rfl, z9 7 rfl, (e12).symm, ⟨⟩⟩]
     refine qi (qm (args := [.agg #[arv], a1, ((W 12))]) call216 rfl (l4Match_spec har ha1 f12_1ha (ho := (sub_ok ho (by omega))) (hpo := ((ruleOk_iff.1 ((sysOk_iff.1 hsys).2.2 j (by omega))).left))) ?_)
     rintro _ F3 _ le3 ⟨x2, rfl, hr4, rfl⟩
     replace har := har.mono le3
     replace f12_1ha := f12_1ha.mono le3
     exact ⟨⟨rfl, hr4⟩, rfl⟩
    refine gD (fun W Fs R lF z9 => ?_) ?_
    ·obtain ⟨e13, f13_1hr⟩ := z9 13 rfl
     rw [eS (l := [(13, (.tuple #[.agg #[((aggAt (tupAt (W 13) 0) 0))], .bool ((matchB ar ((rs.getD j ([], [])).1) ((sub ar t k))).isSome)]))]) ⟨(e13).symm, ⟨⟩⟩]
     refine qi (qp (.tuple #[.agg #[((aggAt (tupAt (W 13) 0) 0))], .bool ((matchB ar ((rs.getD j ([], [])).1) ((sub ar t k))).isSome)]) rfl ?_)
     exact ⟨rfl, rfl⟩
    refine gD (fun W Fs R lF z9 => ?_) ?_
    ·obtain ⟨e13, f13_1hr⟩ := z9 13 rfl
     have e14 : W 14 = (.tuple #[.agg #[((aggAt (tupAt (W 13) 0) 0))], .bool ((matchB ar ((rs.getD j ([], [])).1) ((sub ar t k))).isSome)] : Value) := z9 14 rfl
     rw [eS (l := [(13, (.tuple #[.agg #[((aggAt (tupAt (W 13) 0) 0))], .bool ((matchB ar ((rs.getD j ([], [])).1) ((sub ar t k))).isSome)])), (14, (.tuple #[.agg #[((aggAt (tupAt (W 13) 0) 0))], .bool ((matchB ar ((rs.getD j ([], [])).1) ((sub ar t k))).isSome)]))]) ⟨(e13).symm, e14, ⟨⟩⟩]
     refine qi (je (.agg #[((aggAt (tupAt (W 13) 0) 0))]) rfl rfl ?_)
     exact ⟨rfl, rfl⟩
    refine gD (fun W Fs R lF z9 => ?_) ?_
    ·obtain ⟨e13, f13_1hr⟩ := z9 13 rfl
     have e14 : W 14 = (.tuple #[.agg #[((aggAt (tupAt (W 13) 0) 0))], .bool ((matchB ar ((rs.getD j ([], [])).1) ((sub ar t k))).isSome)] : Value) := z9 14 rfl
     rw [eS (l := [(13, (.tuple #[.agg #[((aggAt (tupAt (W 13) 0) 0))], .bool ((matchB ar ((rs.getD j ([], [])).1) ((sub ar t k))).isSome)])), (14, (.tuple #[.agg #[((aggAt (tupAt (W 13) 0) 0))], .bool ((matchB ar ((rs.getD j ([], [])).1) ((sub ar t k))).isSome)]))]) ⟨(e13).symm, e14, ⟨⟩⟩]
     refine qi (je (.bool ((matchB ar ((rs.getD j ([], [])).1) ((sub ar t k))).isSome)) rfl rfl ?_)
     exact ⟨rfl, rfl⟩
    refine gD (fun W Fs R lF z9 => ?_) ?_
    ·replace har := har.mono lF
     refine qi (ji [sN] jB rfl ?_)
     intro b3
     exact ⟨rfl, rfl⟩
    refine gD (fun W Fs R lF z9 => ?_) ?_
    ·obtain ⟨e13, f13_1hr⟩ := z9 13 rfl
     have e15 : W 15 = (.agg #[((aggAt (tupAt (W 13) 0) 0))] : Value) := z9 15 rfl
     have e17 : W 17 = ptr (blk (W 17)) 0 := z9 17 rfl
     rw [eS (l := [(13, (.tuple #[.agg #[((aggAt (tupAt (W 13) 0) 0))], .bool ((matchB ar ((rs.getD j ([], [])).1) ((sub ar t k))).isSome)])), (15, (.agg #[((aggAt (tupAt (W 13) 0) 0))])), (17, ptr (blk (W 17)) 0)]) ⟨(e13).symm, e15, e17, ⟨⟩⟩]
     show XG _ _ _ _ _ (cellsH (blk (W 17)) [sN] 137 :: ([cellsH b1 [arv, rsv] 39] ++ R)) _
     refine qi (qL [] _ [((aggAt (tupAt (W 13) 0) 0))] jo rfl rfl rfl (qn (qG (RowsF.isSl f13_1hr)) qO) rfl rfl rfl ?_)
     exact ⟨trivial, rfl⟩
    exact stepsG.nil
   intro W F4 le4 hphi
   obtain ⟨e12, f12_1ha⟩ := hphi 12 (by decide)
   obtain ⟨e13, f13_1hr⟩ := hphi 13 (by decide)
   have e14 : W 14 = (.tuple #[.agg #[((aggAt (tupAt (W 13) 0) 0))], .bool ((matchB ar ((rs.getD j ([], [])).1) ((sub ar t k))).isSome)] : Value) := hphi 14 (by decide)
   have e15 : W 15 = (.agg #[((aggAt (tupAt (W 13) 0) 0))] : Value) := hphi 15 (by decide)
   have e17 : W 17 = ptr (blk (W 17)) 0 := hphi 17 (by decide)
   generalize hu1 : ((W 12)) = u1 at e12 f12_1ha e13 f13_1hr e14 e15 e17
   generalize hu2 : ((aggAt (tupAt (W 13) 0) 0)) = u2 at e12 f12_1ha e13 f13_1hr e14 e15 e17
   generalize hu3 : blk (W 17) = b4 at e12 f12_1ha e13 f13_1hr e14 e15 e17
   rw [eS (l := [(13, (.tuple #[.agg #[u2], .bool ((matchB ar ((rs.getD j ([], [])).1) ((sub ar t k))).isSome)])), (16, _), (17, ptr b4 0)]) ⟨(e13).symm, (hphi 16 (by decide)), e17, ⟨⟩⟩]
   show XL _ _ _ _ _ _ _ (cellsH b4 [u2] 137 :: cellsH b1 [arv, rsv] 39 :: L)
   refine qg (.bool ((matchB ar ((rs.getD j ([], [])).1) ((sub ar t k))).isSome)) rfl (qb (qc (qa (qd (.bool ((matchB ar ((rs.getD j ([], [])).1) ((sub ar t k))).isSome)) rfl (qb ?_)))))
   refine jz (t := (matchB ar ((rs.getD j ([], [])).1) ((sub ar t k))).isSome) rfl (fun h3 => ?_) (fun h3 => ?_)
   ·refine qa (qd (ii (((cntP ar rs t k + cntR ar rs t k j : Nat) : Int))) rfl (cX (qH ((((cntP ar rs t k + cntR ar rs t k j) + 1 : Nat) : Int)) rfl rfl (by omega) (by omega) (qg (ii ((((cntP ar rs t k + cntR ar rs t k j) + 1 : Nat) : Int))) rfl (qb (qa (qd (ii ((j : Int))) rfl (cX (qH (((j + 1 : Nat) : Int)) rfl rfl (by omega) (by omega) (qg (ii (((j + 1 : Nat) : Int))) rfl (qb ?_)))))))))))
    exact ⟨j + 1, _, FLe.refl _, le4, ⟨rfl, rfl, (congrArg (fun z : Nat => Value.int .i64 (z : Int)) (by first | exact cntR_yes (by unfold isRedex; assumption) | exact cntR_no (by unfold isRedex; assumption))), rfl, rfl, ⟨⟩⟩, (sD (sC sR)), ⟨rfl, (by omega)⟩, (by omega)⟩
   refine qw (qa (qd (ii ((j : Int))) rfl (cX (qH (((j + 1 : Nat) : Int)) rfl rfl (by omega) (by omega) (qg (ii (((j + 1 : Nat) : Int))) rfl (qb ?_))))))
   exact ⟨j + 1, _, FLe.refl _, le4, ⟨rfl, rfl, (congrArg (fun z : Nat => Value.int .i64 (z : Int)) (by first | exact cntR_yes (by unfold isRedex; assumption) | exact cntR_no (by unfold isRedex; assumption))), rfl, rfl, ⟨⟩⟩, (sD (sC sR)), ⟨rfl, (by omega)⟩, (by omega)⟩
  refine jk (qt (qt (qM (qa (qd (ii ((k : Int))) rfl (cX (qH (((k + 1 : Nat) : Int)) rfl rfl (by omega) (by omega) (qg (ii (((k + 1 : Nat) : Int))) rfl (qb ?_)))))))))
  exact ⟨k + 1, _, FLe.refl _, rF, ⟨rfl, rfl, (congrArg (fun z : Nat => Value.int .i64 (z : Int)) (cntP_succ (by omega))), rfl, ⟨⟩⟩, (sC sR), ⟨rfl, (by omega)⟩, (by omega)⟩
 refine jk (qt (qt (qM (qc (qa (qd (ii (((cntP ar rs t k : Nat) : Int))) rfl (qg (ii (((cntP ar rs t k : Nat) : Int))) rfl (qb (qu (qq (L' := L) [ii (((cntP ar rs t k : Nat) : Int))] (ii (((cntP ar rs t k : Nat) : Int))) (.tmp rfl .nil) rfl rF rF (sD sR) ?_))))))))))
 exact ⟨(vI (by rw [show k = t.length from by omega])), rfl, rfl⟩

/- spec.NormalIn -/
theorem sNormalIn_spec {F : FH} {L : List HP} {arv : Value} {ar : List Int} (har : IntsF F arv ar) {rsv : Value} {rs : List (List Int × List Int)} (hrs : PairsF F rsv rs) {tv : Value} {t : List Int} (ht : IntsF F tv t) (hla : ar.length ≤ 4000000) (hlr : rs.length ≤ 4000000) (hrb : ∀ i, i < rs.length → (rs.getD i ([], [])).1.length ≤ 4000000 ∧ (rs.getD i ([], [])).2.length ≤ 4000000) (hlt : t.length ≤ 4000000) :
    Does prog 134 [.agg #[arv, rsv], tv] F (L) (fun v F' L' => (.bool ((rightB ar rs t && normalL ar rs t)) : Value) = v ∧ F = F' ∧ L = L') := by
 refine qI func134 rfl rfl rfl (qc (qa (cX (jc [arv, rsv] rfl rfl ?_))))
 intro b1
 refine qg (.bool (false)) rfl (qb (qc (qa (cX (qr [arv, rsv] ja qP rfl rfl (Rd.ownN [] rfl rfl) (qd (tv) rfl (cX (qm (args := [.agg #[arv, rsv], tv]) call107 rfl (l7Right_spec har hrs ht (hla := (by first | assumption | rfl | omega | simp)) (hlr := (by first | assumption | rfl | omega | simp)) (hrb := (by first | assumption | rfl | omega | simp)) (hlt := (by first | assumption | rfl | omega | simp))) ?_))))))))
 rintro _ _ _ _ ⟨rfl, rfl, rfl⟩
 refine qd (.bool (rightB ar rs t)) rfl ?_
 by_cases h1 : (rightB ar rs t) = true
 ·have hsys := (right_iff.1 h1).1
  have ho := (right_iff.1 h1).2
  refine qy (t := 8) rfl (vB h1) (qr [arv, rsv] ja qP rfl rfl (Rd.ownN [] rfl rfl) (qy (t := 8) rfl (vB h1) (qp (tv) rfl (qy (t := 8) rfl (vB h1) (qm (args := [.agg #[arv, rsv], tv]) call244 rfl (l7Redexes_spec har hrs ht (hsys := (by first | assumption | rfl | omega | simp)) (ho := (by first | assumption | rfl | omega | simp))) ?_)))))
  rintro _ _ _ _ ⟨rfl, rfl, rfl⟩
  refine qy (t := 8) rfl (vB h1) (js rfl rfl (cX (jj (.bool (decide ((((cntP ar rs t t.length : Nat) : Int) : Int) = 0))) (vB h1) rfl (qg (.bool (decide ((((cntP ar rs t t.length : Nat) : Int) : Int) = 0))) rfl (qb (qu (qq (L' := L) [.bool (decide ((((cntP ar rs t t.length : Nat) : Int) : Int) = 0))] (.bool (decide ((((cntP ar rs t t.length : Nat) : Int) : Int) = 0))) (.tmp rfl .nil) rfl rF rF (sD sR) ?_)))))))
  exact ⟨(vB (by rw [normal_cnt]; simp_all)), rfl, rfl⟩
 rw [Bool.not_eq_true] at h1
 refine qx (t := 8) rfl (vB h1) (qx (t := 8) rfl (vB h1) (qx (t := 8) rfl (vB h1) (qx (t := 8) rfl (vB h1) (cX (qY (.bool (false)) (vB h1) rfl (qg (.bool (false)) rfl (qb (qu (qq (L' := L) [.bool (false)] (.bool (false)) (.tmp rfl .nil) rfl rF rF (sD sR) ?_)))))))))
 exact ⟨(vB (by simp_all)), rfl, rfl⟩

/- laws.big -/
theorem big_spec {F : FH} {L : List HP} {bsv : Value} {bs : List Int} (hbs : BytesF F bsv bs) :
    Does prog 26 [bsv] F (L) (fun v F' L' => (.bool (decide ((bs.length : Int) > 4096)) : Value) = v ∧ F = F' ∧ L = L') := by
 refine qI func26 rfl rfl rfl (qc (qa (qg (.bool (false)) rfl (qb (qc (qa (qd (bsv) rfl (cX (qE runUnderlying60 rfl hbs.slv (cX (jI rfl rfl (qg (.bool (decide (((bs.length : Int) : Int) > 4096))) rfl (qb (qu (qq (L' := L) [.bool (decide (((bs.length : Int) : Int) > 4096))] (.bool (decide (((bs.length : Int) : Int) > 4096))) (.tmp rfl .nil) rfl rF rF sR ?_)))))))))))))))
 exact ⟨rfl, rfl, rfl⟩


/- impl.redexSteps -/
theorem redexSteps_spec {F : FH} {L : List HP} {arv : Value} {ar : List Int} (har : IntsF F arv ar) {rsv : Value} {rs : List (List Int × List Int)} (hrs : PairsF F rsv rs) {tv : Value} {t : List Int} (ht : IntsF F tv t) :
    Does prog 315 [.agg #[arv, rsv], tv] F (L) (fun v F' L' => ∃ (bt bs : Nat), (.func (.func 361) #[] #[ptr bt 0, ptr bs 0] : Value) = v ∧ FzC F' bt [tv] ∧ FzC F' bs [arv, rsv] ∧ L = L') := by
 refine qI func315 rfl rfl rfl (qc (qa (cX (jc [arv, rsv] rfl rfl ?_))))
 intro b1
 refine cX (jc [tv] rfl (cells_one (qz ht)) ?_)
 intro b2
 refine qg (.nilFunc) rfl (qb (qc (qa (cX (ya [] [ptr b2 0, ptr b1 0] rfl rfl (qg (.func (.func 361) #[] #[ptr b2 0, ptr b1 0]) rfl (qb (X.freeze [] _ _ rfl (fun F1 le1 hz1 => ?_)))))))))
 have hf1 : FzC F1 b2 [tv] := Fz.cells hz1
 refine X.freeze [] _ _ rfl (fun F2 le2 hz2 => ?_)
 replace hf1 := hf1.mono le2
 have hf2 : FzC F2 b1 [arv, rsv] := Fz.cells hz2
 refine qu (qq (L' := L) [.func (.func 361) #[] #[ptr b2 0, ptr b1 0]] (.func (.func 361) #[] #[ptr b2 0, ptr b1 0]) (.tmp rfl .nil) rfl (qh le1 le2) rF sR ?_)
 exact ⟨_, _, rfl, hf1, hf2, rfl⟩

/- impl.redexSteps$1 -/
theorem redexIt_spec {F : FH} {L : List HP} {l bo bl bt bs : Nat} {R : Loop} {arv : Value} {ar : List Int} (har : IntsF F arv ar) {rsv : Value} {rs : List (List Int × List Int)} (hrs : PairsF F rsv rs) {tv : Value} {t : List Int} (ht : IntsF F tv t) (hbt : FzC F bt [tv]) (hbs : FzC F bs [arv, rsv]) (hsys : sysOk ar rs = true) (ho : termOk ar t = true) (hyes : ∀ (Fy : FH) (sv : Value) (ss : List StepT) (cs : List Value) (m : Nat) (lb : Bool) (i j : Int) (tov : Value) (to : List Int), F ≤ Fy → IsSl sv → StepsC Fy cs ss → m = ss.length → ss.length ≤ 4000000 → IntsF Fy tov to → Yld prog l [.agg #[.int .i64 i, .int .i64 j, tov], .bool true] Fy (objH l (.loop R) :: cellsH bo [sv] 43 :: slH 192 3 sv m cs :: cellsH bl [.bool (lb)] 4 :: L) (fun v F' L' => .bool true = v ∧ Fy = F' ∧ ∃ sw, IsSl sw ∧ objH l (.loop R) :: cellsH bo [sw] 43 :: slH 192 3 sw (m + 1) (cs ++ [.int .i64 i, .int .i64 j, tov]) :: cellsH bl [.bool (lb)] 4 :: L = L')) (hno : ∀ (Fy : FH) (sv : Value) (cs : List Value) (m : Nat) (lb : Bool) (i j : Int) (tov : Value), F ≤ Fy → IsSl sv → IsSl tov → Yld prog l [.agg #[.int .i64 i, .int .i64 j, tov], .bool false] Fy (objH l (.loop R) :: cellsH bo [sv] 43 :: slH 192 3 sv m cs :: cellsH bl [.bool (lb)] 4 :: L) (fun v F' L' => .bool true = v ∧ Fy = F' ∧ objH l (.loop R) :: cellsH bo [sv] 43 :: slH 192 3 sv m cs :: cellsH bl [.bool (true)] 4 :: L = L')) :
    Does prog 361 [(.func (.yield l) #[] #[]), ptr bt 0, ptr bs 0] F (objH l (.loop R) :: cellsH bo [sN] 43 :: cellsH bl [.bool (false)] 4 :: L) (fun v F' L' => ∃ (sv : Value) (cs : List Value) (Ls : List HP), IsSl sv ∧ StepsC F' cs (stepsL ar rs t) ∧ DeepL 3 (StepO 2) cs (stepsL ar rs t) Ls ∧ Fresh F F' (star Ls) ∧ objH l (.loop R) :: cellsH bo [sv] 43 :: slH 192 3 sv ((stepsL ar rs t).length) cs :: cellsH bl [.bool (longL ar rs t)] 4 :: L = L') := by
 refine qI func361 rfl rfl rfl ?_
 have hnn := jt ht (by have := termOk_len ho; omega)
 have htl := termOk_len ho
 have hrl := (sysOk_iff.1 hsys).2.1
 have hsig := (sysOk_iff.1 hsys).1
 have hsl := sigOk_spec hsig
 refine qc (qa (cX (qj qU rfl (FzC.rd1 hbt rfl) (cX (qE qf rfl ht.slv (qd (ii (0)) rfl (qb (qK (jl (α := Nat × Value × List StepT × List Value × List HP × Nat × Bool × FH) (fun xQ => [(0, (.func (.yield l) #[] #[])), (1, ptr bt 0), (2, ptr bs 0), (9, tv), (10, ii ((t.length : Int))), (11, ii (((xQ.1 : Nat) : Int)))]) (fun xQ => slH 192 3 xQ.2.1 xQ.2.2.2.2.2.1 xQ.2.2.2.1 :: objH l (.loop R) :: cellsH bo [xQ.2.1] 43 :: cellsH bl [.bool (xQ.2.2.2.2.2.2.1)] 4 :: L) (fun xQ F' => xQ.2.2.2.2.2.2.2 = F' ∧ F ≤ xQ.2.2.2.2.2.2.2 ∧ (xQ.1 ≤ t.length) ∧ (IsSl xQ.2.1) ∧ (StepsC xQ.2.2.2.2.2.2.2 xQ.2.2.2.1 xQ.2.2.1) ∧ (xQ.2.2.2.2.2.1 = xQ.2.2.1.length) ∧ (DeepL 3 (StepO 2) xQ.2.2.2.1 xQ.2.2.1 xQ.2.2.2.2.1) ∧ (Fresh F xQ.2.2.2.2.2.2.2 (star xQ.2.2.2.2.1)) ∧ (xQ.2.2.1 = stepsTo ar rs t xQ.1) ∧ (xQ.2.2.2.2.2.2.1 = longTo ar rs t xQ.1)) (fun xQ => t.length - xQ.1) (0, sN, [], [], [], 0, false, F) ⟨rfl, rfl, rfl, rfl, rfl, rfl, ⟨⟩⟩ (qR (Sub.addNil 192 3 _ _) (sC (sC (sC (sC sR))))) ⟨rfl, FLe.refl _, (by (try dsimp only) <;> omega), (⟨_, _, _, rfl⟩), (CO.nil), (rfl), (DeepL.nil), (Fresh.nilL), (rfl), (rfl)⟩ ?_)))))))))
 rintro ⟨k, sv, ss, cs, Ls, m, lb, G1⟩ rE _ _ ⟨rfl, leG, hk, hsv, hC, hm, hD, hZ, hss, hlb⟩
 show X _ _ _ _ (envs [(0, (.func (.yield l) #[] #[])), (1, ptr bt 0), (2, ptr bs 0), (9, tv), (10, ii ((t.length : Int))), (11, ii ((k : Int)))] rE) _ (slH 192 3 sv m cs :: objH l (.loop R) :: cellsH bo [sv] 43 :: cellsH bl [.bool (lb)] 4 :: L)
 replace leG : F ≤ G1 := leG
 dsimp only at hk hsv hC hm hD hZ hss hlb
 have hsl1 := stepsTo_len (ar := ar) (t := t) (rs := rs) hrl k
 have hZo := hZ
 have hss0 := hss
 have hlb0 := hlb
 have leG1 := leG
 replace har := har.mono leG1
 replace hrs := hrs.mono leG1
 replace ht := ht.mono leG1
 replace hbt := hbt.mono leG1
 replace hbs := hbs.mono leG1
 refine qc (qa (cX (qW rfl rfl (qb (qc ?_)))))
 refine qA (p := (k : Int) < (t.length : Int)) rfl (fun h1 => ?_) (fun h1 => ?_)
 ·refine qw (qc (qK (qc (qa (qd (ii ((k : Int))) rfl (cX (qD k qf qB rfl rfl rfl ht.slv (by omega) (Nat.mul_one _) (cX (qj jm rfl (ht.rd (by omega)) (qg (ii ((k : Int))) rfl (qg (ii (t.getD k 0)) rfl (qb (qc (qa (cX (ql (1) qJ rfl jw (by decide) rfl rfl (cX (qj yb rfl (FzC.rd1 hbs rfl) (cX (qE jd rfl hrs.slv ?_))))))))))))))))))))
  refine qd (ii (0)) rfl (qb (qK (jl (α := Nat × Value × List StepT × List Value × List HP × Nat × Bool × FH) (fun xQ => [(0, (.func (.yield l) #[] #[])), (1, ptr bt 0), (2, ptr bs 0), (4, ii ((k : Int))), (5, ii (t.getD k 0)), (9, tv), (10, ii ((t.length : Int))), (11, ii ((k : Int))), (18, ii ((rs.length : Int))), (19, ii (((xQ.1 : Nat) : Int)))]) (fun xQ => slH 192 3 xQ.2.1 xQ.2.2.2.2.2.1 xQ.2.2.2.1 :: objH l (.loop R) :: cellsH bo [xQ.2.1] 43 :: cellsH bl [.bool (xQ.2.2.2.2.2.2.1)] 4 :: L) (fun xQ F' => xQ.2.2.2.2.2.2.2 = F' ∧ G1 ≤ xQ.2.2.2.2.2.2.2 ∧ (xQ.1 ≤ rs.length) ∧ (IsSl xQ.2.1) ∧ (StepsC xQ.2.2.2.2.2.2.2 xQ.2.2.2.1 xQ.2.2.1) ∧ (xQ.2.2.2.2.2.1 = xQ.2.2.1.length) ∧ (DeepL 3 (StepO 2) xQ.2.2.2.1 xQ.2.2.1 xQ.2.2.2.2.1) ∧ (Fresh F xQ.2.2.2.2.2.2.2 (star xQ.2.2.2.2.1)) ∧ (xQ.2.2.1 = stepsTo ar rs t k ++ stepsRow ar rs t k xQ.1) ∧ (xQ.2.2.2.2.2.2.1 = (longTo ar rs t k || longRow ar rs t k xQ.1))) (fun xQ => rs.length - xQ.1) (0, sv, ss, cs, Ls, m, lb, G1) ⟨rfl, rfl, rfl, rfl, rfl, rfl, rfl, rfl, rfl, rfl, ⟨⟩⟩ (sC (sC (sC (sC sR)))) ⟨rfl, FLe.refl _, (by (try dsimp only) <;> omega), (hsv), (hC), (hm), (hD), (hZ), (by (try dsimp only); rw [hss0]; simp [stepsRow]), (by (try dsimp only); rw [hlb0]; simp [longRow])⟩ ?_)))
  rintro ⟨r, sv, ss, cs, Ls, m, lb, G2⟩ rE _ _ ⟨rfl, leG, hr, hsvi, hCi, hmi, hDi, hZi, hssi, hlbi⟩
  show X _ _ _ _ (envs [(0, (.func (.yield l) #[] #[])), (1, ptr bt 0), (2, ptr bs 0), (4, ii ((k : Int))), (5, ii (t.getD k 0)), (9, tv), (10, ii ((t.length : Int))), (11, ii ((k : Int))), (18, ii ((rs.length : Int))), (19, ii ((r : Int)))] rE) _ (slH 192 3 sv m cs :: objH l (.loop R) :: cellsH bo [sv] 43 :: cellsH bl [.bool (lb)] 4 :: L)
  replace leG : G1 ≤ G2 := leG
  dsimp only at hr hsvi hCi hmi hDi hZi hssi hlbi
  have hsl2 := stepsRow_len (ar := ar) (rs := rs) (t := t) (p := k) r
  have hssl : ss.length ≤ 1000 := by rw [hssi, List.length_append]; omega
  have leG2 := leG
  replace har := har.mono leG2
  replace hrs := hrs.mono leG2
  replace ht := ht.mono leG2
  replace hbt := hbt.mono leG2
  replace hbs := hbs.mono leG2
  replace hC := hC.mono leG2
  refine qc (qa (cX (qW rfl rfl (qb (qc ?_)))))
  refine qA (p := (r : Int) < (rs.length : Int)) rfl (fun h2 => ?_) (fun h2 => ?_)
  ·refine qw (qc (qK (qc (qa (qd (ii ((r : Int))) rfl (qg (ii ((r : Int))) rfl (qb (qc (qc (qa (qd (ii (t.getD k 0)) rfl (cX (qW rfl rfl (qd (.bool (decide ((t.getD k 0 : Int) < 0))) rfl ?_))))))))))))))
   by_cases h3 : (t.getD k 0 : Int) < 0
   ·have hone := one_none (isRedex_var (p := k) (r := r) hsys ho (by omega) (by omega) (show r < rs.length by omega))
    refine qx (t := 24) rfl (vT h3) (qx (t := 24) rfl (vT h3) (qx (t := 24) rfl (vT h3) (qx (t := 24) rfl (vT h3) (qx (t := 24) rfl (vT h3) (qx (t := 24) rfl (vT h3) (cX (jj (.bool (true)) (vT h3) rfl (qb (yd rfl (jk (qt (qM ?_))))))))))))
    refine qa (cX (qH (((r + 1 : Nat) : Int)) rfl rfl (by omega) (by omega) (qd (ii (((r + 1 : Nat) : Int))) rfl (qb ?_))))
    exact ⟨(r + 1, sv, ss, cs, Ls, m, lb, G2), _, leG2, rF, ⟨rfl, rfl, rfl, rfl, rfl, rfl, rfl, rfl, rfl, rfl, ⟨⟩⟩, (sC (sC (sC (sC sR)))), ⟨rfl, leG2, (by (try dsimp only) <;> omega), (hsvi), (hCi), (by (try dsimp only); (try rw [List.length_append, List.length_singleton]); omega), (hDi), (hZi), (by (try dsimp only); rw [hssi, stepsRow_succ, hone.1]; simp), (by (try dsimp only); rw [longRow_succ, hone.2]; (try rw [hlbi]); simp)⟩, (by omega)⟩
   refine qy (t := 24) rfl (vF h3) (qr [arv, rsv] ja qP rfl rfl (FzC.rd hbs rfl) (qy (t := 24) rfl (vF h3) (qj qU rfl (FzC.rd1 hbt rfl) (qy (t := 24) rfl (vF h3) (qp (ii ((k : Int))) rfl (qy (t := 24) rfl (vF h3) (qp (ii ((r : Int))) rfl (qy (t := 24) rfl (vF h3) (qm (args := [.agg #[arv, rsv], tv, ii (k : Int), ii (r : Int)]) call320 rfl (redex_spec (p := k) (r := r) har hrs ht (hsys := (by first | assumption | rfl | omega | simp)) (ho := (by first | assumption | rfl | omega | simp)) (hp := (by first | assumption | rfl | omega | simp)) (hr := (by first | assumption | rfl | omega | simp))) ?_)))))))))
   rintro _ _ _ _ ⟨rfl, rfl, rfl⟩
   refine qy (t := 24) rfl (vF h3) (jE rfl (cX (qY (.bool (!(isRedex ar rs t k r))) (vF h3) rfl (qb ?_))))
   refine jz (t := !(isRedex ar rs t k r)) rfl (fun h4 => ?_) (fun h4 => ?_)
   ·have hone := one_none (show isRedex ar rs t k r = false by simpa using h4)
    refine jk (qt (qM (qa (cX (qH (((r + 1 : Nat) : Int)) rfl rfl (by omega) (by omega) (qd (ii (((r + 1 : Nat) : Int))) rfl (qb ?_)))))))
    exact ⟨(r + 1, sv, ss, cs, Ls, m, lb, G2), _, leG2, rF, ⟨rfl, rfl, rfl, rfl, rfl, rfl, rfl, rfl, rfl, rfl, ⟨⟩⟩, (sC (sC (sC (sC sR)))), ⟨rfl, leG2, (by (try dsimp only) <;> omega), (hsvi), (hCi), (by (try dsimp only); (try rw [List.length_append, List.length_singleton]); omega), (hDi), (hZi), (by (try dsimp only); rw [hssi, stepsRow_succ, hone.1]; simp), (by (try dsimp only); rw [longRow_succ, hone.2]; (try rw [hlbi]); simp)⟩, (by omega)⟩
   have hrx : isRedex ar rs t k r = true := by simpa using h4
   refine qw (qc (qa (cX (qr [arv, rsv] ja qP rfl rfl (FzC.rd hbs rfl) (cX (qj qU rfl (FzC.rd1 hbt rfl) (qd (ii ((k : Int))) rfl (qd (ii ((r : Int))) rfl (cX (qm (args := [.agg #[arv, rsv], tv, ii (k : Int), ii (r : Int)]) call249 rfl (step_spec (p := k) (r := r) har hrs ht (hsys := (by first | assumption | rfl | omega | simp)) (ho := (by first | assumption | rfl | omega | simp)) (hp := (by first | assumption | rfl | omega | simp)) (hr := (by first | assumption | rfl | omega | simp))) ?_))))))))))
   rintro _ F1 _ le1 ⟨x1, rfl, hr1, hr2, hr3, rfl⟩
   replace hC := hC.mono le1
   replace hCi := hCi.mono le1
   refine qd (.tuple #[x1, .bool ((stepL ar rs t k r).isSome)]) rfl (cX (je (x1) rfl rfl (cX (je (.bool ((stepL ar rs t k r).isSome)) rfl rfl (qg (x1) rfl (qg (.bool ((stepL ar rs t k r).isSome)) rfl (qb (qc (X.ofI (by kernel_rfl) (XI.region (jP (qp ((.func (.yield l) #[] #[])) rfl (jP (qp (ii ((k : Int))) rfl ?_))))))))))))))
   refine jP (qp (ii ((r : Int))) rfl (jP (qp (x1) rfl (jP (jh [ii ((k : Int)), ii ((r : Int)), x1] [ii (0), ii (0), sN] [(0, 1), (1, 1), (2, 1)] [(0, [ii ((k : Int))]), (1, [ii ((r : Int))]), (2, [x1])] jJ jX rfl (.cons rfl qB (.cons rfl qB (.cons rfl qs PlacesAre.nil))) rfl (.cons rfl (.cons rfl (.cons (cells_one (qz hr1)) CellsAre.nil))) (jP (qp (.bool ((stepL ar rs t k r).isSome)) rfl ?_)))))))
   by_cases h5 : ((stepL ar rs t k r).isSome) = true
   ·refine XIL.yield (k := l) (args := [.agg #[ii ((k : Int)), ii ((r : Int)), x1], .bool true]) rfl (by rw [← h5]; rfl) (Yld.weaken (qR (qZ (A := [_, _, _])) (qR (qZ (A := [_])) (qR (qZ (A := [_, _, _])) (qR (qZ (A := [_, _, _])) (sC (sC (sC (sC sR)))))))) ?_)
    have hone := one_some h5
    refine (hyes _ _ _ _ _ _ _ _ _ _ (qh (qh leG1 leG2) le1) hsvi hCi hmi (by omega) hr1).mono ?_
    rintro _ _ _ _ ⟨rfl, rfl, sw1, hs1, rfl⟩
    have hc1 := StepsC.snoc hCi (i := (k : Int)) (j := (r : Int)) hr1
    show XIL _ _ _ _ _ _ _ _ _ (objH l (.loop R) :: cellsH bo [sw1] 43 :: slH 192 3 sw1 (m + 1) ((cs ++ [ii ((k : Int)), ii ((r : Int)), x1])) :: cellsH bl [.bool (lb)] 4 :: L)
    refine jP (jE rfl (XIL.nil (X.condF rfl (qw (qa (cX (qH (((r + 1 : Nat) : Int)) rfl rfl (by omega) (by omega) (qd (ii (((r + 1 : Nat) : Int))) rfl (qb ?_)))))))))
    exact ⟨(r + 1, sw1, (ss ++ [((k : Int), (r : Int), (stepL ar rs t k r).getD [])]), (cs ++ [ii ((k : Int)), ii ((r : Int)), x1]), Ls ++ [intsH 2 x1 ((stepL ar rs t k r).getD [])], m + 1, lb, F1), _, (qh leG2 le1), rF, ⟨rfl, rfl, rfl, rfl, rfl, rfl, rfl, rfl, rfl, rfl, ⟨⟩⟩, (qR (qZ (A := [_, _, _])) (qR (qZ (A := [_, _])) (qR (qZ (A := [_, _])) (qR (qZ (A := [_, _, _])) (sC (sC (sC (sC sR)))))))), ⟨rfl, (qh leG2 le1), (by (try dsimp only) <;> omega), (hs1), (hc1), (by (try dsimp only); (try rw [List.length_append, List.length_singleton]); omega), (DeepL.snoc hDi rfl ⟨_, rfl, rfl⟩), ((Fresh.app hZi (qh leG1 leG2) (Fresh.one hr3) le1)), (by (try dsimp only); rw [hssi, stepsRow_succ, hone.1]; simp), (by (try dsimp only); rw [longRow_succ, hone.2]; (try rw [hlbi]); simp)⟩, (by omega)⟩
   rw [Bool.not_eq_true] at h5
   refine XIL.yield (k := l) (args := [.agg #[ii ((k : Int)), ii ((r : Int)), x1], .bool false]) rfl (by rw [← h5]; rfl) (Yld.weaken (qR (qZ (A := [_, _, _])) (qR (qZ (A := [_])) (qR (qZ (A := [_, _, _])) (qR (qZ (A := [_, _, _])) (sC (sC (sC (sC sR)))))))) ?_)
   have hone := one_long hrx h5
   refine (hno _ _ _ _ _ _ _ _ (qh (qh leG1 leG2) le1) hsvi (qz hr1)).mono ?_
   rintro _ _ _ _ ⟨rfl, rfl, rfl⟩
   show XIL _ _ _ _ _ _ _ _ _ (objH l (.loop R) :: cellsH bo [sv] 43 :: slH 192 3 sv m cs :: cellsH bl [.bool (true)] 4 :: L)
   refine jP (jE rfl (XIL.nil (X.condF rfl (qw (qa (cX (qH (((r + 1 : Nat) : Int)) rfl rfl (by omega) (by omega) (qd (ii (((r + 1 : Nat) : Int))) rfl (qb ?_)))))))))
   exact ⟨(r + 1, sv, ss, cs, Ls, m, true, F1), _, (qh leG2 le1), rF, ⟨rfl, rfl, rfl, rfl, rfl, rfl, rfl, rfl, rfl, rfl, ⟨⟩⟩, (qR (qZ (A := [_, _, _])) (qR (qZ (A := [_, _])) (qR (qZ (A := [_, _])) (qR (qZ (A := [_, _, _])) (sC (sC (sC (sC sR)))))))), ⟨rfl, (qh leG2 le1), (by (try dsimp only) <;> omega), (hsvi), (hCi), (by (try dsimp only); (try rw [List.length_append, List.length_singleton]); omega), (hDi), ((hZi.mono le1)), (by (try dsimp only); rw [hssi, stepsRow_succ, hone.1]; simp), (by (try dsimp only); rw [longRow_succ, hone.2]; (try rw [hlbi]); simp)⟩, (by omega)⟩
  refine jk (qt (qt (qM (qa (cX (qH (((k + 1 : Nat) : Int)) rfl rfl (by omega) (by omega) (qd (ii (((k + 1 : Nat) : Int))) rfl (qb ?_))))))))
  exact ⟨(k + 1, sv, ss, cs, Ls, m, lb, G2), _, (qh leG1 leG2), rF, ⟨rfl, rfl, rfl, rfl, rfl, rfl, ⟨⟩⟩, (sC (sC (sC (sC sR)))), ⟨rfl, (qh leG1 leG2), (by (try dsimp only) <;> omega), (hsvi), (hCi), (hmi), (hDi), (hZi), (by dsimp only; rw [hssi, stepsTo_succ, show r = rs.length from by omega]), (by dsimp only; rw [hlbi, longTo_succ, show r = rs.length from by omega])⟩, (by omega)⟩
 refine jk (qt (qt (qM (id (retEndN (L' := objH l (.loop R) :: cellsH bo [sv] 43 :: slH 192 3 sv m cs :: cellsH bl [.bool (lb)] 4 :: L) [] (.tuple #[]) (by exact .nil) rfl leG1 rF (qR (qZ (A := [_, _, _])) (qR (qZ (A := [_])) (qR (qZ (A := [_, _, _])) (qR (qZ (A := [_, _, _])) (sC (sC (sC (sC sR)))))))) ?_)))))
 have hkl : k = t.length := by omega
 have e1 : stepsL ar rs t = ss := by rw [hss, hkl]; rfl
 have e2 : longL ar rs t = lb := by rw [hlb, hkl]; rfl
 rw [e1, e2]
 subst hm
 exact ⟨sv, cs, Ls, hsv, hC, hD, hZ, rfl⟩

/- impl.stepsFrom -/
set_option maxRecDepth 20000 in
theorem stepsFrom_spec {F : FH} {L : List HP} {arv : Value} {ar : List Int} (har : IntsF F arv ar) {rsv : Value} {rs : List (List Int × List Int)} (hrs : PairsF F rsv rs) {tv : Value} {t : List Int} (ht : IntsF F tv t) (hsys : sysOk ar rs = true) (ho : termOk ar t = true) :
    Does prog 241 [.agg #[arv, rsv], tv] F (L) (fun v F' L' => ∃ (a : Value), (.tuple #[a, .bool (longL ar rs t)] : Value) = v ∧ FrStepsF F F' 2 a (stepsL ar rs t) ∧ L = L') := by
 refine Does.of_XF func241 rfl (by kernel_rfl) rfl ?_
 have hnn := jt ht (by have := termOk_len ho; omega)
 have htl := termOk_len ho
 have hrl := (sysOk_iff.1 hsys).2.1
 have hsig := (sysOk_iff.1 hsys).1
 have hsl := sigOk_spec hsig
 refine XF.seq (qa (cX (jc [arv, rsv] rfl rfl ?_)))
 intro b1
 refine qg (sN) rfl (qg (.bool (false)) rfl (qb (XF.seq (qa (cX (ji [sN] zeroValue43 rfl ?_))))))
 intro b2
 refine qb (XF.seq (qa (cX (ji [.bool (false)] zeroValue4 rfl ?_))))
 intro b3
 refine cX (jv [] _ [.bool (false)] sizeOf4 rfl rfl rfl rfl rfl rfl (qb (XF.ofR (XR.seq (qa (cX (qr [arv, rsv] ja qP rfl rfl (Rd.ownN [_, _] rfl rfl) (qd (tv) rfl (cX (qm (args := [.agg #[arv, rsv], tv]) call315 rfl (redexSteps_spec har hrs ht) ?_))))))))))
 rintro _ F1 _ le1 ⟨x1, x2, rfl, hb1, hb2, rfl⟩
 replace har := har.mono le1
 replace hrs := hrs.mono le1
 replace ht := ht.mono le1
 refine qb (XR.rangeB (gf := 361) (lb := [ptr x1 0, ptr x2 0]) rfl call361 (fun l D R hRs hRp hRps hRa hRb hRz hRg => ?_))
 have hR0 : ({ R with state := .ready, pending := none } : Loop) = R := by
  cases R
  simp only at hRs hRp
  subst hRs hRp
  rfl
 have hyes : ∀ (Fy : FH) (sv : Value) (ss : List StepT) (cs : List Value) (m : Nat) (lb : Bool) (i j : Int) (tov : Value) (to : List Int), F1 ≤ Fy → IsSl sv → StepsC Fy cs ss → m = ss.length → ss.length ≤ 4000000 → IntsF Fy tov to → Yld prog l [.agg #[.int .i64 i, .int .i64 j, tov], .bool true] Fy (objH l (.loop R) :: cellsH b2 [sv] 43 :: slH 192 3 sv m cs :: cellsH b3 [.bool (lb)] 4 :: objH D (.deferred (some [])) :: L) (fun v F' L' => .bool true = v ∧ Fy = F' ∧ ∃ sw, IsSl sw ∧ objH l (.loop R) :: cellsH b2 [sw] 43 :: slH 192 3 sw (m + 1) (cs ++ [.int .i64 i, .int .i64 j, tov]) :: cellsH b3 [.bool (lb)] 4 :: objH D (.deferred (some [])) :: L = L') := by
  intro Fy sv ss cs m lb i j tov to leF hsv hC hm hsb hto
  refine Yld.of_round hRs hRp hRps hRa hRb hRz hRg rfl (by kernel_rfl) (by kernel_rfl) (by kernel_rfl) (XI.slots [(13, .agg #[ii (i), ii (j), tov]), (14, .bool (true)), (6, ptr b2 0), (7, ptr b3 0)] ⟨rfl, rfl, rfl, rfl, ⟨⟩⟩ (fun rE => (XI.seq (XI.region (jP (ji [ii (0), ii (0), sN] jX rfl ?_))))))
  intro b4
  refine jP (qL [] _ [ii (i), ii (j), tov] jH rfl rfl rfl (qn rfl (qn rfl (qn (qG (qz hto)) qO))) rfl rfl rfl (XIL.nil (XI.region (jP (XOp.assign (.bool (true)) rfl (XIL.nil ?_))))))
  refine ⟨cellsH b4 [ii (i), ii (j), tov] 192 :: cellsH b2 [sv] 43 :: slH 192 3 sv m cs :: cellsH b3 [.bool (lb)] 4 :: objH D (.deferred (some [])) :: L, (qR (qZ (A := [_, _, _, _])) (qR (qZ (A := [_, _, _, _])) (qR (qZ (A := [_, _, _, _])) (qR (qZ (A := [_, _, _])) (qR (qZ (A := [_, _, _, _])) (sC (sC (sC (sC (sC sR)))))))))), ?_⟩
  refine XI.block (XI.seq (XI.region (jP (qp (.bool (true)) rfl (XIL.nil (XI.condT rfl (XI.region (jP (qj isAgg43 rfl (Rd.own [_, _] rfl rfl) (jP (qr [ii (i), ii (j), tov] isAgg192 jH rfl rfl (Rd.ownN [_] rfl rfl) (jP (qo (s := 3) [ii (i), ii (j), tov] [ii (0), ii (0), sN] [(0, [ii (i), ii (j), tov])] jp jH jX rfl (by decide) rfl (.cons rfl CellsAre.nil) rfl ?_)))))))))))))
  intro v1 hv1
  refine jP (jG (m := 1) (bytes := 40) (cs := cs) [_, _, _, _] _ [ii (i), ii (j), tov] jp typeInfo192 rfl rfl rfl rfl rfl rfl rfl (SlV.own [] rfl) rfl (Rd.lit [] rfl) (qn rfl (qn rfl (qn (qG (qz hto)) qO))) (by (try simp only [List.length_append, List.length_nil, List.length_cons, List.length_singleton]); omega) (by (try simp only [List.length_append, List.length_nil, List.length_cons, List.length_singleton]); omega) ?_)
  intro v2 hs1 hn1 hm1
  have hc1 := StepsC.snoc hC (i := i) (j := j) hto
  refine jP (jv [_, _, _] _ [v2] sizeOf43 rfl rfl (qG hs1) rfl rfl rfl (XIL.nil ?_))
  refine ⟨rfl, ?_⟩
  refine ⟨cellsH b2 [v2] 43 :: slH 192 3 v2 ((m) + 1) (cs ++ [ii (i), ii (j), tov]) :: cellsH b3 [.bool (lb)] 4 :: objH D (.deferred (some [])) :: L, (sD (sC (sD (sC (sC (sC sR)))))), ?_⟩
  rw [hR0]
  exact ⟨rfl, rfl, _, hs1, rfl⟩
 have hno : ∀ (Fy : FH) (sv : Value) (cs : List Value) (m : Nat) (lb : Bool) (i j : Int) (tov : Value), F1 ≤ Fy → IsSl sv → IsSl tov → Yld prog l [.agg #[.int .i64 i, .int .i64 j, tov], .bool false] Fy (objH l (.loop R) :: cellsH b2 [sv] 43 :: slH 192 3 sv m cs :: cellsH b3 [.bool (lb)] 4 :: objH D (.deferred (some [])) :: L) (fun v F' L' => .bool true = v ∧ Fy = F' ∧ objH l (.loop R) :: cellsH b2 [sv] 43 :: slH 192 3 sv m cs :: cellsH b3 [.bool (true)] 4 :: objH D (.deferred (some [])) :: L = L') := by
  intro Fy sv cs m lb i j tov leF hsv htv
  refine Yld.of_round hRs hRp hRps hRa hRb hRz hRg rfl (by kernel_rfl) (by kernel_rfl) (by kernel_rfl) (XI.slots [(13, .agg #[ii (i), ii (j), tov]), (14, .bool (false)), (6, ptr b2 0), (7, ptr b3 0)] ⟨rfl, rfl, rfl, rfl, ⟨⟩⟩ (fun rE => (XI.seq (XI.region (jP (ji [ii (0), ii (0), sN] jX rfl ?_))))))
  intro b5
  refine jP (qL [] _ [ii (i), ii (j), tov] jH rfl rfl rfl (qn rfl (qn rfl (qn (qG htv) qO))) rfl rfl rfl (XIL.nil (XI.region (jP (XOp.assign (.bool (false)) rfl (XIL.nil ?_))))))
  refine ⟨cellsH b5 [ii (i), ii (j), tov] 192 :: cellsH b2 [sv] 43 :: slH 192 3 sv m cs :: cellsH b3 [.bool (lb)] 4 :: objH D (.deferred (some [])) :: L, (qR (qZ (A := [_, _, _, _])) (qR (qZ (A := [_, _, _, _])) (qR (qZ (A := [_, _, _, _])) (qR (qZ (A := [_, _, _])) (qR (qZ (A := [_, _, _, _])) (sC (sC (sC (sC (sC sR)))))))))), ?_⟩
  refine XI.block (XI.seq (XI.region (jP (qp (.bool (false)) rfl (XIL.nil (XI.condF rfl (XI.region (jP (jv [_, _, _, _] _ [.bool (true)] sizeOf4 rfl rfl rfl rfl rfl rfl (XIL.nil ?_))))))))))
  refine ⟨rfl, ?_⟩
  refine ⟨cellsH b2 [sv] 43 :: slH 192 3 sv m cs :: cellsH b3 [.bool (true)] 4 :: objH D (.deferred (some [])) :: L, (sC (sD (sC (sC (sC sR))))), ?_⟩
  rw [hR0]
  exact ⟨rfl, rfl, rfl⟩
 refine (Does.weaken (qR (qZ (A := [_])) (qR (qZ (A := [_, _])) (qR (qZ (A := [_, _, _])) (qR (qZ (A := [_, _, _])) (sC (sC (sC (sC (sD sR))))))))) (redexIt_spec har hrs ht hb1 hb2 hsys ho hyes hno)).mono ?_
 rintro _ F9 _ le9 ⟨sv, cs, Ls, hsv, hC, hD, hZ, rfl⟩
 refine ⟨R, cellsH b2 [sv] 43 :: slH 192 3 sv ((stepsL ar rs t).length) cs :: cellsH b3 [.bool (longL ar rs t)] 4 :: L, by rw [hRs]; simp, hRp, (qR (qZ (A := [_, _, _])) (qR (qZ (A := [_, _, _])) (qR (qZ (A := [_, _, _])) (qR (qZ (A := [_, _, _, _])) (qR (qZ (A := [_, _, _, _])) (sC (sC (sC (sC (sC sR)))))))))), ?_⟩
 refine XI.seq ?_
 refine XI.draw [objH D (.deferred (some [])), cellsH b2 [sv] 43, slH 192 3 sv ((stepsL ar rs t).length) cs, cellsH b3 [.bool (longL ar rs t)] 4] L 3 [] [[], [], [0]] (phiL [qe sv, qe (.bool (longL ar rs t)), qe sv]) (ownL []) mixed rfl rfl (by kernel_rfl) ?_ ?_
 ·refine pD (fun W R z9 => ?_) ?_
  ·refine qi (qj isAgg43 rfl (Rd.own [_] rfl rfl) ?_)
   exact ⟨rfl, rfl, rfl⟩
  refine pD (fun W R z9 => ?_) ?_
  ·refine qi (qj isAgg4 rfl (Rd.own [_, _, _] rfl rfl) ?_)
   exact ⟨rfl, rfl, rfl⟩
  refine pD (fun W R z9 => ?_) ?_
  ·rw [eS (l := [(0, _)]) ⟨z9 0 rfl, ⟨⟩⟩]
   refine qi (XOp.assign (sv) rfl ?_)
   exact ⟨rfl, rfl, rfl⟩
  exact stepsP.nil
 intro W hphi
 rw [eS (l := [(1, _), (2, _)]) ⟨(hphi 1 (by decide)), (hphi 2 (by decide)), ⟨⟩⟩]
 show XIL _ _ _ _ _ _ _ _ _ (objH D (.deferred (some [])) :: cellsH b2 [sv] 43 :: slH 192 3 sv ((stepsL ar rs t).length) cs :: cellsH b3 [.bool (longL ar rs t)] 4 :: L)
 refine jP (XOp.assign (.bool (longL ar rs t)) rfl (XIL.nil (XI.freezeF [_, _] _ _ rfl (fun F2 le2 hz1 => ?_))))
 replace hC := hC.mono le2
 have hf1 : StepsF F2 sv ((stepsL ar rs t)) := CO.fz hC (by first | rfl | omega | (rw [List.length_set]; omega) | (simp; done)) hz1.fz
 refine XI.ret (retEndD (L' := L) [sv, .bool (longL ar rs t)] (.tuple #[sv, .bool (longL ar rs t)]) (fun _ _ => (.tmp rfl (.tmp rfl .nil))) rfl (qh (qh le1 le9) le2) rF (sC (sD (sD sR))) ?_)
 exact ⟨_, rfl, ⟨cs, Ls, StepsC.fzx hC rfl hz1.fz, hD, ((hZ.mono le2).base le1)⟩, rfl⟩
end Go.Proofs.YtjpfankibmeaaaaGreat
