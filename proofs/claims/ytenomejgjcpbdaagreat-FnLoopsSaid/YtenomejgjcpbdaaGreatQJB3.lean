/-
  Walks, one after the other (part 4).
-/
import Derived.Test.YtenomejgjcpbdaaGreatQJL1
import Derived.Test.YtenomejgjcpbdaaGreatQJB2
import Derived.Test.YtenomejgjcpbdaaGreatQJB1
set_option linter.unusedSimpArgs false
set_option linter.unusedVariables false
namespace Go.Proofs.YtenomejgjcpbdaaGreat
open Go X M Tryz

/- spec.l9Walk -/
theorem l9Walk_spec {F : FH} {L : List HP} {x1v x2v x3v x4v : Value} {al : List FoundT} {ab : Bool} (hx1 : RowsF F x1v (terms al)) (hx2 : IntsF F x2v (froms al)) (hx3 : StepsF F x3v (bys al)) (hx4 : IntsF F x4v (deeps al)) {k : Nat} (hk : k < al.length) (hll : al.length ≤ 60) (hlk : Link al) (hbd : ∀ i, i < al.length → (EL al i).1.length ≤ 60) :
    Does prog 305 [.agg #[x1v, x2v, x3v, x4v, .bool (ab)], ii ((k : Int))] F (L) (fun v F' L' => ∃ (a : Value), ∃ (b : Value), (.agg #[a, b] : Value) = v ∧ (IntsF F' a (EL al 0).1) ∧ (StepsF F' b (walkL al k)) ∧ (Fresh F F' (star [intsH 2 a (EL al 0).1, stepsD 2 102 b (walkL al k)])) ∧ L = L') := by
 refine qL func305 rfl rfl rfl ?_
 have htl9 : (terms al).length = al.length := terms_len
 have hfl9 : (froms al).length = al.length := froms_len
 have hbl9 : (bys al).length = al.length := bys_len
 have ht0 : ((terms al).getD 0 []).length ≤ 60 := by rw [terms_get]; exact hbd 0 (by omega)
 refine qc (qa (cX (jd [x1v, x2v, x3v, x4v, .bool (ab)] rfl rfl ?_)))
 intro b1
 refine cX (jc [sN, sN] jq rfl ?_)
 intro b2
 refine qb (qc (qa (cX (qx (s := 3) [] [ii (0), ii (0), sN] [] qG ji jE rfl (by decide) rfl CellsAre.nil rfl ?_))))
 intro v1 hv1
 refine qg (v1) rfl (qb (qc (qN (jw (α := Nat × Value × List StepT × List Value × Nat) (fun xQ => [(1, ii (((xQ.1 : Nat) : Int))), (2, ptr b1 0), (4, ptr b2 0), (5, xQ.2.1)]) (fun xQ => slH 102 3 xQ.2.1 xQ.2.2.2.2 xQ.2.2.2.1 :: cellsH b2 [sN, sN] 45 :: cellsH b1 [x1v, x2v, x3v, x4v, .bool (ab)] 183 :: L) (fun xQ F' => F = F' ∧ (xQ.1 < al.length) ∧ (IsSl xQ.2.1) ∧ (StepsC F xQ.2.2.2.1 xQ.2.2.1) ∧ (xQ.2.2.2.2 = xQ.2.2.1.length) ∧ (xQ.2.2.2.2 + xQ.1 ≤ k) ∧ (backL al k = xQ.2.2.1 ++ backL al xQ.1)) (fun xQ => xQ.1) (k, v1, [], [], 0) ⟨rfl, rfl, rfl, rfl, ⟨⟩⟩ (sC (sC (sC sR))) ⟨rfl, (hk), ((jv hv1)), (CO.nil), (rfl), (by (try dsimp only) <;> omega), (rfl)⟩ ?_))))
 rintro ⟨j, bv, bs, bcs, bm⟩ rE _ _ ⟨rfl, hj, hbv, hB, hbm, hmj, hbk⟩
 show X _ _ _ _ (envs [(1, ii ((j : Int))), (2, ptr b1 0), (4, ptr b2 0), (5, bv)] rE) _ (slH 102 3 bv bm bcs :: cellsH b2 [sN, sN] 45 :: cellsH b1 [x1v, x2v, x3v, x4v, .bool (ab)] 183 :: L)
 dsimp only at hj hbv hB hbm hmj hbk
 have hlj := fun (h : 0 < j) => hlk.2 j h hj
 have hfj : ((froms al).getD j 0) = (EL al j).2.1 := froms_get hj
 have hljx : 0 < j → 0 ≤ ((froms al).getD j 0) ∧ ((froms al).getD j 0) < (j : Int) := fun h => ⟨by rw [hfj]; exact (hlj h).1, by rw [hfj]; exact (hlj h).2.1⟩
 have hlj0 : j = 0 → ((froms al).getD j 0) = -1 := fun h => by rw [hfj, h]; exact hlk.1.2.1
 refine qc (qc (qa (cX (qk (1) jD rfl qu (by decide) rfl rfl (cX (ql qZ rfl (Rd.own [_, _] rfl rfl) (qd (ii ((j : Int))) rfl (cX (qB j qf qy rfl rfl rfl hx2.slv (by omega) (Nat.mul_one _) (cX (ql jt rfl (hx2.rd (by omega)) (cX (ye rfl rfl (qb ?_))))))))))))))
 refine qE (p := ((froms al).getD j 0 : Int) ≥ 0) rfl (fun h1 => ?_) (fun h1 => ?_)
 ·refine qz (qN (qc (qa (qd (bv) rfl (cX (qk (2) jD rfl jj (by decide) rfl rfl (cX (ql jL rfl (Rd.own [_, _] rfl rfl) (qd (ii ((j : Int))) rfl (cX (qB j qG ji rfl rfl rfl hx3.slv (by omega) rfl ?_)))))))))))
  obtain ⟨a1, ha1, hr1, hr2, hr3⟩ := hx3.rd (i := j) (by omega)
  refine cX (qn [ii (((bys al).getD j (0, 0, [])).1), ii (((bys al).getD j (0, 0, [])).2.1), a1] yl ji rfl rfl (Rd.three (hr1 _) (hr2 _) (hr3 _)) (cX (qx (s := 3) [ii (((bys al).getD j (0, 0, [])).1), ii (((bys al).getD j (0, 0, [])).2.1), a1] [ii (0), ii (0), sN] [(0, [ii (((bys al).getD j (0, 0, [])).1), ii (((bys al).getD j (0, 0, [])).2.1), a1])] qG ji jE rfl (by decide) rfl (.cons rfl CellsAre.nil) rfl ?_)))
  intro v2 hv2
  refine cX (jV (m := 1) (bytes := 40) (cs := bcs) [_] _ [ii (((bys al).getD j (0, 0, [])).1), ii (((bys al).getD j (0, 0, [])).2.1), a1] qG typeInfo102 rfl rfl rfl rfl rfl rfl rfl (SlV.own [] rfl) rfl (Rd.lit [] rfl) (qj rfl (qj rfl (qj (qJ (qF ha1)) qK))) (by (try simp only [List.length_append, List.length_nil, List.length_cons, List.length_singleton]); omega) (by (try simp only [List.length_append, List.length_nil, List.length_cons, List.length_singleton]); omega) ?_)
  intro v3 hs1 hn1 hm1
  have hc1 := StepsC.snoc hB (i := ((bys al).getD j (0, 0, [])).1) (j := ((bys al).getD j (0, 0, [])).2.1) ha1
  refine qg (v3) rfl (qb (qa (cX (qk (1) jD rfl qu (by decide) rfl rfl (cX (ql qZ rfl (Rd.own [_, _, _] rfl rfl) (qd (ii ((j : Int))) rfl (cX (qB j qf qy rfl rfl rfl hx2.slv (by omega) (Nat.mul_one _) (cX (ql jt rfl (hx2.rd (by omega)) (qg (ii ((froms al).getD j 0)) rfl (qb ?_)))))))))))))
  exact ⟨(((froms al).getD j 0).toNat, v3, bs ++ [(((bys al).getD j (0, 0, [])).1, ((bys al).getD j (0, 0, [])).2.1, ((bys al).getD j (0, 0, [])).2.2)], bcs ++ [ii (((bys al).getD j (0, 0, [])).1), ii (((bys al).getD j (0, 0, [])).2.1), a1], (bm) + 1), _, FLe.refl _, rF, ⟨(vI (by have := hljx (by omega); (try dsimp only); omega)), rfl, rfl, rfl, ⟨⟩⟩, (sD (sC (sC (sC sR)))), ⟨rfl, (by have := hljx (by omega); (try dsimp only); omega), (hs1), (hc1), (by (try dsimp only); rw [List.length_append, List.length_singleton]; omega), (by have := hljx (by omega); (try dsimp only); omega), (by (try dsimp only); rw [hbk, backL_succ hlk (by omega) hj, List.append_assoc, bys_get hj, hfj]; rfl)⟩, (by have := hljx (by omega); (try dsimp only); omega)⟩
 refine jo (qt (qt (qO (qc (qa (cX (qk (0) jD rfl jk (by decide) rfl rfl (cX (ql jJ rfl (Rd.own [_, _] rfl rfl) (cX (qB 0 qM qu rfl rfl rfl hx1.slv (by omega) (Nat.mul_one _) ?_)))))))))))
 obtain ⟨a2, ha2, hr4⟩ := hx1.rd (i := 0) (by omega)
 refine cX (ql qZ rfl (hr4 _) (cX (yf <| qo (args := [a2]) call106 rfl (l1Copy_spec ha2 (hlt := (by first | omega | (rw [hi9 (by omega)]; have := htbi (by omega); omega)))) ?_)))
 rintro v4 _ _ _ ⟨rfl, hs2, rfl⟩
 refine ⟨_, _, rfl, fun F1 le1 hz1 => ?_⟩
 replace hx1 := hx1.mono le1
 replace hB := hB.mono le1
 have hf1 : IntsF F1 v4 (((((terms al).getD 0 [])))) := intsH.fz (xs := ((((terms al).getD 0 [])))) hz1.fz
 refine cX (jg [v4, sN] [sN, sN] [(0, 1), (1, 1)] [(0, [v4])] qA jq rfl (.cons rfl qu (.cons rfl jj PlacesAre.nil)) rfl (.cons (cells_one (qF hf1)) CellsAre.nil) (cX (jc [sN, sN] jq rfl ?_)))
 intro b3
 refine cX (qC [] _ [v4, sN] qH rfl rfl rfl (qj (qJ (qF hf1)) (qj rfl qK)) rfl rfl rfl (qb (qc (qc (qa ?_)))))
 have hj0 : j = 0 := by omega
 have hssb : bs = backL al k := by rw [hbk, hj0, backL_zero, List.append_nil]
 have htb : ∀ i, i < bs.length → (bs.getD i (0, 0, [])).2.2.length ≤ 60 := fun i hi => by
  obtain ⟨q, hq, he⟩ := backL_mem hlk k k (Nat.le_refl _) hk (bs.getD i (0, 0, [])) (by rw [← hssb]; simp [List.getD, hi])
  rw [he]; exact hbd q hq
 have hbl : bs.length ≤ 60 := by omega
 refine qd (bv) rfl (cX (qD qG rfl (SlV.own [_] rfl) (cX (jF ((((bm : Nat) : Int)) - 1) rfl rfl (by omega) (by omega) (qg (ii ((((bm : Nat) : Int)) - 1)) rfl (qb (qN (jw (α := Nat × Value × List StepT × List Value × List HP × Nat × FH) (fun xQ => [(4, ptr b2 0), (5, bv), (6, ptr b3 0), (7, ii ((xQ.1 : Int) - 1))]) (fun xQ => slH 102 3 xQ.2.1 xQ.2.2.2.2.2.1 xQ.2.2.2.1 :: cellsH b3 [v4, xQ.2.1] 45 :: slH 102 3 bv bm bcs :: cellsH b2 [sN, sN] 45 :: cellsH b1 [x1v, x2v, x3v, x4v, .bool (ab)] 183 :: L) (fun xQ F' => xQ.2.2.2.2.2.2 = F' ∧ F1 ≤ xQ.2.2.2.2.2.2 ∧ (xQ.1 ≤ bs.length) ∧ (IsSl xQ.2.1) ∧ (StepsC xQ.2.2.2.2.2.2 xQ.2.2.2.1 xQ.2.2.1) ∧ (xQ.2.2.2.2.2.1 = xQ.2.2.1.length) ∧ (DeepL 3 (StepO 2) xQ.2.2.2.1 xQ.2.2.1 xQ.2.2.2.2.1) ∧ (Fresh F1 xQ.2.2.2.2.2.2 (star xQ.2.2.2.2.1)) ∧ (xQ.2.2.1 = (bs.drop xQ.1).reverse) ∧ (xQ.2.2.2.2.2.1 + xQ.1 = bs.length)) (fun xQ => xQ.1) (bs.length, sN, [], [], [], 0, F1) ⟨rfl, rfl, rfl, (vI (by (try dsimp only); omega)), ⟨⟩⟩ (qR (Sub.addNil 102 3 _ _) (sC (sC (sC (sC (sC sR)))))) ⟨rfl, FLe.refl _, (by (try dsimp only) <;> omega), (⟨_, _, _, rfl⟩), (CO.nil), (rfl), (DeepL.nil), (Fresh.nilL), (by (try dsimp only); simp), (by (try dsimp only); omega)⟩ ?_))))))))
 rintro ⟨i, sv, ss, cs, Ls, m, G1⟩ rE _ _ ⟨rfl, leG, hi, hsv, hC, hm, hD, hZ, hss, hmi⟩
 show X _ _ _ _ (envs [(4, ptr b2 0), (5, bv), (6, ptr b3 0), (7, ii ((i : Int) - 1))] rE) _ (slH 102 3 sv m cs :: cellsH b3 [v4, sv] 45 :: slH 102 3 bv bm bcs :: cellsH b2 [sN, sN] 45 :: cellsH b1 [x1v, x2v, x3v, x4v, .bool (ab)] 183 :: L)
 replace leG : F1 ≤ G1 := leG
 dsimp only at hi hsv hC hm hD hZ hss hmi
 have htbi := htb (i - 1)
 have hi9 : 0 < i → ((i : Int) - 1).toNat = i - 1 := fun h => by omega
 have hdr9 := fun (h : 0 < i) => drop_rev ((0, 0, []) : StepT) (l := bs) (k := i - 1) (by omega)
 have leG1 := leG
 replace hx1 := hx1.mono leG1
 replace hB := hB.mono leG1
 replace hf1 := hf1.mono leG1
 refine qc (qc (qa (qd (ii ((i : Int) - 1)) rfl (cX (ye rfl rfl (qb ?_))))))
 refine qE (p := ((i : Int) - 1 : Int) ≥ 0) rfl (fun h2 => ?_) (fun h2 => ?_)
 ·refine qz (qc (qN ?_))
  obtain ⟨a3, ha3, he1, he2, he3⟩ := hB.get (i := ((i : Int) - 1).toNat) (by omega)
  refine jZ [slH 102 3 sv m cs, cellsH b3 [v4, sv] 45, slH 102 3 bv bm bcs, cellsH b2 [sN, sN] 45, cellsH b1 [x1v, x2v, x3v, x4v, .bool (ab)] 183] L 20 [[], [], [], [], [], [], [], [], [], [], [], [], [], [], [], [], [], [], [17], [17]] [[], [0], [], [], [2, 3], [4], [5], [], [], [7, 8], [9], [10], [], [], [12, 13], [14], [15], [16], [6, 11, 17], [17, 18]] [] (phiG [pe (ptr b3 1), pe sv, pe bv, pe (ii ((i : Int) - 1) : Value), pe (.pointer (some (elemA bv ((((i : Int) - 1).toNat) * 3))) : Value), pe (.pointer (some (elemA bv ((((i : Int) - 1).toNat) * 3))) : Value), pe (ii ((bs.getD (((i : Int) - 1).toNat) (0, 0, [])).1) : Value), pe bv, pe (ii ((i : Int) - 1) : Value), pe (.pointer (some (elemA bv ((((i : Int) - 1).toNat) * 3))) : Value), pe (.pointer (some (elemA bv ((((i : Int) - 1).toNat) * 3 + 1))) : Value), pe (ii ((bs.getD (((i : Int) - 1).toNat) (0, 0, [])).2.1) : Value), pe bv, pe (ii ((i : Int) - 1) : Value), pe (.pointer (some (elemA bv ((((i : Int) - 1).toNat) * 3))) : Value), pe (.pointer (some (elemA bv ((((i : Int) - 1).toNat) * 3 + 2))) : Value), pe a3, fun FF us v => ((v) : Value) = v ∧ (IntsF FF (v) (((bs.getD (((i : Int) - 1).toNat) (0, 0, [])).2.2))) ∧ (FrIntsF G1 FF 2 (v) (((bs.getD (((i : Int) - 1).toNat) (0, 0, [])).2.2))), fun FF us v => v = (.agg #[ii ((bs.getD (((i : Int) - 1).toNat) (0, 0, [])).1), ii ((bs.getD (((i : Int) - 1).toNat) (0, 0, [])).2.1), ((us.getD 0 undef))] : Value), fun FF us v => ∃ b, v = .slice (some ⟨b, 0, none⟩) 1 1]) (ownL [o0, o0, o0, o0, o0, o0, o0, o0, o0, o0, o0, o0, o0, o0, o0, o0, o0, o0, o0, fun us v => [slH 102 3 v 1 [ii ((bs.getD (((i : Int) - 1).toNat) (0, 0, [])).1), ii ((bs.getD (((i : Int) - 1).toNat) (0, 0, [])).2.1), ((us.getD 0 undef))]]]) mixed rfl rfl (by kernel_rfl) (by kernel_rfl) (MonoG.get (m1 (m1 (m1 (m1 (m1 (m1 (m1 (m1 (m1 (m1 (m1 (m1 (m1 (m1 (m1 (m1 (m1 (mC (fun le h => ⟨h.1, h.2.1.mono le, h.2.2.mono le⟩) (mC (fun le h => h) (mC (fun le h => h) MonoG.nil))))))))))))))))))))) ?_ ?_
  ·refine gD (fun W Fs R lF z9 => ?_) ?_
   ·refine qi (qk (1) qA rfl jj (by decide) rfl rfl ?_)
    exact ⟨rfl, rfl⟩
   refine gD (fun W Fs R lF z9 => ?_) ?_
   ·replace hx1 := hx1.mono lF
    replace hf1 := hf1.mono lF
    replace hC := hC.mono lF
    replace ha3 := ha3.mono lF
    rw [eS (l := [(0, _)]) ⟨z9 0 rfl, ⟨⟩⟩]
    refine qi (ql jL rfl (Rd.own [_] rfl rfl) ?_)
    exact ⟨rfl, rfl⟩
   refine gD (fun W Fs R lF z9 => ?_) ?_
   ·refine qi (qq (bv) rfl ?_)
    exact ⟨rfl, rfl⟩
   refine gD (fun W Fs R lF z9 => ?_) ?_
   ·refine qi (qq (ii ((i : Int) - 1)) rfl ?_)
    exact ⟨rfl, rfl⟩
   refine gD (fun W Fs R lF z9 => ?_) ?_
   ·replace hx1 := hx1.mono lF
    replace hf1 := hf1.mono lF
    replace hC := hC.mono lF
    replace ha3 := ha3.mono lF
    rw [eS (l := [(2, _), (3, _)]) ⟨z9 2 rfl, z9 3 rfl, ⟨⟩⟩]
    refine qi (qB (((i : Int) - 1).toNat) qG ji rfl rfl (by omega) (SlV.own [_, _] rfl) (by omega) rfl ?_)
    exact ⟨rfl, rfl⟩
   refine gD (fun W Fs R lF z9 => ?_) ?_
   ·rw [eS (l := [(4, _)]) ⟨z9 4 rfl, ⟨⟩⟩]
    refine qi (jW ((((i : Int) - 1).toNat) * 3) jm rfl qy (by decide) rfl rfl ?_)
    exact ⟨rfl, rfl⟩
   refine gD (fun W Fs R lF z9 => ?_) ?_
   ·replace hx1 := hx1.mono lF
    replace hf1 := hf1.mono lF
    replace hC := hC.mono lF
    replace ha3 := ha3.mono lF
    rw [eS (l := [(5, _)]) ⟨z9 5 rfl, ⟨⟩⟩]
    refine qi (ql jt rfl (Rd.sl [_, _] rfl he1) ?_)
    exact ⟨rfl, rfl⟩
   refine gD (fun W Fs R lF z9 => ?_) ?_
   ·refine qi (qq (bv) rfl ?_)
    exact ⟨rfl, rfl⟩
   refine gD (fun W Fs R lF z9 => ?_) ?_
   ·refine qi (qq (ii ((i : Int) - 1)) rfl ?_)
    exact ⟨rfl, rfl⟩
   refine gD (fun W Fs R lF z9 => ?_) ?_
   ·replace hx1 := hx1.mono lF
    replace hf1 := hf1.mono lF
    replace hC := hC.mono lF
    replace ha3 := ha3.mono lF
    rw [eS (l := [(7, _), (8, _)]) ⟨z9 7 rfl, z9 8 rfl, ⟨⟩⟩]
    refine qi (qB (((i : Int) - 1).toNat) qG ji rfl rfl (by omega) (SlV.own [_, _] rfl) (by omega) rfl ?_)
    exact ⟨rfl, rfl⟩
   refine gD (fun W Fs R lF z9 => ?_) ?_
   ·rw [eS (l := [(9, _)]) ⟨z9 9 rfl, ⟨⟩⟩]
    refine qi (jW ((((i : Int) - 1).toNat) * 3 + 1) jm rfl qy (by decide) rfl rfl ?_)
    exact ⟨rfl, rfl⟩
   refine gD (fun W Fs R lF z9 => ?_) ?_
   ·replace hx1 := hx1.mono lF
    replace hf1 := hf1.mono lF
    replace hC := hC.mono lF
    replace ha3 := ha3.mono lF
    rw [eS (l := [(10, _)]) ⟨z9 10 rfl, ⟨⟩⟩]
    refine qi (ql jt rfl (Rd.sl [_, _] rfl he2) ?_)
    exact ⟨rfl, rfl⟩
   refine gD (fun W Fs R lF z9 => ?_) ?_
   ·refine qi (qq (bv) rfl ?_)
    exact ⟨rfl, rfl⟩
   refine gD (fun W Fs R lF z9 => ?_) ?_
   ·refine qi (qq (ii ((i : Int) - 1)) rfl ?_)
    exact ⟨rfl, rfl⟩
   refine gD (fun W Fs R lF z9 => ?_) ?_
   ·replace hx1 := hx1.mono lF
    replace hf1 := hf1.mono lF
    replace hC := hC.mono lF
    replace ha3 := ha3.mono lF
    rw [eS (l := [(12, _), (13, _)]) ⟨z9 12 rfl, z9 13 rfl, ⟨⟩⟩]
    refine qi (qB (((i : Int) - 1).toNat) qG ji rfl rfl (by omega) (SlV.own [_, _] rfl) (by omega) rfl ?_)
    exact ⟨rfl, rfl⟩
   refine gD (fun W Fs R lF z9 => ?_) ?_
   ·rw [eS (l := [(14, _)]) ⟨z9 14 rfl, ⟨⟩⟩]
    refine qi (jW ((((i : Int) - 1).toNat) * 3 + 2) jm rfl qu (by decide) rfl rfl ?_)
    exact ⟨rfl, rfl⟩
   refine gD (fun W Fs R lF z9 => ?_) ?_
   ·replace hx1 := hx1.mono lF
    replace hf1 := hf1.mono lF
    replace hC := hC.mono lF
    replace ha3 := ha3.mono lF
    rw [eS (l := [(15, _)]) ⟨z9 15 rfl, ⟨⟩⟩]
    refine qi (ql qZ rfl (Rd.sl [_, _] rfl he3) ?_)
    exact ⟨rfl, rfl⟩
   refine gD (fun W Fs R lF z9 => ?_) ?_
   ·replace hx1 := hx1.mono lF
    replace hf1 := hf1.mono lF
    replace hC := hC.mono lF
    replace ha3 := ha3.mono lF
    rw [eS (l := [(16, _)]) ⟨z9 16 rfl, ⟨⟩⟩]
    refine qi (yf <| qo (args := [a3]) call106 rfl (l1Copy_spec ha3 (hlt := (by first | omega | (rw [hi9 (by omega)]; have := htbi (by omega); omega)))) ?_)
    rintro v7 _ _ _ ⟨rfl, hs4, rfl⟩
    refine ⟨_, _, rfl, fun F2 le2 hz2 => ?_⟩
    replace hf1 := hf1.mono le2
    replace hC := hC.mono le2
    have hf2 : IntsF F2 v7 ((((bs.getD (((i : Int) - 1).toNat) (0, 0, [])).2.2))) := intsH.fz (xs := (((bs.getD (((i : Int) - 1).toNat) (0, 0, [])).2.2))) hz2.fz
    exact ⟨⟨rfl, hf2, (hz2.base lF)⟩, rfl⟩
   refine gD (fun W Fs R lF z9 => ?_) ?_
   ·obtain ⟨e17, f17_1ha, f17_1hz⟩ := z9 17 rfl
    replace hf1 := hf1.mono lF
    replace hC := hC.mono lF
    rw [eS (l := [(6, _), (11, _), (17, ((W 17)))]) ⟨z9 6 rfl, z9 11 rfl, (e17).symm, ⟨⟩⟩]
    refine qi (jg [ii ((bs.getD (((i : Int) - 1).toNat) (0, 0, [])).1), ii ((bs.getD (((i : Int) - 1).toNat) (0, 0, [])).2.1), ((W 17))] [ii (0), ii (0), sN] [(0, 1), (1, 1), (2, 1)] [(0, [ii ((bs.getD (((i : Int) - 1).toNat) (0, 0, [])).1)]), (1, [ii ((bs.getD (((i : Int) - 1).toNat) (0, 0, [])).2.1)]), (2, [((W 17))])] jm jE rfl (.cons rfl qy (.cons rfl qy (.cons rfl qu PlacesAre.nil))) rfl (.cons rfl (.cons rfl (.cons (cells_one (qF f17_1ha)) CellsAre.nil))) ?_)
    exact ⟨rfl, rfl⟩
   refine gD (fun W Fs R lF z9 => ?_) ?_
   ·obtain ⟨e17, f17_1ha, f17_1hz⟩ := z9 17 rfl
    have e18 : W 18 = (.agg #[ii ((bs.getD (((i : Int) - 1).toNat) (0, 0, [])).1), ii ((bs.getD (((i : Int) - 1).toNat) (0, 0, [])).2.1), ((W 17))] : Value) := z9 18 rfl
    replace hf1 := hf1.mono lF
    replace hC := hC.mono lF
    rw [eS (l := [(17, ((W 17))), (18, (.agg #[ii ((bs.getD (((i : Int) - 1).toNat) (0, 0, [])).1), ii ((bs.getD (((i : Int) - 1).toNat) (0, 0, [])).2.1), ((W 17))]))]) ⟨(e17).symm, e18, ⟨⟩⟩]
    refine qi (qx (s := 3) [ii ((bs.getD (((i : Int) - 1).toNat) (0, 0, [])).1), ii ((bs.getD (((i : Int) - 1).toNat) (0, 0, [])).2.1), ((W 17))] [ii (0), ii (0), sN] [(0, [ii ((bs.getD (((i : Int) - 1).toNat) (0, 0, [])).1), ii ((bs.getD (((i : Int) - 1).toNat) (0, 0, [])).2.1), ((W 17))])] qG ji jE rfl (by decide) rfl (.cons rfl CellsAre.nil) rfl ?_)
    intro v8 hv4
    exact ⟨hv4, rfl⟩
   exact stepsG.nil
  intro W F3 le3 hphi
  obtain ⟨e17, f17_1ha, f17_1hz⟩ := hphi 17 (by decide)
  have e18 : W 18 = (.agg #[ii ((bs.getD (((i : Int) - 1).toNat) (0, 0, [])).1), ii ((bs.getD (((i : Int) - 1).toNat) (0, 0, [])).2.1), ((W 17))] : Value) := hphi 18 (by decide)
  have f19 : ∃ b, (W 19) = .slice (some ⟨b, 0, none⟩) 1 1 := hphi 19 (by decide)
  generalize hu1 : ((W 17)) = u1 at e17 f17_1ha f17_1hz e18 f19
  generalize hu19 : W 19 = u2 at e17 f17_1ha f17_1hz e18 f19
  rw [eS (l := [(1, _), (17, u1), (19, u2)]) ⟨(hphi 1 (by decide)), hu1, hu19, ⟨⟩⟩]
  replace hf1 := hf1.mono le3
  replace hC := hC.mono le3
  show XL _ _ _ _ _ _ _ (slH 102 3 u2 1 [ii ((bs.getD (((i : Int) - 1).toNat) (0, 0, [])).1), ii ((bs.getD (((i : Int) - 1).toNat) (0, 0, [])).2.1), u1] :: slH 102 3 sv m cs :: cellsH b3 [v4, sv] 45 :: slH 102 3 bv bm bcs :: cellsH b2 [sN, sN] 45 :: cellsH b1 [x1v, x2v, x3v, x4v, .bool (ab)] 183 :: L)
  refine cX (jV (m := 1) (bytes := 40) (cs := cs) [_] _ [ii ((bs.getD (((i : Int) - 1).toNat) (0, 0, [])).1), ii ((bs.getD (((i : Int) - 1).toNat) (0, 0, [])).2.1), u1] qG typeInfo102 rfl rfl rfl rfl rfl rfl rfl (SlV.own [] rfl) rfl (Rd.lit [] rfl) (qj rfl (qj rfl (qj (qJ (qF f17_1ha)) qK))) (by (try simp only [List.length_append, List.length_nil, List.length_cons, List.length_singleton]); omega) (by (try simp only [List.length_append, List.length_nil, List.length_cons, List.length_singleton]); omega) ?_)
  intro v9 hs5 hn2 hm2
  have hc2 := StepsC.snoc hC (i := (bs.getD (((i : Int) - 1).toNat) (0, 0, [])).1) (j := (bs.getD (((i : Int) - 1).toNat) (0, 0, [])).2.1) f17_1ha
  skip
  refine cX (qk (1) qA rfl jj (by decide) rfl rfl (cX (jK [_, _] _ [v4, v9] jj rfl rfl (qJ hs5) rfl rfl rfl (qb (qa (qd (ii ((i : Int) - 1)) rfl (cX (jF (((i : Int) - 1) - 1) rfl rfl (by omega) (by omega) (qg (ii (((i : Int) - 1) - 1)) rfl (qb ?_))))))))))
  exact ⟨(i - 1, v9, ss ++ [((bs.getD (((i : Int) - 1).toNat) (0, 0, [])).1, (bs.getD (((i : Int) - 1).toNat) (0, 0, [])).2.1, (((bs.getD (((i : Int) - 1).toNat) (0, 0, [])).2.2)))], cs ++ [ii ((bs.getD (((i : Int) - 1).toNat) (0, 0, [])).1), ii ((bs.getD (((i : Int) - 1).toNat) (0, 0, [])).2.1), u1], Ls ++ [intsH 2 u1 ((((bs.getD (((i : Int) - 1).toNat) (0, 0, [])).2.2)))], (m) + 1, F3), _, (qh leG1 le3), rF, ⟨rfl, rfl, rfl, (vI (by (try dsimp only); omega)), ⟨⟩⟩, (sD (sC (sC (sC (sC (sC sR)))))), ⟨rfl, (qh leG1 le3), (by (try dsimp only) <;> omega), (hs5), (hc2), (by (try dsimp only); rw [List.length_append]; simp only [List.length_singleton]; omega), (DeepL.snoc hD rfl ⟨_, rfl, rfl⟩), ((Fresh.app hZ leG1 (Fresh.one f17_1hz) le3)), (by (try dsimp only); have h9 := hdr9 (by omega); rw [show i - 1 + 1 = i from by omega] at h9; rw [hss, h9, hi9 (by omega)]), (by (try dsimp only); omega)⟩, (by (try dsimp only); omega)⟩
 refine jo (qt (qt (qO (qc (qa (cX (qn [v4, sv] jy qH rfl rfl (Rd.ownN [_] rfl rfl) (cX (qC [_, _, _] _ [v4, sv] qH rfl rfl rfl (qj (qJ (qF hf1)) (qj (qJ hsv) qK)) rfl rfl rfl (qb (je [] _ _ rfl (fun F4 le4 hz3 => ?_))))))))))))
 replace hf1 := hf1.mono le4
 replace hC := hC.mono le4
 have hf3 : StepsF F4 sv ss := CO.fz hC (by first | rfl | omega | (rw [List.length_set]; omega) | (simp; done)) hz3.fz
 refine qw (qs (L' := L) [.agg #[v4, sv]] (.agg #[v4, sv]) (.cell rfl (jx [v4, sv] jy qH rfl (Rd.ownN [_, _] rfl rfl)) .nil) rfl (qh (qh le1 leG1) le4) rF (sD (sD (sD (sD sR)))) ?_)
 have e9 : ss = walkL al k := by rw [hss, show i = 0 from by omega, List.drop_zero, hssb]; rfl
 rw [← e9, ← terms_get 0]
 exact ⟨_, _, rfl, hf1, hf3, (Fresh.app (Fresh.one hz1) le1 (Fresh.one (Fresh.deep hD hZ leG1 hz3 (by omega) le4)) (qh leG1 le4)), rfl⟩

/- spec.WalkTo -/
set_option maxRecDepth 20000 in
theorem sWalkTo_spec {F : FH} {L : List HP} {arv : Value} {ar : List Int} (har : IntsF F arv ar) {rsv : Value} {rs : List (List Int × List Int)} (hrs : PairsF F rsv rs) {tv : Value} {t : List Int} (ht : IntsF F tv t) {uv : Value} {u : List Int} (hu : IntsF F uv u) {n : Int} (hla : ar.length ≤ 4000000) (hlr : rs.length ≤ 4000000) (hrb : ∀ i, i < rs.length → (rs.getD i ([], [])).1.length ≤ 4000000 ∧ (rs.getD i ([], [])).2.length ≤ 4000000) (hlt : t.length ≤ 4000000) (hlu : u.length ≤ 4000000) :
    Does prog 248 [.agg #[arv, rsv], tv, uv, ii (n)] F (L) (fun v F' L' => ∃ (a : Value), ∃ (b : Value), (.tuple #[.agg #[a, b], .bool ((walkToF ar rs t u n).2.2)] : Value) = v ∧ (IntsF F' a (walkToF ar rs t u n).1) ∧ (StepsF F' b (walkToF ar rs t u n).2.1) ∧ (Fresh F F' (star [intsH 2 a (walkToF ar rs t u n).1, stepsD 2 102 b (walkToF ar rs t u n).2.1])) ∧ L = L') := by
 refine qL func248 rfl rfl rfl (qc (qa (cX (jd [arv, rsv] rfl rfl ?_))))
 intro b1
 refine cX (jc [sN, sN] jq rfl ?_)
 intro b2
 refine qg (.bool (false)) rfl (qb (qc (qc (qa (cX (qn [arv, rsv] jr jl rfl rfl (Rd.ownN [_] rfl rfl) (qd (tv) rfl (qd (ii (n)) rfl (cX (qo (args := [.agg #[arv, rsv], tv, ii (n)]) call120 rfl (l9Right_spec (n := n) har hrs ht (hla := (by first | assumption | rfl | omega | simp)) (hlr := (by first | assumption | rfl | omega | simp)) (hrb := (by first | assumption | rfl | omega | simp)) (hlt := (by first | assumption | rfl | omega | simp))) ?_))))))))))
 rintro _ _ _ _ ⟨rfl, rfl, rfl⟩
 refine cX (jn rfl (qd (.bool (!(reachOkL ar rs n [t]))) rfl ?_))
 by_cases h1 : (!(reachOkL ar rs n [t])) = true
 ·have hro : reachOkL ar rs n [t, u] = false := by rw [reachOk2]; simp_all
  refine qr (t := 17) rfl (vB h1) (qr (t := 17) rfl (vB h1) (qr (t := 17) rfl (vB h1) (qr (t := 17) rfl (vB h1) (qr (t := 17) rfl (vB h1) (cX (qU (.bool (true)) (vB h1) rfl (qb (jI rfl (qc (qa (cX (jg [sN, sN] [sN, sN] [(0, 1), (1, 1)] [] qA jq rfl (.cons rfl qu (.cons rfl jj PlacesAre.nil)) rfl CellsAre.nil ?_))))))))))))
  refine cX (qC [] _ [sN, sN] qH rfl rfl rfl (qj rfl (qj rfl qK)) rfl rfl rfl (qg (.bool (false)) rfl (qb (qw (qm (qs (L' := L) [.agg #[sN, sN], .bool (false)] (.tuple #[.agg #[sN, sN], .bool (false)]) (.cell rfl (jx [sN, sN] jy qH rfl (Rd.ownN [] rfl rfl)) (.tmp rfl .nil)) rfl rF rF (sD (sD sR)) ?_))))))
  have e : walkToF ar rs t u n = ([], [], false) := walkToF_no hro
  exact ⟨_, _, by rw [e], by rw [e]; exact IntsF.nilV, by rw [e]; exact SlOf.nilV, by rw [e]; exact Fresh.empty nilWalk, rfl⟩
 rw [Bool.not_eq_true] at h1
 refine qp (t := 17) rfl (vB h1) (qn [arv, rsv] jr jl rfl rfl (Rd.ownN [_] rfl rfl) (qp (t := 17) rfl (vB h1) (qq (uv) rfl (qp (t := 17) rfl (vB h1) (qq (ii (n)) rfl (qp (t := 17) rfl (vB h1) (qo (args := [.agg #[arv, rsv], uv, ii (n)]) call120 rfl (l9Right_spec (n := n) har hrs hu (hla := (by first | assumption | rfl | omega | simp)) (hlr := (by first | assumption | rfl | omega | simp)) (hrb := (by first | assumption | rfl | omega | simp)) (hlt := (by first | assumption | rfl | omega | simp))) ?_)))))))
 rintro _ _ _ _ ⟨rfl, rfl, rfl⟩
 refine qp (t := 17) rfl (vB h1) (jn rfl (cX (qS (.bool (!(reachOkL ar rs n [u]))) (vB h1) rfl (qb ?_))))
 refine jN (t := !(reachOkL ar rs n [u])) rfl (fun h2 => ?_) (fun h2 => ?_)
 ·have hro : reachOkL ar rs n [t, u] = false := by rw [reachOk2]; simp_all
  refine qc (qa (cX (jg [sN, sN] [sN, sN] [(0, 1), (1, 1)] [] qA jq rfl (.cons rfl qu (.cons rfl jj PlacesAre.nil)) rfl CellsAre.nil (cX (qC [] _ [sN, sN] qH rfl rfl rfl (qj rfl (qj rfl qK)) rfl rfl rfl (qg (.bool (false)) rfl (qb (qw (qm (qs (L' := L) [.agg #[sN, sN], .bool (false)] (.tuple #[.agg #[sN, sN], .bool (false)]) (.cell rfl (jx [sN, sN] jy qH rfl (Rd.ownN [] rfl rfl)) (.tmp rfl .nil)) rfl rF rF (sD (sD sR)) ?_))))))))))
  have e : walkToF ar rs t u n = ([], [], false) := walkToF_no hro
  exact ⟨_, _, by rw [e], by rw [e]; exact IntsF.nilV, by rw [e]; exact SlOf.nilV, by rw [e]; exact Fresh.empty nilWalk, rfl⟩
 have hro : reachOkL ar rs n [t, u] = true := by rw [reachOk2]; simp_all
 have hr3 := reachOk2_iff.1 hro
 have hsys := hr3.1.1
 have ho := hr3.1.2.1
 have hou := hr3.1.2.2
 have hn20 := hr3.2
 have hgd := reachL_good (ar := ar) (rs := rs) (t := t) (n := n) hn20.1
 have hrk := reachL_ok (n := n) hsys ho
 have hrl := hrk.1
 have hrd : ∀ i, i < (reachL ar rs t n).1.length → (EL (reachL ar rs t n).1 i).1.length ≤ 60 := fun i hi => (termOk_len (hrk.2 i hi)).2
 have htz : (terms (reachL ar rs t n).1).length = (reachL ar rs t n).1.length := terms_len
 have htq : ∀ i, i < (terms (reachL ar rs t n).1).length → ((terms (reachL ar rs t n).1).getD i []).length ≤ 4000000 := fun i hi => by rw [terms_get]; have := hrd i (by omega); omega
 have hfi : badG (fun y => !decide (y = u)) (terms (reachL ar rs t n).1) = (foundI (reachL ar rs t n).1 u) := foundI_terms
 have hfl := fun (h : 0 ≤ (foundI (reachL ar rs t n).1 u)) => (foundI_lt h).1
 refine qz (qc (qa (cX (qn [arv, rsv] jr jl rfl rfl (Rd.ownN [_] rfl rfl) (qd (tv) rfl (qd (ii (n)) rfl (cX (qo (args := [.agg #[arv, rsv], tv, ii (n)]) call124 rfl (l9Find_spec (n := n) har hrs ht (hsys := (by first | assumption | rfl | omega | simp)) (ho := (by first | assumption | rfl | omega | simp)) (hn20 := (by first | assumption | rfl | omega | simp))) ?_))))))))
 rintro _ F1 _ le1 ⟨x1, x2, x3, x4, rfl, hr1, hr2, hr3, hr4, rfl⟩
 replace hu := hu.mono le1
 refine cX (jc [sN, sN, sN, sN, .bool (false)] zeroValue183 rfl ?_)
 intro b3
 refine cX (qC [] _ [x1, x2, x3, x4, .bool ((reachL ar rs t n).2)] sizeOf183 rfl rfl rfl (qj (qJ (RowsF.isSl hr1)) (qj (qJ (qF hr2)) (qj (qJ (jT hr3)) (qj (qJ (qF hr4)) (qj rfl qK))))) rfl rfl rfl (qb (qc (qa (cX (qk (0) jD rfl jk (by decide) rfl rfl (cX (ql jJ rfl (Rd.own [] rfl rfl) (qd (uv) rfl (cX (qo (args := [x1, uv]) call221 rfl (l1TermPlace_spec hr1 hu (hlt := (by omega)) (htb := (htq)) (hlx := (by first | assumption | rfl | omega | simp))) ?_)))))))))))
 rintro _ _ _ _ ⟨rfl, rfl, rfl⟩
 refine qg (ii (badG (fun y => !decide (y = u)) (terms (reachL ar rs t n).1))) rfl (qb (qc (qc (qa (qd (ii (badG (fun y => !decide (y = u)) (terms (reachL ar rs t n).1))) rfl (cX (jf rfl rfl (qb ?_))))))))
 refine qE (p := (badG (fun y => !decide (y = u)) (terms (reachL ar rs t n).1) : Int) < 0) rfl (fun h3 => ?_) (fun h3 => ?_)
 ·refine qc (qa (cX (jg [sN, sN] [sN, sN] [(0, 1), (1, 1)] [] qA jq rfl (.cons rfl qu (.cons rfl jj PlacesAre.nil)) rfl CellsAre.nil (cX (qC [_] _ [sN, sN] qH rfl rfl rfl (qj rfl (qj rfl qK)) rfl rfl rfl (qg (.bool (false)) rfl (qb (qw (qm (qs (L' := L) [.agg #[sN, sN], .bool (false)] (.tuple #[.agg #[sN, sN], .bool (false)]) (.cell rfl (jx [sN, sN] jy qH rfl (Rd.ownN [_] rfl rfl)) (.tmp rfl .nil)) rfl le1 rF (sD (sD (sD sR))) ?_))))))))))
  have e : walkToF ar rs t u n = ([], [], false) := (walkToF_yes hro).trans (walkTo0_no (by omega))
  exact ⟨_, _, by rw [e], by rw [e]; exact IntsF.nilV, by rw [e]; exact SlOf.nilV, by rw [e]; exact Fresh.empty nilWalk, rfl⟩
 refine qz (qc (qa (cX (qn [x1, x2, x3, x4, .bool ((reachL ar rs t n).2)] isAgg183 sizeOf183 rfl rfl (Rd.ownN [] rfl rfl) (qd (ii (badG (fun y => !decide (y = u)) (terms (reachL ar rs t n).1))) rfl (cX (qo (args := [.agg #[x1, x2, x3, x4, .bool ((reachL ar rs t n).2)], ii (((badG (fun y => !decide (y = u)) (terms (reachL ar rs t n).1)).toNat : Nat) : Int)]) call305 (by rw [show (((badG (fun y => !decide (y = u)) (terms (reachL ar rs t n).1)).toNat : Nat) : Int) = badG (fun y => !decide (y = u)) (terms (reachL ar rs t n).1) from by omega]; rfl) (l9Walk_spec (k := (badG (fun y => !decide (y = u)) (terms (reachL ar rs t n).1)).toNat) hr1 hr2 hr3 hr4 (hk := (by rw [hfi]; exact hfl (by omega))) (hll := (hrl)) (hlk := (hgd.1)) (hbd := (hrd))) ?_)))))))
 rintro _ F2 _ le2 ⟨x5, x6, rfl, hr5, hr6, hr7, rfl⟩
 refine cX (qC [_] _ [x5, x6] qH rfl rfl rfl (qj (qJ (qF hr5)) (qj (qJ (jT hr6)) qK)) rfl rfl rfl (qg (.bool (true)) rfl (qb (qw (qs (L' := L) [.agg #[x5, x6], .bool (true)] (.tuple #[.agg #[x5, x6], .bool (true)]) (.cell rfl (jx [x5, x6] jy qH rfl (Rd.ownN [_] rfl rfl)) (.tmp rfl .nil)) rfl (qh le1 le2) rF (sD (sD (sD sR))) ?_)))))
 have e : walkToF ar rs t u n = ((EL (reachL ar rs t n).1 0).1, walkL (reachL ar rs t n).1 (badG (fun y => !decide (y = u)) (terms (reachL ar rs t n).1)).toNat, true) := by rw [walkToF_yes hro, walkTo0_yes (by omega), hgd.2.2.2, hfi]
 exact ⟨_, _, by rw [e], by rw [e]; exact hr5, by rw [e]; exact hr6, by rw [e]; exact (hr7.base le1), rfl⟩
end Go.Proofs.YtenomejgjcpbdaaGreat
set_option linter.unusedSimpArgs false
set_option linter.unusedVariables false
namespace Go.Proofs.YtenomejgjcpbdaaGreat
open Go X M Tryz

/- spec.l19Steps -/
theorem l19Steps_spec {F : FH} {L : List HP} {n : Int} :
    Does prog 244 [ii (n)] F (L) (fun v F' L' => (.bool (decide (1 ≤ n ∧ n ≤ 20)) : Value) = v ∧ F = F' ∧ L = L') := by
 refine qL func244 rfl rfl rfl (qc (qa (qg (.bool (false)) rfl (qb (qc (qa (qd (ii (n)) rfl (cX (qo (args := [ii (n), ii (1), ii (20)]) call110 rfl (l1In_spec (n := n) (a := 1) (b := 20)) ?_)))))))))
 rintro _ _ _ _ ⟨rfl, rfl, rfl⟩
 refine qg (.bool (decide (1 ≤ n ∧ n ≤ 20))) rfl (qb (qw (qs (L' := L) [.bool (decide (1 ≤ n ∧ n ≤ 20))] (.bool (decide (1 ≤ n ∧ n ≤ 20))) (.tmp rfl .nil) rfl rF rF sR ?_)))
 exact ⟨rfl, rfl, rfl⟩

/- spec.Matched -/
theorem sMatched_spec {F : FH} {L : List HP} {arv : Value} {ar : List Int} (har : IntsF F arv ar) {pv : Value} {p : List Int} (hp : IntsF F pv p) {tv : Value} {t : List Int} (ht : IntsF F tv t) (ho : termOk ar t = true) (hpo : termOk ar p = true) (hla : ar.length ≤ 4000000) :
    Does prog 304 [.agg #[arv], pv, tv] F (L) (fun v F' L' => ∃ (a : Value), (.tuple #[.agg #[a], .bool ((matchB ar p t).isSome)] : Value) = v ∧ (RowsF F' a (matchP ar p t)) ∧ L = L') := by
 refine qL func304 rfl rfl rfl ?_
 have hpl := termOk_len hpo
 have htl := termOk_len ho
 refine qc (qa (cX (jd [arv] rfl rfl ?_)))
 intro b1
 refine cX (jc [sN] jB rfl ?_)
 intro b2
 refine qg (.bool (false)) rfl (qb (qc (qc (qa (cX (qn [arv] js qY rfl rfl (Rd.ownN [_] rfl rfl) (qd (pv) rfl (cX (qo (args := [.agg #[arv], pv]) call136 rfl (sTermOk_spec har hp (hla := (by first | assumption | rfl | omega | simp)) (hlt := (by first | assumption | rfl | omega | simp))) ?_)))))))))
 rintro _ _ _ _ ⟨rfl, rfl, rfl⟩
 refine cX (jn rfl (qd (.bool (!(termOk ar p))) rfl ?_))
 by_cases h1 : (!(termOk ar p)) = true
 ·exact absurd h1 (by simp [ho, hpo])
 rw [Bool.not_eq_true] at h1
 refine qp (t := 12) rfl (vB h1) (qn [arv] js qY rfl rfl (Rd.ownN [_] rfl rfl) (qp (t := 12) rfl (vB h1) (qq (tv) rfl (qp (t := 12) rfl (vB h1) (qo (args := [.agg #[arv], tv]) call136 rfl (sTermOk_spec har ht (hla := (by first | assumption | rfl | omega | simp)) (hlt := (by first | assumption | rfl | omega | simp))) ?_)))))
 rintro _ _ _ _ ⟨rfl, rfl, rfl⟩
 refine qp (t := 12) rfl (vB h1) (jn rfl (cX (qS (.bool (!(termOk ar t))) (vB h1) rfl (qb ?_))))
 refine jN (t := !(termOk ar t)) rfl (fun h2 => ?_) (fun h2 => ?_)
 ·exact absurd h2 (by simp [ho, hpo])
 refine qz (qc (qa (cX (qn [arv] js qY rfl rfl (Rd.ownN [_] rfl rfl) (qd (pv) rfl (qd (tv) rfl (cX (qo (args := [.agg #[arv], pv, tv]) call208 rfl (l4Match_spec har hp ht (ho := (by first | assumption | rfl | omega | simp)) (hpo := (by first | assumption | rfl | omega | simp))) ?_))))))))
 rintro _ F1 _ le1 ⟨x1, rfl, hr1, rfl⟩
 refine cX (qQ (.agg #[x1]) rfl rfl (cX (qQ (.bool ((matchB ar p t).isSome)) rfl rfl (cX (qC [] _ [x1] qV rfl rfl rfl (qj (qJ (RowsF.isSl hr1)) qK) rfl rfl rfl (qg (.bool ((matchB ar p t).isSome)) rfl (qb (qw (qs (L' := L) [.agg #[x1], .bool ((matchB ar p t).isSome)] (.tuple #[.agg #[x1], .bool ((matchB ar p t).isSome)]) (.cell rfl (jx [x1] jC qV rfl (Rd.ownN [] rfl rfl)) (.tmp rfl .nil)) rfl le1 rF (sD (sD sR)) ?_)))))))))
 exact ⟨_, rfl, hr1, rfl⟩

/- spec.StepsFrom -/
set_option maxRecDepth 20000 in
theorem sStepsFrom_spec {F : FH} {L : List HP} {arv : Value} {ar : List Int} (har : IntsF F arv ar) {rsv : Value} {rs : List (List Int × List Int)} (hrs : PairsF F rsv rs) {tv : Value} {t : List Int} (ht : IntsF F tv t) (hsys : sysOk ar rs = true) (ho : termOk ar t = true) (hla : ar.length ≤ 4000000) (hlr : rs.length ≤ 4000000) (hrb : ∀ i, i < rs.length → (rs.getD i ([], [])).1.length ≤ 4000000 ∧ (rs.getD i ([], [])).2.length ≤ 4000000) (hlt : t.length ≤ 4000000) :
    Does prog 246 [.agg #[arv, rsv], tv] F (L) (fun v F' L' => ∃ (a : Value), (a : Value) = v ∧ (StepsF F' a (stepsL ar rs t)) ∧ L = L') := by
 refine qL func246 rfl rfl rfl (qc (qa (cX (jd [arv, rsv] rfl rfl ?_))))
 intro b1
 refine qg (sN) rfl (qb (qc (qc (qa (cX (qn [arv, rsv] jr jl rfl rfl (Rd.ownN [] rfl rfl) (qd (tv) rfl (cX (qo (args := [.agg #[arv, rsv], tv]) call108 rfl (l7Right_spec har hrs ht (hla := (by first | assumption | rfl | omega | simp)) (hlr := (by first | assumption | rfl | omega | simp)) (hrb := (by first | assumption | rfl | omega | simp)) (hlt := (by first | assumption | rfl | omega | simp))) ?_)))))))))
 rintro _ _ _ _ ⟨rfl, rfl, rfl⟩
 refine cX (jn rfl (qb ?_))
 refine jN (t := !(rightB ar rs t)) rfl (fun h1 => ?_) (fun h1 => ?_)
 ·exact absurd h1 (by simp [rightB, hsys, ho])
 refine qz (qc (qa (cX (qn [arv, rsv] jr jl rfl rfl (Rd.ownN [] rfl rfl) (qd (tv) rfl (cX (qo (args := [.agg #[arv, rsv], tv]) call219 rfl (l7Steps_spec har hrs ht (hsys := (by first | assumption | rfl | omega | simp)) (ho := (by first | assumption | rfl | omega | simp))) ?_)))))))
 rintro _ F1 _ le1 ⟨x1, rfl, hr1, rfl⟩
 refine qg (x1) rfl (qb (qw (qs (L' := L) [x1] (x1) (.tmp rfl .nil) rfl le1 rF (sD sR) ?_)))
 exact ⟨_, rfl, hr1, rfl⟩

/- spec.l19Found -/
theorem l19Found_spec {F : FH} {L : List HP} {arv : Value} {ar : List Int} (har : IntsF F arv ar) {rsv : Value} {rs : List (List Int × List Int)} (hrs : PairsF F rsv rs) {tv : Value} {t : List Int} (ht : IntsF F tv t) {uv : Value} {u : List Int} (hu : IntsF F uv u) (ho : termOk ar t = true) (huo : termOk ar u = true) (hla : ar.length ≤ 4000000) :
    Does prog 247 [.agg #[arv, rsv], tv, uv] F (L) (fun v F' L' => ∃ (a : Value), (.tuple #[ii (instI ar t u), .agg #[a]] : Value) = v ∧ (RowsF F' a (placeS ar t u)) ∧ L = L') := by
 refine qL func247 rfl rfl rfl ?_
 have hul := termOk_len huo
 have htl := termOk_len ho
 refine qc (qa (cX (jd [arv, rsv] rfl rfl ?_)))
 intro b1
 refine qg (ii (0)) rfl (cX (jc [sN] jB rfl ?_))
 intro b2
 refine qb (qc (qc (qa (qg (ii (0)) rfl (qb (qN (jw (α := Nat × FH) (fun xQ => [(1, tv), (2, uv), (3, ptr b1 0), (7, ptr b2 0), (8, ii (((xQ.1 : Nat) : Int)))]) (fun xQ => cellsH b2 [sN] 115 :: cellsH b1 [arv, rsv] 39 :: L) (fun xQ F' => xQ.2 = F' ∧ F ≤ xQ.2 ∧ (xQ.1 ≤ u.length) ∧ (∀ i, i < xQ.1 → (matchB ar t (sub ar u i)).isSome = false)) (fun xQ => u.length - xQ.1) (0, F) ⟨rfl, rfl, rfl, rfl, rfl, ⟨⟩⟩ (sC (sC sR)) ⟨rfl, FLe.refl _, (by (try dsimp only) <;> omega), (fun i hi => absurd hi (by omega))⟩ ?_)))))))
 rintro ⟨k, G1⟩ rE _ _ ⟨rfl, leG, hk, hall⟩
 show X _ _ _ _ (envs [(1, tv), (2, uv), (3, ptr b1 0), (7, ptr b2 0), (8, ii ((k : Int)))] rE) _ (cellsH b2 [sN] 115 :: cellsH b1 [arv, rsv] 39 :: L)
 replace leG : F ≤ G1 := leG
 dsimp only at hk hall
 have hsk := fun (h : k < u.length) => (show (if posOk ar u (k : Int) = true then sub ar u ((k : Int)).toNat else []) = sub ar u k from if_pos (posOk_iff.2 ⟨huo, by omega⟩))
 have hso := fun (h : k < u.length) => sub_ok huo h
 have leG1 := leG
 replace har := har.mono leG1
 replace ht := ht.mono leG1
 replace hu := hu.mono leG1
 refine qc (qc (qa (qd (ii ((k : Int))) rfl (qd (uv) rfl (cX (qD qf rfl hu.slv (cX (jf rfl rfl (qb ?_)))))))))
 refine qE (p := (k : Int) < (u.length : Int)) rfl (fun h1 => ?_) (fun h1 => ?_)
 ·refine qz (qc (qN (qc ?_)))
  refine jZ [cellsH b2 [sN] 115, cellsH b1 [arv, rsv] 39] L 14 [[], [], [], [], [], [], [], [], [], [8], [8], [], [], [8, 12]] [[], [0], [], [], [3], [], [], [4, 5, 6], [1, 2, 7], [8], [8, 9], [8, 9], [], [8, 10, 12]] [[], [], [], [], [], [], [], [], [], [], [], [], [], [12]] (phiG [pe (ptr b1 0), pe (.agg #[arv]), pe tv, pe (ptr b1 0), pe (.agg #[arv]), pe uv, pe (ii ((k : Int)) : Value), fun FF us v => ((v) : Value) = v ∧ (IntsF FF (v) (if posOk ar u ((k : Int)) = true then sub ar u ((k : Int)).toNat else [])), fun FF us v => (.tuple #[.agg #[((aggAt (tupAt v 0) 0))], .bool ((matchB ar t (if posOk ar u ((k : Int)) = true then sub ar u ((k : Int)).toNat else [])).isSome)] : Value) = v ∧ (RowsF FF ((aggAt (tupAt v 0) 0)) (matchP ar t (if posOk ar u ((k : Int)) = true then sub ar u ((k : Int)).toNat else []))), fun FF us v => v = (.tuple #[.agg #[((aggAt (tupAt (us.getD 0 undef) 0) 0))], .bool ((matchB ar t (if posOk ar u ((k : Int)) = true then sub ar u ((k : Int)).toNat else [])).isSome)] : Value), fun FF us v => v = (.agg #[((aggAt (tupAt (us.getD 0 undef) 0) 0))] : Value), pe (.bool ((matchB ar t (if posOk ar u ((k : Int)) = true then sub ar u ((k : Int)).toNat else [])).isSome) : Value), fun FF us v => v = ptr (blk v) 0, fun FF us v => True]) (ownL [o0, o0, o0, o0, o0, o0, o0, o0, o0, o0, o0, o0, fun us v => [cellsH (blk v) [sN] 115], fun us v => [cellsH (blk (us.getD 1 undef)) [((aggAt (tupAt (us.getD 0 undef) 0) 0))] 115]]) mixed rfl rfl (by kernel_rfl) (by kernel_rfl) (MonoG.get (m1 (m1 (m1 (m1 (m1 (m1 (m1 (mC (fun le h => ⟨h.1, h.2.mono le⟩) (mC (fun le h => ⟨h.1, h.2.mono le⟩) (mC (fun le h => h) (mC (fun le h => h) (m1 (mC (fun le h => h) (mC (fun le h => h) MonoG.nil))))))))))))))) ?_ ?_
  ·refine gD (fun W Fs R lF z9 => ?_) ?_
   ·refine qi (qk (0) ja rfl qY (by decide) rfl rfl ?_)
    exact ⟨rfl, rfl⟩
   refine gD (fun W Fs R lF z9 => ?_) ?_
   ·replace har := har.mono lF
    replace ht := ht.mono lF
    replace hu := hu.mono lF
    rw [eS (l := [(0, _)]) ⟨z9 0 rfl, ⟨⟩⟩]
    refine qi (qn [arv] js qY rfl rfl (Rd.ownN [_] rfl rfl) ?_)
    exact ⟨rfl, rfl⟩
   refine gD (fun W Fs R lF z9 => ?_) ?_
   ·refine qi (qq (tv) rfl ?_)
    exact ⟨rfl, rfl⟩
   refine gD (fun W Fs R lF z9 => ?_) ?_
   ·refine qi (qk (0) ja rfl qY (by decide) rfl rfl ?_)
    exact ⟨rfl, rfl⟩
   refine gD (fun W Fs R lF z9 => ?_) ?_
   ·replace har := har.mono lF
    replace ht := ht.mono lF
    replace hu := hu.mono lF
    rw [eS (l := [(3, _)]) ⟨z9 3 rfl, ⟨⟩⟩]
    refine qi (qn [arv] js qY rfl rfl (Rd.ownN [_] rfl rfl) ?_)
    exact ⟨rfl, rfl⟩
   refine gD (fun W Fs R lF z9 => ?_) ?_
   ·refine qi (qq (uv) rfl ?_)
    exact ⟨rfl, rfl⟩
   refine gD (fun W Fs R lF z9 => ?_) ?_
   ·refine qi (qq (ii ((k : Int))) rfl ?_)
    exact ⟨rfl, rfl⟩
   refine gD (fun W Fs R lF z9 => ?_) ?_
   ·replace har := har.mono lF
    replace ht := ht.mono lF
    replace hu := hu.mono lF
    rw [eS (l := [(4, _), (5, _), (6, _)]) ⟨z9 4 rfl, z9 5 rfl, z9 6 rfl, ⟨⟩⟩]
    refine qi (qo (args := [.agg #[arv], uv, ii ((k : Int))]) call149 rfl (sSubAt_spec (p := (k : Int)) har hu (hla := (by first | assumption | rfl | omega | simp)) (hlt := (by first | assumption | rfl | omega | simp))) ?_)
    rintro _ F3 _ le3 ⟨x3, rfl, hr3, rfl⟩
    replace har := har.mono le3
    replace ht := ht.mono le3
    exact ⟨⟨rfl, hr3⟩, rfl⟩
   refine gD (fun W Fs R lF z9 => ?_) ?_
   ·obtain ⟨e7, f7_1hr⟩ := z9 7 rfl
    replace har := har.mono lF
    replace ht := ht.mono lF
    rw [eS (l := [(1, _), (2, _), (7, ((W 7)))]) ⟨z9 1 rfl, z9 2 rfl, (e7).symm, ⟨⟩⟩]
    refine qi (qo (args := [.agg #[arv], tv, ((W 7))]) call304 rfl (sMatched_spec har ht f7_1hr (ho := (by rw [hsk (by omega)]; exact hso (by omega))) (hpo := (ho)) (hla := (by first | assumption | rfl | omega | simp))) ?_)
    rintro _ F4 _ le4 ⟨x4, rfl, hr4, rfl⟩
    replace har := har.mono le4
    replace f7_1hr := f7_1hr.mono le4
    exact ⟨⟨rfl, hr4⟩, rfl⟩
   refine gD (fun W Fs R lF z9 => ?_) ?_
   ·obtain ⟨e8, f8_1hr⟩ := z9 8 rfl
    rw [eS (l := [(8, (.tuple #[.agg #[((aggAt (tupAt (W 8) 0) 0))], .bool ((matchB ar t (if posOk ar u ((k : Int)) = true then sub ar u ((k : Int)).toNat else [])).isSome)]))]) ⟨(e8).symm, ⟨⟩⟩]
    refine qi (qq (.tuple #[.agg #[((aggAt (tupAt (W 8) 0) 0))], .bool ((matchB ar t (if posOk ar u ((k : Int)) = true then sub ar u ((k : Int)).toNat else [])).isSome)]) rfl ?_)
    exact ⟨rfl, rfl⟩
   refine gD (fun W Fs R lF z9 => ?_) ?_
   ·obtain ⟨e8, f8_1hr⟩ := z9 8 rfl
    have e9 : W 9 = (.tuple #[.agg #[((aggAt (tupAt (W 8) 0) 0))], .bool ((matchB ar t (if posOk ar u ((k : Int)) = true then sub ar u ((k : Int)).toNat else [])).isSome)] : Value) := z9 9 rfl
    rw [eS (l := [(8, (.tuple #[.agg #[((aggAt (tupAt (W 8) 0) 0))], .bool ((matchB ar t (if posOk ar u ((k : Int)) = true then sub ar u ((k : Int)).toNat else [])).isSome)])), (9, (.tuple #[.agg #[((aggAt (tupAt (W 8) 0) 0))], .bool ((matchB ar t (if posOk ar u ((k : Int)) = true then sub ar u ((k : Int)).toNat else [])).isSome)]))]) ⟨(e8).symm, e9, ⟨⟩⟩]
    refine qi (qQ (.agg #[((aggAt (tupAt (W 8) 0) 0))]) rfl rfl ?_)
    exact ⟨rfl, rfl⟩
   refine gD (fun W Fs R lF z9 => ?_) ?_
   ·obtain ⟨e8, f8_1hr⟩ := z9 8 rfl
    have e9 : W 9 = (.tuple #[.agg #[((aggAt (tupAt (W 8) 0) 0))], .bool ((matchB ar t (if posOk ar u ((k : Int)) = true then sub ar u ((k : Int)).toNat else [])).isSome)] : Value) := z9 9 rfl
    rw [eS (l := [(8, (.tuple #[.agg #[((aggAt (tupAt (W 8) 0) 0))], .bool ((matchB ar t (if posOk ar u ((k : Int)) = true then sub ar u ((k : Int)).toNat else [])).isSome)])), (9, (.tuple #[.agg #[((aggAt (tupAt (W 8) 0) 0))], .bool ((matchB ar t (if posOk ar u ((k : Int)) = true then sub ar u ((k : Int)).toNat else [])).isSome)]))]) ⟨(e8).symm, e9, ⟨⟩⟩]
    refine qi (qQ (.bool ((matchB ar t (if posOk ar u ((k : Int)) = true then sub ar u ((k : Int)).toNat else [])).isSome)) rfl rfl ?_)
    exact ⟨rfl, rfl⟩
   refine gD (fun W Fs R lF z9 => ?_) ?_
   ·replace har := har.mono lF
    refine qi (jc [sN] jB rfl ?_)
    intro b4
    exact ⟨rfl, rfl⟩
   refine gD (fun W Fs R lF z9 => ?_) ?_
   ·obtain ⟨e8, f8_1hr⟩ := z9 8 rfl
    have e10 : W 10 = (.agg #[((aggAt (tupAt (W 8) 0) 0))] : Value) := z9 10 rfl
    have e12 : W 12 = ptr (blk (W 12)) 0 := z9 12 rfl
    rw [eS (l := [(8, (.tuple #[.agg #[((aggAt (tupAt (W 8) 0) 0))], .bool ((matchB ar t (if posOk ar u ((k : Int)) = true then sub ar u ((k : Int)).toNat else [])).isSome)])), (10, (.agg #[((aggAt (tupAt (W 8) 0) 0))])), (12, ptr (blk (W 12)) 0)]) ⟨(e8).symm, e10, e12, ⟨⟩⟩]
    show XG _ _ _ _ _ (cellsH (blk (W 12)) [sN] 115 :: ([cellsH b2 [sN] 115, cellsH b1 [arv, rsv] 39] ++ R)) _
    refine qi (qC [] _ [((aggAt (tupAt (W 8) 0) 0))] qV rfl rfl rfl (qj (qJ (RowsF.isSl f8_1hr)) qK) rfl rfl rfl ?_)
    exact ⟨trivial, rfl⟩
   exact stepsG.nil
  intro W F5 le5 hphi
  obtain ⟨e7, f7_1hr⟩ := hphi 7 (by decide)
  obtain ⟨e8, f8_1hr⟩ := hphi 8 (by decide)
  have e9 : W 9 = (.tuple #[.agg #[((aggAt (tupAt (W 8) 0) 0))], .bool ((matchB ar t (if posOk ar u ((k : Int)) = true then sub ar u ((k : Int)).toNat else [])).isSome)] : Value) := hphi 9 (by decide)
  have e10 : W 10 = (.agg #[((aggAt (tupAt (W 8) 0) 0))] : Value) := hphi 10 (by decide)
  have e12 : W 12 = ptr (blk (W 12)) 0 := hphi 12 (by decide)
  generalize hu1 : ((W 7)) = u1 at e7 f7_1hr e8 f8_1hr e9 e10 e12
  generalize hu2 : ((aggAt (tupAt (W 8) 0) 0)) = u2 at e7 f7_1hr e8 f8_1hr e9 e10 e12
  generalize hu3 : blk (W 12) = b5 at e7 f7_1hr e8 f8_1hr e9 e10 e12
  rw [eS (l := [(8, (.tuple #[.agg #[u2], .bool ((matchB ar t (if posOk ar u ((k : Int)) = true then sub ar u ((k : Int)).toNat else [])).isSome)])), (11, _), (12, ptr b5 0)]) ⟨(e8).symm, (hphi 11 (by decide)), e12, ⟨⟩⟩]
  show XL _ _ _ _ _ _ _ (cellsH b5 [u2] 115 :: cellsH b2 [sN] 115 :: cellsH b1 [arv, rsv] 39 :: L)
  refine qg (.bool ((matchB ar t (if posOk ar u ((k : Int)) = true then sub ar u ((k : Int)).toNat else [])).isSome)) rfl (qb (qc (qa (qd (.bool ((matchB ar t (if posOk ar u ((k : Int)) = true then sub ar u ((k : Int)).toNat else [])).isSome)) rfl (qb ?_)))))
  refine jN (t := (matchB ar t (if posOk ar u ((k : Int)) = true then sub ar u ((k : Int)).toNat else [])).isSome) rfl (fun h2 => ?_) (fun h2 => ?_)
  ·have hmk : (matchB ar t (sub ar u k)).isSome = true := by rw [← hsk (by omega)]; exact h2
   refine qc ?_
   refine jY [cellsH b5 [u2] 115, cellsH b2 [sN] 115, cellsH b1 [arv, rsv] 39] L 3 [] [[], [], [0]] (phiL [qe (ii ((k : Int)) : Value), qe (.agg #[u2]), qe (ii ((k : Int)) : Value)]) (ownL []) mixed rfl rfl (by kernel_rfl) ?_ ?_
   ·refine pD (fun W R z9 => ?_) ?_
    ·refine qi (qq (ii ((k : Int))) rfl ?_)
     exact ⟨rfl, rfl, rfl⟩
    refine pD (fun W R z9 => ?_) ?_
    ·refine qi (qn [u2] jC qV rfl rfl (Rd.ownN [] rfl rfl) ?_)
     exact ⟨rfl, rfl, rfl⟩
    refine pD (fun W R z9 => ?_) ?_
    ·rw [eS (l := [(0, _)]) ⟨z9 0 rfl, ⟨⟩⟩]
     refine qi (XOp.assign (ii ((k : Int))) rfl ?_)
     exact ⟨rfl, rfl, rfl⟩
    exact stepsP.nil
   intro W hphi
   rw [eS (l := [(1, _), (2, _)]) ⟨(hphi 1 (by decide)), (hphi 2 (by decide)), ⟨⟩⟩]
   show XL _ _ _ _ _ _ _ (cellsH b5 [u2] 115 :: cellsH b2 [sN] 115 :: cellsH b1 [arv, rsv] 39 :: L)
   refine cX (qC [_] _ [u2] qV rfl rfl rfl (qj (qJ (RowsF.isSl f8_1hr)) qK) rfl rfl rfl (qb (qw (qI (qm (qm (qI (qm (qs (L' := L) [ii ((k : Int)), .agg #[u2]] (.tuple #[ii ((k : Int)), .agg #[u2]]) (.tmp rfl (.cell rfl (jx [u2] jC qV rfl (Rd.ownN [_] rfl rfl)) .nil)) rfl (qh leG1 le5) rF (sD (sD (sD sR))) ?_)))))))))
   have e := instI_at (by omega) hmk hall
   have e2 := placeS_at e
   exact ⟨_, by rw [e], by rw [e2, ← hsk (by omega)]; exact f8_1hr, rfl⟩
  have hmk : (matchB ar t (sub ar u k)).isSome = false := by rw [← hsk (by omega)]; exact h2
  refine qz (qa (qd (ii ((k : Int))) rfl (cX (qP (((k + 1 : Nat) : Int)) rfl rfl (by omega) (by omega) (qg (ii (((k + 1 : Nat) : Int))) rfl (qb ?_))))))
  exact ⟨(k + 1, F5), _, (qh leG1 le5), rF, ⟨rfl, rfl, rfl, rfl, rfl, ⟨⟩⟩, (sD (sC (sC sR))), ⟨rfl, (qh leG1 le5), (by (try dsimp only) <;> omega), (fun i hi => (Nat.lt_or_ge i k).elim (fun h => hall i h) (fun h => by obtain rfl : i = k := (by omega); exact hmk))⟩, (by omega)⟩
 refine jo (qt (qt (qO (qc (qa (cX (jg [sN] [sN] [(0, 1)] [] qW jB rfl (.cons rfl jk PlacesAre.nil) rfl CellsAre.nil (qg (ii (-1)) rfl (cX (qC [] _ [sN] qV rfl rfl rfl (qj rfl qK) rfl rfl rfl (qb (qw (qs (L' := L) [ii (-1), .agg #[sN]] (.tuple #[ii (-1), .agg #[sN]]) (.tmp rfl (.cell rfl (jx [sN] jC qV rfl (Rd.ownN [] rfl rfl)) .nil)) rfl leG1 rF (sD (sD sR)) ?_)))))))))))))
 have e := instI_none (fun i hi => hall i (by omega))
 have e2 := placeS_none e
 exact ⟨_, by rw [e], by rw [e2]; exact SlOf.nilV, rfl⟩

/- spec.LoopFrom -/
set_option maxHeartbeats 1000000 in
set_option maxRecDepth 20000 in
theorem sLoopFrom_spec {F : FH} {L : List HP} {arv : Value} {ar : List Int} (har : IntsF F arv ar) {rsv : Value} {rs : List (List Int × List Int)} (hrs : PairsF F rsv rs) {tv : Value} {t : List Int} (ht : IntsF F tv t) {n : Int} (hla : ar.length ≤ 4000000) (hlr : rs.length ≤ 4000000) (hrb : ∀ i, i < rs.length → (rs.getD i ([], [])).1.length ≤ 4000000 ∧ (rs.getD i ([], [])).2.length ≤ 4000000) (hlt : t.length ≤ 4000000) :
    Does prog 146 [.agg #[arv, rsv], tv, ii (n)] F (L) (fun v F' L' => ∃ (a : Value), ∃ (b : Value), ∃ (c : Value), (.tuple #[.agg #[a, b, ii ((loopF ar rs t n).2.2.1), c], .bool ((loopF ar rs t n).2.2.2.2)] : Value) = v ∧ (IntsF F' a (loopF ar rs t n).1) ∧ (StepsF F' b (loopF ar rs t n).2.1) ∧ (RowsF F' c (loopF ar rs t n).2.2.2.1) ∧ L = L') := by
 refine qL func146 rfl rfl rfl (qc (qa (cX (jd [arv, rsv] rfl rfl ?_))))
 intro b1
 refine cX (jc [sN, sN, ii (0), sN] jO rfl ?_)
 intro b2
 refine qg (.bool (false)) rfl (qb (qc (qc (qa (cX (qn [arv, rsv] jr jl rfl rfl (Rd.ownN [_] rfl rfl) (cX (qo (args := [.agg #[arv, rsv]]) call84 rfl (sSystemOk_spec har hrs (hla := (by first | assumption | rfl | omega | simp)) (hlr := (by first | assumption | rfl | omega | simp)) (hrb := (by first | assumption | rfl | omega | simp))) ?_))))))))
 rintro _ _ _ _ ⟨rfl, rfl, rfl⟩
 refine cX (jn rfl (qd (.bool (!(sysOk ar rs))) rfl ?_))
 by_cases h1 : (!(sysOk ar rs)) = true
 ·refine qr (t := 20) rfl (vB h1) (qr (t := 20) rfl (vB h1) (qr (t := 20) rfl (vB h1) (qr (t := 20) rfl (vB h1) (qr (t := 20) rfl (vB h1) (cX (qU (.bool (true)) (vB h1) rfl (qd (.bool (true)) rfl (qr (t := 27) rfl rfl (qr (t := 27) rfl rfl (qr (t := 27) rfl rfl ?_))))))))))
  refine cX (qU (.bool (true)) rfl rfl (qb (jI rfl (qc (qa (cX (jg [sN, sN, ii (0), sN] [sN, sN, ii (0), sN] [(0, 2), (2, 1), (3, 1)] [] qT jO rfl (.cons rfl qH (.cons rfl qy (.cons rfl qV PlacesAre.nil))) rfl CellsAre.nil (cX (qC [] _ [sN, sN, ii (0), sN] jz rfl rfl rfl (qj rfl (qj rfl (qj rfl (qj rfl qK)))) rfl rfl rfl (qg (.bool (false)) rfl (qb (qw (qm (qs (L' := L) [.agg #[sN, sN, ii (0), sN], .bool (false)] (.tuple #[.agg #[sN, sN, ii (0), sN], .bool (false)]) (.cell rfl (jx [sN, sN, ii (0), sN] jX jz rfl (Rd.ownN [] rfl rfl)) (.tmp rfl .nil)) rfl rF rF (sD (sD sR)) ?_))))))))))))))
  have e : loopF ar rs t n = noLoop := loopF_no (by simp_all)
  exact ⟨_, _, _, by rw [e], by rw [e]; exact IntsF.nilV, by rw [e]; exact SlOf.nilV, by rw [e]; exact SlOf.nilV, rfl⟩
 rw [Bool.not_eq_true] at h1
 have hsys : sysOk ar rs = true := by simpa using h1
 have hrs12 := (sysOk_iff.1 hsys).2.1
 refine qp (t := 20) rfl (vB h1) (qk (0) ja rfl qY (by decide) rfl rfl (qp (t := 20) rfl (vB h1) (qn [arv] js qY rfl rfl (Rd.ownN [_] rfl rfl) (qp (t := 20) rfl (vB h1) (qq (tv) rfl (qp (t := 20) rfl (vB h1) (qo (args := [.agg #[arv], tv]) call136 rfl (sTermOk_spec har ht (hla := (by first | assumption | rfl | omega | simp)) (hlt := (by first | assumption | rfl | omega | simp))) ?_)))))))
 rintro _ _ _ _ ⟨rfl, rfl, rfl⟩
 refine qp (t := 20) rfl (vB h1) (jn rfl (cX (qS (.bool (!(termOk ar t))) (vB h1) rfl (qd (.bool (!(termOk ar t))) rfl ?_))))
 by_cases h2 : (!(termOk ar t)) = true
 ·refine qr (t := 27) rfl (vB h2) (qr (t := 27) rfl (vB h2) (qr (t := 27) rfl (vB h2) (cX (qU (.bool (true)) (vB h2) rfl (qb (jI rfl (qc (qa (cX (jg [sN, sN, ii (0), sN] [sN, sN, ii (0), sN] [(0, 2), (2, 1), (3, 1)] [] qT jO rfl (.cons rfl qH (.cons rfl qy (.cons rfl qV PlacesAre.nil))) rfl CellsAre.nil (cX (qC [] _ [sN, sN, ii (0), sN] jz rfl rfl rfl (qj rfl (qj rfl (qj rfl (qj rfl qK)))) rfl rfl rfl (qg (.bool (false)) rfl ?_)))))))))))))
  refine qb (qw (qm (qs (L' := L) [.agg #[sN, sN, ii (0), sN], .bool (false)] (.tuple #[.agg #[sN, sN, ii (0), sN], .bool (false)]) (.cell rfl (jx [sN, sN, ii (0), sN] jX jz rfl (Rd.ownN [] rfl rfl)) (.tmp rfl .nil)) rfl rF rF (sD (sD sR)) ?_)))
  have e : loopF ar rs t n = noLoop := loopF_no (by simp_all)
  exact ⟨_, _, _, by rw [e], by rw [e]; exact IntsF.nilV, by rw [e]; exact SlOf.nilV, by rw [e]; exact SlOf.nilV, rfl⟩
 rw [Bool.not_eq_true] at h2
 have ho : termOk ar t = true := by simpa using h2
 refine qp (t := 27) rfl (vB h2) (qq (ii (n)) rfl (qp (t := 27) rfl (vB h2) (qo (args := [ii (n)]) call244 rfl (l19Steps_spec (n := n)) ?_)))
 rintro _ _ _ _ ⟨rfl, rfl, rfl⟩
 refine qp (t := 27) rfl (vB h2) (yj rfl (cX (qS (.bool (decide (¬(1 ≤ n ∧ n ≤ 20)))) (vB h2) rfl (qb ?_))))
 refine qE (p := ¬(1 ≤ n ∧ n ≤ 20)) rfl (fun h3 => ?_) (fun h3 => ?_)
 ·refine qc (qa (cX (jg [sN, sN, ii (0), sN] [sN, sN, ii (0), sN] [(0, 2), (2, 1), (3, 1)] [] qT jO rfl (.cons rfl qH (.cons rfl qy (.cons rfl qV PlacesAre.nil))) rfl CellsAre.nil (cX (qC [] _ [sN, sN, ii (0), sN] jz rfl rfl rfl (qj rfl (qj rfl (qj rfl (qj rfl qK)))) rfl rfl rfl (qg (.bool (false)) rfl (qb (qw (qm (qs (L' := L) [.agg #[sN, sN, ii (0), sN], .bool (false)] (.tuple #[.agg #[sN, sN, ii (0), sN], .bool (false)]) (.cell rfl (jx [sN, sN, ii (0), sN] jX jz rfl (Rd.ownN [] rfl rfl)) (.tmp rfl .nil)) rfl rF rF (sD (sD sR)) ?_))))))))))
  have e : loopF ar rs t n = noLoop := loopF_no (by simp_all)
  exact ⟨_, _, _, by rw [e], by rw [e]; exact IntsF.nilV, by rw [e]; exact SlOf.nilV, by rw [e]; exact SlOf.nilV, rfl⟩
 have hn20 : 1 ≤ n ∧ n ≤ 20 := by first | exact Classical.not_not.1 h3 | simpa using h3
 have hgd := reachL_good (ar := ar) (rs := rs) (t := t) (n := n - 1) (by omega)
 have hrk := reachL_ok (n := n - 1) hsys ho
 have hrl := hrk.1
 have hrs12 := (sysOk_iff.1 hsys).2.1
 have hrf : reachF ar rs t (n - 1) = reachL ar rs t (n - 1) := reachF_yes (reachOk_iff.2 ⟨⟨hsys, ho⟩, by omega⟩)
 have hxl : (terms (reachF ar rs t (n - 1)).1).length = (reachL ar rs t (n - 1)).1.length := by rw [hrf, terms_len]
 have hxg : ∀ i, (terms (reachF ar rs t (n - 1)).1).getD i [] = (EL (reachL ar rs t (n - 1)).1 i).1 := fun i => by rw [hrf, terms_get]
 have htl9 := termOk_len ho
 refine qz (qc (qa (cX (qn [arv, rsv] jr jl rfl rfl (Rd.ownN [_] rfl rfl) (qd (tv) rfl (qd (ii (n)) rfl (cX (jF (n - 1) rfl rfl (by omega) (by omega) (cX (qo (args := [.agg #[arv, rsv], tv, ii (n - 1)]) call245 rfl (sReachOf_spec (n := n - 1) har hrs ht (hla := (by first | assumption | rfl | omega | simp)) (hlr := (by first | assumption | rfl | omega | simp)) (hrb := (by first | assumption | rfl | omega | simp)) (hlt := (by first | assumption | rfl | omega | simp))) ?_))))))))))
 rintro _ F1 _ le1 ⟨x1, rfl, hr1, rfl⟩
 replace har := har.mono le1
 replace hrs := hrs.mono le1
 replace ht := ht.mono le1
 refine qd (.tuple #[x1, .bool ((reachF ar rs t (n - 1)).2)]) rfl (cX (qQ (x1) rfl rfl (cX (qQ (.bool ((reachF ar rs t (n - 1)).2)) rfl rfl (qg (x1) rfl (qg (.bool ((reachF ar rs t (n - 1)).2)) rfl (qb (qc (qc (qa (qg (ii (0)) rfl (qb (qN (jw (α := Nat × FH) (fun xQ => [(1, tv), (2, ii (n)), (3, ptr b1 0), (6, ptr b2 0), (8, x1), (10, ii (((xQ.1 : Nat) : Int)))]) (fun xQ => cellsH b2 [sN, sN, ii (0), sN] 117 :: cellsH b1 [arv, rsv] 39 :: L) (fun xQ F' => xQ.2 = F' ∧ F1 ≤ xQ.2 ∧ (xQ.1 ≤ (terms (reachF ar rs t (n - 1)).1).length) ∧ (∀ i, i < xQ.1 → nextI ar t (stepsL ar rs (EL (reachL ar rs t (n - 1)).1 i).1) < 0)) (fun xQ => (terms (reachF ar rs t (n - 1)).1).length - xQ.1) (0, F1) ⟨rfl, rfl, rfl, rfl, rfl, rfl, ⟨⟩⟩ (sC (sC sR)) ⟨rfl, FLe.refl _, (by (try dsimp only) <;> omega), (fun i hi => absurd hi (by omega))⟩ ?_))))))))))))))
 rintro ⟨k, G1⟩ rE _ _ ⟨rfl, leG, hk, hno⟩
 show X _ _ _ _ (envs [(1, tv), (2, ii (n)), (3, ptr b1 0), (6, ptr b2 0), (8, x1), (10, ii ((k : Int)))] rE) _ (cellsH b2 [sN, sN, ii (0), sN] 117 :: cellsH b1 [arv, rsv] 39 :: L)
 replace leG : F1 ≤ G1 := leG
 dsimp only at hk hno
 have hgk := hxg k
 have hka := fun (h : k < (reachL ar rs t (n - 1)).1.length) => (show termOk ar (EL (reachL ar rs t (n - 1)).1 k).1 = true from hrk.2 k h)
 have hkt := fun (h : k < (terms (reachF ar rs t (n - 1)).1).length) => (show termOk ar ((terms (reachF ar rs t (n - 1)).1).getD k []) = true from by rw [hgk]; exact hka (by omega))
 have hkl := fun (h : k < (terms (reachF ar rs t (n - 1)).1).length) => termOk_len (hkt h)
 have leG1 := leG
 replace har := har.mono leG1
 replace hrs := hrs.mono leG1
 replace ht := ht.mono leG1
 replace hr1 := hr1.mono leG1
 refine qc (qc (qa (qd (ii ((k : Int))) rfl (qd (x1) rfl (cX (qD qM rfl hr1.slv (cX (jf rfl rfl (qb ?_)))))))))
 refine qE (p := (k : Int) < (((terms (reachF ar rs t (n - 1)).1).length : Nat) : Int)) rfl (fun h4 => ?_) (fun h4 => ?_)
 ·refine qz (qc (qN (qc ?_)))
  obtain ⟨a1, ha1, hr2⟩ := hr1.rd (i := k) (by omega)
  refine jY [cellsH b2 [sN, sN, ii (0), sN] 117, cellsH b1 [arv, rsv] 39] L 5 [] [[], [], [], [1, 2], [3]] (phiL [qe (.agg #[arv, rsv]), qe x1, qe (ii ((k : Int)) : Value), qe (.pointer (some (elemA x1 (k)))), qe a1]) (ownL []) mixed rfl rfl (by kernel_rfl) ?_ ?_
  ·refine pD (fun W R z9 => ?_) ?_
   ·refine qi (qn [arv, rsv] jr jl rfl rfl (Rd.ownN [_] rfl rfl) ?_)
    exact ⟨rfl, rfl, rfl⟩
   refine pD (fun W R z9 => ?_) ?_
   ·refine qi (qq (x1) rfl ?_)
    exact ⟨rfl, rfl, rfl⟩
   refine pD (fun W R z9 => ?_) ?_
   ·refine qi (qq (ii ((k : Int))) rfl ?_)
    exact ⟨rfl, rfl, rfl⟩
   refine pD (fun W R z9 => ?_) ?_
   ·rw [eS (l := [(1, _), (2, _)]) ⟨z9 1 rfl, z9 2 rfl, ⟨⟩⟩]
    refine qi (qB k qM qu rfl rfl rfl hr1.slv (by omega) (Nat.mul_one _) ?_)
    exact ⟨rfl, rfl, rfl⟩
   refine pD (fun W R z9 => ?_) ?_
   ·rw [eS (l := [(3, _)]) ⟨z9 3 rfl, ⟨⟩⟩]
    refine qi (ql qZ rfl (hr2 _) ?_)
    exact ⟨rfl, rfl, rfl⟩
   exact stepsP.nil
  intro W hphi
  rw [eS (l := [(0, _), (4, _)]) ⟨(hphi 0 (by decide)), (hphi 4 (by decide)), ⟨⟩⟩]
  show XL _ _ _ _ _ _ _ (cellsH b2 [sN, sN, ii (0), sN] 117 :: cellsH b1 [arv, rsv] 39 :: L)
  refine cX (qo (args := [.agg #[arv, rsv], a1]) call246 rfl (sStepsFrom_spec har hrs ha1 (hsys := (hsys)) (ho := (hkt (by omega))) (hla := (by first | assumption | rfl | omega | simp)) (hlr := (by first | assumption | rfl | omega | simp)) (hrb := (by first | assumption | rfl | omega | simp)) (hlt := (by have := hkl (by omega); omega))) ?_)
  rintro _ F2 _ le2 ⟨x2, rfl, hr3, rfl⟩
  replace har := har.mono le2
  replace hrs := hrs.mono le2
  replace ht := ht.mono le2
  replace hr1 := hr1.mono le2
  refine qg (x2) rfl (qb (qc (qa (qg (ii (0)) rfl (qb (qN (jw (α := Nat × FH) (fun xQ => [(1, tv), (2, ii (n)), (3, ptr b1 0), (6, ptr b2 0), (8, x1), (10, ii ((k : Int))), (11, x2), (12, ii (((xQ.1 : Nat) : Int)))]) (fun xQ => cellsH b2 [sN, sN, ii (0), sN] 117 :: cellsH b1 [arv, rsv] 39 :: L) (fun xQ F' => xQ.2 = F' ∧ F2 ≤ xQ.2 ∧ (xQ.1 ≤ (stepsL ar rs ((terms (reachF ar rs t (n - 1)).1).getD k [])).length) ∧ (∀ i, i < xQ.1 → instI ar t ((stepsL ar rs ((terms (reachF ar rs t (n - 1)).1).getD k [])).getD i (0, 0, [])).2.2 < 0)) (fun xQ => (stepsL ar rs ((terms (reachF ar rs t (n - 1)).1).getD k [])).length - xQ.1) (0, F2) ⟨rfl, rfl, rfl, rfl, rfl, rfl, rfl, rfl, ⟨⟩⟩ (sC (sC sR)) ⟨rfl, FLe.refl _, (by (try dsimp only) <;> omega), (fun i hi => absurd hi (by omega))⟩ ?_)))))))
  rintro ⟨q, G2⟩ rE _ _ ⟨rfl, leG, hq, hnq⟩
  show X _ _ _ _ (envs [(1, tv), (2, ii (n)), (3, ptr b1 0), (6, ptr b2 0), (8, x1), (10, ii ((k : Int))), (11, x2), (12, ii ((q : Int)))] rE) _ (cellsH b2 [sN, sN, ii (0), sN] 117 :: cellsH b1 [arv, rsv] 39 :: L)
  replace leG : F2 ≤ G2 := leG
  dsimp only at hq hnq
  have hnl : (stepsL ar rs ((terms (reachF ar rs t (n - 1)).1).getD k [])).length ≤ 1000 := by have h9 := stepsTo_len (ar := ar) (t := (terms (reachF ar rs t (n - 1)).1).getD k []) (rs := rs) hrs12 ((terms (reachF ar rs t (n - 1)).1).getD k []).length; have h8 := hkl (by omega); show (stepsTo ar rs ((terms (reachF ar rs t (n - 1)).1).getD k []) ((terms (reachF ar rs t (n - 1)).1).getD k []).length).length ≤ 1000; omega
  have hqo := fun (h : q < (stepsL ar rs ((terms (reachF ar rs t (n - 1)).1).getD k [])).length) => steps_ok hsys (hkt (by omega)) h
  have hql := fun (h : q < (stepsL ar rs ((terms (reachF ar rs t (n - 1)).1).getD k [])).length) => termOk_len (hqo h)
  have leG2 := leG
  replace har := har.mono leG2
  replace hrs := hrs.mono leG2
  replace ht := ht.mono leG2
  replace hr1 := hr1.mono leG2
  replace hr3 := hr3.mono leG2
  refine qc (qc (qa (qd (ii ((q : Int))) rfl (qd (x2) rfl (cX (qD qG rfl hr3.slv (cX (jf rfl rfl (qb ?_)))))))))
  refine qE (p := (q : Int) < (((stepsL ar rs (((terms (reachF ar rs t (n - 1)).1).getD k []))).length : Nat) : Int)) rfl (fun h5 => ?_) (fun h5 => ?_)
  ·refine qz (qc (qN (qc ?_)))
   obtain ⟨a2, ha2, hr4, hr5, hr6⟩ := hr3.rd (i := q) (by omega)
   refine jZ [cellsH b2 [sN, sN, ii (0), sN] 117, cellsH b1 [arv, rsv] 39] L 13 [[], [], [], [], [], [], [], [], [7], [], [7]] [[], [], [], [], [2, 3], [4], [5], [0, 1, 6], [7], [7, 8], [7, 8], [], [9]] [] (phiG [pe (.agg #[arv, rsv]), pe tv, pe x2, pe (ii ((q : Int)) : Value), pe (.pointer (some (elemA x2 (q * 3)))), pe (.pointer (some (elemA x2 (q * 3 + 2)))), pe a2, fun FF us v => (.tuple #[ii (instI ar t (((stepsL ar rs (((terms (reachF ar rs t (n - 1)).1).getD k []))).getD q (0, 0, [])).2.2)), .agg #[((aggAt (tupAt v 1) 0))]] : Value) = v ∧ (RowsF FF ((aggAt (tupAt v 1) 0)) (placeS ar t (((stepsL ar rs (((terms (reachF ar rs t (n - 1)).1).getD k []))).getD q (0, 0, [])).2.2))), fun FF us v => v = (.tuple #[ii (instI ar t (((stepsL ar rs (((terms (reachF ar rs t (n - 1)).1).getD k []))).getD q (0, 0, [])).2.2)), .agg #[((aggAt (tupAt (us.getD 0 undef) 1) 0))]] : Value), pe (ii (instI ar t (((stepsL ar rs (((terms (reachF ar rs t (n - 1)).1).getD k []))).getD q (0, 0, [])).2.2))), fun FF us v => v = (.agg #[((aggAt (tupAt (us.getD 0 undef) 1) 0))] : Value), fun FF us v => v = ptr (blk v) 0, pe (ii (instI ar t (((stepsL ar rs (((terms (reachF ar rs t (n - 1)).1).getD k []))).getD q (0, 0, [])).2.2)))]) (ownL [o0, o0, o0, o0, o0, o0, o0, o0, o0, o0, o0, fun us v => [cellsH (blk v) [sN] 115]]) mixed rfl rfl (by kernel_rfl) (by kernel_rfl) (MonoG.get (m1 (m1 (m1 (m1 (m1 (m1 (m1 (mC (fun le h => ⟨h.1, h.2.mono le⟩) (mC (fun le h => h) (m1 (mC (fun le h => h) (mC (fun le h => h) (m1 MonoG.nil)))))))))))))) ?_ ?_
   ·refine gD (fun W Fs R lF z9 => ?_) ?_
    ·replace har := har.mono lF
     replace hrs := hrs.mono lF
     replace ht := ht.mono lF
     replace hr1 := hr1.mono lF
     replace hr3 := hr3.mono lF
     replace ha2 := ha2.mono lF
     replace hr4 := Rd.monoA hr4 lF
     replace hr5 := Rd.monoA hr5 lF
     replace hr6 := Rd.monoA hr6 lF
     refine qi (qn [arv, rsv] jr jl rfl rfl (Rd.ownN [_] rfl rfl) ?_)
     exact ⟨rfl, rfl⟩
    refine gD (fun W Fs R lF z9 => ?_) ?_
    ·refine qi (qq (tv) rfl ?_)
     exact ⟨rfl, rfl⟩
    refine gD (fun W Fs R lF z9 => ?_) ?_
    ·refine qi (qq (x2) rfl ?_)
     exact ⟨rfl, rfl⟩
    refine gD (fun W Fs R lF z9 => ?_) ?_
    ·refine qi (qq (ii ((q : Int))) rfl ?_)
     exact ⟨rfl, rfl⟩
    refine gD (fun W Fs R lF z9 => ?_) ?_
    ·replace har := har.mono lF
     replace hrs := hrs.mono lF
     replace ht := ht.mono lF
     replace hr1 := hr1.mono lF
     replace hr3 := hr3.mono lF
     replace ha2 := ha2.mono lF
     replace hr4 := Rd.monoA hr4 lF
     replace hr5 := Rd.monoA hr5 lF
     replace hr6 := Rd.monoA hr6 lF
     rw [eS (l := [(2, _), (3, _)]) ⟨z9 2 rfl, z9 3 rfl, ⟨⟩⟩]
     refine qi (qB q qG ji rfl rfl rfl hr3.slv (by omega) rfl ?_)
     exact ⟨rfl, rfl⟩
    refine gD (fun W Fs R lF z9 => ?_) ?_
    ·rw [eS (l := [(4, _)]) ⟨z9 4 rfl, ⟨⟩⟩]
     refine qi (jW (q * 3 + 2) jm rfl qu (by decide) rfl rfl ?_)
     exact ⟨rfl, rfl⟩
    refine gD (fun W Fs R lF z9 => ?_) ?_
    ·replace har := har.mono lF
     replace hrs := hrs.mono lF
     replace ht := ht.mono lF
     replace hr1 := hr1.mono lF
     replace hr3 := hr3.mono lF
     replace ha2 := ha2.mono lF
     replace hr4 := Rd.monoA hr4 lF
     replace hr5 := Rd.monoA hr5 lF
     replace hr6 := Rd.monoA hr6 lF
     rw [eS (l := [(5, _)]) ⟨z9 5 rfl, ⟨⟩⟩]
     refine qi (ql qZ rfl (hr6 _) ?_)
     exact ⟨rfl, rfl⟩
    refine gD (fun W Fs R lF z9 => ?_) ?_
    ·replace har := har.mono lF
     replace hrs := hrs.mono lF
     replace ht := ht.mono lF
     replace hr1 := hr1.mono lF
     replace hr3 := hr3.mono lF
     replace ha2 := ha2.mono lF
     replace hr4 := Rd.monoA hr4 lF
     replace hr5 := Rd.monoA hr5 lF
     replace hr6 := Rd.monoA hr6 lF
     rw [eS (l := [(0, _), (1, _), (6, _)]) ⟨z9 0 rfl, z9 1 rfl, z9 6 rfl, ⟨⟩⟩]
     refine qi (qo (args := [.agg #[arv, rsv], tv, a2]) call247 rfl (l19Found_spec har hrs ht ha2 (ho := (ho)) (huo := (hqo (by omega))) (hla := (by first | assumption | rfl | omega | simp))) ?_)
     rintro _ F4 _ le4 ⟨x4, rfl, hr8, rfl⟩
     replace har := har.mono le4
     replace hrs := hrs.mono le4
     replace ht := ht.mono le4
     replace hr1 := hr1.mono le4
     replace hr3 := hr3.mono le4
     replace ha2 := ha2.mono le4
     replace hr4 := Rd.monoA hr4 le4
     replace hr5 := Rd.monoA hr5 le4
     replace hr6 := Rd.monoA hr6 le4
     exact ⟨⟨rfl, hr8⟩, rfl⟩
    refine gD (fun W Fs R lF z9 => ?_) ?_
    ·obtain ⟨e7, f7_2hr⟩ := z9 7 rfl
     rw [eS (l := [(7, (.tuple #[ii (instI ar t (((stepsL ar rs (((terms (reachF ar rs t (n - 1)).1).getD k []))).getD q (0, 0, [])).2.2)), .agg #[((aggAt (tupAt (W 7) 1) 0))]]))]) ⟨(e7).symm, ⟨⟩⟩]
     refine qi (qq (.tuple #[ii (instI ar t (((stepsL ar rs (((terms (reachF ar rs t (n - 1)).1).getD k []))).getD q (0, 0, [])).2.2)), .agg #[((aggAt (tupAt (W 7) 1) 0))]]) rfl ?_)
     exact ⟨rfl, rfl⟩
    refine gD (fun W Fs R lF z9 => ?_) ?_
    ·obtain ⟨e7, f7_2hr⟩ := z9 7 rfl
     have e8 : W 8 = (.tuple #[ii (instI ar t (((stepsL ar rs (((terms (reachF ar rs t (n - 1)).1).getD k []))).getD q (0, 0, [])).2.2)), .agg #[((aggAt (tupAt (W 7) 1) 0))]] : Value) := z9 8 rfl
     rw [eS (l := [(7, (.tuple #[ii (instI ar t (((stepsL ar rs (((terms (reachF ar rs t (n - 1)).1).getD k []))).getD q (0, 0, [])).2.2)), .agg #[((aggAt (tupAt (W 7) 1) 0))]])), (8, (.tuple #[ii (instI ar t (((stepsL ar rs (((terms (reachF ar rs t (n - 1)).1).getD k []))).getD q (0, 0, [])).2.2)), .agg #[((aggAt (tupAt (W 7) 1) 0))]]))]) ⟨(e7).symm, e8, ⟨⟩⟩]
     refine qi (qQ (ii (instI ar t (((stepsL ar rs (((terms (reachF ar rs t (n - 1)).1).getD k []))).getD q (0, 0, [])).2.2))) rfl rfl ?_)
     exact ⟨rfl, rfl⟩
    refine gD (fun W Fs R lF z9 => ?_) ?_
    ·obtain ⟨e7, f7_2hr⟩ := z9 7 rfl
     have e8 : W 8 = (.tuple #[ii (instI ar t (((stepsL ar rs (((terms (reachF ar rs t (n - 1)).1).getD k []))).getD q (0, 0, [])).2.2)), .agg #[((aggAt (tupAt (W 7) 1) 0))]] : Value) := z9 8 rfl
     rw [eS (l := [(7, (.tuple #[ii (instI ar t (((stepsL ar rs (((terms (reachF ar rs t (n - 1)).1).getD k []))).getD q (0, 0, [])).2.2)), .agg #[((aggAt (tupAt (W 7) 1) 0))]])), (8, (.tuple #[ii (instI ar t (((stepsL ar rs (((terms (reachF ar rs t (n - 1)).1).getD k []))).getD q (0, 0, [])).2.2)), .agg #[((aggAt (tupAt (W 7) 1) 0))]]))]) ⟨(e7).symm, e8, ⟨⟩⟩]
     refine qi (qQ (.agg #[((aggAt (tupAt (W 7) 1) 0))]) rfl rfl ?_)
     exact ⟨rfl, rfl⟩
    refine gD (fun W Fs R lF z9 => ?_) ?_
    ·replace har := har.mono lF
     replace hrs := hrs.mono lF
     replace ht := ht.mono lF
     replace hr1 := hr1.mono lF
     replace hr3 := hr3.mono lF
     replace ha2 := ha2.mono lF
     replace hr4 := Rd.monoA hr4 lF
     replace hr5 := Rd.monoA hr5 lF
     replace hr6 := Rd.monoA hr6 lF
     refine qi (jc [sN] jB rfl ?_)
     intro b4
     exact ⟨rfl, rfl⟩
    refine gD (fun W Fs R lF z9 => ?_) ?_
    ·rw [eS (l := [(9, _)]) ⟨z9 9 rfl, ⟨⟩⟩]
     refine qi (XOp.assign (ii (instI ar t (((stepsL ar rs (((terms (reachF ar rs t (n - 1)).1).getD k []))).getD q (0, 0, [])).2.2))) rfl ?_)
     exact ⟨rfl, rfl⟩
    exact stepsG.nil
   intro W F5 le5 hphi
   obtain ⟨e7, f7_2hr⟩ := hphi 7 (by decide)
   have e8 : W 8 = (.tuple #[ii (instI ar t (((stepsL ar rs (((terms (reachF ar rs t (n - 1)).1).getD k []))).getD q (0, 0, [])).2.2)), .agg #[((aggAt (tupAt (W 7) 1) 0))]] : Value) := hphi 8 (by decide)
   have e10 : W 10 = (.agg #[((aggAt (tupAt (W 7) 1) 0))] : Value) := hphi 10 (by decide)
   have e11 : W 11 = ptr (blk (W 11)) 0 := hphi 11 (by decide)
   generalize hu1 : ((aggAt (tupAt (W 7) 1) 0)) = u1 at e7 f7_2hr e8 e10 e11
   generalize hu2 : blk (W 11) = b5 at e7 f7_2hr e8 e10 e11
   rw [eS (l := [(7, (.tuple #[ii (instI ar t (((stepsL ar rs (((terms (reachF ar rs t (n - 1)).1).getD k []))).getD q (0, 0, [])).2.2)), .agg #[u1]])), (10, (.agg #[u1])), (11, ptr b5 0), (12, _)]) ⟨(e7).symm, e10, e11, (hphi 12 (by decide)), ⟨⟩⟩]
   replace har := har.mono le5
   replace hrs := hrs.mono le5
   replace ht := ht.mono le5
   replace hr1 := hr1.mono le5
   replace hr3 := hr3.mono le5
   replace ha2 := ha2.mono le5
   replace hr4 := Rd.monoA hr4 le5
   replace hr5 := Rd.monoA hr5 le5
   replace hr6 := Rd.monoA hr6 le5
   show XL _ _ _ _ _ _ _ (cellsH b5 [sN] 115 :: cellsH b2 [sN, sN, ii (0), sN] 117 :: cellsH b1 [arv, rsv] 39 :: L)
   refine cX (qC [] _ [u1] qV rfl rfl rfl (qj (qJ (RowsF.isSl f7_2hr)) qK) rfl rfl rfl (qb (qc (qc (qa (qd (ii (instI ar t (((stepsL ar rs (((terms (reachF ar rs t (n - 1)).1).getD k []))).getD q (0, 0, [])).2.2))) rfl (cX (jf rfl rfl (qb ?_)))))))))
   refine qE (p := (instI ar t (((stepsL ar rs (((terms (reachF ar rs t (n - 1)).1).getD k []))).getD q (0, 0, [])).2.2) : Int) < 0) rfl (fun h6 => ?_) (fun h6 => ?_)
   ·refine jo (qt (qO (qa (qd (ii ((q : Int))) rfl (cX (qP (((q + 1 : Nat) : Int)) rfl rfl (by omega) (by omega) (qg (ii (((q + 1 : Nat) : Int))) rfl (qb ?_))))))))
    exact ⟨(q + 1, F5), _, (qh leG2 le5), rF, ⟨rfl, rfl, rfl, rfl, rfl, rfl, rfl, rfl, ⟨⟩⟩, (sD (sC (sC sR))), ⟨rfl, (qh leG2 le5), (by (try dsimp only) <;> omega), (fun i hi => (Nat.lt_or_ge i q).elim (fun h => hnq i h) (fun h => by obtain rfl : i = q := (by omega); omega))⟩, (by omega)⟩
   have hql9 := hql (by omega)
   have hk9 : k < (reachL ar rs t (n - 1)).1.length := by omega
   have hw9 : (walkToF ar rs t ((terms (reachF ar rs t (n - 1)).1).getD k []) (n - 1)) = (t, walkL (reachL ar rs t (n - 1)).1 k, true) := by rw [walkToF_yes (reachOk2_iff.2 ⟨⟨hsys, ho, by rw [hgk]; exact hka hk9⟩, by omega⟩), hgk, walkTo0_yes (by rw [foundI_dist hgd.2.1 hk9]; omega), foundI_dist hgd.2.1 hk9]; rfl
   have hwl9 := (walkL_len hgd.1 hgd.2.2.1 hk9).2
   have hwl8 : (walkToF ar rs t ((terms (reachF ar rs t (n - 1)).1).getD k []) (n - 1)).2.1.length = (walkL (reachL ar rs t (n - 1)).1 k).length := by rw [hw9]
   refine qz (qc ?_)
   obtain ⟨a3, ha3, hr9⟩ := hr1.rd (i := k) (by omega)
   refine jZ [cellsH b5 [u1] 115, cellsH b2 [sN, sN, ii (0), sN] 117, cellsH b1 [arv, rsv] 39] L 14 [[], [], [], [], [], [], [], [], [], [8], [8], [], [], [8, 12]] [[], [], [], [], [2, 3], [4], [], [6], [0, 1, 5, 7], [8], [8, 9], [8, 9], [], [8, 10, 12]] [[], [], [], [], [], [], [], [], [], [], [], [], [], [12]] (phiG [pe (.agg #[arv, rsv]), pe tv, pe x1, pe (ii ((k : Int)) : Value), pe (.pointer (some (elemA x1 (k)))), pe a3, pe (ii (n)), pe (ii (n - 1)), fun FF us v => (.tuple #[.agg #[((aggAt (tupAt v 0) 0)), ((aggAt (tupAt v 0) 1))], .bool ((walkToF ar rs t (((terms (reachF ar rs t (n - 1)).1).getD k [])) (n - 1)).2.2)] : Value) = v ∧ (IsSl ((aggAt (tupAt v 0) 0))) ∧ (IsSl ((aggAt (tupAt v 0) 1))), fun FF us v => v = (.tuple #[.agg #[((aggAt (tupAt (us.getD 0 undef) 0) 0)), ((aggAt (tupAt (us.getD 0 undef) 0) 1))], .bool ((walkToF ar rs t (((terms (reachF ar rs t (n - 1)).1).getD k [])) (n - 1)).2.2)] : Value), fun FF us v => v = (.agg #[((aggAt (tupAt (us.getD 0 undef) 0) 0)), ((aggAt (tupAt (us.getD 0 undef) 0) 1))] : Value), pe (.bool ((walkToF ar rs t (((terms (reachF ar rs t (n - 1)).1).getD k [])) (n - 1)).2.2)), fun FF us v => v = ptr (blk v) 0, fun FF us v => True]) (ownL [o0, o0, o0, o0, o0, o0, o0, o0, fun us v => [intsH 2 (((aggAt (tupAt v 0) 0))) ((walkToF ar rs t (((terms (reachF ar rs t (n - 1)).1).getD k [])) (n - 1)).1), stepsD 2 102 (((aggAt (tupAt v 0) 1))) ((walkToF ar rs t (((terms (reachF ar rs t (n - 1)).1).getD k [])) (n - 1)).2.1)], o0, o0, o0, fun us v => [cellsH (blk v) [sN, sN] 45], fun us v => [cellsH (blk (us.getD 1 undef)) [((aggAt (tupAt (us.getD 0 undef) 0) 0)), ((aggAt (tupAt (us.getD 0 undef) 0) 1))] 45]]) mixed rfl rfl (by kernel_rfl) (by kernel_rfl) (MonoG.get (m1 (m1 (m1 (m1 (m1 (m1 (m1 (m1 (mC (fun le h => ⟨h.1, h.2.1, h.2.2⟩) (mC (fun le h => h) (mC (fun le h => h) (m1 (mC (fun le h => h) (mC (fun le h => h) MonoG.nil))))))))))))))) ?_ ?_
   ·refine gD (fun W Fs R lF z9 => ?_) ?_
    ·replace har := har.mono lF
     replace hrs := hrs.mono lF
     replace ht := ht.mono lF
     replace hr1 := hr1.mono lF
     replace hr3 := hr3.mono lF
     replace ha2 := ha2.mono lF
     replace f7_2hr := f7_2hr.mono lF
     replace ha3 := ha3.mono lF
     replace hr4 := Rd.monoA hr4 lF
     replace hr5 := Rd.monoA hr5 lF
     replace hr6 := Rd.monoA hr6 lF
     replace hr9 := Rd.monoA hr9 lF
     refine qi (qn [arv, rsv] jr jl rfl rfl (Rd.ownN [_, _] rfl rfl) ?_)
     exact ⟨rfl, rfl⟩
    refine gD (fun W Fs R lF z9 => ?_) ?_
    ·refine qi (qq (tv) rfl ?_)
     exact ⟨rfl, rfl⟩
    refine gD (fun W Fs R lF z9 => ?_) ?_
    ·refine qi (qq (x1) rfl ?_)
     exact ⟨rfl, rfl⟩
    refine gD (fun W Fs R lF z9 => ?_) ?_
    ·refine qi (qq (ii ((k : Int))) rfl ?_)
     exact ⟨rfl, rfl⟩
    refine gD (fun W Fs R lF z9 => ?_) ?_
    ·replace har := har.mono lF
     replace hrs := hrs.mono lF
     replace ht := ht.mono lF
     replace hr1 := hr1.mono lF
     replace hr3 := hr3.mono lF
     replace ha2 := ha2.mono lF
     replace f7_2hr := f7_2hr.mono lF
     replace ha3 := ha3.mono lF
     replace hr4 := Rd.monoA hr4 lF
     replace hr5 := Rd.monoA hr5 lF
     replace hr6 := Rd.monoA hr6 lF
     replace hr9 := Rd.monoA hr9 lF
     rw [eS (l := [(2, _), (3, _)]) ⟨z9 2 rfl, z9 3 rfl, ⟨⟩⟩]
     refine qi (qB k qM qu rfl rfl rfl hr1.slv (by omega) (Nat.mul_one _) ?_)
     exact ⟨rfl, rfl⟩
    refine gD (fun W Fs R lF z9 => ?_) ?_
    ·replace har := har.mono lF
     replace hrs := hrs.mono lF
     replace ht := ht.mono lF
     replace hr3 := hr3.mono lF
     replace ha2 := ha2.mono lF
     replace f7_2hr := f7_2hr.mono lF
     replace ha3 := ha3.mono lF
     replace hr4 := Rd.monoA hr4 lF
     replace hr5 := Rd.monoA hr5 lF
     replace hr6 := Rd.monoA hr6 lF
     replace hr9 := Rd.monoA hr9 lF
     rw [eS (l := [(4, _)]) ⟨z9 4 rfl, ⟨⟩⟩]
     refine qi (ql qZ rfl (hr9 _) ?_)
     exact ⟨rfl, rfl⟩
    refine gD (fun W Fs R lF z9 => ?_) ?_
    ·refine qi (qq (ii (n)) rfl ?_)
     exact ⟨rfl, rfl⟩
    refine gD (fun W Fs R lF z9 => ?_) ?_
    ·rw [eS (l := [(6, _)]) ⟨z9 6 rfl, ⟨⟩⟩]
     refine qi (jF (n - 1) rfl rfl (by omega) (by omega) ?_)
     exact ⟨rfl, rfl⟩
    refine gD (fun W Fs R lF z9 => ?_) ?_
    ·replace har := har.mono lF
     replace hrs := hrs.mono lF
     replace ht := ht.mono lF
     replace hr3 := hr3.mono lF
     replace ha2 := ha2.mono lF
     replace f7_2hr := f7_2hr.mono lF
     replace ha3 := ha3.mono lF
     replace hr4 := Rd.monoA hr4 lF
     replace hr5 := Rd.monoA hr5 lF
     replace hr6 := Rd.monoA hr6 lF
     rw [eS (l := [(0, _), (1, _), (5, _), (7, _)]) ⟨z9 0 rfl, z9 1 rfl, z9 5 rfl, z9 7 rfl, ⟨⟩⟩]
     refine qi (XOp.thawL (id (qo (args := [.agg #[arv, rsv], tv, a3, ii (n - 1)]) call248 rfl (sWalkTo_spec (n := n - 1) har hrs ht ha3 (hla := (by first | assumption | rfl | omega | simp)) (hlr := (by first | assumption | rfl | omega | simp)) (hrb := (by first | assumption | rfl | omega | simp)) (hlt := (by first | assumption | rfl | omega | simp)) (hlu := (by have := hkl (by omega); omega))) ?_)))
     rintro _ F7 _ le7 ⟨x7, x8, rfl, hr13, hr14, hr15, rfl⟩
     refine ⟨[intsH 2 x7 ((walkToF ar rs t (((terms (reachF ar rs t (n - 1)).1).getD k [])) (n - 1)).1), stepsD 2 102 x8 ((walkToF ar rs t (((terms (reachF ar rs t (n - 1)).1).getD k [])) (n - 1)).2.1)], hr15, ?_⟩
     exact ⟨⟨rfl, (qF hr13), (jT hr14)⟩, rfl⟩
    refine gD (fun W Fs R lF z9 => ?_) ?_
    ·obtain ⟨e8, f8_3sl0, f8_3sl1⟩ := z9 8 rfl
     rw [eS (l := [(8, (.tuple #[.agg #[((aggAt (tupAt (W 8) 0) 0)), ((aggAt (tupAt (W 8) 0) 1))], .bool ((walkToF ar rs t (((terms (reachF ar rs t (n - 1)).1).getD k [])) (n - 1)).2.2)]))]) ⟨(e8).symm, ⟨⟩⟩]
     refine qi (qq (.tuple #[.agg #[((aggAt (tupAt (W 8) 0) 0)), ((aggAt (tupAt (W 8) 0) 1))], .bool ((walkToF ar rs t (((terms (reachF ar rs t (n - 1)).1).getD k [])) (n - 1)).2.2)]) rfl ?_)
     exact ⟨rfl, rfl⟩
    refine gD (fun W Fs R lF z9 => ?_) ?_
    ·obtain ⟨e8, f8_3sl0, f8_3sl1⟩ := z9 8 rfl
     have e9 : W 9 = (.tuple #[.agg #[((aggAt (tupAt (W 8) 0) 0)), ((aggAt (tupAt (W 8) 0) 1))], .bool ((walkToF ar rs t (((terms (reachF ar rs t (n - 1)).1).getD k [])) (n - 1)).2.2)] : Value) := z9 9 rfl
     rw [eS (l := [(8, (.tuple #[.agg #[((aggAt (tupAt (W 8) 0) 0)), ((aggAt (tupAt (W 8) 0) 1))], .bool ((walkToF ar rs t (((terms (reachF ar rs t (n - 1)).1).getD k [])) (n - 1)).2.2)])), (9, (.tuple #[.agg #[((aggAt (tupAt (W 8) 0) 0)), ((aggAt (tupAt (W 8) 0) 1))], .bool ((walkToF ar rs t (((terms (reachF ar rs t (n - 1)).1).getD k [])) (n - 1)).2.2)]))]) ⟨(e8).symm, e9, ⟨⟩⟩]
     refine qi (qQ (.agg #[((aggAt (tupAt (W 8) 0) 0)), ((aggAt (tupAt (W 8) 0) 1))]) rfl rfl ?_)
     exact ⟨rfl, rfl⟩
    refine gD (fun W Fs R lF z9 => ?_) ?_
    ·obtain ⟨e8, f8_3sl0, f8_3sl1⟩ := z9 8 rfl
     have e9 : W 9 = (.tuple #[.agg #[((aggAt (tupAt (W 8) 0) 0)), ((aggAt (tupAt (W 8) 0) 1))], .bool ((walkToF ar rs t (((terms (reachF ar rs t (n - 1)).1).getD k [])) (n - 1)).2.2)] : Value) := z9 9 rfl
     rw [eS (l := [(8, (.tuple #[.agg #[((aggAt (tupAt (W 8) 0) 0)), ((aggAt (tupAt (W 8) 0) 1))], .bool ((walkToF ar rs t (((terms (reachF ar rs t (n - 1)).1).getD k [])) (n - 1)).2.2)])), (9, (.tuple #[.agg #[((aggAt (tupAt (W 8) 0) 0)), ((aggAt (tupAt (W 8) 0) 1))], .bool ((walkToF ar rs t (((terms (reachF ar rs t (n - 1)).1).getD k [])) (n - 1)).2.2)]))]) ⟨(e8).symm, e9, ⟨⟩⟩]
     refine qi (qQ (.bool ((walkToF ar rs t (((terms (reachF ar rs t (n - 1)).1).getD k [])) (n - 1)).2.2)) rfl rfl ?_)
     exact ⟨rfl, rfl⟩
    refine gD (fun W Fs R lF z9 => ?_) ?_
    ·replace har := har.mono lF
     replace hr3 := hr3.mono lF
     replace ha2 := ha2.mono lF
     replace f7_2hr := f7_2hr.mono lF
     replace hr4 := Rd.monoA hr4 lF
     replace hr5 := Rd.monoA hr5 lF
     replace hr6 := Rd.monoA hr6 lF
     refine qi (jc [sN, sN] jq rfl ?_)
     intro b7
     exact ⟨rfl, rfl⟩
    refine gD (fun W Fs R lF z9 => ?_) ?_
    ·obtain ⟨e8, f8_3sl0, f8_3sl1⟩ := z9 8 rfl
     have e10 : W 10 = (.agg #[((aggAt (tupAt (W 8) 0) 0)), ((aggAt (tupAt (W 8) 0) 1))] : Value) := z9 10 rfl
     have e12 : W 12 = ptr (blk (W 12)) 0 := z9 12 rfl
     replace hr3 := hr3.mono lF
     replace ha2 := ha2.mono lF
     replace f7_2hr := f7_2hr.mono lF
     replace hr4 := Rd.monoA hr4 lF
     replace hr5 := Rd.monoA hr5 lF
     replace hr6 := Rd.monoA hr6 lF
     rw [eS (l := [(8, (.tuple #[.agg #[((aggAt (tupAt (W 8) 0) 0)), ((aggAt (tupAt (W 8) 0) 1))], .bool ((walkToF ar rs t (((terms (reachF ar rs t (n - 1)).1).getD k [])) (n - 1)).2.2)])), (10, (.agg #[((aggAt (tupAt (W 8) 0) 0)), ((aggAt (tupAt (W 8) 0) 1))])), (12, ptr (blk (W 12)) 0)]) ⟨(e8).symm, e10, e12, ⟨⟩⟩]
     show XG _ _ _ _ _ (cellsH (blk (W 12)) [sN, sN] 45 :: ([cellsH b5 [u1] 115, cellsH b2 [sN, sN, ii (0), sN] 117, cellsH b1 [arv, rsv] 39] ++ R)) _
     refine qi (qC [] _ [((aggAt (tupAt (W 8) 0) 0)), ((aggAt (tupAt (W 8) 0) 1))] qH rfl rfl rfl (qj (qJ f8_3sl0) (qj (qJ f8_3sl1) qK)) rfl rfl rfl ?_)
     exact ⟨trivial, rfl⟩
    exact stepsG.nil
   intro W F8 le8 hphi
   obtain ⟨e8, f8_3sl0, f8_3sl1⟩ := hphi 8 (by decide)
   have e9 : W 9 = (.tuple #[.agg #[((aggAt (tupAt (W 8) 0) 0)), ((aggAt (tupAt (W 8) 0) 1))], .bool ((walkToF ar rs t (((terms (reachF ar rs t (n - 1)).1).getD k [])) (n - 1)).2.2)] : Value) := hphi 9 (by decide)
   have e10 : W 10 = (.agg #[((aggAt (tupAt (W 8) 0) 0)), ((aggAt (tupAt (W 8) 0) 1))] : Value) := hphi 10 (by decide)
   have e12 : W 12 = ptr (blk (W 12)) 0 := hphi 12 (by decide)
   generalize hu3 : ((aggAt (tupAt (W 8) 0) 0)) = u2 at e8 f8_3sl0 f8_3sl1 e9 e10 e12
   generalize hu4 : ((aggAt (tupAt (W 8) 0) 1)) = u3 at e8 f8_3sl0 f8_3sl1 e9 e10 e12
   generalize hu5 : blk (W 12) = b8 at e8 f8_3sl0 f8_3sl1 e9 e10 e12
   rw [eS (l := [(8, (.tuple #[.agg #[u2, u3], .bool ((walkToF ar rs t (((terms (reachF ar rs t (n - 1)).1).getD k [])) (n - 1)).2.2)])), (11, _), (12, ptr b8 0)]) ⟨(e8).symm, (hphi 11 (by decide)), e12, ⟨⟩⟩]
   replace hr3 := hr3.mono le8
   replace ha2 := ha2.mono le8
   replace f7_2hr := f7_2hr.mono le8
   replace hr4 := Rd.monoA hr4 le8
   replace hr5 := Rd.monoA hr5 le8
   replace hr6 := Rd.monoA hr6 le8
   show XL _ _ _ _ _ _ _ (intsH 2 u2 ((walkToF ar rs t (((terms (reachF ar rs t (n - 1)).1).getD k [])) (n - 1)).1) :: stepsD 2 102 u3 ((walkToF ar rs t (((terms (reachF ar rs t (n - 1)).1).getD k [])) (n - 1)).2.1) :: cellsH b8 [u2, u3] 45 :: cellsH b5 [u1] 115 :: cellsH b2 [sN, sN, ii (0), sN] 117 :: cellsH b1 [arv, rsv] 39 :: L)
   refine qg (.bool ((walkToF ar rs t (((terms (reachF ar rs t (n - 1)).1).getD k [])) (n - 1)).2.2)) rfl (qb (qc (qc (qa (XL.openD [_] _ rfl (fun cs1 Ls1 F9 le9 hs1 hD1 hZ1 => ?_))))))
   replace hr3 := hr3.mono le9
   replace ha2 := ha2.mono le9
   replace f7_2hr := f7_2hr.mono le9
   replace hr4 := Rd.monoA hr4 le9
   replace hr5 := Rd.monoA hr5 le9
   replace hr6 := Rd.monoA hr6 le9
   have hc1 := hD1.steps hZ1
   show XL _ _ _ _ _ _ _ (intsH 2 u2 ((walkToF ar rs t (((terms (reachF ar rs t (n - 1)).1).getD k [])) (n - 1)).1) :: slH 102 3 u3 (((walkToF ar rs t (((terms (reachF ar rs t (n - 1)).1).getD k [])) (n - 1)).2.1).length) cs1 :: cellsH b8 [u2, u3] 45 :: cellsH b5 [u1] 115 :: cellsH b2 [sN, sN, ii (0), sN] 117 :: cellsH b1 [arv, rsv] 39 :: L)
   skip
   refine qd (.bool ((walkToF ar rs t (((terms (reachF ar rs t (n - 1)).1).getD k [])) (n - 1)).2.2)) rfl (cX (jn rfl (qd (.bool (!((walkToF ar rs t (((terms (reachF ar rs t (n - 1)).1).getD k [])) (n - 1)).2.2))) rfl ?_)))
   by_cases h7 : (!((walkToF ar rs t (((terms (reachF ar rs t (n - 1)).1).getD k [])) (n - 1)).2.2)) = true
   ·exact absurd h7 (by rw [hw9]; simp)
   rw [Bool.not_eq_true] at h7
   refine qp (t := 86) rfl (vB h7) (qk (1) qA rfl jj (by decide) rfl rfl (qp (t := 86) rfl (vB h7) (ql jL rfl (Rd.own [_, _] rfl rfl) (qp (t := 86) rfl (vB h7) (qD qG rfl (SlV.own [_] rfl) (qp (t := 86) rfl (vB h7) (ye rfl rfl (cX (qS (.bool (decide ((((((walkToF ar rs t (((terms (reachF ar rs t (n - 1)).1).getD k [])) (n - 1)).2.1).length : Nat) : Int) : Int) ≥ 60))) (vB h7) rfl (qb ?_))))))))))
   refine qE (p := (((((walkToF ar rs t (((terms (reachF ar rs t (n - 1)).1).getD k [])) (n - 1)).2.1).length : Nat) : Int) : Int) ≥ 60) rfl (fun h8 => ?_) (fun h8 => ?_)
   ·exact absurd h8 (by omega)
   refine qz (qc ?_)
   refine jY [intsH 2 u2 ((walkToF ar rs t (((terms (reachF ar rs t (n - 1)).1).getD k [])) (n - 1)).1), slH 102 3 u3 (((walkToF ar rs t (((terms (reachF ar rs t (n - 1)).1).getD k [])) (n - 1)).2.1).length) cs1, cellsH b8 [u2, u3] 45, cellsH b5 [u1] 115, cellsH b2 [sN, sN, ii (0), sN] 117, cellsH b1 [arv, rsv] 39] L 7 [] [[], [0], [], [], [2, 3], [4], [5]] (phiL [qe (ptr b8 1), qe u3, qe x2, qe (ii ((q : Int)) : Value), qe (.pointer (some (elemA x2 (q * 3)))), qe (.agg #[ii (((stepsL ar rs (((terms (reachF ar rs t (n - 1)).1).getD k []))).getD q (0, 0, [])).1), ii (((stepsL ar rs (((terms (reachF ar rs t (n - 1)).1).getD k []))).getD q (0, 0, [])).2.1), a2]), fun us v => ∃ b, v = .slice (some ⟨b, 0, none⟩) 1 1]) (ownL [o0, o0, o0, o0, o0, o0, fun us v => [slH 102 3 v 1 [ii (((stepsL ar rs (((terms (reachF ar rs t (n - 1)).1).getD k []))).getD q (0, 0, [])).1), ii (((stepsL ar rs (((terms (reachF ar rs t (n - 1)).1).getD k []))).getD q (0, 0, [])).2.1), a2]]]) mixed rfl rfl (by kernel_rfl) ?_ ?_
   ·refine pD (fun W R z9 => ?_) ?_
    ·refine qi (qk (1) qA rfl jj (by decide) rfl rfl ?_)
     exact ⟨rfl, rfl, rfl⟩
    refine pD (fun W R z9 => ?_) ?_
    ·rw [eS (l := [(0, _)]) ⟨z9 0 rfl, ⟨⟩⟩]
     refine qi (ql jL rfl (Rd.own [_, _] rfl rfl) ?_)
     exact ⟨rfl, rfl, rfl⟩
    refine pD (fun W R z9 => ?_) ?_
    ·refine qi (qq (x2) rfl ?_)
     exact ⟨rfl, rfl, rfl⟩
    refine pD (fun W R z9 => ?_) ?_
    ·refine qi (qq (ii ((q : Int))) rfl ?_)
     exact ⟨rfl, rfl, rfl⟩
    refine pD (fun W R z9 => ?_) ?_
    ·rw [eS (l := [(2, _), (3, _)]) ⟨z9 2 rfl, z9 3 rfl, ⟨⟩⟩]
     refine qi (qB q qG ji rfl rfl rfl hr3.slv (by omega) rfl ?_)
     exact ⟨rfl, rfl, rfl⟩
    refine pD (fun W R z9 => ?_) ?_
    ·rw [eS (l := [(4, _)]) ⟨z9 4 rfl, ⟨⟩⟩]
     refine qi (qn [ii (((stepsL ar rs (((terms (reachF ar rs t (n - 1)).1).getD k []))).getD q (0, 0, [])).1), ii (((stepsL ar rs (((terms (reachF ar rs t (n - 1)).1).getD k []))).getD q (0, 0, [])).2.1), a2] yl ji rfl rfl (Rd.three (hr4 _) (hr5 _) (hr6 _)) ?_)
     exact ⟨rfl, rfl, rfl⟩
    refine pD (fun W R z9 => ?_) ?_
    ·rw [eS (l := [(5, _)]) ⟨z9 5 rfl, ⟨⟩⟩]
     refine qi (qx (s := 3) [ii (((stepsL ar rs (((terms (reachF ar rs t (n - 1)).1).getD k []))).getD q (0, 0, [])).1), ii (((stepsL ar rs (((terms (reachF ar rs t (n - 1)).1).getD k []))).getD q (0, 0, [])).2.1), a2] [ii (0), ii (0), sN] [(0, [ii (((stepsL ar rs (((terms (reachF ar rs t (n - 1)).1).getD k []))).getD q (0, 0, [])).1), ii (((stepsL ar rs (((terms (reachF ar rs t (n - 1)).1).getD k []))).getD q (0, 0, [])).2.1), a2])] qG ji jE rfl (by decide) rfl (.cons rfl CellsAre.nil) rfl ?_)
     intro v2 hv2
     exact ⟨rfl, hv2, rfl⟩
    exact stepsP.nil
   intro W hphi
   have f6 : ∃ b, (W 6) = .slice (some ⟨b, 0, none⟩) 1 1 := hphi 6 (by decide)
   generalize hu6 : W 6 = u4 at f6
   rw [eS (l := [(1, _), (6, u4)]) ⟨(hphi 1 (by decide)), hu6, ⟨⟩⟩]
   show XL _ _ _ _ _ _ _ (slH 102 3 u4 1 [ii (((stepsL ar rs (((terms (reachF ar rs t (n - 1)).1).getD k []))).getD q (0, 0, [])).1), ii (((stepsL ar rs (((terms (reachF ar rs t (n - 1)).1).getD k []))).getD q (0, 0, [])).2.1), a2] :: intsH 2 u2 ((walkToF ar rs t (((terms (reachF ar rs t (n - 1)).1).getD k [])) (n - 1)).1) :: slH 102 3 u3 (((walkToF ar rs t (((terms (reachF ar rs t (n - 1)).1).getD k [])) (n - 1)).2.1).length) cs1 :: cellsH b8 [u2, u3] 45 :: cellsH b5 [u1] 115 :: cellsH b2 [sN, sN, ii (0), sN] 117 :: cellsH b1 [arv, rsv] 39 :: L)
   refine cX (jV (m := 1) (bytes := 40) (cs := cs1) [_, _] _ [ii (((stepsL ar rs (((terms (reachF ar rs t (n - 1)).1).getD k []))).getD q (0, 0, [])).1), ii (((stepsL ar rs (((terms (reachF ar rs t (n - 1)).1).getD k []))).getD q (0, 0, [])).2.1), a2] qG typeInfo102 rfl rfl rfl rfl rfl rfl rfl (SlV.own [] rfl) rfl (Rd.lit [] rfl) (qj rfl (qj rfl (qj (qJ (qF ha2)) qK))) (by (try simp only [List.length_append, List.length_nil, List.length_cons, List.length_singleton]); omega) (by (try simp only [List.length_append, List.length_nil, List.length_cons, List.length_singleton]); omega) ?_)
   intro v3 hs2 hn1 hm1
   have hc2 := StepsC.snoc hc1 (i := ((stepsL ar rs (((terms (reachF ar rs t (n - 1)).1).getD k []))).getD q (0, 0, [])).1) (j := ((stepsL ar rs (((terms (reachF ar rs t (n - 1)).1).getD k []))).getD q (0, 0, [])).2.1) ha2
   refine cX (qk (1) qA rfl jj (by decide) rfl rfl (cX (jK [_, _, _] _ [u2, v3] jj rfl rfl (qJ hs2) rfl rfl rfl (qb (qc (qa (cX (qn [u2, v3] jy qH rfl rfl (Rd.ownN [_, _, _] rfl rfl) (qd (ii (instI ar t (((stepsL ar rs (((terms (reachF ar rs t (n - 1)).1).getD k []))).getD q (0, 0, [])).2.2))) rfl (cX (qn [u1] jC qV rfl rfl (Rd.ownN [_, _, _, _] rfl rfl) (cX (jg [u2, v3, ii (instI ar t (((stepsL ar rs (((terms (reachF ar rs t (n - 1)).1).getD k []))).getD q (0, 0, [])).2.2)), u1] [sN, sN, ii (0), sN] [(0, 2), (2, 1), (3, 1)] [(0, [u2, v3]), (1, [ii (instI ar t (((stepsL ar rs (((terms (reachF ar rs t (n - 1)).1).getD k []))).getD q (0, 0, [])).2.2))]), (2, [u1])] qT jO rfl (.cons rfl qH (.cons rfl qy (.cons rfl qV PlacesAre.nil))) rfl (.cons rfl (.cons rfl (.cons rfl CellsAre.nil))) (cX (qC [_, _, _, _, _] _ [u2, v3, ii (instI ar t (((stepsL ar rs (((terms (reachF ar rs t (n - 1)).1).getD k []))).getD q (0, 0, [])).2.2)), u1] jz rfl rfl rfl (qj (qJ f8_3sl0) (qj (qJ hs2) (qj rfl (qj (qJ (RowsF.isSl f7_2hr)) qK)))) rfl rfl rfl (qg (.bool (true)) rfl (qb ?_)))))))))))))))))
   refine je [_] _ _ rfl (fun F10 le10 hz1 => ?_)
   replace f7_2hr := f7_2hr.mono le10
   replace hc2 := hc2.mono le10
   have hf1 : IntsF F10 u2 ((walkToF ar rs t (((terms (reachF ar rs t (n - 1)).1).getD k [])) (n - 1)).1) := intsH.fz (xs := (walkToF ar rs t (((terms (reachF ar rs t (n - 1)).1).getD k [])) (n - 1)).1) hz1.fz
   refine je [_] _ _ rfl (fun F11 le11 hz2 => ?_)
   replace f7_2hr := f7_2hr.mono le11
   replace hc2 := hc2.mono le11
   replace hf1 := hf1.mono le11
   have hf2 : StepsF F11 v3 (((walkToF ar rs t (((terms (reachF ar rs t (n - 1)).1).getD k [])) (n - 1)).2.1) ++ [(((stepsL ar rs (((terms (reachF ar rs t (n - 1)).1).getD k []))).getD q (0, 0, [])).1, ((stepsL ar rs (((terms (reachF ar rs t (n - 1)).1).getD k []))).getD q (0, 0, [])).2.1, ((stepsL ar rs (((terms (reachF ar rs t (n - 1)).1).getD k []))).getD q (0, 0, [])).2.2)]) := CO.fz hc2 (by first | rfl | omega | (rw [List.length_set]; omega) | (simp; done)) hz2.fz
   refine qw (qI (qm (qm (qI (qI (qm (qm (qI (qm (qs (L' := L) [.agg #[u2, v3, ii (instI ar t (((stepsL ar rs (((terms (reachF ar rs t (n - 1)).1).getD k []))).getD q (0, 0, [])).2.2)), u1], .bool (true)] (.tuple #[.agg #[u2, v3, ii (instI ar t (((stepsL ar rs (((terms (reachF ar rs t (n - 1)).1).getD k []))).getD q (0, 0, [])).2.2)), u1], .bool (true)]) (.cell rfl (jx [u2, v3, ii (instI ar t (((stepsL ar rs (((terms (reachF ar rs t (n - 1)).1).getD k []))).getD q (0, 0, [])).2.2)), u1] jX jz rfl (Rd.ownN [_, _, _] rfl rfl)) (.tmp rfl .nil)) rfl (qh (qh (qh (qh (qh (qh (qh (qh le1 leG1) le2) leG2) le5) le8) le9) le10) le11) rF (sD (sD (sD (sD (sD sR))))) ?_))))))))))
   have hq9 : q < (stepsL ar rs ((terms (reachF ar rs t (n - 1)).1).getD k [])).length := by omega
   have hi9 : 0 ≤ instI ar t ((stepsL ar rs ((terms (reachF ar rs t (n - 1)).1).getD k [])).getD q (0, 0, [])).2.2 := by omega
   rw [hgk] at hq9 hi9 hnq
   have e : loopF ar rs t n = (t, walkL (reachL ar rs t (n - 1)).1 k ++ [(stepsL ar rs (EL (reachL ar rs t (n - 1)).1 k).1).getD q (0, 0, [])], instI ar t ((stepsL ar rs (EL (reachL ar rs t (n - 1)).1 k).1).getD q (0, 0, [])).2.2, placeS ar t ((stepsL ar rs (EL (reachL ar rs t (n - 1)).1 k).1).getD q (0, 0, [])).2.2, true) := by rw [loopF_yes ⟨⟨hsys, ho⟩, hn20⟩, loop0_at (k := k) (q := q) hk9 hno hq9 hi9 hnq, loopAt, placeS_yes hi9]
   have ha9 := hf1
   have hb9 := hf2
   have hc9 := f7_2hr
   rw [hw9] at ha9
   rw [hw9, hgk] at hb9
   rw [hgk] at hc9
   exact ⟨_, _, _, by rw [e, hgk], by rw [e]; exact ha9, by rw [e]; exact hb9, by rw [e]; exact hc9, rfl⟩
  refine jo (qt (qt (qO (qa (qd (ii ((k : Int))) rfl (cX (qP (((k + 1 : Nat) : Int)) rfl rfl (by omega) (by omega) (qg (ii (((k + 1 : Nat) : Int))) rfl (qb ?_)))))))))
  exact ⟨(k + 1, G2), _, (qh (qh leG1 le2) leG2), rF, ⟨rfl, rfl, rfl, rfl, rfl, rfl, ⟨⟩⟩, (sC (sC sR)), ⟨rfl, (qh (qh leG1 le2) leG2), (by (try dsimp only) <;> omega), (fun i hi => (Nat.lt_or_ge i k).elim (fun h => hno i h) (fun h => by obtain rfl : i = k := (by omega); rw [← hgk, nextI_none (ar := ar) (t := t) (fun j hj => hnq j (by omega))]; omega))⟩, (by omega)⟩
 refine jo (qt (qt (qO (qc (qa (cX (jg [sN, sN, ii (0), sN] [sN, sN, ii (0), sN] [(0, 2), (2, 1), (3, 1)] [] qT jO rfl (.cons rfl qH (.cons rfl qy (.cons rfl qV PlacesAre.nil))) rfl CellsAre.nil (cX (qC [] _ [sN, sN, ii (0), sN] jz rfl rfl rfl (qj rfl (qj rfl (qj rfl (qj rfl qK)))) rfl rfl rfl (qg (.bool (false)) rfl (qb (qw (qs (L' := L) [.agg #[sN, sN, ii (0), sN], .bool (false)] (.tuple #[.agg #[sN, sN, ii (0), sN], .bool (false)]) (.cell rfl (jx [sN, sN, ii (0), sN] jX jz rfl (Rd.ownN [] rfl rfl)) (.tmp rfl .nil)) rfl (qh le1 leG1) rF (sD (sD sR)) ?_)))))))))))))
 have e : loopF ar rs t n = noLoop := (loopF_yes ⟨⟨hsys, ho⟩, hn20⟩).trans (loop0_none (fun i hi => hno i (by omega)))
 exact ⟨_, _, _, by rw [e], by rw [e]; exact IntsF.nilV, by rw [e]; exact SlOf.nilV, by rw [e]; exact SlOf.nilV, rfl⟩

/- spec.FirstLoop -/
set_option maxRecDepth 20000 in
theorem sFirstLoop_spec {F : FH} {L : List HP} {arv : Value} {ar : List Int} (har : IntsF F arv ar) {rsv : Value} {rs : List (List Int × List Int)} (hrs : PairsF F rsv rs) {n : Int} (hla : ar.length ≤ 4000000) (hlr : rs.length ≤ 4000000) (hrb : ∀ i, i < rs.length → (rs.getD i ([], [])).1.length ≤ 4000000 ∧ (rs.getD i ([], [])).2.length ≤ 4000000) :
    Does prog 59 [.agg #[arv, rsv], ii (n)] F (L) (fun v F' L' => ∃ (a : Value), ∃ (b : Value), ∃ (c : Value), (.tuple #[.agg #[a, b, ii ((firstF ar rs n).2.2.1), c], .bool ((firstF ar rs n).2.2.2.2)] : Value) = v ∧ (IntsF F' a (firstF ar rs n).1) ∧ (StepsF F' b (firstF ar rs n).2.1) ∧ (RowsF F' c (firstF ar rs n).2.2.2.1) ∧ L = L') := by
 refine qL func59 rfl rfl rfl (qc (qa (cX (jd [arv, rsv] rfl rfl ?_))))
 intro b1
 refine cX (jc [sN, sN, ii (0), sN] jO rfl ?_)
 intro b2
 refine qg (.bool (false)) rfl (qb (qc (qc (qa (cX (qn [arv, rsv] jr jl rfl rfl (Rd.ownN [_] rfl rfl) (cX (qo (args := [.agg #[arv, rsv]]) call84 rfl (sSystemOk_spec har hrs (hla := (by first | assumption | rfl | omega | simp)) (hlr := (by first | assumption | rfl | omega | simp)) (hrb := (by first | assumption | rfl | omega | simp))) ?_))))))))
 rintro _ _ _ _ ⟨rfl, rfl, rfl⟩
 refine cX (jn rfl (qb ?_))
 refine jN (t := !(sysOk ar rs)) rfl (fun h1 => ?_) (fun h1 => ?_)
 ·refine qc (qa (cX (jg [sN, sN, ii (0), sN] [sN, sN, ii (0), sN] [(0, 2), (2, 1), (3, 1)] [] qT jO rfl (.cons rfl qH (.cons rfl qy (.cons rfl qV PlacesAre.nil))) rfl CellsAre.nil (cX (qC [] _ [sN, sN, ii (0), sN] jz rfl rfl rfl (qj rfl (qj rfl (qj rfl (qj rfl qK)))) rfl rfl rfl (qg (.bool (false)) rfl (qb (qw (qm (qs (L' := L) [.agg #[sN, sN, ii (0), sN], .bool (false)] (.tuple #[.agg #[sN, sN, ii (0), sN], .bool (false)]) (.cell rfl (jx [sN, sN, ii (0), sN] jX jz rfl (Rd.ownN [] rfl rfl)) (.tmp rfl .nil)) rfl rF rF (sD (sD sR)) ?_))))))))))
  have e : firstF ar rs n = noLoop := firstF_no (by simp_all)
  exact ⟨_, _, _, by rw [e], by rw [e]; exact IntsF.nilV, by rw [e]; exact SlOf.nilV, by rw [e]; exact SlOf.nilV, rfl⟩
 have hsys : sysOk ar rs = true := by simpa using h1
 have hrs12 := (sysOk_iff.1 hsys).2.1
 refine qz (qc (qc (qa (qg (ii (0)) rfl (qb (qN (jw (α := Nat × FH) (fun xQ => [(1, ii (n)), (2, ptr b1 0), (4, ptr b2 0), (6, ii (((xQ.1 : Nat) : Int)))]) (fun xQ => cellsH b2 [sN, sN, ii (0), sN] 117 :: cellsH b1 [arv, rsv] 39 :: L) (fun xQ F' => xQ.2 = F' ∧ F ≤ xQ.2 ∧ (xQ.1 ≤ rs.length) ∧ (∀ i, i < xQ.1 → (loopF ar rs (rs.getD i ([], [])).1 n).2.2.2.2 = false)) (fun xQ => rs.length - xQ.1) (0, F) ⟨rfl, rfl, rfl, rfl, ⟨⟩⟩ (sC (sC sR)) ⟨rfl, FLe.refl _, (by (try dsimp only) <;> omega), (fun i hi => absurd hi (by omega))⟩ ?_)))))))
 rintro ⟨k, G1⟩ rE _ _ ⟨rfl, leG, hk, hall⟩
 show X _ _ _ _ (envs [(1, ii (n)), (2, ptr b1 0), (4, ptr b2 0), (6, ii ((k : Int)))] rE) _ (cellsH b2 [sN, sN, ii (0), sN] 117 :: cellsH b1 [arv, rsv] 39 :: L)
 replace leG : F ≤ G1 := leG
 dsimp only at hk hall
 have hrbk := hrb k
 have leG1 := leG
 replace har := har.mono leG1
 replace hrs := hrs.mono leG1
 refine qc (qc (qa (qd (ii ((k : Int))) rfl (cX (qk (1) ja rfl yd (by decide) rfl rfl (cX (ql isAgg37 rfl (Rd.own [_] rfl rfl) (cX (qD jA rfl hrs.slv (cX (jf rfl rfl (qb ?_))))))))))))
 refine qE (p := (k : Int) < (rs.length : Int)) rfl (fun h2 => ?_) (fun h2 => ?_)
 ·refine qz (qc (qN (qc ?_)))
  obtain ⟨a1, a2, ha1, ha2, hr1, hr2⟩ := hrs.rd (i := k) (by omega)
  refine jZ [cellsH b2 [sN, sN, ii (0), sN] 117, cellsH b1 [arv, rsv] 39] L 14 [[], [], [], [], [], [], [], [], [], [8], [8], [], [], [8, 12]] [[], [], [1], [], [2, 3], [4], [5], [], [0, 6, 7], [8], [8, 9], [8, 9], [], [8, 10, 12]] [[], [], [], [], [], [], [], [], [], [], [], [], [], [12]] (phiG [pe (.agg #[arv, rsv]), pe (ptr b1 1), pe rsv, pe (ii ((k : Int)) : Value), pe (.pointer (some (elemA rsv (k * 2)))), pe (.pointer (some (elemA rsv (k * 2)))), pe a1, pe (ii (n)), fun FF us v => (.tuple #[.agg #[((aggAt (tupAt v 0) 0)), ((aggAt (tupAt v 0) 1)), ii ((loopF ar rs ((rs.getD k ([], [])).1) n).2.2.1), ((aggAt (tupAt v 0) 3))], .bool ((loopF ar rs ((rs.getD k ([], [])).1) n).2.2.2.2)] : Value) = v ∧ (IntsF FF ((aggAt (tupAt v 0) 0)) (loopF ar rs ((rs.getD k ([], [])).1) n).1) ∧ (StepsF FF ((aggAt (tupAt v 0) 1)) (loopF ar rs ((rs.getD k ([], [])).1) n).2.1) ∧ (RowsF FF ((aggAt (tupAt v 0) 3)) (loopF ar rs ((rs.getD k ([], [])).1) n).2.2.2.1), fun FF us v => v = (.tuple #[.agg #[((aggAt (tupAt (us.getD 0 undef) 0) 0)), ((aggAt (tupAt (us.getD 0 undef) 0) 1)), ii ((loopF ar rs ((rs.getD k ([], [])).1) n).2.2.1), ((aggAt (tupAt (us.getD 0 undef) 0) 3))], .bool ((loopF ar rs ((rs.getD k ([], [])).1) n).2.2.2.2)] : Value), fun FF us v => v = (.agg #[((aggAt (tupAt (us.getD 0 undef) 0) 0)), ((aggAt (tupAt (us.getD 0 undef) 0) 1)), ii ((loopF ar rs ((rs.getD k ([], [])).1) n).2.2.1), ((aggAt (tupAt (us.getD 0 undef) 0) 3))] : Value), pe (.bool ((loopF ar rs ((rs.getD k ([], [])).1) n).2.2.2.2)), fun FF us v => v = ptr (blk v) 0, fun FF us v => True]) (ownL [o0, o0, o0, o0, o0, o0, o0, o0, o0, o0, o0, o0, fun us v => [cellsH (blk v) [sN, sN, ii (0), sN] 117], fun us v => [cellsH (blk (us.getD 1 undef)) [((aggAt (tupAt (us.getD 0 undef) 0) 0)), ((aggAt (tupAt (us.getD 0 undef) 0) 1)), ii ((loopF ar rs ((rs.getD k ([], [])).1) n).2.2.1), ((aggAt (tupAt (us.getD 0 undef) 0) 3))] 117]]) mixed rfl rfl (by kernel_rfl) (by kernel_rfl) (MonoG.get (m1 (m1 (m1 (m1 (m1 (m1 (m1 (m1 (mC (fun le h => ⟨h.1, h.2.1.mono le, h.2.2.1.mono le, h.2.2.2.mono le⟩) (mC (fun le h => h) (mC (fun le h => h) (m1 (mC (fun le h => h) (mC (fun le h => h) MonoG.nil))))))))))))))) ?_ ?_
  ·refine gD (fun W Fs R lF z9 => ?_) ?_
   ·replace har := har.mono lF
    replace hrs := hrs.mono lF
    replace ha1 := ha1.mono lF
    replace hr1 := Rd.monoA hr1 lF
    refine qi (qn [arv, rsv] jr jl rfl rfl (Rd.ownN [_] rfl rfl) ?_)
    exact ⟨rfl, rfl⟩
   refine gD (fun W Fs R lF z9 => ?_) ?_
   ·refine qi (qk (1) ja rfl yd (by decide) rfl rfl ?_)
    exact ⟨rfl, rfl⟩
   refine gD (fun W Fs R lF z9 => ?_) ?_
   ·replace har := har.mono lF
    replace hrs := hrs.mono lF
    replace ha1 := ha1.mono lF
    replace hr1 := Rd.monoA hr1 lF
    rw [eS (l := [(1, _)]) ⟨z9 1 rfl, ⟨⟩⟩]
    refine qi (ql isAgg37 rfl (Rd.own [_] rfl rfl) ?_)
    exact ⟨rfl, rfl⟩
   refine gD (fun W Fs R lF z9 => ?_) ?_
   ·refine qi (qq (ii ((k : Int))) rfl ?_)
    exact ⟨rfl, rfl⟩
   refine gD (fun W Fs R lF z9 => ?_) ?_
   ·replace har := har.mono lF
    replace hrs := hrs.mono lF
    replace ha1 := ha1.mono lF
    replace hr1 := Rd.monoA hr1 lF
    rw [eS (l := [(2, _), (3, _)]) ⟨z9 2 rfl, z9 3 rfl, ⟨⟩⟩]
    refine qi (qB k jA jU rfl rfl rfl hrs.slv (by omega) rfl ?_)
    exact ⟨rfl, rfl⟩
   refine gD (fun W Fs R lF z9 => ?_) ?_
   ·rw [eS (l := [(4, _)]) ⟨z9 4 rfl, ⟨⟩⟩]
    refine qi (jW (k * 2) jp rfl qu (by decide) rfl rfl ?_)
    exact ⟨rfl, rfl⟩
   refine gD (fun W Fs R lF z9 => ?_) ?_
   ·replace har := har.mono lF
    replace hrs := hrs.mono lF
    replace ha1 := ha1.mono lF
    replace hr1 := Rd.monoA hr1 lF
    rw [eS (l := [(5, _)]) ⟨z9 5 rfl, ⟨⟩⟩]
    refine qi (ql qZ rfl (hr1 _) ?_)
    exact ⟨rfl, rfl⟩
   refine gD (fun W Fs R lF z9 => ?_) ?_
   ·refine qi (qq (ii (n)) rfl ?_)
    exact ⟨rfl, rfl⟩
   refine gD (fun W Fs R lF z9 => ?_) ?_
   ·replace har := har.mono lF
    replace hrs := hrs.mono lF
    replace ha1 := ha1.mono lF
    rw [eS (l := [(0, _), (6, _), (7, _)]) ⟨z9 0 rfl, z9 6 rfl, z9 7 rfl, ⟨⟩⟩]
    refine qi (qo (args := [.agg #[arv, rsv], a1, ii (n)]) call146 rfl (sLoopFrom_spec (n := n) har hrs ha1 (hla := (by first | assumption | rfl | omega | simp)) (hlr := (by first | assumption | rfl | omega | simp)) (hrb := (by first | assumption | rfl | omega | simp)) (hlt := ((hrbk (by omega)).1))) ?_)
    rintro _ F2 _ le2 ⟨x4, x5, x6, rfl, hr6, hr7, hr8, rfl⟩
    replace har := har.mono le2
    exact ⟨⟨rfl, hr6, hr7, hr8⟩, rfl⟩
   refine gD (fun W Fs R lF z9 => ?_) ?_
   ·obtain ⟨e8, f8_1hr1, f8_1hr2, f8_1hr3⟩ := z9 8 rfl
    rw [eS (l := [(8, (.tuple #[.agg #[((aggAt (tupAt (W 8) 0) 0)), ((aggAt (tupAt (W 8) 0) 1)), ii ((loopF ar rs ((rs.getD k ([], [])).1) n).2.2.1), ((aggAt (tupAt (W 8) 0) 3))], .bool ((loopF ar rs ((rs.getD k ([], [])).1) n).2.2.2.2)]))]) ⟨(e8).symm, ⟨⟩⟩]
    refine qi (qq (.tuple #[.agg #[((aggAt (tupAt (W 8) 0) 0)), ((aggAt (tupAt (W 8) 0) 1)), ii ((loopF ar rs ((rs.getD k ([], [])).1) n).2.2.1), ((aggAt (tupAt (W 8) 0) 3))], .bool ((loopF ar rs ((rs.getD k ([], [])).1) n).2.2.2.2)]) rfl ?_)
    exact ⟨rfl, rfl⟩
   refine gD (fun W Fs R lF z9 => ?_) ?_
   ·obtain ⟨e8, f8_1hr1, f8_1hr2, f8_1hr3⟩ := z9 8 rfl
    have e9 : W 9 = (.tuple #[.agg #[((aggAt (tupAt (W 8) 0) 0)), ((aggAt (tupAt (W 8) 0) 1)), ii ((loopF ar rs ((rs.getD k ([], [])).1) n).2.2.1), ((aggAt (tupAt (W 8) 0) 3))], .bool ((loopF ar rs ((rs.getD k ([], [])).1) n).2.2.2.2)] : Value) := z9 9 rfl
    rw [eS (l := [(8, (.tuple #[.agg #[((aggAt (tupAt (W 8) 0) 0)), ((aggAt (tupAt (W 8) 0) 1)), ii ((loopF ar rs ((rs.getD k ([], [])).1) n).2.2.1), ((aggAt (tupAt (W 8) 0) 3))], .bool ((loopF ar rs ((rs.getD k ([], [])).1) n).2.2.2.2)])), (9, (.tuple #[.agg #[((aggAt (tupAt (W 8) 0) 0)), ((aggAt (tupAt (W 8) 0) 1)), ii ((loopF ar rs ((rs.getD k ([], [])).1) n).2.2.1), ((aggAt (tupAt (W 8) 0) 3))], .bool ((loopF ar rs ((rs.getD k ([], [])).1) n).2.2.2.2)]))]) ⟨(e8).symm, e9, ⟨⟩⟩]
    refine qi (qQ (.agg #[((aggAt (tupAt (W 8) 0) 0)), ((aggAt (tupAt (W 8) 0) 1)), ii ((loopF ar rs ((rs.getD k ([], [])).1) n).2.2.1), ((aggAt (tupAt (W 8) 0) 3))]) rfl rfl ?_)
    exact ⟨rfl, rfl⟩
   refine gD (fun W Fs R lF z9 => ?_) ?_
   ·obtain ⟨e8, f8_1hr1, f8_1hr2, f8_1hr3⟩ := z9 8 rfl
    have e9 : W 9 = (.tuple #[.agg #[((aggAt (tupAt (W 8) 0) 0)), ((aggAt (tupAt (W 8) 0) 1)), ii ((loopF ar rs ((rs.getD k ([], [])).1) n).2.2.1), ((aggAt (tupAt (W 8) 0) 3))], .bool ((loopF ar rs ((rs.getD k ([], [])).1) n).2.2.2.2)] : Value) := z9 9 rfl
    rw [eS (l := [(8, (.tuple #[.agg #[((aggAt (tupAt (W 8) 0) 0)), ((aggAt (tupAt (W 8) 0) 1)), ii ((loopF ar rs ((rs.getD k ([], [])).1) n).2.2.1), ((aggAt (tupAt (W 8) 0) 3))], .bool ((loopF ar rs ((rs.getD k ([], [])).1) n).2.2.2.2)])), (9, (.tuple #[.agg #[((aggAt (tupAt (W 8) 0) 0)), ((aggAt (tupAt (W 8) 0) 1)), ii ((loopF ar rs ((rs.getD k ([], [])).1) n).2.2.1), ((aggAt (tupAt (W 8) 0) 3))], .bool ((loopF ar rs ((rs.getD k ([], [])).1) n).2.2.2.2)]))]) ⟨(e8).symm, e9, ⟨⟩⟩]
    refine qi (qQ (.bool ((loopF ar rs ((rs.getD k ([], [])).1) n).2.2.2.2)) rfl rfl ?_)
    exact ⟨rfl, rfl⟩
   refine gD (fun W Fs R lF z9 => ?_) ?_
   ·replace har := har.mono lF
    refine qi (jc [sN, sN, ii (0), sN] jO rfl ?_)
    intro b4
    exact ⟨rfl, rfl⟩
   refine gD (fun W Fs R lF z9 => ?_) ?_
   ·obtain ⟨e8, f8_1hr1, f8_1hr2, f8_1hr3⟩ := z9 8 rfl
    have e10 : W 10 = (.agg #[((aggAt (tupAt (W 8) 0) 0)), ((aggAt (tupAt (W 8) 0) 1)), ii ((loopF ar rs ((rs.getD k ([], [])).1) n).2.2.1), ((aggAt (tupAt (W 8) 0) 3))] : Value) := z9 10 rfl
    have e12 : W 12 = ptr (blk (W 12)) 0 := z9 12 rfl
    rw [eS (l := [(8, (.tuple #[.agg #[((aggAt (tupAt (W 8) 0) 0)), ((aggAt (tupAt (W 8) 0) 1)), ii ((loopF ar rs ((rs.getD k ([], [])).1) n).2.2.1), ((aggAt (tupAt (W 8) 0) 3))], .bool ((loopF ar rs ((rs.getD k ([], [])).1) n).2.2.2.2)])), (10, (.agg #[((aggAt (tupAt (W 8) 0) 0)), ((aggAt (tupAt (W 8) 0) 1)), ii ((loopF ar rs ((rs.getD k ([], [])).1) n).2.2.1), ((aggAt (tupAt (W 8) 0) 3))])), (12, ptr (blk (W 12)) 0)]) ⟨(e8).symm, e10, e12, ⟨⟩⟩]
    show XG _ _ _ _ _ (cellsH (blk (W 12)) [sN, sN, ii (0), sN] 117 :: ([cellsH b2 [sN, sN, ii (0), sN] 117, cellsH b1 [arv, rsv] 39] ++ R)) _
    refine qi (qC [] _ [((aggAt (tupAt (W 8) 0) 0)), ((aggAt (tupAt (W 8) 0) 1)), ii ((loopF ar rs ((rs.getD k ([], [])).1) n).2.2.1), ((aggAt (tupAt (W 8) 0) 3))] jz rfl rfl rfl (qj (qJ (qF f8_1hr1)) (qj (qJ (jT f8_1hr2)) (qj rfl (qj (qJ (RowsF.isSl f8_1hr3)) qK)))) rfl rfl rfl ?_)
    exact ⟨trivial, rfl⟩
   exact stepsG.nil
  intro W F3 le3 hphi
  obtain ⟨e8, f8_1hr1, f8_1hr2, f8_1hr3⟩ := hphi 8 (by decide)
  have e9 : W 9 = (.tuple #[.agg #[((aggAt (tupAt (W 8) 0) 0)), ((aggAt (tupAt (W 8) 0) 1)), ii ((loopF ar rs ((rs.getD k ([], [])).1) n).2.2.1), ((aggAt (tupAt (W 8) 0) 3))], .bool ((loopF ar rs ((rs.getD k ([], [])).1) n).2.2.2.2)] : Value) := hphi 9 (by decide)
  have e10 : W 10 = (.agg #[((aggAt (tupAt (W 8) 0) 0)), ((aggAt (tupAt (W 8) 0) 1)), ii ((loopF ar rs ((rs.getD k ([], [])).1) n).2.2.1), ((aggAt (tupAt (W 8) 0) 3))] : Value) := hphi 10 (by decide)
  have e12 : W 12 = ptr (blk (W 12)) 0 := hphi 12 (by decide)
  generalize hu1 : ((aggAt (tupAt (W 8) 0) 0)) = u1 at e8 f8_1hr1 f8_1hr2 f8_1hr3 e9 e10 e12
  generalize hu2 : ((aggAt (tupAt (W 8) 0) 1)) = u2 at e8 f8_1hr1 f8_1hr2 f8_1hr3 e9 e10 e12
  generalize hu3 : ((aggAt (tupAt (W 8) 0) 3)) = u3 at e8 f8_1hr1 f8_1hr2 f8_1hr3 e9 e10 e12
  generalize hu4 : blk (W 12) = b5 at e8 f8_1hr1 f8_1hr2 f8_1hr3 e9 e10 e12
  rw [eS (l := [(8, (.tuple #[.agg #[u1, u2, ii ((loopF ar rs ((rs.getD k ([], [])).1) n).2.2.1), u3], .bool ((loopF ar rs ((rs.getD k ([], [])).1) n).2.2.2.2)])), (11, _), (12, ptr b5 0)]) ⟨(e8).symm, (hphi 11 (by decide)), e12, ⟨⟩⟩]
  show XL _ _ _ _ _ _ _ (cellsH b5 [u1, u2, ii ((loopF ar rs ((rs.getD k ([], [])).1) n).2.2.1), u3] 117 :: cellsH b2 [sN, sN, ii (0), sN] 117 :: cellsH b1 [arv, rsv] 39 :: L)
  refine qg (.bool ((loopF ar rs ((rs.getD k ([], [])).1) n).2.2.2.2)) rfl (qb (qc (qa (qd (.bool ((loopF ar rs ((rs.getD k ([], [])).1) n).2.2.2.2)) rfl (qb ?_)))))
  refine jN (t := (loopF ar rs ((rs.getD k ([], [])).1) n).2.2.2.2) rfl (fun h3 => ?_) (fun h3 => ?_)
  ·have hb9 : (loopF ar rs (rs.getD k ([], [])).1 n).2.2.2.2 = true := h3
   refine qc (qa (cX (qn [u1, u2, ii ((loopF ar rs ((rs.getD k ([], [])).1) n).2.2.1), u3] jX jz rfl rfl (Rd.ownN [] rfl rfl) (cX (qC [_] _ [u1, u2, ii ((loopF ar rs ((rs.getD k ([], [])).1) n).2.2.1), u3] jz rfl rfl rfl (qj (qJ (qF f8_1hr1)) (qj (qJ (jT f8_1hr2)) (qj rfl (qj (qJ (RowsF.isSl f8_1hr3)) qK)))) rfl rfl rfl (qg (.bool (true)) rfl (qb (qw (qI (qm (qm (qI (qm (qs (L' := L) [.agg #[u1, u2, ii ((loopF ar rs ((rs.getD k ([], [])).1) n).2.2.1), u3], .bool (true)] (.tuple #[.agg #[u1, u2, ii ((loopF ar rs ((rs.getD k ([], [])).1) n).2.2.1), u3], .bool (true)]) (.cell rfl (jx [u1, u2, ii ((loopF ar rs ((rs.getD k ([], [])).1) n).2.2.1), u3] jX jz rfl (Rd.ownN [_] rfl rfl)) (.tmp rfl .nil)) rfl (qh leG1 le3) rF (sD (sD (sD sR))) ?_))))))))))))))
   have hn20 : 1 ≤ n ∧ n ≤ 20 := Classical.byContradiction fun hc => by rw [loopF_no (fun h => hc h.2)] at hb9; cases hb9
   have e := firstF_at ⟨hsys, hn20⟩ (k := k) (by omega) hb9 hall
   exact ⟨_, _, _, by rw [e, hb9], by rw [e]; exact f8_1hr1, by rw [e]; exact f8_1hr2, by rw [e]; exact f8_1hr3, rfl⟩
  have hb9 : (loopF ar rs (rs.getD k ([], [])).1 n).2.2.2.2 = false := h3
  refine qz (qa (qd (ii ((k : Int))) rfl (cX (qP (((k + 1 : Nat) : Int)) rfl rfl (by omega) (by omega) (qg (ii (((k + 1 : Nat) : Int))) rfl (qb ?_))))))
  exact ⟨(k + 1, F3), _, (qh leG1 le3), rF, ⟨rfl, rfl, rfl, rfl, ⟨⟩⟩, (sD (sC (sC sR))), ⟨rfl, (qh leG1 le3), (by (try dsimp only) <;> omega), (fun i hi => (Nat.lt_or_ge i k).elim (fun h => hall i h) (fun h => by obtain rfl : i = k := (by omega); exact hb9))⟩, (by omega)⟩
 refine jo (qt (qt (qO (qc (qa (cX (jg [sN, sN, ii (0), sN] [sN, sN, ii (0), sN] [(0, 2), (2, 1), (3, 1)] [] qT jO rfl (.cons rfl qH (.cons rfl qy (.cons rfl qV PlacesAre.nil))) rfl CellsAre.nil (cX (qC [] _ [sN, sN, ii (0), sN] jz rfl rfl rfl (qj rfl (qj rfl (qj rfl (qj rfl qK)))) rfl rfl rfl (qg (.bool (false)) rfl (qb (qw (qs (L' := L) [.agg #[sN, sN, ii (0), sN], .bool (false)] (.tuple #[.agg #[sN, sN, ii (0), sN], .bool (false)]) (.cell rfl (jx [sN, sN, ii (0), sN] jX jz rfl (Rd.ownN [] rfl rfl)) (.tmp rfl .nil)) rfl leG1 rF (sD (sD sR)) ?_)))))))))))))
 have e : firstF ar rs n = noLoop := firstF_none (fun i hi => hall i (by omega))
 exact ⟨_, _, _, by rw [e], by rw [e]; exact IntsF.nilV, by rw [e]; exact SlOf.nilV, by rw [e]; exact SlOf.nilV, rfl⟩
end Go.Proofs.YtenomejgjcpbdaaGreat
set_option linter.unusedSimpArgs false
set_option linter.unusedVariables false
namespace Go.Proofs.YtenomejgjcpbdaaGreat
open Go X M Tryz

/- impl.placeUnder -/
theorem placeUnder_spec {F : FH} {L : List HP} {sv : Value} {s : List (List Int)} (hs : RowsF F sv s) {tv : Value} {t : List Int} (ht : IntsF F tv t) {p : Nat} (hp : p ≤ t.length) (hsl : s.length ≤ 4000000) (hsb : ∀ i, (s.getD i []).length ≤ 60) (htl : t.length ≤ 60) (htg : ∀ k, k < t.length → -24 ≤ t.getD k 0) :
    Does prog 250 [.agg #[sv], tv, ii ((p : Int))] F (L) (fun v F' L' => (ii (((movedL s t p : Nat) : Int)) : Value) = v ∧ F = F' ∧ L = L') := by
 refine qL func250 rfl rfl rfl ?_
 have hlt9 : ((t.drop 0).take (p - 0)).length = p := by simp; omega
 refine qc (qa (cX (jd [sv] rfl rfl ?_)))
 intro b1
 refine qg (ii (0)) rfl (qb (qc (qa (qg (ii (0)) rfl (qb (qc (qc (qa (qd (tv) rfl (qd (ii ((p : Int))) rfl (cX (XOp.sliceI 0 p qf qy rfl ht rfl ⟨_, rfl⟩ (by omega) (by omega) ?_))))))))))))
 intro v1 hv1 hn1
 refine cX (qD qf rfl hv1.slv (qd (ii (0)) rfl (qb (qN (jw (α := Nat) (fun k => [(3, ptr b1 0), (7, ii (((movedL s t k : Nat) : Int))), (13, v1), (14, ii ((((((t.drop 0).take (p - 0))).length : Nat) : Int))), (15, ii ((k : Int)))]) (fun k => cellsH b1 [sv] 115 :: L) (fun k F' => F = F' ∧ (k ≤ p)) (fun k => p - k) 0 ⟨rfl, rfl, rfl, rfl, rfl, ⟨⟩⟩ (sC sR) ⟨rfl, (by (try dsimp only) <;> omega)⟩ ?_)))))
 rintro k rE _ _ ⟨rfl, hk⟩
 show X _ _ _ _ (envs [(3, ptr b1 0), (7, ii (((movedL s t k : Nat) : Int))), (13, v1), (14, ii ((((((t.drop 0).take (p - 0))).length : Nat) : Int))), (15, ii ((k : Int)))] rE) _ (cellsH b1 [sv] 115 :: L)
 have htk := htg k
 have hgk := fun (h : k < p) => take_getD (t := t) (p := p) (k := k) h
 have hml := movedL_le (t := t) (s := s) (N := 60) (by omega) hsb k
 have hse := hsb (-1 - ((t.drop 0).take (p - 0)).getD k 0).toNat
 refine qc (qa (cX (jf rfl rfl (qb (qc ?_)))))
 refine qE (p := (k : Int) < (((((t.drop 0).take (p - 0))).length : Nat) : Int)) rfl (fun h1 => ?_) (fun h1 => ?_)
 ·refine qz (qc (qN (qc (qa (cX (qB k qf qy rfl rfl rfl hv1.slv (by omega) (Nat.mul_one _) (cX (ql jt rfl (hv1.rd (by omega)) (qg (ii ((((t.drop 0).take (p - 0))).getD k 0)) rfl (qb (qc (qa (qd (ii (((movedL s t k : Nat) : Int))) rfl (cX (qP ((((movedL s t k) + 1 : Nat) : Int)) rfl rfl (by omega) (by omega) (qg (ii ((((movedL s t k) + 1 : Nat) : Int))) rfl (qb (qc (qc (qa (qd (ii ((((t.drop 0).take (p - 0))).getD k 0)) rfl ?_)))))))))))))))))))))
  refine cX (ye rfl rfl (qb ?_))
  refine qE (p := ((((t.drop 0).take (p - 0))).getD k 0 : Int) ≥ 0) rfl (fun h2 => ?_) (fun h2 => ?_)
  ·refine jo (qt (qO (qa (cX (qP (((k + 1 : Nat) : Int)) rfl rfl (by omega) (by omega) (qd (ii (((k + 1 : Nat) : Int))) rfl (qb ?_)))))))
   exact ⟨k + 1, _, FLe.refl _, rF, ⟨rfl, (congrArg (fun z : Nat => Value.int .i64 (z : Int)) (by rw [movedL_succ (by omega), ← hgk (by omega)]; first | (rw [lk_sym (by omega)]; rfl) | (rw [lk_none (by omega) (of_decide_eq_true (hgk.symm.trans (by simp_all)))]; rfl) | (have hne9 : s.getD (-1 - ((t.drop 0).take (p - 0)).getD k 0).toNat [] ≠ [] := of_decide_eq_false (hgk.symm.trans (by simp_all)); have hne8 := List.length_pos_iff.2 hne9; rw [lk_some (by omega) hne9]; unfold varIx; omega))), rfl, rfl, rfl, ⟨⟩⟩, (sC sR), ⟨rfl, (by omega)⟩, (by omega)⟩
  refine qz (qc (qa (cX (qn [sv] jC qV rfl rfl (Rd.ownN [] rfl rfl) (qd (ii ((((t.drop 0).take (p - 0))).getD k 0)) rfl (cX (jF ((-1) - ((((t.drop 0).take (p - 0))).getD k 0)) rfl rfl (by omega) (by omega) (cX (qo (args := [.agg #[sv], ii ((((-1) - ((((t.drop 0).take (p - 0))).getD k 0)).toNat : Nat) : Int)]) call306 (by rw [show ((((-1) - ((((t.drop 0).take (p - 0))).getD k 0)).toNat : Nat) : Int) = (-1) - ((((t.drop 0).take (p - 0))).getD k 0) from by omega]; rfl) (byVar_spec (i := ((-1) - ((((t.drop 0).take (p - 0))).getD k 0)).toNat) hs (hsl := (by first | assumption | rfl | omega | simp))) ?_)))))))))
  rintro _ _ _ _ ⟨rfl, x1, rfl, hr1, hr2, rfl⟩
  skip
  refine qg (x1) rfl (qb (qc (qa (qd (x1) rfl (cX (XOp.neNil qf rfl rfl (qF hr1) (qb ?_)))))))
  refine jN (t := !isNil x1) rfl (fun h3 => ?_) (fun h3 => ?_)
  ·have hne7 := List.length_pos_iff.2 (of_decide_eq_false (hr2.symm.trans (by simpa using h3)))
   refine qa (qd (ii ((((movedL s t k) + 1 : Nat) : Int))) rfl (qd (x1) rfl (cX (qD qf rfl hr1.slv (cX (jF (((((s.getD (((-1) - ((((t.drop 0).take (p - 0))).getD k 0)).toNat) []).length) - 1 : Nat) : Int)) rfl rfl (by omega) (by omega) (cX (qP (((((movedL s t k) + 1) + (((s.getD (((-1) - ((((t.drop 0).take (p - 0))).getD k 0)).toNat) []).length) - 1) : Nat) : Int)) rfl rfl (by omega) (by omega) (qg (ii (((((movedL s t k) + 1) + (((s.getD (((-1) - ((((t.drop 0).take (p - 0))).getD k 0)).toNat) []).length) - 1) : Nat) : Int))) rfl (qb (qa (cX (qP (((k + 1 : Nat) : Int)) rfl rfl (by omega) (by omega) (qd (ii (((k + 1 : Nat) : Int))) rfl ?_))))))))))))))
   refine qb ?_
   exact ⟨k + 1, _, FLe.refl _, rF, ⟨rfl, (congrArg (fun z : Nat => Value.int .i64 (z : Int)) (by rw [movedL_succ (by omega), ← hgk (by omega)]; first | (rw [lk_sym (by omega)]; rfl) | (rw [lk_none (by omega) (of_decide_eq_true (hr2.symm.trans (by simp_all)))]; rfl) | (have hne9 : s.getD (-1 - ((t.drop 0).take (p - 0)).getD k 0).toNat [] ≠ [] := of_decide_eq_false (hr2.symm.trans (by simp_all)); have hne8 := List.length_pos_iff.2 hne9; rw [lk_some (by omega) hne9]; unfold varIx; omega))), rfl, rfl, rfl, ⟨⟩⟩, (sC sR), ⟨rfl, (by omega)⟩, (by omega)⟩
  refine qz (qa (cX (qP (((k + 1 : Nat) : Int)) rfl rfl (by omega) (by omega) (qd (ii (((k + 1 : Nat) : Int))) rfl (qb ?_)))))
  exact ⟨k + 1, _, FLe.refl _, rF, ⟨rfl, (congrArg (fun z : Nat => Value.int .i64 (z : Int)) (by rw [movedL_succ (by omega), ← hgk (by omega)]; first | (rw [lk_sym (by omega)]; rfl) | (rw [lk_none (by omega) (of_decide_eq_true (hr2.symm.trans (by simp_all)))]; rfl) | (have hne9 : s.getD (-1 - ((t.drop 0).take (p - 0)).getD k 0).toNat [] ≠ [] := of_decide_eq_false (hr2.symm.trans (by simp_all)); have hne8 := List.length_pos_iff.2 hne9; rw [lk_some (by omega) hne9]; unfold varIx; omega))), rfl, rfl, rfl, ⟨⟩⟩, (sC sR), ⟨rfl, (by omega)⟩, (by omega)⟩
 refine jo (qt (qt (qO (qc (qa (qd (ii (((movedL s t k : Nat) : Int))) rfl (qg (ii (((movedL s t k : Nat) : Int))) rfl (qb (qw (qs (L' := L) [ii (((movedL s t k : Nat) : Int))] (ii (((movedL s t k : Nat) : Int))) (.tmp rfl .nil) rfl rF rF (sD sR) ?_))))))))))
 exact ⟨(vI (by rw [show k = p from by omega])), rfl, rfl⟩

/- impl.WalkUnder -/
theorem WalkUnder_spec {F : FH} {L : List HP} {arv : Value} {ar : List Int} (har : IntsF F arv ar) {rsv : Value} {rs : List (List Int × List Int)} (hrs : PairsF F rsv rs) {fv : Value} {f : List Int} (hf : IntsF F fv f) {xsv : Value} {xs : List StepT} (hxs : StepsF F xsv xs) {uv : Value} {u : List (List Int)} (hu : RowsF F uv u) (hlf : f.length ≤ 4000000) (hsb : ∀ i, i < xs.length → (xs.getD i (0, 0, [])).2.2.length ≤ 4000000) :
    Does prog 152 [.agg #[arv, rsv], .agg #[fv, xsv], .agg #[uv]] F (L) (fun v F' L' => ∃ (a : Value), ∃ (b : Value), (.tuple #[.agg #[a, b], .bool ((undB ar rs f xs u).2.2)] : Value) = v ∧ (IntsF F' a (undB ar rs f xs u).1) ∧ (StepsF F' b (undB ar rs f xs u).2.1) ∧ (Fresh F F' (star [intsH 2 a (undB ar rs f xs u).1, stepsD 2 102 b (undB ar rs f xs u).2.1])) ∧ L = L') := by
 refine qL func152 rfl rfl rfl (qc (qa (cX (jd [arv, rsv] rfl rfl ?_))))
 intro b1
 refine cX (jd [fv, xsv] rfl rfl ?_)
 intro b2
 refine cX (jd [uv] rfl rfl ?_)
 intro b3
 refine cX (jc [sN, sN] jq rfl ?_)
 intro b4
 refine qg (.bool (false)) rfl (qb (qc (qc (qa (cX (qn [arv, rsv] jr jl rfl rfl (Rd.ownN [_, _, _] rfl rfl) (cX (qn [fv, xsv] jy qH rfl rfl (Rd.ownN [_, _] rfl rfl) (cX (qo (args := [.agg #[arv, rsv], .agg #[fv, xsv]]) call77 rfl (WalkOk_spec har hrs hf hxs (hlf := (by first | assumption | rfl | omega | simp)) (hsb := (by first | assumption | rfl | omega | simp))) ?_))))))))))
 rintro _ _ _ _ ⟨rfl, rfl, rfl⟩
 refine cX (jn rfl (qd (.bool (!(walkOkL ar rs f xs))) rfl ?_))
 by_cases h1 : (!(walkOkL ar rs f xs)) = true
 ·refine qr (t := 20) rfl (vB h1) (qr (t := 20) rfl (vB h1) (qr (t := 20) rfl (vB h1) (qr (t := 20) rfl (vB h1) (qr (t := 20) rfl (vB h1) (cX (qU (.bool (true)) (vB h1) rfl (qb (jI rfl (qc (qa (cX (jg [sN, sN] [sN, sN] [(0, 1), (1, 1)] [] qA jq rfl (.cons rfl qu (.cons rfl jj PlacesAre.nil)) rfl CellsAre.nil ?_))))))))))))
  refine cX (qC [] _ [sN, sN] qH rfl rfl rfl (qj rfl (qj rfl qK)) rfl rfl rfl (qg (.bool (false)) rfl (qb (qw (qm (qs (L' := L) [.agg #[sN, sN], .bool (false)] (.tuple #[.agg #[sN, sN], .bool (false)]) (.cell rfl (jx [sN, sN] jy qH rfl (Rd.ownN [] rfl rfl)) (.tmp rfl .nil)) rfl rF rF (sD (sD (sD (sD sR)))) ?_))))))
  have e : undB ar rs f xs u = ([], [], false) := undB_no (by simp_all)
  exact ⟨_, _, by rw [e], by rw [e]; exact IntsF.nilV, by rw [e]; exact SlOf.nilV, by rw [e]; exact Fresh.empty nilWalk, rfl⟩
 rw [Bool.not_eq_true] at h1
 have hwk : walkOkL ar rs f xs = true := by simpa using h1
 have hwl := (walkOkL_iff.1 hwk).2.1
 have hfo := (right_iff.1 (walkOkL_iff.1 hwk).1).2
 have hfl := termOk_len hfo
 have hfg := fun k (hk : k < f.length) => termOk_ge hfo hk
 refine qp (t := 20) rfl (vB h1) (qk (0) ja rfl qY (by decide) rfl rfl (qp (t := 20) rfl (vB h1) (qn [arv] js qY rfl rfl (Rd.ownN [_, _, _] rfl rfl) (qp (t := 20) rfl (vB h1) (qn [uv] jC qV rfl rfl (Rd.ownN [_] rfl rfl) (qp (t := 20) rfl (vB h1) (qo (args := [.agg #[arv], .agg #[uv]]) call249 rfl (SubstOk_spec har hu) ?_)))))))
 rintro _ _ _ _ ⟨rfl, rfl, rfl⟩
 refine qp (t := 20) rfl (vB h1) (jn rfl (cX (qS (.bool (!(substOk ar u))) (vB h1) rfl (qb ?_))))
 refine jN (t := !(substOk ar u)) rfl (fun h2 => ?_) (fun h2 => ?_)
 ·refine qc (qa (cX (jg [sN, sN] [sN, sN] [(0, 1), (1, 1)] [] qA jq rfl (.cons rfl qu (.cons rfl jj PlacesAre.nil)) rfl CellsAre.nil (cX (qC [] _ [sN, sN] qH rfl rfl rfl (qj rfl (qj rfl qK)) rfl rfl rfl (qg (.bool (false)) rfl (qb (qw (qm (qs (L' := L) [.agg #[sN, sN], .bool (false)] (.tuple #[.agg #[sN, sN], .bool (false)]) (.cell rfl (jx [sN, sN] jy qH rfl (Rd.ownN [] rfl rfl)) (.tmp rfl .nil)) rfl rF rF (sD (sD (sD (sD sR)))) ?_))))))))))
  have e : undB ar rs f xs u = ([], [], false) := undB_no (by simp_all)
  exact ⟨_, _, by rw [e], by rw [e]; exact IntsF.nilV, by rw [e]; exact SlOf.nilV, by rw [e]; exact Fresh.empty nilWalk, rfl⟩
 have hsk : substOk ar u = true := by simpa using h2
 have hsk2 := substOk_len hsk
 have hsk3 := (substOk_iff.1 hsk).2.1
 refine qz (qc (qa (cX (qn [uv] jC qV rfl rfl (Rd.ownN [_] rfl rfl) (cX (qk (0) qA rfl qu (by decide) rfl rfl (cX (ql qZ rfl (Rd.own [_, _] rfl rfl) (cX (qo (args := [.agg #[uv], fv]) call205 rfl (fill_spec hu hf (hsl := (by first | assumption | rfl | omega | simp)) (hsb := (fun i => by have := hsk2 i; omega)) (htl := (by first | omega | (have := htk (by omega); omega))) (htg := (by first | (exact fun k hk => by have := hfg k hk; omega) | (exact fun j hj => by have := termOk_ge (hto (by omega)) hj; omega)))) ?_))))))))))
 rintro _ F1 _ le1 ⟨x1, rfl, hr1, hr2, rfl⟩
 replace hf := hf.mono le1
 replace hxs := hxs.mono le1
 replace hu := hu.mono le1
 refine qd (.tuple #[x1, .bool ((fillL u f).isSome)]) rfl (cX (qQ (x1) rfl rfl (cX (qQ (.bool ((fillL u f).isSome)) rfl rfl (qg (x1) rfl (qg (.bool ((fillL u f).isSome)) rfl (qb (qc (qc (qa (qd (.bool ((fillL u f).isSome)) rfl (cX (jn rfl (qb ?_))))))))))))))
 refine jN (t := !((fillL u f).isSome)) rfl (fun h3 => ?_) (fun h3 => ?_)
 ·have hpf1 : (fillL u f).isSome = false := by simpa using h3
  refine qc (qa (cX (jg [sN, sN] [sN, sN] [(0, 1), (1, 1)] [] qA jq rfl (.cons rfl qu (.cons rfl jj PlacesAre.nil)) rfl CellsAre.nil (cX (qC [] _ [sN, sN] qH rfl rfl rfl (qj rfl (qj rfl qK)) rfl rfl rfl (qg (.bool (false)) rfl (qb (qw (qm (qs (L' := L) [.agg #[sN, sN], .bool (false)] (.tuple #[.agg #[sN, sN], .bool (false)]) (.cell rfl (jx [sN, sN] jy qH rfl (Rd.ownN [] rfl rfl)) (.tmp rfl .nil)) rfl le1 rF (sD (sD (sD (sD sR)))) ?_))))))))))
  have e : undB ar rs f xs u = ([], [], false) := undB_from hpf1
  exact ⟨_, _, by rw [e], by rw [e]; exact IntsF.nilV, by rw [e]; exact SlOf.nilV, by rw [e]; exact Fresh.empty nilWalk, rfl⟩
 have hpf1 : (fillL u f).isSome = true := by simpa using h3
 refine qz (qc (qa (qd (x1) rfl (cX (jg [x1, sN] [sN, sN] [(0, 1), (1, 1)] [(0, [x1])] qA jq rfl (.cons rfl qu (.cons rfl jj PlacesAre.nil)) rfl (.cons (cells_one (qF hr1)) CellsAre.nil) (cX (jc [sN, sN] jq rfl ?_)))))))
 intro b5
 refine cX (qC [] _ [x1, sN] qH rfl rfl rfl (qj (qJ (qF hr1)) (qj rfl qK)) rfl rfl rfl (qb (qc (qa (cX (qk (0) qA rfl qu (by decide) rfl rfl (cX (ql qZ rfl (Rd.own [_, _, _] rfl rfl) (qg (fv) rfl (qb (qc (qc (qa (cX (qk (1) qA rfl jj (by decide) rfl rfl (cX (ql jL rfl (Rd.own [_, _, _] rfl rfl) (cX (qD qG rfl hxs.slv (qd (ii (0)) rfl ?_))))))))))))))))))))
 refine qb (qN (jw (α := Nat × Value × List Int × Value × List StepT × List Value × List HP × Nat × FH) (fun xQ => [(5, ptr b3 0), (6, ptr b4 0), (10, ptr b5 0), (11, xQ.2.1), (43, xsv), (44, ii ((xs.length : Int))), (45, ii (((xQ.1 : Nat) : Int)))]) (fun xQ => slH 102 3 xQ.2.2.2.1 xQ.2.2.2.2.2.2.2.1 xQ.2.2.2.2.2.1 :: cellsH b5 [x1, xQ.2.2.2.1] 45 :: cellsH b4 [sN, sN] 45 :: cellsH b3 [uv] 115 :: cellsH b2 [fv, xsv] 45 :: cellsH b1 [arv, rsv] 39 :: L) (fun xQ F' => xQ.2.2.2.2.2.2.2.2 = F' ∧ F1 ≤ xQ.2.2.2.2.2.2.2.2 ∧ (IntsF xQ.2.2.2.2.2.2.2.2 xQ.2.1 xQ.2.2.1) ∧ (xQ.1 ≤ xs.length) ∧ (xQ.2.2.1 = nowL f xs xQ.1) ∧ (IsSl xQ.2.2.2.1) ∧ (StepsC xQ.2.2.2.2.2.2.2.2 xQ.2.2.2.2.2.1 xQ.2.2.2.2.1) ∧ (xQ.2.2.2.2.2.2.2.1 = xQ.2.2.2.2.1.length) ∧ (DeepL 3 (StepO 2) xQ.2.2.2.2.2.1 xQ.2.2.2.2.1 xQ.2.2.2.2.2.2.1) ∧ (Fresh F1 xQ.2.2.2.2.2.2.2.2 (star xQ.2.2.2.2.2.2.1)) ∧ (undGo u f xs = (undGo u xQ.2.2.1 (xs.drop xQ.1)).map (fun r => xQ.2.2.2.2.1 ++ r)) ∧ (xQ.2.2.2.2.2.2.2.1 = xQ.1)) (fun xQ => xs.length - xQ.1) (0, fv, f, sN, [], [], [], 0, F1) ⟨rfl, rfl, rfl, rfl, rfl, rfl, rfl, ⟨⟩⟩ (qR (Sub.addNil 102 3 _ _) (sC (sC (sC (sC (sC (sC sR))))))) ⟨rfl, FLe.refl _, (hf), (by (try dsimp only) <;> omega), (nowL_zero.symm), (⟨_, _, _, rfl⟩), (CO.nil), (rfl), (DeepL.nil), (Fresh.nilL), (undGo_start), (rfl)⟩ ?_))
 rintro ⟨k, cv, cur, sv, ss, cs, Ls, m, G1⟩ rE _ _ ⟨rfl, leG, hcv, hk, hnow, hsv, hC, hm, hD, hZ, hgo, hmk⟩
 show X _ _ _ _ (envs [(5, ptr b3 0), (6, ptr b4 0), (10, ptr b5 0), (11, cv), (43, xsv), (44, ii ((xs.length : Int))), (45, ii ((k : Int)))] rE) _ (slH 102 3 sv m cs :: cellsH b5 [x1, sv] 45 :: cellsH b4 [sN, sN] 45 :: cellsH b3 [uv] 115 :: cellsH b2 [fv, xsv] 45 :: cellsH b1 [arv, rsv] 39 :: L)
 replace leG : F1 ≤ G1 := leG
 dsimp only at hcv hk hnow hsv hC hm hD hZ hgo hmk
 have hak := fun (h : k < xs.length) => walkOk_at2 hwk h hnow
 have hto := fun (h : k < xs.length) => walkOk_to hwk h
 have htk := fun (h : k < xs.length) => termOk_len (walkOk_to hwk h)
 have hno := now_ok hwk hk hnow
 have hnl := termOk_len hno
 have leG1 := leG
 replace hxs := hxs.mono leG1
 replace hu := hu.mono leG1
 replace hr1 := hr1.mono leG1
 refine qc (qa (cX (jf rfl rfl (qb (qc ?_)))))
 refine qE (p := (k : Int) < (xs.length : Int)) rfl (fun h4 => ?_) (fun h4 => ?_)
 ·refine qz (qc (qN (qc (qa (cX (qB k qG ji rfl rfl rfl hxs.slv (by omega) rfl ?_))))))
  obtain ⟨a1, ha1, hr3, hr4, hr5⟩ := hxs.rd (i := k) (by omega)
  refine cX (qn [ii ((xs.getD k (0, 0, [])).1), ii ((xs.getD k (0, 0, [])).2.1), a1] yl ji rfl rfl (Rd.three (hr3 _) (hr4 _) (hr5 _)) (cX (jc [ii (0), ii (0), sN] jE rfl ?_)))
  intro b6
  refine cX (qC [] _ [ii ((xs.getD k (0, 0, [])).1), ii ((xs.getD k (0, 0, [])).2.1), a1] ji rfl rfl rfl (qj rfl (qj rfl (qj (qJ (qF ha1)) qK))) rfl rfl rfl (qb (qc (qa (cX (qn [uv] jC qV rfl rfl (Rd.ownN [_, _, _, _] rfl rfl) (cX (qk (2) jm rfl qu (by decide) rfl rfl (cX (ql qZ rfl (Rd.own [] rfl rfl) (cX (qo (args := [.agg #[uv], a1]) call205 rfl (fill_spec hu ha1 (hsl := (by first | assumption | rfl | omega | simp)) (hsb := (fun i => by have := hsk2 i; omega)) (htl := (by first | omega | (have := htk (by omega); omega))) (htg := (by first | (exact fun k hk => by have := hfg k hk; omega) | (exact fun j hj => by have := termOk_ge (hto (by omega)) hj; omega)))) ?_))))))))))))
  rintro _ F2 _ le2 ⟨x2, rfl, hr6, hr7, rfl⟩
  replace hu := hu.mono le2
  replace hr1 := hr1.mono le2
  replace hcv := hcv.mono le2
  replace hC := hC.mono le2
  replace ha1 := ha1.mono le2
  refine qd (.tuple #[x2, .bool ((fillL u ((xs.getD k (0, 0, [])).2.2)).isSome)]) rfl (cX (qQ (x2) rfl rfl (cX (qQ (.bool ((fillL u ((xs.getD k (0, 0, [])).2.2)).isSome)) rfl rfl (qg (x2) rfl (qg (.bool ((fillL u ((xs.getD k (0, 0, [])).2.2)).isSome)) rfl (qb (qc (qc (qa (qd (.bool ((fillL u ((xs.getD k (0, 0, [])).2.2)).isSome)) rfl (cX (jn rfl (qb ?_))))))))))))))
  refine jN (t := !((fillL u ((xs.getD k (0, 0, [])).2.2)).isSome)) rfl (fun h5 => ?_) (fun h5 => ?_)
  ·have hpu1 : (fillL u (xs.getD k (0, 0, [])).2.2).isSome = false := by simpa using h5
   refine qc (qa (cX (jg [sN, sN] [sN, sN] [(0, 1), (1, 1)] [] qA jq rfl (.cons rfl qu (.cons rfl jj PlacesAre.nil)) rfl CellsAre.nil (cX (qC [_, _, _] _ [sN, sN] qH rfl rfl rfl (qj rfl (qj rfl qK)) rfl rfl rfl (qg (.bool (false)) rfl (qb (qw (qm (qI (qm (qm (qI (qm (qs (L' := L) [.agg #[sN, sN], .bool (false)] (.tuple #[.agg #[sN, sN], .bool (false)]) (.cell rfl (jx [sN, sN] jy qH rfl (Rd.ownN [_, _, _] rfl rfl)) (.tmp rfl .nil)) rfl (qh (qh le1 leG1) le2) rF (sD (sD (sD (sD (sD (sD (sD sR))))))) ?_)))))))))))))))
   have e : undB ar rs f xs u = ([], [], false) := undB_steps (undGo_fail (by omega) hgo hpu1)
   exact ⟨_, _, by rw [e], by rw [e]; exact IntsF.nilV, by rw [e]; exact SlOf.nilV, by rw [e]; exact Fresh.empty nilWalk, rfl⟩
  have hpu1 : (fillL u (xs.getD k (0, 0, [])).2.2).isSome = true := by simpa using h5
  refine qz (qc ?_)
  refine jY [cellsH b6 [ii ((xs.getD k (0, 0, [])).1), ii ((xs.getD k (0, 0, [])).2.1), a1] 102, slH 102 3 sv m cs, cellsH b5 [x1, sv] 45, cellsH b4 [sN, sN] 45, cellsH b3 [uv] 115, cellsH b2 [fv, xsv] 45, cellsH b1 [arv, rsv] 39] L 12 [] [[], [0], [], [], [], [4], [2, 3, 5], [], [7], [], [6, 8, 9], [10]] (phiL [qe (ptr b5 1), qe sv, qe (.agg #[uv]), qe cv, qe (ptr b6 0), qe (ii ((xs.getD k (0, 0, [])).1)), qe (ii (((movedL u cur (((xs.getD k (0, 0, [])).1).toNat) : Nat) : Int)) : Value), qe (ptr b6 1), qe (ii ((xs.getD k (0, 0, [])).2.1)), qe x2, qe (.agg #[ii (((movedL u cur (((xs.getD k (0, 0, [])).1).toNat) : Nat) : Int)), ii ((xs.getD k (0, 0, [])).2.1), x2] : Value), fun us v => ∃ b, v = .slice (some ⟨b, 0, none⟩) 1 1]) (ownL [o0, o0, o0, o0, o0, o0, o0, o0, o0, o0, o0, fun us v => [slH 102 3 v 1 [ii (((movedL u cur (((xs.getD k (0, 0, [])).1).toNat) : Nat) : Int)), ii ((xs.getD k (0, 0, [])).2.1), x2]]]) mixed rfl rfl (by kernel_rfl) ?_ ?_
  ·refine pD (fun W R z9 => ?_) ?_
   ·refine qi (qk (1) qA rfl jj (by decide) rfl rfl ?_)
    exact ⟨rfl, rfl, rfl⟩
   refine pD (fun W R z9 => ?_) ?_
   ·rw [eS (l := [(0, _)]) ⟨z9 0 rfl, ⟨⟩⟩]
    refine qi (ql jL rfl (Rd.own [_, _] rfl rfl) ?_)
    exact ⟨rfl, rfl, rfl⟩
   refine pD (fun W R z9 => ?_) ?_
   ·refine qi (qn [uv] jC qV rfl rfl (Rd.ownN [_, _, _, _] rfl rfl) ?_)
    exact ⟨rfl, rfl, rfl⟩
   refine pD (fun W R z9 => ?_) ?_
   ·refine qi (qq (cv) rfl ?_)
    exact ⟨rfl, rfl, rfl⟩
   refine pD (fun W R z9 => ?_) ?_
   ·refine qi (qk (0) jm rfl qy (by decide) rfl rfl ?_)
    exact ⟨rfl, rfl, rfl⟩
   refine pD (fun W R z9 => ?_) ?_
   ·rw [eS (l := [(4, _)]) ⟨z9 4 rfl, ⟨⟩⟩]
    refine qi (ql jt rfl (Rd.own [] rfl rfl) ?_)
    exact ⟨rfl, rfl, rfl⟩
   refine pD (fun W R z9 => ?_) ?_
   ·rw [eS (l := [(2, _), (3, _), (5, _)]) ⟨z9 2 rfl, z9 3 rfl, z9 5 rfl, ⟨⟩⟩]
    refine qi (qo (args := [.agg #[uv], cv, ii ((((xs.getD k (0, 0, [])).1).toNat : Nat) : Int)]) call250 (by rw [show ((((xs.getD k (0, 0, [])).1).toNat : Nat) : Int) = (xs.getD k (0, 0, [])).1 from by omega]; rfl) (placeUnder_spec (p := ((xs.getD k (0, 0, [])).1).toNat) hu hcv (hp := (by have := hak (by omega); omega)) (hsl := (by first | assumption | rfl | omega | simp)) (hsb := (hsk2)) (htl := (by first | assumption | rfl | omega | simp)) (htg := (fun k hk => termOk_ge hno hk))) ?_)
    rintro _ _ _ _ ⟨rfl, rfl, rfl⟩
    exact ⟨rfl, rfl, rfl⟩
   refine pD (fun W R z9 => ?_) ?_
   ·refine qi (qk (1) jm rfl qy (by decide) rfl rfl ?_)
    exact ⟨rfl, rfl, rfl⟩
   refine pD (fun W R z9 => ?_) ?_
   ·rw [eS (l := [(7, _)]) ⟨z9 7 rfl, ⟨⟩⟩]
    refine qi (ql jt rfl (Rd.own [] rfl rfl) ?_)
    exact ⟨rfl, rfl, rfl⟩
   refine pD (fun W R z9 => ?_) ?_
   ·refine qi (qq (x2) rfl ?_)
    exact ⟨rfl, rfl, rfl⟩
   refine pD (fun W R z9 => ?_) ?_
   ·rw [eS (l := [(6, _), (8, _), (9, _)]) ⟨z9 6 rfl, z9 8 rfl, z9 9 rfl, ⟨⟩⟩]
    refine qi (jg [ii (((movedL u cur (((xs.getD k (0, 0, [])).1).toNat) : Nat) : Int)), ii ((xs.getD k (0, 0, [])).2.1), x2] [ii (0), ii (0), sN] [(0, 1), (1, 1), (2, 1)] [(0, [ii (((movedL u cur (((xs.getD k (0, 0, [])).1).toNat) : Nat) : Int))]), (1, [ii ((xs.getD k (0, 0, [])).2.1)]), (2, [x2])] jm jE rfl (.cons rfl qy (.cons rfl qy (.cons rfl qu PlacesAre.nil))) rfl (.cons rfl (.cons rfl (.cons (cells_one (qF hr6)) CellsAre.nil))) ?_)
    exact ⟨rfl, rfl, rfl⟩
   refine pD (fun W R z9 => ?_) ?_
   ·rw [eS (l := [(10, _)]) ⟨z9 10 rfl, ⟨⟩⟩]
    refine qi (qx (s := 3) [ii (((movedL u cur (((xs.getD k (0, 0, [])).1).toNat) : Nat) : Int)), ii ((xs.getD k (0, 0, [])).2.1), x2] [ii (0), ii (0), sN] [(0, [ii (((movedL u cur (((xs.getD k (0, 0, [])).1).toNat) : Nat) : Int)), ii ((xs.getD k (0, 0, [])).2.1), x2])] qG ji jE rfl (by decide) rfl (.cons rfl CellsAre.nil) rfl ?_)
    intro v2 hv2
    exact ⟨rfl, hv2, rfl⟩
   exact stepsP.nil
  intro W hphi
  have f11 : ∃ b, (W 11) = .slice (some ⟨b, 0, none⟩) 1 1 := hphi 11 (by decide)
  generalize hu11 : W 11 = u1 at f11
  rw [eS (l := [(1, _), (11, u1)]) ⟨(hphi 1 (by decide)), hu11, ⟨⟩⟩]
  show XL _ _ _ _ _ _ _ (slH 102 3 u1 1 [ii (((movedL u cur (((xs.getD k (0, 0, [])).1).toNat) : Nat) : Int)), ii ((xs.getD k (0, 0, [])).2.1), x2] :: cellsH b6 [ii ((xs.getD k (0, 0, [])).1), ii ((xs.getD k (0, 0, [])).2.1), a1] 102 :: slH 102 3 sv m cs :: cellsH b5 [x1, sv] 45 :: cellsH b4 [sN, sN] 45 :: cellsH b3 [uv] 115 :: cellsH b2 [fv, xsv] 45 :: cellsH b1 [arv, rsv] 39 :: L)
  refine cX (jV (m := 1) (bytes := 40) (cs := cs) [_, _] _ [ii (((movedL u cur (((xs.getD k (0, 0, [])).1).toNat) : Nat) : Int)), ii ((xs.getD k (0, 0, [])).2.1), x2] qG typeInfo102 rfl rfl rfl rfl rfl rfl rfl (SlV.own [] rfl) rfl (Rd.lit [] rfl) (qj rfl (qj rfl (qj (qJ (qF hr6)) qK))) (by (try simp only [List.length_append, List.length_nil, List.length_cons, List.length_singleton]); omega) (by (try simp only [List.length_append, List.length_nil, List.length_cons, List.length_singleton]); omega) ?_)
  intro v3 hs1 hn1 hm1
  have hc1 := StepsC.snoc hC (i := ((movedL u cur (((xs.getD k (0, 0, [])).1).toNat) : Nat) : Int)) (j := (xs.getD k (0, 0, [])).2.1) hr6
  refine cX (qk (1) qA rfl jj (by decide) rfl rfl (cX (jK [_, _, _] _ [x1, v3] jj rfl rfl (qJ hs1) rfl rfl rfl (qb (qa (cX (qk (2) jm rfl qu (by decide) rfl rfl (cX (ql qZ rfl (Rd.own [_] rfl rfl) (qg (a1) rfl (qb (qa (cX (qP (((k + 1 : Nat) : Int)) rfl rfl (by omega) (by omega) (qd (ii (((k + 1 : Nat) : Int))) rfl (qb ?_))))))))))))))))
  exact ⟨(k + 1, a1, (xs.getD k (0, 0, [])).2.2, v3, ss ++ [(((movedL u cur (((xs.getD k (0, 0, [])).1).toNat) : Nat) : Int), (xs.getD k (0, 0, [])).2.1, (fillL u ((xs.getD k (0, 0, [])).2.2)).getD [])], cs ++ [ii (((movedL u cur (((xs.getD k (0, 0, [])).1).toNat) : Nat) : Int)), ii ((xs.getD k (0, 0, [])).2.1), x2], Ls ++ [intsH 2 x2 ((fillL u ((xs.getD k (0, 0, [])).2.2)).getD [])], (m) + 1, F2), _, (qh leG1 le2), rF, ⟨rfl, rfl, rfl, rfl, rfl, rfl, rfl, ⟨⟩⟩, (sD (sD (sC (sC (sC (sC (sC (sC sR)))))))), ⟨rfl, (qh leG1 le2), (ha1), (by (try dsimp only) <;> omega), (by (try dsimp only); exact (nowL_succ (by omega)).symm), (hs1), (hc1), (by (try dsimp only); rw [List.length_append]; simp only [List.length_singleton]; omega), (DeepL.snoc hD rfl ⟨_, rfl, rfl⟩), ((Fresh.app hZ leG1 (Fresh.one hr7) le2)), (by (try dsimp only); exact undGo_next (by omega) hgo hpu1), (by (try dsimp only) <;> omega)⟩, (by omega)⟩
 refine jo (qt (qt (qO (qc (qa (cX (qn [x1, sv] jy qH rfl rfl (Rd.ownN [_] rfl rfl) (cX (qC [_, _] _ [x1, sv] qH rfl rfl rfl (qj (qJ (qF hr1)) (qj (qJ hsv) qK)) rfl rfl rfl (qg (.bool (true)) rfl (qb (je [] _ _ rfl (fun F3 le3 hz1 => ?_)))))))))))))
 replace hr1 := hr1.mono le3
 replace hC := hC.mono le3
 have hf1 : StepsF F3 sv ss := CO.fz hC (by first | rfl | omega | (rw [List.length_set]; omega) | (simp; done)) hz1.fz
 refine qw (qs (L' := L) [.agg #[x1, sv], .bool (true)] (.tuple #[.agg #[x1, sv], .bool (true)]) (.cell rfl (jx [x1, sv] jy qH rfl (Rd.ownN [_] rfl rfl)) (.tmp rfl .nil)) rfl (qh (qh le1 leG1) le3) rF (sD (sD (sD (sD (sD sR))))) ?_)
 have e := undB_yes hwk hsk hpf1 (undGo_end (by omega) hgo)
 exact ⟨_, _, by rw [e], by rw [e]; exact hr1, by rw [e]; exact hf1, by rw [e]; exact (Fresh.app (Fresh.one hr2) le1 (Fresh.one (Fresh.deep hD hZ leG1 hz1 (by omega) le3)) (qh leG1 le3)), rfl⟩
end Go.Proofs.YtenomejgjcpbdaaGreat
set_option linter.unusedSimpArgs false
set_option linter.unusedVariables false
namespace Go.Proofs.YtenomejgjcpbdaaGreat
open Go X M Tryz

/- impl.walkInside -/
theorem walkInside_spec {F : FH} {L : List HP} {arv : Value} {ar : List Int} (har : IntsF F arv ar) {fv : Value} {f : List Int} (hf : IntsF F fv f) {xsv : Value} {xs : List StepT} (hxs : StepsF F xsv xs) {tv : Value} {t : List Int} (ht : IntsF F tv t) {p : Nat} (ho : termOk ar t = true) (hp : p < t.length) (hwx : ∃ rs, walkOkL ar rs f xs = true) :
    Does prog 153 [.agg #[arv], .agg #[fv, xsv], tv, ii ((p : Int))] F (L) (fun v F' L' => ∃ (a : Value), ∃ (b : Value), (.tuple #[.agg #[a, b], .bool ((insR ar f xs t p).2.2)] : Value) = v ∧ (IntsF F' a (insR ar f xs t p).1) ∧ (StepsF F' b (insR ar f xs t p).2.1) ∧ (Fresh F F' (star [intsH 2 a (insR ar f xs t p).1, stepsD 2 102 b (insR ar f xs t p).2.1])) ∧ L = L') := by
 refine qL func153 rfl rfl rfl ?_
 obtain ⟨rs, hwk⟩ := hwx
 have htl := termOk_len ho
 have hfl := termOk_len (right_iff.1 (walkOkL_iff.1 hwk).1).2
 have hxl := (walkOkL_iff.1 hwk).2.1
 refine qc (qa (cX (jd [arv] rfl rfl ?_)))
 intro b1
 refine cX (jd [fv, xsv] rfl rfl ?_)
 intro b2
 refine cX (jc [sN, sN] jq rfl ?_)
 intro b3
 refine qg (.bool (false)) rfl (qb (qc (qa (cX (qn [arv] js qY rfl rfl (Rd.ownN [_, _] rfl rfl) (qd (tv) rfl (qd (ii ((p : Int))) rfl (cX (qk (0) qA rfl qu (by decide) rfl rfl (cX (ql qZ rfl (Rd.own [_] rfl rfl) (cX (qo (args := [.agg #[arv], tv, ii (p : Int), fv]) call207 rfl (put_spec (p := p) har ht hf (ho := (by first | assumption | rfl | omega | simp)) (hp := (by first | assumption | rfl | omega | simp)) (hul := (by first | assumption | rfl | omega | simp))) ?_)))))))))))))
 rintro _ F1 _ le1 ⟨x1, rfl, hr1, hr2, hr3, rfl⟩
 replace har := har.mono le1
 replace hxs := hxs.mono le1
 replace ht := ht.mono le1
 refine qd (.tuple #[x1, .bool ((putL ar t p f).isSome)]) rfl (cX (qQ (x1) rfl rfl (cX (qQ (.bool ((putL ar t p f).isSome)) rfl rfl (qg (x1) rfl (qg (.bool ((putL ar t p f).isSome)) rfl (qb (qc (qc (qa (qd (.bool ((putL ar t p f).isSome)) rfl (cX (jn rfl (qb ?_))))))))))))))
 refine jN (t := !((putL ar t p f).isSome)) rfl (fun h1 => ?_) (fun h1 => ?_)
 ·have hpf1 : (putL ar t p f).isSome = false := by simpa using h1
  refine qc (qa (cX (jg [sN, sN] [sN, sN] [(0, 1), (1, 1)] [] qA jq rfl (.cons rfl qu (.cons rfl jj PlacesAre.nil)) rfl CellsAre.nil (cX (qC [] _ [sN, sN] qH rfl rfl rfl (qj rfl (qj rfl qK)) rfl rfl rfl (qg (.bool (false)) rfl (qb (qw (qm (qs (L' := L) [.agg #[sN, sN], .bool (false)] (.tuple #[.agg #[sN, sN], .bool (false)]) (.cell rfl (jx [sN, sN] jy qH rfl (Rd.ownN [] rfl rfl)) (.tmp rfl .nil)) rfl le1 rF (sD (sD (sD sR))) ?_))))))))))
  have e := insR_from (ss := xs) hpf1
  exact ⟨_, _, by rw [e], by rw [e]; exact IntsF.nilV, by rw [e]; exact SlOf.nilV, by rw [e]; exact Fresh.empty nilWalk, rfl⟩
 have hpf1 : (putL ar t p f).isSome = true := by simpa using h1
 refine qz (qc (qa (qd (x1) rfl (cX (jg [x1, sN] [sN, sN] [(0, 1), (1, 1)] [(0, [x1])] qA jq rfl (.cons rfl qu (.cons rfl jj PlacesAre.nil)) rfl (.cons (cells_one (qF hr1)) CellsAre.nil) (cX (jc [sN, sN] jq rfl ?_)))))))
 intro b4
 refine cX (qC [] _ [x1, sN] qH rfl rfl rfl (qj (qJ (qF hr1)) (qj rfl qK)) rfl rfl rfl (qb (qc (qc (qa (cX (qk (1) qA rfl jj (by decide) rfl rfl (cX (ql jL rfl (Rd.own [_, _] rfl rfl) (cX (qD qG rfl hxs.slv (qd (ii (0)) rfl (qb (qN (jw (α := Nat × Value × List StepT × List Value × List HP × Nat × FH) (fun xQ => [(2, tv), (3, ii ((p : Int))), (4, ptr b1 0), (8, ptr b3 0), (12, ptr b4 0), (32, xsv), (33, ii ((xs.length : Int))), (34, ii (((xQ.1 : Nat) : Int)))]) (fun xQ => slH 102 3 xQ.2.1 xQ.2.2.2.2.2.1 xQ.2.2.2.1 :: cellsH b4 [x1, xQ.2.1] 45 :: cellsH b3 [sN, sN] 45 :: cellsH b2 [fv, xsv] 45 :: cellsH b1 [arv] 36 :: L) (fun xQ F' => xQ.2.2.2.2.2.2 = F' ∧ F1 ≤ xQ.2.2.2.2.2.2 ∧ (xQ.1 ≤ xs.length) ∧ (IsSl xQ.2.1) ∧ (StepsC xQ.2.2.2.2.2.2 xQ.2.2.2.1 xQ.2.2.1) ∧ (xQ.2.2.2.2.2.1 = xQ.2.2.1.length) ∧ (DeepL 3 (StepO 2) xQ.2.2.2.1 xQ.2.2.1 xQ.2.2.2.2.1) ∧ (Fresh F1 xQ.2.2.2.2.2.2 (star xQ.2.2.2.2.1)) ∧ (insGo ar t p xs = (insGo ar t p (xs.drop xQ.1)).map (fun r => xQ.2.2.1 ++ r)) ∧ (xQ.2.2.2.2.2.1 = xQ.1)) (fun xQ => xs.length - xQ.1) (0, sN, [], [], [], 0, F1) ⟨rfl, rfl, rfl, rfl, rfl, rfl, rfl, rfl, ⟨⟩⟩ (qR (Sub.addNil 102 3 _ _) (sC (sC (sC (sC (sC sR)))))) ⟨rfl, FLe.refl _, (by (try dsimp only) <;> omega), (⟨_, _, _, rfl⟩), (CO.nil), (rfl), (DeepL.nil), (Fresh.nilL), (insGo_start), (rfl)⟩ ?_)))))))))))))))
 rintro ⟨k, sv, ss, cs, Ls, m, G1⟩ rE _ _ ⟨rfl, leG, hk, hsv, hC, hm, hD, hZ, hgo, hmk⟩
 show X _ _ _ _ (envs [(2, tv), (3, ii ((p : Int))), (4, ptr b1 0), (8, ptr b3 0), (12, ptr b4 0), (32, xsv), (33, ii ((xs.length : Int))), (34, ii ((k : Int)))] rE) _ (slH 102 3 sv m cs :: cellsH b4 [x1, sv] 45 :: cellsH b3 [sN, sN] 45 :: cellsH b2 [fv, xsv] 45 :: cellsH b1 [arv] 36 :: L)
 replace leG : F1 ≤ G1 := leG
 dsimp only at hk hsv hC hm hD hZ hgo hmk
 have hak := fun (h : k < xs.length) => walkOk_at hwk h
 have htk := fun (h : k < xs.length) => termOk_len (walkOk_to hwk h)
 have leG1 := leG
 replace har := har.mono leG1
 replace hxs := hxs.mono leG1
 replace ht := ht.mono leG1
 replace hr1 := hr1.mono leG1
 refine qc (qa (cX (jf rfl rfl (qb (qc ?_)))))
 refine qE (p := (k : Int) < (xs.length : Int)) rfl (fun h2 => ?_) (fun h2 => ?_)
 ·refine qz (qc (qN (qc (qa (cX (qB k qG ji rfl rfl rfl hxs.slv (by omega) rfl ?_))))))
  obtain ⟨a1, ha1, hr4, hr5, hr6⟩ := hxs.rd (i := k) (by omega)
  refine cX (qn [ii ((xs.getD k (0, 0, [])).1), ii ((xs.getD k (0, 0, [])).2.1), a1] yl ji rfl rfl (Rd.three (hr4 _) (hr5 _) (hr6 _)) (cX (jc [ii (0), ii (0), sN] jE rfl ?_)))
  intro b5
  refine cX (qC [] _ [ii ((xs.getD k (0, 0, [])).1), ii ((xs.getD k (0, 0, [])).2.1), a1] ji rfl rfl rfl (qj rfl (qj rfl (qj (qJ (qF ha1)) qK))) rfl rfl rfl (qb (qc (qa (cX (qn [arv] js qY rfl rfl (Rd.ownN [_, _, _, _, _] rfl rfl) (qd (tv) rfl (qd (ii ((p : Int))) rfl (cX (qk (2) jm rfl qu (by decide) rfl rfl (cX (ql qZ rfl (Rd.own [] rfl rfl) (cX (qo (args := [.agg #[arv], tv, ii (p : Int), a1]) call207 rfl (put_spec (p := p) har ht ha1 (ho := (by first | assumption | rfl | omega | simp)) (hp := (by first | assumption | rfl | omega | simp)) (hul := (⟨(htk (by omega)).1, by have := (htk (by omega)).2; omega⟩))) ?_))))))))))))))
  rintro _ F2 _ le2 ⟨x2, rfl, hr7, hr8, hr9, rfl⟩
  replace hr1 := hr1.mono le2
  replace hC := hC.mono le2
  refine qd (.tuple #[x2, .bool ((putL ar t p ((xs.getD k (0, 0, [])).2.2)).isSome)]) rfl (cX (qQ (x2) rfl rfl (cX (qQ (.bool ((putL ar t p ((xs.getD k (0, 0, [])).2.2)).isSome)) rfl rfl (qg (x2) rfl (qg (.bool ((putL ar t p ((xs.getD k (0, 0, [])).2.2)).isSome)) rfl (qb (qc (qc (qa (qd (.bool ((putL ar t p ((xs.getD k (0, 0, [])).2.2)).isSome)) rfl (cX (jn rfl (qb ?_))))))))))))))
  refine jN (t := !((putL ar t p ((xs.getD k (0, 0, [])).2.2)).isSome)) rfl (fun h3 => ?_) (fun h3 => ?_)
  ·have hpu1 : (putL ar t p (xs.getD k (0, 0, [])).2.2).isSome = false := by simpa using h3
   refine qc (qa (cX (jg [sN, sN] [sN, sN] [(0, 1), (1, 1)] [] qA jq rfl (.cons rfl qu (.cons rfl jj PlacesAre.nil)) rfl CellsAre.nil (cX (qC [_, _, _] _ [sN, sN] qH rfl rfl rfl (qj rfl (qj rfl qK)) rfl rfl rfl (qg (.bool (false)) rfl (qb (qw (qm (qI (qm (qm (qI (qm (qs (L' := L) [.agg #[sN, sN], .bool (false)] (.tuple #[.agg #[sN, sN], .bool (false)]) (.cell rfl (jx [sN, sN] jy qH rfl (Rd.ownN [_, _, _] rfl rfl)) (.tmp rfl .nil)) rfl (qh (qh le1 leG1) le2) rF (sD (sD (sD (sD (sD (sD sR)))))) ?_)))))))))))))))
   have e := insR_steps (f := f) (insGo_fail (by omega) hgo hpu1)
   exact ⟨_, _, by rw [e], by rw [e]; exact IntsF.nilV, by rw [e]; exact SlOf.nilV, by rw [e]; exact Fresh.empty nilWalk, rfl⟩
  have hpu1 : (putL ar t p (xs.getD k (0, 0, [])).2.2).isSome = true := by simpa using h3
  refine qz (qa (cX (qk (1) qA rfl jj (by decide) rfl rfl (cX (ql jL rfl (Rd.own [_, _] rfl rfl) (cX (qk (0) jm rfl qy (by decide) rfl rfl (cX (ql jt rfl (Rd.own [] rfl rfl) (qd (ii ((p : Int))) rfl (cX (qP (((xs.getD k (0, 0, [])).1) + ((p : Int))) rfl rfl (by omega) (by omega) (cX (qk (1) jm rfl qy (by decide) rfl rfl (cX (ql jt rfl (Rd.own [] rfl rfl) (qd (x2) rfl ?_)))))))))))))))))
  refine cX (jg [ii (((xs.getD k (0, 0, [])).1) + ((p : Int))), ii ((xs.getD k (0, 0, [])).2.1), x2] [ii (0), ii (0), sN] [(0, 1), (1, 1), (2, 1)] [(0, [ii (((xs.getD k (0, 0, [])).1) + ((p : Int)))]), (1, [ii ((xs.getD k (0, 0, [])).2.1)]), (2, [x2])] jm jE rfl (.cons rfl qy (.cons rfl qy (.cons rfl qu PlacesAre.nil))) rfl (.cons rfl (.cons rfl (.cons (cells_one (qF hr7)) CellsAre.nil))) (cX (qx (s := 3) [ii (((xs.getD k (0, 0, [])).1) + ((p : Int))), ii ((xs.getD k (0, 0, [])).2.1), x2] [ii (0), ii (0), sN] [(0, [ii (((xs.getD k (0, 0, [])).1) + ((p : Int))), ii ((xs.getD k (0, 0, [])).2.1), x2])] qG ji jE rfl (by decide) rfl (.cons rfl CellsAre.nil) rfl ?_)))
  intro v1 hv1
  refine cX (jV (m := 1) (bytes := 40) (cs := cs) [_, _] _ [ii (((xs.getD k (0, 0, [])).1) + ((p : Int))), ii ((xs.getD k (0, 0, [])).2.1), x2] qG typeInfo102 rfl rfl rfl rfl rfl rfl rfl (SlV.own [] rfl) rfl (Rd.lit [] rfl) (qj rfl (qj rfl (qj (qJ (qF hr7)) qK))) (by (try simp only [List.length_append, List.length_nil, List.length_cons, List.length_singleton]); omega) (by (try simp only [List.length_append, List.length_nil, List.length_cons, List.length_singleton]); omega) ?_)
  intro v2 hs1 hn1 hm1
  have hc1 := StepsC.snoc hC (i := ((xs.getD k (0, 0, [])).1) + ((p : Int))) (j := (xs.getD k (0, 0, [])).2.1) hr7
  refine cX (qk (1) qA rfl jj (by decide) rfl rfl (cX (jK [_, _, _] _ [x1, v2] jj rfl rfl (qJ hs1) rfl rfl rfl (qb (qa (cX (qP (((k + 1 : Nat) : Int)) rfl rfl (by omega) (by omega) (qd (ii (((k + 1 : Nat) : Int))) rfl (qb ?_)))))))))
  exact ⟨(k + 1, v2, ss ++ [(((xs.getD k (0, 0, [])).1) + ((p : Int)), (xs.getD k (0, 0, [])).2.1, (putL ar t p ((xs.getD k (0, 0, [])).2.2)).getD [])], cs ++ [ii (((xs.getD k (0, 0, [])).1) + ((p : Int))), ii ((xs.getD k (0, 0, [])).2.1), x2], Ls ++ [intsH 2 x2 ((putL ar t p ((xs.getD k (0, 0, [])).2.2)).getD [])], (m) + 1, F2), _, (qh leG1 le2), rF, ⟨rfl, rfl, rfl, rfl, rfl, rfl, rfl, rfl, ⟨⟩⟩, (sD (sD (sC (sC (sC (sC (sC sR))))))), ⟨rfl, (qh leG1 le2), (by (try dsimp only) <;> omega), (hs1), (hc1), (by (try dsimp only); rw [List.length_append]; simp only [List.length_singleton]; omega), (DeepL.snoc hD rfl ⟨_, rfl, rfl⟩), ((Fresh.app hZ leG1 (Fresh.one hr9) le2)), (by (try dsimp only); exact insGo_next (by omega) hgo hpu1), (by (try dsimp only) <;> omega)⟩, (by omega)⟩
 refine jo (qt (qt (qO (qc (qa (cX (qn [x1, sv] jy qH rfl rfl (Rd.ownN [_] rfl rfl) (cX (qC [_, _] _ [x1, sv] qH rfl rfl rfl (qj (qJ (qF hr1)) (qj (qJ hsv) qK)) rfl rfl rfl (qg (.bool (true)) rfl (qb (je [] _ _ rfl (fun F3 le3 hz1 => ?_)))))))))))))
 replace hr1 := hr1.mono le3
 replace hC := hC.mono le3
 have hf1 : StepsF F3 sv ss := CO.fz hC (by first | rfl | omega | (rw [List.length_set]; omega) | (simp; done)) hz1.fz
 refine qw (qs (L' := L) [.agg #[x1, sv], .bool (true)] (.tuple #[.agg #[x1, sv], .bool (true)]) (.cell rfl (jx [x1, sv] jy qH rfl (Rd.ownN [_] rfl rfl)) (.tmp rfl .nil)) rfl (qh (qh le1 leG1) le3) rF (sD (sD (sD (sD sR)))) ?_)
 have e := insR_yes hpf1 (insGo_end (by omega) hgo)
 exact ⟨_, _, by rw [e], by rw [e]; exact hr1, by rw [e]; exact hf1, by rw [e]; exact (Fresh.app (Fresh.one hr3) le1 (Fresh.one (Fresh.deep hD hZ leG1 hz1 (by omega) le3)) (qh leG1 le3)), rfl⟩
end Go.Proofs.YtenomejgjcpbdaaGreat
set_option linter.unusedSimpArgs false
set_option linter.unusedVariables false
namespace Go.Proofs.YtenomejgjcpbdaaGreat
open Go X M Tryz

/- impl.cloneWalk -/
set_option maxRecDepth 20000 in
theorem cloneWalk_spec {F : FH} {L : List HP} {fv : Value} {f : List Int} (hf : IntsF F fv f) {xsv : Value} {xs : List StepT} (hxs : StepsF F xsv xs) (hlf : f.length ≤ 60) (hlx : xs.length ≤ 60) (hxb : ∀ i, i < xs.length → (xs.getD i (0, 0, [])).2.2.length ≤ 60) :
    Does prog 151 [.agg #[fv, xsv]] F (L) (fun v F' L' => ∃ (a : Value), ∃ (b : Value), (.agg #[a, b] : Value) = v ∧ (IntsF F' a (f)) ∧ (StepsF F' b (xs)) ∧ (Fresh F F' (star [intsH 2 a (f), stepsD 2 102 b (xs)])) ∧ L = L') := by
 refine qL func151 rfl rfl rfl (qc (qa (cX (jd [fv, xsv] rfl rfl ?_))))
 intro b1
 refine cX (jc [sN, sN] jq rfl ?_)
 intro b2
 refine qb (qc (qa (cX (qk (0) qA rfl qu (by decide) rfl rfl (cX (ql qZ rfl (Rd.own [_] rfl rfl) (cX (yf <| qo (args := [fv]) call97 rfl (Clone_spec hf (hlt := (by first | assumption | rfl | omega | simp))) ?_))))))))
 rintro v1 _ _ _ ⟨rfl, hs1, rfl⟩
 refine ⟨_, _, rfl, fun F1 le1 hz1 => ?_⟩
 replace hxs := hxs.mono le1
 have hf1 : IntsF F1 v1 ((f)) := intsH.fz (xs := (f)) hz1.fz
 refine cX (jg [v1, sN] [sN, sN] [(0, 1), (1, 1)] [(0, [v1])] qA jq rfl (.cons rfl qu (.cons rfl jj PlacesAre.nil)) rfl (.cons (cells_one (qF hf1)) CellsAre.nil) (cX (jc [sN, sN] jq rfl ?_)))
 intro b3
 refine cX (qC [] _ [v1, sN] qH rfl rfl rfl (qj (qJ (qF hf1)) (qj rfl qK)) rfl rfl rfl (qb (qc (qc (qa (cX (qk (1) qA rfl jj (by decide) rfl rfl (cX (ql jL rfl (Rd.own [_, _] rfl rfl) (cX (qD qG rfl hxs.slv (qd (ii (0)) rfl (qb (qN (jw (α := Nat × Value × List StepT × List Value × List HP × Nat × FH) (fun xQ => [(2, ptr b2 0), (3, ptr b3 0), (11, xsv), (12, ii ((xs.length : Int))), (13, ii (((xQ.1 : Nat) : Int)))]) (fun xQ => slH 102 3 xQ.2.1 xQ.2.2.2.2.2.1 xQ.2.2.2.1 :: cellsH b3 [v1, xQ.2.1] 45 :: cellsH b2 [sN, sN] 45 :: cellsH b1 [fv, xsv] 45 :: L) (fun xQ F' => xQ.2.2.2.2.2.2 = F' ∧ F1 ≤ xQ.2.2.2.2.2.2 ∧ (xQ.1 ≤ xs.length) ∧ (IsSl xQ.2.1) ∧ (StepsC xQ.2.2.2.2.2.2 xQ.2.2.2.1 xQ.2.2.1) ∧ (xQ.2.2.2.2.2.1 = xQ.2.2.1.length) ∧ (DeepL 3 (StepO 2) xQ.2.2.2.1 xQ.2.2.1 xQ.2.2.2.2.1) ∧ (Fresh F1 xQ.2.2.2.2.2.2 (star xQ.2.2.2.2.1)) ∧ (xQ.2.2.1 = xs.take xQ.1)) (fun xQ => xs.length - xQ.1) (0, sN, [], [], [], 0, F1) ⟨rfl, rfl, rfl, rfl, rfl, ⟨⟩⟩ (qR (Sub.addNil 102 3 _ _) (sC (sC (sC (sC sR))))) ⟨rfl, FLe.refl _, (by (try dsimp only) <;> omega), (⟨_, _, _, rfl⟩), (CO.nil), (rfl), (DeepL.nil), (Fresh.nilL), (rfl)⟩ ?_)))))))))))))))
 rintro ⟨k, sv, ss, cs, Ls, m, G1⟩ rE _ _ ⟨rfl, leG, hk, hsv, hC, hm, hD, hZ, hss⟩
 show X _ _ _ _ (envs [(2, ptr b2 0), (3, ptr b3 0), (11, xsv), (12, ii ((xs.length : Int))), (13, ii ((k : Int)))] rE) _ (slH 102 3 sv m cs :: cellsH b3 [v1, sv] 45 :: cellsH b2 [sN, sN] 45 :: cellsH b1 [fv, xsv] 45 :: L)
 replace leG : F1 ≤ G1 := leG
 dsimp only at hk hsv hC hm hD hZ hss
 have hxk := hxb k
 have hml : ss.length = k := by rw [hss, List.length_take]; omega
 have leG1 := leG
 replace hxs := hxs.mono leG1
 replace hf1 := hf1.mono leG1
 refine qc (qa (cX (jf rfl rfl (qb (qc ?_)))))
 refine qE (p := (k : Int) < (xs.length : Int)) rfl (fun h1 => ?_) (fun h1 => ?_)
 ·refine qz (qc (qN (qc (qa (cX (qB k qG ji rfl rfl rfl hxs.slv (by omega) rfl ?_))))))
  obtain ⟨a1, ha1, hr1, hr2, hr3⟩ := hxs.rd (i := k) (by omega)
  refine cX (qn [ii ((xs.getD k (0, 0, [])).1), ii ((xs.getD k (0, 0, [])).2.1), a1] yl ji rfl rfl (Rd.three (hr1 _) (hr2 _) (hr3 _)) (cX (jc [ii (0), ii (0), sN] jE rfl ?_)))
  intro b4
  refine cX (qC [] _ [ii ((xs.getD k (0, 0, [])).1), ii ((xs.getD k (0, 0, [])).2.1), a1] ji rfl rfl rfl (qj rfl (qj rfl (qj (qJ (qF ha1)) qK))) rfl rfl rfl (qb (qa (cX (qn [ii ((xs.getD k (0, 0, [])).1), ii ((xs.getD k (0, 0, [])).2.1), a1] yl ji rfl rfl (Rd.ownN [] rfl rfl) (XL.weaken (qX (A := [_])) ?_))))))
  show XL _ _ _ _ _ _ _ (slH 102 3 sv m cs :: cellsH b4 [ii ((xs.getD k (0, 0, [])).1), ii ((xs.getD k (0, 0, [])).2.1), a1] 102 :: cellsH b3 [v1, sv] 45 :: cellsH b2 [sN, sN] 45 :: cellsH b1 [fv, xsv] 45 :: L)
  refine XL.weaken (qX (A := [_, _])) ?_
  show XL _ _ _ _ _ _ _ (cellsH b3 [v1, sv] 45 :: slH 102 3 sv m cs :: cellsH b4 [ii ((xs.getD k (0, 0, [])).1), ii ((xs.getD k (0, 0, [])).2.1), a1] 102 :: cellsH b2 [sN, sN] 45 :: cellsH b1 [fv, xsv] 45 :: L)
  refine cX (qo (args := [ptr b3 0, .agg #[ii ((xs.getD k (0, 0, [])).1), ii ((xs.getD k (0, 0, [])).2.1), a1]]) call243 rfl (walkAdd_spec ha1 hsv hC (by first | rfl | assumption | omega) (by omega) (by omega)) ?_)
  rintro _ F2 _ le2 ⟨sw1, cw1, hs2, hw1, hf2, rfl⟩
  replace hf1 := hf1.mono le2
  replace hC := hC.mono le2
  have hc1 := StepsC.snoc hC (i := (xs.getD k (0, 0, [])).1) (j := (xs.getD k (0, 0, [])).2.1) hw1
  show XL _ _ _ _ _ _ _ (cellsH b3 [v1, sw1] 45 :: slH 102 3 sw1 ((m) + 1) ((cs ++ [ii ((xs.getD k (0, 0, [])).1), ii ((xs.getD k (0, 0, [])).2.1), cw1])) :: cellsH b4 [ii ((xs.getD k (0, 0, [])).1), ii ((xs.getD k (0, 0, [])).2.1), a1] 102 :: cellsH b2 [sN, sN] 45 :: cellsH b1 [fv, xsv] 45 :: L)
  refine qb (qa (cX (qP (((k + 1 : Nat) : Int)) rfl rfl (by omega) (by omega) (qd (ii (((k + 1 : Nat) : Int))) rfl (qb ?_)))))
  exact ⟨(k + 1, sw1, (ss ++ [((xs.getD k (0, 0, [])).1, (xs.getD k (0, 0, [])).2.1, (xs.getD k (0, 0, [])).2.2)]), (cs ++ [ii ((xs.getD k (0, 0, [])).1), ii ((xs.getD k (0, 0, [])).2.1), cw1]), Ls ++ [intsH 2 cw1 ((xs.getD k (0, 0, [])).2.2)], (m) + 1, F2), _, (qh leG1 le2), rF, ⟨rfl, rfl, rfl, rfl, rfl, ⟨⟩⟩, (qR (qX (A := [_, _, _, _])) (qR (qX (A := [_, _, _, _])) (qR (qX (A := [_, _])) (qR (qX (A := [_, _, _])) (sC (sC (sC (sC (sD sR))))))))), ⟨rfl, (qh leG1 le2), (by (try dsimp only) <;> omega), (hs2), (hc1), (by (try dsimp only); rw [List.length_append]; simp only [List.length_singleton]; omega), (DeepL.snoc hD rfl ⟨_, rfl, rfl⟩), ((Fresh.app hZ leG1 (Fresh.one hf2) le2)), (by (try dsimp only); rw [take_succ_getD (0, 0, []) (by omega), ← hss])⟩, (by omega)⟩
 refine jo (qt (qt (qO (qc (qa (cX (qn [v1, sv] jy qH rfl rfl (Rd.ownN [_] rfl rfl) (cX (qC [_, _] _ [v1, sv] qH rfl rfl rfl (qj (qJ (qF hf1)) (qj (qJ hsv) qK)) rfl rfl rfl (qb (je [] _ _ rfl (fun F3 le3 hz2 => ?_))))))))))))
 replace hf1 := hf1.mono le3
 replace hC := hC.mono le3
 have hf3 : StepsF F3 sv ss := CO.fz hC (by first | rfl | omega | (rw [List.length_set]; omega) | (simp; done)) hz2.fz
 refine qw (qs (L' := L) [.agg #[v1, sv]] (.agg #[v1, sv]) (.cell rfl (jx [v1, sv] jy qH rfl (Rd.ownN [_] rfl rfl)) .nil) rfl (qh (qh le1 leG1) le3) rF (sD (sD (sD sR))) ?_)
 have e9 : ss = xs := by rw [hss, List.take_of_length_le (by omega)]
 subst e9
 exact ⟨_, _, rfl, hf1, hf3, (Fresh.app (Fresh.one hz1) le1 (Fresh.one (Fresh.deep hD hZ leG1 hz2 (by omega) le3)) (qh leG1 le3)), rfl⟩

/- impl.joinWalks -/
set_option maxRecDepth 20000 in
theorem joinWalks_spec {F : FH} {L : List HP} {fv : Value} {f : List Int} (hf : IntsF F fv f) {xsv : Value} {xs : List StepT} (hxs : StepsF F xsv xs) {gv : Value} {g : List Int} (hg : IntsF F gv g) {ysv : Value} {ys : List StepT} (hys : StepsF F ysv ys) (hlf : f.length ≤ 60) (hlx : xs.length ≤ 60) (hxb : ∀ i, i < xs.length → (xs.getD i (0, 0, [])).2.2.length ≤ 60) (hlg : g.length ≤ 60) (hly : ys.length ≤ 60) (hyb : ∀ i, i < ys.length → (ys.getD i (0, 0, [])).2.2.length ≤ 60) :
    Does prog 155 [.agg #[fv, xsv], .agg #[gv, ysv]] F (L) (fun v F' L' => ∃ (a : Value), ∃ (b : Value), (.tuple #[.agg #[a, b], .bool ((joinW f xs g ys).2.2)] : Value) = v ∧ (IntsF F' a (joinW f xs g ys).1) ∧ (StepsF F' b (joinW f xs g ys).2.1) ∧ (Fresh F F' (star [intsH 2 a (joinW f xs g ys).1, stepsD 2 102 b (joinW f xs g ys).2.1])) ∧ L = L') := by
 refine qL func155 rfl rfl rfl ?_
 have hel : (endL f xs).length ≤ 60 := by unfold endL; split <;> first | exact hlf | exact hxb _ (by omega)
 refine qc (qa (cX (jd [fv, xsv] rfl rfl ?_)))
 intro b1
 refine cX (jd [gv, ysv] rfl rfl ?_)
 intro b2
 refine cX (jc [sN, sN] jq rfl ?_)
 intro b3
 refine qg (.bool (false)) rfl (qb (qc (qc ?_)))
 by_cases h1 : ¬((endL f xs) = g)
 ·have hjoin : endL f xs ≠ g := by simpa using h1
  refine jZ [cellsH b3 [sN, sN] 45, cellsH b2 [gv, ysv] 45, cellsH b1 [fv, xsv] 45] L 13 [] [[], [0], [], [2], [1, 3], [4], [5], [6], [6, 7], [6, 8], [6], [6, 10], [6, 11]] [] (phiG [pe (.agg #[fv, xsv]), fun FF us v => ((v) : Value) = v ∧ (IntsF FF (v) (endL f xs)), pe (ptr b2 0), pe gv, pe (.bool (decide ((endL f xs) = g))), pe (.bool (decide (¬((endL f xs) = g)))), pe (.bool (decide (¬((endL f xs) = g)))), pe undef, pe undef, pe undef, pe undef, pe undef, pe undef]) (ownL []) mixed rfl rfl (by kernel_rfl) (by kernel_rfl) (MonoG.get (m1 (mC (fun le h => ⟨h.1, h.2.mono le⟩) (m1 (m1 (m1 (m1 (m1 (m1 (m1 (m1 (m1 (m1 (m1 MonoG.nil)))))))))))))) ?_ ?_
  ·refine gD (fun W Fs R lF z9 => ?_) ?_
   ·replace hf := hf.mono lF
    replace hxs := hxs.mono lF
    replace hg := hg.mono lF
    replace hys := hys.mono lF
    refine qi (qn [fv, xsv] jy qH rfl rfl (Rd.ownN [_, _] rfl rfl) ?_)
    exact ⟨rfl, rfl⟩
   refine gD (fun W Fs R lF z9 => ?_) ?_
   ·replace hf := hf.mono lF
    replace hxs := hxs.mono lF
    replace hg := hg.mono lF
    replace hys := hys.mono lF
    rw [eS (l := [(0, _)]) ⟨z9 0 rfl, ⟨⟩⟩]
    refine qi (qo (args := [.agg #[fv, xsv]]) call154 rfl (walkEnd_spec hf hxs (hlss := (by first | assumption | rfl | omega | simp))) ?_)
    rintro _ _ _ _ ⟨rfl, x3, rfl, hr3, rfl⟩
    exact ⟨⟨rfl, hr3⟩, rfl⟩
   refine gD (fun W Fs R lF z9 => ?_) ?_
   ·refine qi (qk (0) qA rfl qu (by decide) rfl rfl ?_)
    exact ⟨rfl, rfl⟩
   refine gD (fun W Fs R lF z9 => ?_) ?_
   ·replace hf := hf.mono lF
    replace hxs := hxs.mono lF
    replace hg := hg.mono lF
    replace hys := hys.mono lF
    rw [eS (l := [(2, _)]) ⟨z9 2 rfl, ⟨⟩⟩]
    refine qi (ql qZ rfl (Rd.own [_] rfl rfl) ?_)
    exact ⟨rfl, rfl⟩
   refine gD (fun W Fs R lF z9 => ?_) ?_
   ·obtain ⟨e1, f1_2hr⟩ := z9 1 rfl
    replace hf := hf.mono lF
    replace hxs := hxs.mono lF
    replace hg := hg.mono lF
    replace hys := hys.mono lF
    rw [eS (l := [(1, ((W 1))), (3, _)]) ⟨(e1).symm, z9 3 rfl, ⟨⟩⟩]
    refine qi (qo (args := [((W 1)), gv]) call156 rfl (Equal_spec f1_2hr hg (hbd := (by first | assumption | rfl | omega | (left; simp; done) | (right; simp; done)))) ?_)
    rintro _ _ _ _ ⟨rfl, rfl, rfl⟩
    exact ⟨rfl, rfl⟩
   refine gD (fun W Fs R lF z9 => ?_) ?_
   ·rw [eS (l := [(4, _)]) ⟨z9 4 rfl, ⟨⟩⟩]
    refine qi (yj rfl ?_)
    exact ⟨rfl, rfl⟩
   refine gD (fun W Fs R lF z9 => ?_) ?_
   ·rw [eS (l := [(5, _)]) ⟨z9 5 rfl, ⟨⟩⟩]
    refine qi (qq (.bool (decide (¬((endL f xs) = g)))) rfl ?_)
    exact ⟨rfl, rfl⟩
   refine gD (fun W Fs R lF z9 => ?_) ?_
   ·rw [eS (l := [(6, _)]) ⟨z9 6 rfl, ⟨⟩⟩]
    exact ju (t := 15) rfl (vT h1) ⟨rfl, rfl⟩
   refine gD (fun W Fs R lF z9 => ?_) ?_
   ·replace hf := hf.mono lF
    replace hxs := hxs.mono lF
    replace hg := hg.mono lF
    replace hys := hys.mono lF
    rw [eS (l := [(6, _), (7, undef)]) ⟨z9 6 rfl, z9 7 rfl, ⟨⟩⟩]
    exact ju (t := 15) rfl (vT h1) ⟨rfl, rfl⟩
   refine gD (fun W Fs R lF z9 => ?_) ?_
   ·replace hf := hf.mono lF
    replace hxs := hxs.mono lF
    replace hg := hg.mono lF
    replace hys := hys.mono lF
    rw [eS (l := [(6, _), (8, undef)]) ⟨z9 6 rfl, z9 8 rfl, ⟨⟩⟩]
    exact ju (t := 15) rfl (vT h1) ⟨rfl, rfl⟩
   refine gD (fun W Fs R lF z9 => ?_) ?_
   ·rw [eS (l := [(6, _)]) ⟨z9 6 rfl, ⟨⟩⟩]
    exact ju (t := 15) rfl (vT h1) ⟨rfl, rfl⟩
   refine gD (fun W Fs R lF z9 => ?_) ?_
   ·replace hf := hf.mono lF
    replace hxs := hxs.mono lF
    replace hg := hg.mono lF
    replace hys := hys.mono lF
    rw [eS (l := [(6, _), (10, undef)]) ⟨z9 6 rfl, z9 10 rfl, ⟨⟩⟩]
    exact ju (t := 15) rfl (vT h1) ⟨rfl, rfl⟩
   refine gD (fun W Fs R lF z9 => ?_) ?_
   ·replace hf := hf.mono lF
    replace hxs := hxs.mono lF
    replace hg := hg.mono lF
    replace hys := hys.mono lF
    rw [eS (l := [(6, _), (11, undef)]) ⟨z9 6 rfl, z9 11 rfl, ⟨⟩⟩]
    exact ju (t := 15) rfl (vT h1) ⟨rfl, rfl⟩
   exact stepsG.nil
  intro W F4 le4 hphi
  obtain ⟨e1, f1_2hr⟩ := hphi 1 (by decide)
  generalize hu1 : ((W 1)) = u1 at e1 f1_2hr
  rw [eS (l := [(6, _), (9, undef), (12, undef)]) ⟨(hphi 6 (by decide)), (hphi 9 (by decide)), (hphi 12 (by decide)), ⟨⟩⟩]
  replace hf := hf.mono le4
  replace hxs := hxs.mono le4
  replace hg := hg.mono le4
  replace hys := hys.mono le4
  show XL _ _ _ _ _ _ _ (cellsH b3 [sN, sN] 45 :: cellsH b2 [gv, ysv] 45 :: cellsH b1 [fv, xsv] 45 :: L)
  refine qr (t := 15) rfl (vT h1) (qr (t := 15) rfl (vT h1) (cX (qU (.bool (true)) (vT h1) rfl (qb (jI rfl (qc (qa (cX (jg [sN, sN] [sN, sN] [(0, 1), (1, 1)] [] qA jq rfl (.cons rfl qu (.cons rfl jj PlacesAre.nil)) rfl CellsAre.nil (cX (qC [] _ [sN, sN] qH rfl rfl rfl (qj rfl (qj rfl qK)) rfl rfl rfl (qg (.bool (false)) rfl (qb ?_)))))))))))))
  refine qw (qm (qs (L' := L) [.agg #[sN, sN], .bool (false)] (.tuple #[.agg #[sN, sN], .bool (false)]) (.cell rfl (jx [sN, sN] jy qH rfl (Rd.ownN [] rfl rfl)) (.tmp rfl .nil)) rfl le4 rF (sD (sD (sD sR))) ?_))
  have e : joinW f xs g ys = ([], [], false) := by first | exact joinW_no hjoin | exact joinW_long (by omega)
  exact ⟨_, _, by rw [e], by rw [e]; exact IntsF.nilV, by rw [e]; exact SlOf.nilV, by rw [e]; exact Fresh.empty nilWalk, rfl⟩
 have hjoin : endL f xs = g := by simpa using h1
 refine jZ [cellsH b3 [sN, sN] 45, cellsH b2 [gv, ysv] 45, cellsH b1 [fv, xsv] 45] L 13 [] [[], [0], [], [2], [1, 3], [4], [5], [6], [6, 7], [6, 8], [6], [6, 10], [6, 11]] [] (phiG [pe (.agg #[fv, xsv]), fun FF us v => ((v) : Value) = v ∧ (IntsF FF (v) (endL f xs)), pe (ptr b2 0), pe gv, pe (.bool (decide ((endL f xs) = g))), pe (.bool (decide (¬((endL f xs) = g)))), pe (.bool (decide (¬((endL f xs) = g)))), pe (ptr b1 1), pe xsv, pe (ii ((xs.length : Int)) : Value), pe (ptr b2 1), pe ysv, pe (ii ((ys.length : Int)) : Value)]) (ownL []) mixed rfl rfl (by kernel_rfl) (by kernel_rfl) (MonoG.get (m1 (mC (fun le h => ⟨h.1, h.2.mono le⟩) (m1 (m1 (m1 (m1 (m1 (m1 (m1 (m1 (m1 (m1 (m1 MonoG.nil)))))))))))))) ?_ ?_
 ·refine gD (fun W Fs R lF z9 => ?_) ?_
  ·replace hf := hf.mono lF
   replace hxs := hxs.mono lF
   replace hg := hg.mono lF
   replace hys := hys.mono lF
   refine qi (qn [fv, xsv] jy qH rfl rfl (Rd.ownN [_, _] rfl rfl) ?_)
   exact ⟨rfl, rfl⟩
  refine gD (fun W Fs R lF z9 => ?_) ?_
  ·replace hf := hf.mono lF
   replace hxs := hxs.mono lF
   replace hg := hg.mono lF
   replace hys := hys.mono lF
   rw [eS (l := [(0, _)]) ⟨z9 0 rfl, ⟨⟩⟩]
   refine qi (qo (args := [.agg #[fv, xsv]]) call154 rfl (walkEnd_spec hf hxs (hlss := (by first | assumption | rfl | omega | simp))) ?_)
   rintro _ _ _ _ ⟨rfl, x5, rfl, hr5, rfl⟩
   exact ⟨⟨rfl, hr5⟩, rfl⟩
  refine gD (fun W Fs R lF z9 => ?_) ?_
  ·refine qi (qk (0) qA rfl qu (by decide) rfl rfl ?_)
   exact ⟨rfl, rfl⟩
  refine gD (fun W Fs R lF z9 => ?_) ?_
  ·replace hf := hf.mono lF
   replace hxs := hxs.mono lF
   replace hg := hg.mono lF
   replace hys := hys.mono lF
   rw [eS (l := [(2, _)]) ⟨z9 2 rfl, ⟨⟩⟩]
   refine qi (ql qZ rfl (Rd.own [_] rfl rfl) ?_)
   exact ⟨rfl, rfl⟩
  refine gD (fun W Fs R lF z9 => ?_) ?_
  ·obtain ⟨e1, f1_3hr⟩ := z9 1 rfl
   replace hf := hf.mono lF
   replace hxs := hxs.mono lF
   replace hg := hg.mono lF
   replace hys := hys.mono lF
   rw [eS (l := [(1, ((W 1))), (3, _)]) ⟨(e1).symm, z9 3 rfl, ⟨⟩⟩]
   refine qi (qo (args := [((W 1)), gv]) call156 rfl (Equal_spec f1_3hr hg (hbd := (by first | assumption | rfl | omega | (left; simp; done) | (right; simp; done)))) ?_)
   rintro _ _ _ _ ⟨rfl, rfl, rfl⟩
   exact ⟨rfl, rfl⟩
  refine gD (fun W Fs R lF z9 => ?_) ?_
  ·rw [eS (l := [(4, _)]) ⟨z9 4 rfl, ⟨⟩⟩]
   refine qi (yj rfl ?_)
   exact ⟨rfl, rfl⟩
  refine gD (fun W Fs R lF z9 => ?_) ?_
  ·rw [eS (l := [(5, _)]) ⟨z9 5 rfl, ⟨⟩⟩]
   refine qi (qq (.bool (decide (¬((endL f xs) = g)))) rfl ?_)
   exact ⟨rfl, rfl⟩
  refine gD (fun W Fs R lF z9 => ?_) ?_
  ·rw [eS (l := [(6, _)]) ⟨z9 6 rfl, ⟨⟩⟩]
   refine jb (t := 15) rfl (vF h1) (qk (1) qA rfl jj (by decide) rfl rfl ?_)
   exact ⟨rfl, rfl⟩
  refine gD (fun W Fs R lF z9 => ?_) ?_
  ·replace hf := hf.mono lF
   replace hxs := hxs.mono lF
   replace hys := hys.mono lF
   rw [eS (l := [(6, _), (7, _)]) ⟨z9 6 rfl, z9 7 rfl, ⟨⟩⟩]
   refine jb (t := 15) rfl (vF h1) (ql jL rfl (Rd.own [_, _] rfl rfl) ?_)
   exact ⟨rfl, rfl⟩
  refine gD (fun W Fs R lF z9 => ?_) ?_
  ·replace hf := hf.mono lF
   replace hxs := hxs.mono lF
   replace hys := hys.mono lF
   rw [eS (l := [(6, _), (8, _)]) ⟨z9 6 rfl, z9 8 rfl, ⟨⟩⟩]
   refine jb (t := 15) rfl (vF h1) (qD qG rfl hxs.slv ?_)
   exact ⟨rfl, rfl⟩
  refine gD (fun W Fs R lF z9 => ?_) ?_
  ·rw [eS (l := [(6, _)]) ⟨z9 6 rfl, ⟨⟩⟩]
   refine jb (t := 15) rfl (vF h1) (qk (1) qA rfl jj (by decide) rfl rfl ?_)
   exact ⟨rfl, rfl⟩
  refine gD (fun W Fs R lF z9 => ?_) ?_
  ·replace hf := hf.mono lF
   replace hxs := hxs.mono lF
   replace hys := hys.mono lF
   rw [eS (l := [(6, _), (10, _)]) ⟨z9 6 rfl, z9 10 rfl, ⟨⟩⟩]
   refine jb (t := 15) rfl (vF h1) (ql jL rfl (Rd.own [_] rfl rfl) ?_)
   exact ⟨rfl, rfl⟩
  refine gD (fun W Fs R lF z9 => ?_) ?_
  ·replace hf := hf.mono lF
   replace hxs := hxs.mono lF
   replace hys := hys.mono lF
   rw [eS (l := [(6, _), (11, _)]) ⟨z9 6 rfl, z9 11 rfl, ⟨⟩⟩]
   refine jb (t := 15) rfl (vF h1) (qD qG rfl hys.slv ?_)
   exact ⟨rfl, rfl⟩
  exact stepsG.nil
 intro W F7 le7 hphi
 obtain ⟨e1, f1_3hr⟩ := hphi 1 (by decide)
 generalize hu2 : ((W 1)) = u2 at e1 f1_3hr
 rw [eS (l := [(6, _), (9, _), (12, _)]) ⟨(hphi 6 (by decide)), (hphi 9 (by decide)), (hphi 12 (by decide)), ⟨⟩⟩]
 replace hf := hf.mono le7
 replace hxs := hxs.mono le7
 replace hys := hys.mono le7
 show XL _ _ _ _ _ _ _ (cellsH b3 [sN, sN] 45 :: cellsH b2 [gv, ysv] 45 :: cellsH b1 [fv, xsv] 45 :: L)
 refine qp (t := 15) rfl (vF h1) (qP (((((xs).length) + ((ys).length) : Nat) : Int)) rfl rfl (by omega) (by omega) (qp (t := 15) rfl (vF h1) (jQ rfl rfl (cX (qS (.bool (decide ((((((xs).length) + ((ys).length) : Nat) : Int) : Int) > 60))) (vF h1) rfl (qb ?_))))))
 refine qE (p := (((((xs).length) + ((ys).length) : Nat) : Int) : Int) > 60) rfl (fun h2 => ?_) (fun h2 => ?_)
 ·refine qc (qa (cX (jg [sN, sN] [sN, sN] [(0, 1), (1, 1)] [] qA jq rfl (.cons rfl qu (.cons rfl jj PlacesAre.nil)) rfl CellsAre.nil (cX (qC [] _ [sN, sN] qH rfl rfl rfl (qj rfl (qj rfl qK)) rfl rfl rfl (qg (.bool (false)) rfl (qb (qw (qm (qs (L' := L) [.agg #[sN, sN], .bool (false)] (.tuple #[.agg #[sN, sN], .bool (false)]) (.cell rfl (jx [sN, sN] jy qH rfl (Rd.ownN [] rfl rfl)) (.tmp rfl .nil)) rfl le7 rF (sD (sD (sD sR))) ?_))))))))))
  have e : joinW f xs g ys = ([], [], false) := by first | exact joinW_no hjoin | exact joinW_long (by omega)
  exact ⟨_, _, by rw [e], by rw [e]; exact IntsF.nilV, by rw [e]; exact SlOf.nilV, by rw [e]; exact Fresh.empty nilWalk, rfl⟩
 refine qz (qc (qa (cX (qn [fv, xsv] jy qH rfl rfl (Rd.ownN [_, _] rfl rfl) (cX (XOp.thawL (id (qo (args := [.agg #[fv, xsv]]) call151 rfl (cloneWalk_spec hf hxs (hlf := (by first | assumption | rfl | omega | simp)) (hlx := (by first | assumption | rfl | omega | simp)) (hxb := (hxb))) ?_))))))))
 rintro _ F8 _ le8 ⟨x6, x7, rfl, hr6, hr7, hr8, rfl⟩
 refine ⟨[intsH 2 x6 f, stepsD 2 102 x7 xs], hr8, ?_⟩
 show XL _ _ _ _ _ _ _ (intsH 2 x6 f :: stepsD 2 102 x7 xs :: cellsH b3 [sN, sN] 45 :: cellsH b2 [gv, ysv] 45 :: cellsH b1 [fv, xsv] 45 :: L)
 refine cX (jc [sN, sN] jq rfl ?_)
 intro b4
 refine cX (qC [] _ [x6, x7] qH rfl rfl rfl (qj (qJ (qF hr6)) (qj (qJ (jT hr7)) qK)) rfl rfl rfl (qb (qc (qc (qa (XL.openD [_, _] _ rfl (fun cs1 Ls1 F9 le9 hs1 hD1 hZ1 => ?_)))))))
 replace hys := hys.mono le9
 have hc1 := hD1.steps hZ1
 show XL _ _ _ _ _ _ _ (cellsH b4 [x6, x7] 45 :: intsH 2 x6 f :: slH 102 3 x7 xs.length cs1 :: cellsH b3 [sN, sN] 45 :: cellsH b2 [gv, ysv] 45 :: cellsH b1 [fv, xsv] 45 :: L)
 skip
 refine cX (qk (1) qA rfl jj (by decide) rfl rfl (cX (ql jL rfl (Rd.own [_, _, _, _] rfl rfl) (cX (qD qG rfl hys.slv (qd (ii (0)) rfl (qb (qN (jw (α := Nat × Value × List StepT × List Value × List HP × Nat × FH) (fun xQ => [(4, ptr b3 0), (6, ptr b4 0), (29, ysv), (30, ii ((ys.length : Int))), (31, ii (((xQ.1 : Nat) : Int)))]) (fun xQ => slH 102 3 xQ.2.1 xQ.2.2.2.2.2.1 xQ.2.2.2.1 :: cellsH b4 [x6, xQ.2.1] 45 :: intsH 2 x6 f :: cellsH b3 [sN, sN] 45 :: cellsH b2 [gv, ysv] 45 :: cellsH b1 [fv, xsv] 45 :: L) (fun xQ F' => xQ.2.2.2.2.2.2 = F' ∧ F9 ≤ xQ.2.2.2.2.2.2 ∧ (xQ.1 ≤ ys.length) ∧ (IsSl xQ.2.1) ∧ (StepsC xQ.2.2.2.2.2.2 xQ.2.2.2.1 xQ.2.2.1) ∧ (xQ.2.2.2.2.2.1 = xQ.2.2.1.length) ∧ (DeepL 3 (StepO 2) xQ.2.2.2.1 xQ.2.2.1 xQ.2.2.2.2.1) ∧ (Fresh F7 xQ.2.2.2.2.2.2 (star xQ.2.2.2.2.1)) ∧ (xQ.2.2.1 = xs ++ ys.take xQ.1)) (fun xQ => ys.length - xQ.1) (0, x7, xs, cs1, Ls1, xs.length, F9) ⟨rfl, rfl, rfl, rfl, rfl, ⟨⟩⟩ (qR (qX (A := [_, _, _, _, _])) (qR (qX (A := [_, _, _, _, _])) (qR (qX (A := [_, _, _, _, _])) (qR (qX (A := [_, _, _, _])) (qR (qX (A := [_, _, _, _])) (qR (qX (A := [_, _, _, _, _])) (sC (sC (sC (sC (sC (sC sR)))))))))))) ⟨rfl, FLe.refl _, (by (try dsimp only) <;> omega), (hs1), (hc1), (rfl), (hD1), (hZ1), (by simp)⟩ ?_)))))))))
 rintro ⟨k, sv, ss, cs, Ls, m, G1⟩ rE _ _ ⟨rfl, leG, hk, hsv, hC, hm, hD, hZ, hss⟩
 show X _ _ _ _ (envs [(4, ptr b3 0), (6, ptr b4 0), (29, ysv), (30, ii ((ys.length : Int))), (31, ii ((k : Int)))] rE) _ (slH 102 3 sv m cs :: cellsH b4 [x6, sv] 45 :: intsH 2 x6 f :: cellsH b3 [sN, sN] 45 :: cellsH b2 [gv, ysv] 45 :: cellsH b1 [fv, xsv] 45 :: L)
 replace leG : F9 ≤ G1 := leG
 dsimp only at hk hsv hC hm hD hZ hss
 have hyk := hyb k
 have hml : ss.length = xs.length + k := by rw [hss, List.length_append, List.length_take]; omega
 have leG1 := leG
 replace hys := hys.mono leG1
 refine qc (qa (cX (jf rfl rfl (qb (qc ?_)))))
 refine qE (p := (k : Int) < (ys.length : Int)) rfl (fun h3 => ?_) (fun h3 => ?_)
 ·refine qz (qc (qN (qc (qa (cX (qB k qG ji rfl rfl rfl hys.slv (by omega) rfl ?_))))))
  obtain ⟨a1, ha1, hr9, hr10, hr11⟩ := hys.rd (i := k) (by omega)
  refine cX (qn [ii ((ys.getD k (0, 0, [])).1), ii ((ys.getD k (0, 0, [])).2.1), a1] yl ji rfl rfl (Rd.three (hr9 _) (hr10 _) (hr11 _)) (cX (jc [ii (0), ii (0), sN] jE rfl ?_)))
  intro b5
  refine cX (qC [] _ [ii ((ys.getD k (0, 0, [])).1), ii ((ys.getD k (0, 0, [])).2.1), a1] ji rfl rfl rfl (qj rfl (qj rfl (qj (qJ (qF ha1)) qK))) rfl rfl rfl (qb (qa (cX (qn [ii ((ys.getD k (0, 0, [])).1), ii ((ys.getD k (0, 0, [])).2.1), a1] yl ji rfl rfl (Rd.ownN [] rfl rfl) (XL.weaken (qX (A := [_])) ?_))))))
  show XL _ _ _ _ _ _ _ (slH 102 3 sv m cs :: cellsH b5 [ii ((ys.getD k (0, 0, [])).1), ii ((ys.getD k (0, 0, [])).2.1), a1] 102 :: cellsH b4 [x6, sv] 45 :: intsH 2 x6 f :: cellsH b3 [sN, sN] 45 :: cellsH b2 [gv, ysv] 45 :: cellsH b1 [fv, xsv] 45 :: L)
  refine XL.weaken (qX (A := [_, _])) ?_
  show XL _ _ _ _ _ _ _ (cellsH b4 [x6, sv] 45 :: slH 102 3 sv m cs :: cellsH b5 [ii ((ys.getD k (0, 0, [])).1), ii ((ys.getD k (0, 0, [])).2.1), a1] 102 :: intsH 2 x6 f :: cellsH b3 [sN, sN] 45 :: cellsH b2 [gv, ysv] 45 :: cellsH b1 [fv, xsv] 45 :: L)
  refine cX (qo (args := [ptr b4 0, .agg #[ii ((ys.getD k (0, 0, [])).1), ii ((ys.getD k (0, 0, [])).2.1), a1]]) call243 rfl (walkAdd_spec ha1 hsv hC (by first | rfl | assumption | omega) (by omega) (by omega)) ?_)
  rintro _ F10 _ le10 ⟨sw1, cw1, hs2, hw1, hf1, rfl⟩
  replace hC := hC.mono le10
  have hc2 := StepsC.snoc hC (i := (ys.getD k (0, 0, [])).1) (j := (ys.getD k (0, 0, [])).2.1) hw1
  show XL _ _ _ _ _ _ _ (cellsH b4 [x6, sw1] 45 :: slH 102 3 sw1 ((m) + 1) ((cs ++ [ii ((ys.getD k (0, 0, [])).1), ii ((ys.getD k (0, 0, [])).2.1), cw1])) :: cellsH b5 [ii ((ys.getD k (0, 0, [])).1), ii ((ys.getD k (0, 0, [])).2.1), a1] 102 :: intsH 2 x6 f :: cellsH b3 [sN, sN] 45 :: cellsH b2 [gv, ysv] 45 :: cellsH b1 [fv, xsv] 45 :: L)
  refine qb (qa (cX (qP (((k + 1 : Nat) : Int)) rfl rfl (by omega) (by omega) (qd (ii (((k + 1 : Nat) : Int))) rfl (qb ?_)))))
  exact ⟨(k + 1, sw1, (ss ++ [((ys.getD k (0, 0, [])).1, (ys.getD k (0, 0, [])).2.1, (ys.getD k (0, 0, [])).2.2)]), (cs ++ [ii ((ys.getD k (0, 0, [])).1), ii ((ys.getD k (0, 0, [])).2.1), cw1]), Ls ++ [intsH 2 cw1 ((ys.getD k (0, 0, [])).2.2)], (m) + 1, F10), _, (qh leG1 le10), rF, ⟨rfl, rfl, rfl, rfl, rfl, ⟨⟩⟩, (qR (qX (A := [_, _, _, _, _, _])) (qR (qX (A := [_, _, _, _, _, _])) (qR (qX (A := [_, _, _, _, _, _])) (qR (qX (A := [_, _, _, _, _, _])) (qR (qX (A := [_, _, _, _])) (qR (qX (A := [_, _, _, _, _])) (sC (sC (sC (sC (sC (sC (sD sR))))))))))))), ⟨rfl, (qh leG1 le10), (by (try dsimp only) <;> omega), (hs2), (hc2), (by (try dsimp only); rw [List.length_append]; simp only [List.length_singleton]; omega), (DeepL.snoc hD rfl ⟨_, rfl, rfl⟩), ((Fresh.app hZ (qh le9 leG1) (Fresh.one hf1) le10)), (by (try dsimp only); rw [take_succ_getD (0, 0, []) (by omega), ← List.append_assoc, ← hss])⟩, (by omega)⟩
 refine jo (qt (qt (qO (qc (qa (cX (qn [x6, sv] jy qH rfl rfl (Rd.ownN [_] rfl rfl) (cX (qC [_, _, _] _ [x6, sv] qH rfl rfl rfl (qj (qJ (qF hr6)) (qj (qJ hsv) qK)) rfl rfl rfl (qg (.bool (true)) rfl (qb (je [_, _] _ _ rfl (fun F11 le11 hz1 => ?_)))))))))))))
 replace hC := hC.mono le11
 have hf2 : IntsF F11 x6 f := intsH.fz (xs := f) hz1.fz
 refine je [] _ _ rfl (fun F12 le12 hz2 => ?_)
 replace hC := hC.mono le12
 replace hf2 := hf2.mono le12
 have hf3 : StepsF F12 sv ss := CO.fz hC (by first | rfl | omega | (rw [List.length_set]; omega) | (simp; done)) hz2.fz
 refine qw (qs (L' := L) [.agg #[x6, sv], .bool (true)] (.tuple #[.agg #[x6, sv], .bool (true)]) (.cell rfl (jx [x6, sv] jy qH rfl (Rd.ownN [_] rfl rfl)) (.tmp rfl .nil)) rfl (qh (qh (qh (qh le7 le9) leG1) le11) le12) rF (sD (sD (sD (sD sR)))) ?_)
 have e9 : ss = xs ++ ys := by rw [hss, List.take_of_length_le (by omega)]
 have e : joinW f xs g ys = (f, ss, true) := by rw [e9]; exact joinW_yes hjoin (by omega)
 exact ⟨_, _, by rw [e], by rw [e]; exact hf2, by rw [e]; exact hf3, by rw [e]; exact ((Fresh.deepM (M := [_]) hD (Fresh.cons hZ (qh le9 leG1) hz1 le11) (qh (qh le9 leG1) le11) hz2 (by first | rfl | omega | (rw [List.length_append]; rfl)) le12).base le7), rfl⟩
end Go.Proofs.YtenomejgjcpbdaaGreat
