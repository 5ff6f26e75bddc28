/-
  Walks, one after the other (part 6).
-/
import Derived.Test.YtjpfankibmeaaaaGreatQACL1
import Derived.Test.YtjpfankibmeaaaaGreatQACB4
import Derived.Test.YtjpfankibmeaaaaGreatQACB2
import Derived.Test.YtjpfankibmeaaaaGreatQACB1
set_option linter.unusedSimpArgs false
set_option linter.unusedVariables false
namespace Go.Proofs.YtjpfankibmeaaaaGreat
open Go X M Tryz

/- spec.l26Draw -/
set_option maxHeartbeats 1000000 in
set_option maxRecDepth 20000 in
theorem l26Draw_spec {F : FH} {L : List HP} {cb : Nat} {bsv : Value} {bs : List Int} (hbs : BytesF F bsv bs) (hbl : bs.length ≤ 4000000) :
    Does prog 250 [ptr cb 0] F (curH .i64 247 cb bsv bs.length :: L) (fun v F' L' => (∃ (a : Value), ∃ (b : Value), ∃ (c : Value), ∃ (ls : List LineT), (.agg #[a, b, c] : Value) = v ∧ (IntsF F' a ([2, 1, 0, 2] : List Int)) ∧ (IntsF F' b ([0, 3] : List Int)) ∧ (LinesF F' c ls) ∧ (linesS ls = true) ∧ (ls.length ≤ 5) ∧ (Fresh F F' (star [intsH 2 a ([2, 1, 0, 2] : List Int), intsH 2 b ([0, 3] : List Int), linesD 2 22 206 c ls]))) ∧ curH .i64 247 cb bsv bs.length :: L = L') := by
 refine qG func250 rfl rfl rfl ?_
 have hz2 : szT 2 = 13 := rfl
 have hz1 : szT 1 = 4 := rfl
 refine qd (qb (cX (jr [sN, sN, sN] zeroValue108 rfl ?_)))
 intro b1
 refine qc (qd (qd (qb (qg (ptr cb 0) rfl (cX (qn (args := [ptr cb 0, ii (3)]) call102 rfl (jq [_] (l1Once_spec (n := 3) hbs (by omega) (hn := (by first | assumption | rfl | omega | simp)))) ?_))))))
 rintro _ _ _ _ ⟨⟨rfl, x1, rfl⟩, rfl⟩
 show XL _ _ _ _ _ _ _ (cellsH b1 [sN, sN, sN] 108 :: curH .i64 247 cb bsv bs.length :: L)
 refine cX (jt rfl (qc ?_))
 refine jF (t := !(x1)) rfl (fun h1 => ?_) (fun h1 => ?_)
 ·refine qd (qb (qg (ptr cb 0) rfl (cX (qn (args := [ptr cb 0, ii (4)]) yb rfl (jq [_] (l1Below_spec (n := 4) hbs (by omega) (hn := (by first | assumption | rfl | omega | simp)))) ?_))))
  rintro _ _ _ _ ⟨⟨rfl, x2, rfl, hr1⟩, rfl⟩
  show XL _ _ _ _ _ _ _ (cellsH b1 [sN, sN, sN] 108 :: curH .i64 247 cb bsv bs.length :: L)
  refine cX (qn (args := [ii (x2)]) call325 rfl (l26Known_spec (q := x2)) ?_)
  rintro _ F3 _ le3 ⟨x3, x4, x5, x6, rfl, hr2, hr3, hr4, hr5, hr6, hr7, rfl⟩
  replace hbs := hbs.mono le3
  refine cX (qV [] _ [x3, x4, x5] qT rfl rfl rfl (qx (qI (qB hr2)) (qx (qI (qB hr3)) (qx (qI (LinesF.isSl hr4)) qX))) rfl rfl rfl (qc (qw (ql (qr (L' := curH .i64 247 cb bsv bs.length :: L) [.agg #[x3, x4, x5]] (.agg #[x3, x4, x5]) (.cell rfl (jH [x3, x4, x5] jj qT rfl (Rd.ownN [] rfl rfl)) .nil) rfl le3 rF (sD (sC sR)) ?_)))))
  exact ⟨⟨_, _, _, _, rfl, hr2, hr3, hr4, hr5, hr6, hr7⟩, rfl⟩
 refine qz (qd (qb (cX (qn (args := [ii (4)]) call325 rfl (l26Known_spec (q := 4)) ?_))))
 rintro _ F4 _ le4 ⟨x7, x8, x9, x10, rfl, hr8, hr9, hr10, hr11, hr12, hr13, rfl⟩
 replace hbs := hbs.mono le4
 refine cX (jr [sN, sN, sN] zeroValue108 rfl ?_)
 intro b2
 refine cX (qV [] _ [x7, x8, x9] qT rfl rfl rfl (qx (qI (qB hr8)) (qx (qI (qB hr9)) (qx (qI (LinesF.isSl hr10)) qX))) rfl rfl rfl (qc (qd (qb (cX (qs (s := 3) [] [ii (0), sN, sN] [] qS jl jC rfl (by decide) rfl CellsAre.nil rfl ?_))))))
 intro v1 hv1
 refine cX (qk (2) qy rfl jm (by decide) rfl rfl (cX (jw [_] _ [x7, x8, v1] jm rfl rfl (qI (jo hv1)) rfl rfl rfl (qc (qd (qd (qb (qg (ptr cb 0) rfl (cX (qn (args := [ptr cb 0, ii (5)]) yb rfl (jq [_, _, _] (l1Below_spec (n := 5) hbs (by omega) (hn := (by first | assumption | rfl | omega | simp)))) ?_))))))))))
 rintro _ _ _ _ ⟨⟨rfl, x11, rfl, hr14⟩, rfl⟩
 show XL _ _ _ _ _ _ _ (slH 206 3 v1 0 [] :: cellsH b2 [x7, x8, v1] 108 :: cellsH b1 [sN, sN, sN] 108 :: curH .i64 247 cb bsv bs.length :: L)
 refine qh (ii (x11)) rfl (qc (qH (jn (α := Nat × Value × List LineT × List Value × List HP × Nat × FH) (fun xQ => [(0, ptr cb 0), (2, ptr b1 0), (3, ptr b2 0), (4, ii (((xQ.1 : Nat) : Int)))]) (fun xQ => slH 206 3 xQ.2.1 xQ.2.2.2.2.2.1 xQ.2.2.2.1 :: cellsH b2 [x7, x8, xQ.2.1] 108 :: cellsH b1 [sN, sN, sN] 108 :: curH .i64 247 cb bsv bs.length :: L) (fun xQ F' => xQ.2.2.2.2.2.2 = F' ∧ F4 ≤ xQ.2.2.2.2.2.2 ∧ (IsSl xQ.2.1) ∧ (LinesC xQ.2.2.2.2.2.2 xQ.2.2.2.1 xQ.2.2.1) ∧ (xQ.2.2.2.2.2.1 = xQ.2.2.1.length) ∧ (xQ.2.2.1.length + xQ.1 ≤ 5) ∧ (linesS xQ.2.2.1 = true) ∧ (DeepL 3 (LineO 22 2) xQ.2.2.2.1 xQ.2.2.1 xQ.2.2.2.2.1) ∧ (Fresh F4 xQ.2.2.2.2.2.2 (star xQ.2.2.2.2.1))) (fun xQ => xQ.1) (x11.toNat, v1, [], [], [], 0, F4) ⟨rfl, rfl, rfl, (vI (by omega)), ⟨⟩⟩ (sC (sC (sC (sC sR)))) ⟨rfl, FLe.refl _, ((jo hv1)), (CO.nil), (rfl), (by (try dsimp only); simp only [List.length_nil]; omega), (rfl), (DeepL.nil), (Fresh.nilL)⟩ ?_)))
 rintro ⟨n, ov, os, cs, Ls, m, G1⟩ rE _ _ ⟨rfl, leG, hov, hC, hm, hon, hos, hD, hZ⟩
 show X _ _ _ _ (envs [(0, ptr cb 0), (2, ptr b1 0), (3, ptr b2 0), (4, ii ((n : Int)))] rE) _ (slH 206 3 ov m cs :: cellsH b2 [x7, x8, ov] 108 :: cellsH b1 [sN, sN, sN] 108 :: curH .i64 247 cb bsv bs.length :: L)
 replace leG : F4 ≤ G1 := leG
 dsimp only at hov hC hm hon hos hD hZ
 have leG1 := leG
 replace hbs := hbs.mono leG1
 replace hr8 := hr8.mono leG1
 replace hr9 := hr9.mono leG1
 refine qd (qd (qb (qg (ii ((n : Int))) rfl (cX (jG rfl rfl (qc ?_))))))
 refine qC (p := (n : Int) > 0) rfl (fun h2 => ?_) (fun h2 => ?_)
 ·refine qz (qd (qH (qd (qb (qg (ptr cb 0) rfl (cX (qn (args := [ptr cb 0, ii (2)]) yb rfl (jq [_, _, _] (l1Below_spec (n := 2) hbs (by omega) (hn := (by first | assumption | rfl | omega | simp)))) ?_)))))))
  rintro _ _ _ _ ⟨⟨rfl, x12, rfl, hr15⟩, rfl⟩
  show XL _ _ _ _ _ _ _ (slH 206 3 ov m cs :: cellsH b2 [x7, x8, ov] 108 :: cellsH b1 [sN, sN, sN] 108 :: curH .i64 247 cb bsv bs.length :: L)
  refine cX (XOp.mulR (3 * x12) rfl rfl (by omega) (by omega) (cX (jv [ii (3 * x12), sN, sN] [ii (0), sN, sN] [(0, 1), (1, 1), (2, 1)] [(0, [ii (3 * x12)])] qR jC rfl (.cons rfl qq (.cons rfl qW (.cons rfl qA PlacesAre.nil))) rfl (.cons rfl CellsAre.nil) (cX (jr [ii (0), sN, sN] jC rfl ?_)))))
  intro b3
  refine cX (qV [] _ [ii (3 * x12), sN, sN] jl rfl rfl rfl (qx rfl (qx rfl (qx rfl qX))) rfl rfl rfl (qc (qd ?_)))
  refine jM [cellsH b3 [ii (3 * x12), sN, sN] 206, slH 206 3 ov m cs, cellsH b2 [x7, x8, ov] 108, cellsH b1 [sN, sN, sN] 108, curH .i64 247 cb bsv bs.length] L 6 [[], [], [], [], [], [4]] [[], [0], [], [], [2, 3], [4]] [] (phiG [pe (ptr b3 1), pe sN, pe (ptr cb 0), pe (.agg #[x7, x8, ov]), fun FF us v => (v : Value) = v ∧ (IsSl v), fun FF us v => ∃ b, v = .slice (some ⟨b, 0, none⟩) 1 1]) (ownL [o0, o0, o0, o0, fun us v => [drawnH 2 v (fun t => 1 ≤ t.length ∧ t.length ≤ szT 2)], fun us v => [slH 22 1 v 1 [(us.getD 0 undef)]]]) mixed rfl rfl (by kernel_rfl) (by kernel_rfl) (MonoG.get (m1 (m1 (m1 (m1 (mC (fun le h => ⟨h.1, h.2⟩) (mC (fun le h => h) MonoG.nil))))))) ?_ ?_
  ·refine gD (fun W Fs R lF z9 => ?_) ?_
   ·refine qi (qk (1) qR rfl qW (by decide) rfl rfl ?_)
    exact ⟨rfl, rfl⟩
   refine gD (fun W Fs R lF z9 => ?_) ?_
   ·replace hbs := hbs.mono lF
    replace hr8 := hr8.mono lF
    replace hr9 := hr9.mono lF
    replace hC := hC.mono lF
    rw [zA 0 (z9 0 rfl)]
    refine qi (qj jz rfl (Rd.own [] rfl rfl) ?_)
    exact ⟨rfl, rfl⟩
   refine gD (fun W Fs R lF z9 => ?_) ?_
   ·refine qi (qm (ptr cb 0) rfl ?_)
    exact ⟨rfl, rfl⟩
   refine gD (fun W Fs R lF z9 => ?_) ?_
   ·replace hbs := hbs.mono lF
    replace hr8 := hr8.mono lF
    replace hr9 := hr9.mono lF
    replace hC := hC.mono lF
    refine qi (qu [x7, x8, ov] jj qT rfl rfl (Rd.ownN [_, _] rfl rfl) ?_)
    exact ⟨rfl, rfl⟩
   refine gD (fun W Fs R lF z9 => ?_) ?_
   ·replace hbs := hbs.mono lF
    replace hr8 := hr8.mono lF
    replace hr9 := hr9.mono lF
    replace hC := hC.mono lF
    rw [zB 2 3 (z9 2 rfl) (z9 3 rfl)]
    refine qi (qn (args := [ptr cb 0, .agg #[x7, x8, ov], ii ((2 : Nat) : Int), ii (0)]) call326 rfl (Does.atO [_, _, _, _] (l26DrawPattern_spec 2 (vs := 0) hbs (by omega) hr8 hr9 hov (hso := (by decide)) (hfl := (by first | assumption | rfl | omega | simp)) (hdp := (by first | assumption | rfl | omega | simp)) (hvs := (by first | assumption | rfl | omega | simp)))) ?_)
    rintro _ F8 _ le8 ⟨x16, ⟨rfl, hsl2⟩, rfl⟩
    replace hbs := hbs.mono le8
    replace hr8 := hr8.mono le8
    replace hr9 := hr9.mono le8
    replace hC := hC.mono le8
    exact ⟨⟨rfl, hsl2⟩, rfl⟩
   refine gD (fun W Fs R lF z9 => ?_) ?_
   ·obtain ⟨e4, f4_1sl⟩ := z9 4 rfl
    replace hbs := hbs.mono lF
    replace hr8 := hr8.mono lF
    replace hr9 := hr9.mono lF
    replace hC := hC.mono lF
    rw [eS (l := [(4, (W 4))]) ⟨(e4).symm, ⟨⟩⟩]
    refine qi (qs (s := 1) [(W 4)] [sN] [(0, [(W 4)])] qF qA jI rfl (by decide) rfl (.cons (cells_one f4_1sl) CellsAre.nil) rfl ?_)
    intro v3 hv3
    exact ⟨hv3, rfl⟩
   exact stepsG.nil
  intro W F9 le9 hphi
  obtain ⟨e4, f4_1sl⟩ := hphi 4 (by decide)
  have f5 : ∃ b, (W 5) = .slice (some ⟨b, 0, none⟩) 1 1 := hphi 5 (by decide)
  generalize hu1 : (W 4) = u1 at e4 f4_1sl f5
  generalize hu5 : W 5 = u2 at e4 f4_1sl f5
  rw [eS (l := [(1, _), (4, u1), (5, u2)]) ⟨(hphi 1 (by decide)), hu1, hu5, ⟨⟩⟩]
  replace hbs := hbs.mono le9
  replace hr8 := hr8.mono le9
  replace hr9 := hr9.mono le9
  replace hC := hC.mono le9
  show XL _ _ _ _ _ _ _ (drawnH 2 u1 (fun t => 1 ≤ t.length ∧ t.length ≤ szT 2) :: slH 22 1 u2 1 [u1] :: cellsH b3 [ii (3 * x12), sN, sN] 206 :: slH 206 3 ov m cs :: cellsH b2 [x7, x8, ov] 108 :: cellsH b1 [sN, sN, sN] 108 :: curH .i64 247 cb bsv bs.length :: L)
  refine XL.undraw [] rfl (fun t1 hq9 => ?_)
  obtain ⟨q1, q2⟩ := hq9
  show XL _ _ _ _ _ _ _ (intsH 2 u1 t1 :: slH 22 1 u2 1 [u1] :: cellsH b3 [ii (3 * x12), sN, sN] 206 :: slH 206 3 ov m cs :: cellsH b2 [x7, x8, ov] 108 :: cellsH b1 [sN, sN, sN] 108 :: curH .i64 247 cb bsv bs.length :: L)
  skip
  have hc1 : RowsC F9 [] [] := CO.nil
  refine XL.weaken (Sub.addNil 22 1 none _) (ja [_] _ _ rfl (fun F10 le10 hz1 => ?_))
  replace hbs := hbs.mono le10
  replace hr8 := hr8.mono le10
  replace hr9 := hr9.mono le10
  replace hC := hC.mono le10
  replace hc1 := hc1.mono le10
  have hf1 : IntsF F10 u1 t1 := intsH.fz (xs := t1) hz1.fz
  refine cX (jT (m := 1) (bytes := 24) (cs := []) [] _ [u1] qF typeInfo22 rfl rfl rfl rfl rfl rfl rfl (SlV.own [_] rfl) rfl (Rd.lit [_] rfl) (qx (qI (qB hf1)) qX) (by (try simp only [List.length_append, List.length_nil, List.length_cons, List.length_singleton]); omega) (by (try simp only [List.length_append, List.length_nil, List.length_cons, List.length_singleton]); omega) ?_)
  intro v4 hs1 hn1 hm1
  have hc2 := RowsC.snoc hc1 hf1
  refine cX (qk (1) qR rfl qW (by decide) rfl rfl (cX (jw [_, _] _ [ii (3 * x12), v4, sN] qW rfl rfl (qI hs1) rfl rfl rfl (qc (qd ?_)))))
  refine jM [slH 22 1 v4 ((0) + 1) (([] : List Value) ++ [u1]), slH 22 1 u2 1 [u1], cellsH b3 [ii (3 * x12), v4, sN] 206, slH 206 3 ov m cs, cellsH b2 [x7, x8, ov] 108, cellsH b1 [sN, sN, sN] 108, curH .i64 247 cb bsv bs.length] L 6 [[], [], [], [], [], [4]] [[], [0], [], [], [2, 3], [4]] [] (phiG [pe (ptr b3 1), pe v4, pe (ptr cb 0), pe (.agg #[x7, x8, ov]), fun FF us v => (v : Value) = v ∧ (IsSl v), fun FF us v => ∃ b, v = .slice (some ⟨b, 0, none⟩) 1 1]) (ownL [o0, o0, o0, o0, fun us v => [drawnH 2 v (fun t => 1 ≤ t.length ∧ t.length ≤ szT 1)], fun us v => [slH 22 1 v 1 [(us.getD 0 undef)]]]) mixed rfl rfl (by kernel_rfl) (by kernel_rfl) (MonoG.get (m1 (m1 (m1 (m1 (mC (fun le h => ⟨h.1, h.2⟩) (mC (fun le h => h) MonoG.nil))))))) ?_ ?_
  ·refine gD (fun W Fs R lF z9 => ?_) ?_
   ·refine qi (qk (1) qR rfl qW (by decide) rfl rfl ?_)
    exact ⟨rfl, rfl⟩
   refine gD (fun W Fs R lF z9 => ?_) ?_
   ·replace hbs := hbs.mono lF
    replace hr8 := hr8.mono lF
    replace hr9 := hr9.mono lF
    replace hC := hC.mono lF
    replace hc2 := hc2.mono lF
    rw [zA 0 (z9 0 rfl)]
    refine qi (qj jz rfl (Rd.own [_, _] rfl rfl) ?_)
    exact ⟨rfl, rfl⟩
   refine gD (fun W Fs R lF z9 => ?_) ?_
   ·refine qi (qm (ptr cb 0) rfl ?_)
    exact ⟨rfl, rfl⟩
   refine gD (fun W Fs R lF z9 => ?_) ?_
   ·replace hbs := hbs.mono lF
    replace hr8 := hr8.mono lF
    replace hr9 := hr9.mono lF
    replace hC := hC.mono lF
    replace hc2 := hc2.mono lF
    refine qi (qu [x7, x8, ov] jj qT rfl rfl (Rd.ownN [_, _, _, _] rfl rfl) ?_)
    exact ⟨rfl, rfl⟩
   refine gD (fun W Fs R lF z9 => ?_) ?_
   ·replace hbs := hbs.mono lF
    replace hr8 := hr8.mono lF
    replace hr9 := hr9.mono lF
    replace hC := hC.mono lF
    replace hc2 := hc2.mono lF
    rw [zB 2 3 (z9 2 rfl) (z9 3 rfl)]
    refine qi (qn (args := [ptr cb 0, .agg #[x7, x8, ov], ii ((1 : Nat) : Int), ii (10)]) call326 rfl (Does.atO [_, _, _, _, _, _] (l26DrawPattern_spec 1 (vs := 10) hbs (by omega) hr8 hr9 hov (hso := (by decide)) (hfl := (by first | assumption | rfl | omega | simp)) (hdp := (by first | assumption | rfl | omega | simp)) (hvs := (by first | assumption | rfl | omega | simp)))) ?_)
    rintro _ F12 _ le12 ⟨x20, ⟨rfl, hsl4⟩, rfl⟩
    replace hr8 := hr8.mono le12
    replace hr9 := hr9.mono le12
    replace hC := hC.mono le12
    replace hc2 := hc2.mono le12
    exact ⟨⟨rfl, hsl4⟩, rfl⟩
   refine gD (fun W Fs R lF z9 => ?_) ?_
   ·obtain ⟨e4, f4_2sl⟩ := z9 4 rfl
    replace hr8 := hr8.mono lF
    replace hr9 := hr9.mono lF
    replace hC := hC.mono lF
    replace hc2 := hc2.mono lF
    rw [eS (l := [(4, (W 4))]) ⟨(e4).symm, ⟨⟩⟩]
    refine qi (qs (s := 1) [(W 4)] [sN] [(0, [(W 4)])] qF qA jI rfl (by decide) rfl (.cons (cells_one f4_2sl) CellsAre.nil) rfl ?_)
    intro v6 hv5
    exact ⟨hv5, rfl⟩
   exact stepsG.nil
  intro W F13 le13 hphi
  obtain ⟨e4, f4_2sl⟩ := hphi 4 (by decide)
  have f5 : ∃ b, (W 5) = .slice (some ⟨b, 0, none⟩) 1 1 := hphi 5 (by decide)
  generalize hu2 : (W 4) = u3 at e4 f4_2sl f5
  generalize hu5 : W 5 = u4 at e4 f4_2sl f5
  rw [eS (l := [(1, _), (4, u3), (5, u4)]) ⟨(hphi 1 (by decide)), hu2, hu5, ⟨⟩⟩]
  replace hr8 := hr8.mono le13
  replace hr9 := hr9.mono le13
  replace hC := hC.mono le13
  replace hc2 := hc2.mono le13
  show XL _ _ _ _ _ _ _ (drawnH 2 u3 (fun t => 1 ≤ t.length ∧ t.length ≤ szT 1) :: slH 22 1 u4 1 [u3] :: slH 22 1 v4 ((0) + 1) (([] : List Value) ++ [u1]) :: slH 22 1 u2 1 [u1] :: cellsH b3 [ii (3 * x12), v4, sN] 206 :: slH 206 3 ov m cs :: cellsH b2 [x7, x8, ov] 108 :: cellsH b1 [sN, sN, sN] 108 :: curH .i64 247 cb bsv bs.length :: L)
  refine XL.undraw [] rfl (fun t2 hq9 => ?_)
  obtain ⟨q3, q4⟩ := hq9
  show XL _ _ _ _ _ _ _ (intsH 2 u3 t2 :: slH 22 1 u4 1 [u3] :: slH 22 1 v4 ((0) + 1) (([] : List Value) ++ [u1]) :: slH 22 1 u2 1 [u1] :: cellsH b3 [ii (3 * x12), v4, sN] 206 :: slH 206 3 ov m cs :: cellsH b2 [x7, x8, ov] 108 :: cellsH b1 [sN, sN, sN] 108 :: curH .i64 247 cb bsv bs.length :: L)
  skip
  refine ja [] _ _ rfl (fun F14 le14 hz2 => ?_)
  replace hr8 := hr8.mono le14
  replace hr9 := hr9.mono le14
  replace hC := hC.mono le14
  replace hc2 := hc2.mono le14
  have hf2 : IntsF F14 u3 t2 := intsH.fz (xs := t2) hz2.fz
  refine cX (jT (m := 1) (bytes := 24) (cs := ([] : List Value) ++ [u1]) [_] _ [u3] qF typeInfo22 rfl rfl rfl rfl rfl rfl rfl (SlV.own [] rfl) rfl (Rd.lit [] rfl) (qx (qI (qB hf2)) qX) (by (try simp only [List.length_append, List.length_nil, List.length_cons, List.length_singleton]); omega) (by (try simp only [List.length_append, List.length_nil, List.length_cons, List.length_singleton]); omega) ?_)
  intro v7 hs2 hn2 hm2
  have hc3 := RowsC.snoc hc2 hf2
  refine cX (qk (1) qR rfl qW (by decide) rfl rfl (cX (jw [_, _, _] _ [ii (3 * x12), v7, sN] qW rfl rfl (qI hs2) rfl rfl rfl (qc (qd (qb (cX (qs (s := 1) [ii (2)] [ii (0)] [(0, [ii (2)])] qf qq qL rfl (by decide) rfl (.cons rfl CellsAre.nil) rfl ?_))))))))
  intro v8 hv6
  refine cX (qk (2) qR rfl qA (by decide) rfl rfl (cX (jw [_, _, _, _] _ [ii (3 * x12), v7, v8] qA rfl rfl (qI (jo hv6)) rfl rfl rfl (qc (qd (qb (cX (qu [ii (3 * x12), v7, v8] jW jl rfl rfl (Rd.ownN [_, _, _, _] rfl rfl) (ja [_, _] _ _ rfl (fun F15 le15 hz3 => ?_))))))))))
  replace hr8 := hr8.mono le15
  replace hr9 := hr9.mono le15
  replace hC := hC.mono le15
  replace hc3 := hc3.mono le15
  have hf3 : RowsF F15 v7 ((([] : List (List Int)) ++ [t1]) ++ [t2]) := CO.fz hc3 (by first | rfl | omega | (rw [List.length_set]; omega) | (simp; done)) hz3.fz
  show XL _ _ _ _ _ _ _ (intsH 2 v8 ([2] : List Int) :: slH 22 1 u4 1 [u3] :: slH 22 1 u2 1 [u1] :: cellsH b3 [ii (3 * x12), v7, v8] 206 :: slH 206 3 ov m cs :: cellsH b2 [x7, x8, ov] 108 :: cellsH b1 [sN, sN, sN] 108 :: curH .i64 247 cb bsv bs.length :: L)
  refine ja [] _ _ rfl (fun F16 le16 hz4 => ?_)
  replace hr8 := hr8.mono le16
  replace hr9 := hr9.mono le16
  replace hC := hC.mono le16
  replace hf3 := hf3.mono le16
  have hf4 : IntsF F16 v8 ([2]) := intsH.fz (xs := [2]) hz4.fz
  refine cX (jD <| qn (args := [.agg #[ii (3 * x12), v7, v8]]) call153 rfl (l26Left_spec hf3 hf4 (hpn := (by first | assumption | rfl | omega | simp)) (hpb := (pats2_b (by omega) (by omega)))) ?_)
  rintro v9 _ _ _ ⟨rfl, hs3, rfl⟩
  refine ⟨_, _, rfl, fun F17 le17 hz5 => ?_⟩
  replace hr8 := hr8.mono le17
  replace hr9 := hr9.mono le17
  replace hC := hC.mono le17
  replace hf3 := hf3.mono le17
  replace hf4 := hf4.mono le17
  have hf5 : IntsF F17 v9 ((leftL ((3 * x12), ((([] : List (List Int)) ++ [t1]) ++ [t2]), ([2])))) := intsH.fz (xs := (leftL ((3 * x12), ((([] : List (List Int)) ++ [t1]) ++ [t2]), ([2])))) hz5.fz
  refine cX (jD <| qn (args := [v9]) call327 rfl (l2OrderL_spec hf5 (hlt := (left2_le (by omega) (by omega)))) ?_)
  rintro v10 _ _ _ ⟨rfl, hs4, rfl⟩
  refine ⟨_, _, rfl, fun F18 le18 hz6 => ?_⟩
  replace hr8 := hr8.mono le18
  replace hr9 := hr9.mono le18
  replace hC := hC.mono le18
  replace hf3 := hf3.mono le18
  replace hf4 := hf4.mono le18
  have hf6 : IntsF F18 v10 ((orderL ((leftL ((3 * x12), ((([] : List (List Int)) ++ [t1]) ++ [t2]), ([2])))))) := intsH.fz (xs := (orderL ((leftL ((3 * x12), ((([] : List (List Int)) ++ [t1]) ++ [t2]), ([2])))))) hz6.fz
  refine qh (v10) rfl (qc (qd (qd (qb (qg (v10) rfl (cX (qE qf rfl hf6.slv (cX (jG rfl rfl (qc ?_))))))))))
  refine qC (p := (((((orderL ((leftL ((3 * x12), ((([] : List (List Int)) ++ [t1]) ++ [t2]), ([2])))))).length : Nat) : Int) : Int) > 0) rfl (fun h3 => ?_) (fun h3 => ?_)
  ·refine qb (qg (v10) rfl (cX (qt 0 qf qq rfl rfl rfl hf6.slv (by omega) (Nat.mul_one _) (cX (qj qP rfl (hf6.rd (by omega)) (cX (qs (s := 1) [ii (1), ii (((orderL ((leftL ((3 * x12), ((([] : List (List Int)) ++ [t1]) ++ [t2]), ([2])))))).getD 0 0)] [ii (0)] [(0, [ii (1)]), (1, [ii (((orderL ((leftL ((3 * x12), ((([] : List (List Int)) ++ [t1]) ++ [t2]), ([2])))))).getD 0 0)])] qf qq qL rfl (by decide) rfl (.cons rfl (.cons rfl CellsAre.nil)) rfl ?_)))))))
   intro v11 hv7
   refine cX (qk (2) qR rfl qA (by decide) rfl rfl (cX (jw [_, _, _] _ [ii (3 * x12), v7, v11] qA rfl rfl (qI (jo hv7)) rfl rfl rfl (qc (qb (cX (qk (2) qy rfl jm (by decide) rfl rfl (cX (qj jE rfl (Rd.own [_, _, _, _, _] rfl rfl) (cX (qu [ii (3 * x12), v7, v11] jW jl rfl rfl (Rd.ownN [_, _, _] rfl rfl) (cX (qs (s := 3) [ii (3 * x12), v7, v11] [ii (0), sN, sN] [(0, [ii (3 * x12), v7, v11])] qS jl jC rfl (by decide) rfl (.cons rfl CellsAre.nil) rfl ?_)))))))))))))
   intro v12 hv8
   show XL _ _ _ _ _ _ _ (slH 206 3 v12 1 [ii (3 * x12), v7, v11] :: intsH 2 v11 ([1, ((orderL ((leftL ((3 * x12), ((([] : List (List Int)) ++ [t1]) ++ [t2]), ([2])))))).getD 0 0] : List Int) :: slH 22 1 u4 1 [u3] :: slH 22 1 u2 1 [u1] :: cellsH b3 [ii (3 * x12), v7, v11] 206 :: slH 206 3 ov m cs :: cellsH b2 [x7, x8, ov] 108 :: cellsH b1 [sN, sN, sN] 108 :: curH .i64 247 cb bsv bs.length :: L)
   refine ja [_] _ _ rfl (fun F19 le19 hz7 => ?_)
   replace hr8 := hr8.mono le19
   replace hr9 := hr9.mono le19
   replace hC := hC.mono le19
   replace hf3 := hf3.mono le19
   replace hf4 := hf4.mono le19
   have hf7 : IntsF F19 v11 ([1, ((orderL ((leftL ((3 * x12), ((([] : List (List Int)) ++ [t1]) ++ [t2]), ([2])))))).getD 0 0]) := intsH.fz (xs := [1, ((orderL ((leftL ((3 * x12), ((([] : List (List Int)) ++ [t1]) ++ [t2]), ([2])))))).getD 0 0]) hz7.fz
   refine cX (jT (m := 1) (bytes := 56) (cs := cs) [_, _, _, _] _ [ii (3 * x12), v7, v11] qS typeInfo206 rfl rfl rfl rfl rfl rfl rfl (SlV.own [] rfl) rfl (Rd.lit [] rfl) (qx rfl (qx (qI (RowsF.isSl hf3)) (qx (qI (qB hf7)) qX))) (by (try simp only [List.length_append, List.length_nil, List.length_cons, List.length_singleton]); omega) (by (try simp only [List.length_append, List.length_nil, List.length_cons, List.length_singleton]); omega) ?_)
   intro v13 hs5 hn3 hm3
   have hc4 := LinesC.snoc hC (y0 := 3 * x12) (y1 := (([] : List (List Int)) ++ [t1]) ++ [t2]) (y2 := [1, ((orderL ((leftL ((3 * x12), ((([] : List (List Int)) ++ [t1]) ++ [t2]), ([2])))))).getD 0 0]) hf3 hf7
   refine cX (qk (2) qy rfl jm (by decide) rfl rfl (cX (jw [_, _, _, _, _] _ [x7, x8, v13] jm rfl rfl (qI hs5) rfl rfl rfl (qc (qb (qg (ii ((n : Int))) rfl (cX (je (((n : Int)) - 1) rfl rfl (by omega) (by omega) (qh (ii (((n : Int)) - 1)) rfl (qc ?_))))))))))
   have hj9 := line_perm (Fresh.app ((Fresh.app (Fresh.app ((Fresh.app (hZ.mono le9) (qa leG1 le9) (Fresh.one hz1) le10).mono le13) (qa (qa (qa leG1 le9) le10) le13) (Fresh.one hz2) le14) (qa (qa (qa (qa leG1 le9) le10) le13) le14) (Fresh.one hz3) le15).mono (qa (qa le16 le17) le18)) (qa (qa (qa (qa (qa (qa (qa (qa leG1 le9) le10) le13) le14) le15) le16) le17) le18) (Fresh.one hz7) le19)
   obtain ⟨L9, hd9, hf9⟩ := line_more (f := 3 * x12) (y := [1, ((orderL ((leftL ((3 * x12), ((([] : List (List Int)) ++ [t1]) ++ [t2]), ([2])))))).getD 0 0]) hD (show Fresh F4 F19 (star (Ls ++ [slH 22 1 v7 2 [u1, u3], intsH 2 u1 t1, intsH 2 u3 t2, intsH 2 v11 [1, ((orderL ((leftL ((3 * x12), ((([] : List (List Int)) ++ [t1]) ++ [t2]), ([2])))))).getD 0 0]])) from hj9)
   exact ⟨(n - 1, v13, os ++ [(3 * x12, (([] : List (List Int)) ++ [t1]) ++ [t2], [1, ((orderL ((leftL ((3 * x12), ((([] : List (List Int)) ++ [t1]) ++ [t2]), ([2])))))).getD 0 0])], cs ++ [ii (3 * x12), v7, v11], L9, (m) + 1, F19), _, (qa (qa (qa (qa (qa (qa (qa (qa (qa leG1 le9) le10) le13) le14) le15) le16) le17) le18) le19), rF, ⟨rfl, rfl, rfl, (vI (by (try dsimp only); omega)), ⟨⟩⟩, (sD (sD (sD (sD (sC (sC (sC (sC sR)))))))), ⟨rfl, (qa (qa (qa (qa (qa (qa (qa (qa (qa leG1 le9) le10) le13) le14) le15) le16) le17) le18) le19), (hs5), (hc4), (by (try dsimp only); rw [List.length_append]; simp only [List.length_singleton]; omega), (by (try dsimp only); rw [List.length_append]; simp only [List.length_singleton]; omega), (linesS_snoc hos (by omega) (by omega) (by simp)), (hd9), (hf9)⟩, (by (try dsimp only); omega)⟩
  refine qz (qb (cX (qk (2) qy rfl jm (by decide) rfl rfl (cX (qj jE rfl (Rd.own [_, _, _, _] rfl rfl) (cX (qu [ii (3 * x12), v7, v8] jW jl rfl rfl (Rd.ownN [_, _] rfl rfl) (cX (qs (s := 3) [ii (3 * x12), v7, v8] [ii (0), sN, sN] [(0, [ii (3 * x12), v7, v8])] qS jl jC rfl (by decide) rfl (.cons rfl CellsAre.nil) rfl ?_)))))))))
  intro v14 hv9
  refine cX (jT (m := 1) (bytes := 56) (cs := cs) [_, _, _, _] _ [ii (3 * x12), v7, v8] qS typeInfo206 rfl rfl rfl rfl rfl rfl rfl (SlV.own [] rfl) rfl (Rd.lit [] rfl) (qx rfl (qx (qI (RowsF.isSl hf3)) (qx (qI (qB hf4)) qX))) (by (try simp only [List.length_append, List.length_nil, List.length_cons, List.length_singleton]); omega) (by (try simp only [List.length_append, List.length_nil, List.length_cons, List.length_singleton]); omega) ?_)
  intro v15 hs6 hn4 hm4
  have hc5 := LinesC.snoc hC (y0 := 3 * x12) (y1 := (([] : List (List Int)) ++ [t1]) ++ [t2]) (y2 := [2]) hf3 hf4
  refine cX (qk (2) qy rfl jm (by decide) rfl rfl (cX (jw [_, _, _, _, _] _ [x7, x8, v15] jm rfl rfl (qI hs6) rfl rfl rfl (qc (qb (qg (ii ((n : Int))) rfl (cX (je (((n : Int)) - 1) rfl rfl (by omega) (by omega) (qh (ii (((n : Int)) - 1)) rfl (qc ?_))))))))))
  have hj9 := line_perm ((Fresh.app (Fresh.app (Fresh.app ((Fresh.app (hZ.mono le9) (qa leG1 le9) (Fresh.one hz1) le10).mono le13) (qa (qa (qa leG1 le9) le10) le13) (Fresh.one hz2) le14) (qa (qa (qa (qa leG1 le9) le10) le13) le14) (Fresh.one hz3) le15) (qa (qa (qa (qa (qa leG1 le9) le10) le13) le14) le15) (Fresh.one hz4) le16).mono (qa le17 le18))
  obtain ⟨L9, hd9, hf9⟩ := line_more (f := 3 * x12) (y := [2]) hD (show Fresh F4 F18 (star (Ls ++ [slH 22 1 v7 2 [u1, u3], intsH 2 u1 t1, intsH 2 u3 t2, intsH 2 v8 [2]])) from hj9)
  exact ⟨(n - 1, v15, os ++ [(3 * x12, (([] : List (List Int)) ++ [t1]) ++ [t2], [2])], cs ++ [ii (3 * x12), v7, v8], L9, (m) + 1, F18), _, (qa (qa (qa (qa (qa (qa (qa (qa leG1 le9) le10) le13) le14) le15) le16) le17) le18), rF, ⟨rfl, rfl, rfl, (vI (by (try dsimp only); omega)), ⟨⟩⟩, (sD (sD (sD (sD (sC (sC (sC (sC sR)))))))), ⟨rfl, (qa (qa (qa (qa (qa (qa (qa (qa leG1 le9) le10) le13) le14) le15) le16) le17) le18), (hs6), (hc5), (by (try dsimp only); rw [List.length_append]; simp only [List.length_singleton]; omega), (by (try dsimp only); rw [List.length_append]; simp only [List.length_singleton]; omega), (linesS_snoc hos (by omega) (by omega) (by simp)), (hd9), (hf9)⟩, (by (try dsimp only); omega)⟩
 refine jg (qv (qv (qM (qd (qb (cX (qu [x7, x8, ov] jj qT rfl rfl (Rd.ownN [_] rfl rfl) (cX (qV [_, _] _ [x7, x8, ov] qT rfl rfl rfl (qx (qI (qB hr8)) (qx (qI (qB hr9)) (qx (qI hov) qX))) rfl rfl rfl (qc (qY [] _ _ rfl (fun F20 le20 hz8 => ?_))))))))))))
 replace hr8 := hr8.mono le20
 replace hr9 := hr9.mono le20
 replace hC := hC.mono le20
 have hf8 : LinesF F20 ov os := CO.fz hC (by first | rfl | omega | (rw [List.length_set]; omega) | (simp; done)) hz8.fz
 refine qw (qr (L' := curH .i64 247 cb bsv bs.length :: L) [.agg #[x7, x8, ov]] (.agg #[x7, x8, ov]) (.cell rfl (jH [x7, x8, ov] jj qT rfl (Rd.ownN [_] rfl rfl)) .nil) rfl (qa (qa le4 leG1) le20) rF (sD (sD (sC sR))) ?_)
 exact ⟨⟨_, _, _, _, rfl, hr8, hr9, hf8, hos, by omega, (Fresh.app (Fresh.two hr13) le4 (Fresh.one (Fresh.deep hD hZ leG1 hz8 (by omega) le20)) (qa leG1 le20))⟩, rfl⟩

/- spec.l26DrawAny -/
set_option maxHeartbeats 1000000 in
set_option maxRecDepth 20000 in
theorem l26DrawAny_spec {F : FH} {L : List HP} {cb : Nat} {bsv : Value} {bs : List Int} (hbs : BytesF F bsv bs) (hbl : bs.length ≤ 4000000) :
    Does prog 137 [ptr cb 0] F (curH .i64 247 cb bsv bs.length :: L) (fun v F' L' => (∃ (a : Value), ∃ (b : Value), ∃ (c : Value), ∃ (fs : List Int), ∃ (ls : List LineT), (.agg #[a, b, c] : Value) = v ∧ (IntsF F' a ([2, 1, 0, 2] : List Int)) ∧ (IntsF F' b fs) ∧ (LinesF F' c ls) ∧ (fs.length ≤ 3) ∧ (ls.length ≤ 9) ∧ (linesW ls = true)) ∧ curH .i64 247 cb bsv bs.length :: L = L') := by
 refine qG func137 rfl rfl rfl (qd (qb (cX (jr [sN, sN, sN] zeroValue108 rfl ?_))))
 intro b1
 refine qc (qd (qb (qg (ptr cb 0) rfl (cX (XOp.thawL (id (qn (args := [ptr cb 0]) call250 rfl (jq [_] (l26Draw_spec hbs (by omega))) ?_)))))))
 rintro _ F1 _ le1 ⟨⟨x1, x2, x3, x4, rfl, hr1, hr2, hr3, hr4, hr5, hr6⟩, rfl⟩
 refine ⟨[intsH 2 x1 (([2, 1, 0, 2] : List Int)), intsH 2 x2 (([0, 3] : List Int)), linesD 2 22 206 x3 x4], hr6, ?_⟩
 show XL _ _ _ _ _ _ _ (intsH 2 x1 (([2, 1, 0, 2] : List Int)) :: intsH 2 x2 (([0, 3] : List Int)) :: linesD 2 22 206 x3 x4 :: cellsH b1 [sN, sN, sN] 108 :: curH .i64 247 cb bsv bs.length :: L)
 show XL _ _ _ _ _ _ _ (intsH 2 x1 (([2, 1, 0, 2] : List Int)) :: intsH 2 x2 (([0, 3] : List Int)) :: linesD 2 22 206 x3 x4 :: cellsH b1 [sN, sN, sN] 108 :: curH .i64 247 cb bsv bs.length :: L)
 refine cX (jr [sN, sN, sN] zeroValue108 rfl ?_)
 intro b2
 refine cX (qV [] _ [x1, x2, x3] qT rfl rfl rfl (qx (qI (qB hr1)) (qx (qI (qB hr2)) (qx (qI (LinesF.isSl hr3)) qX))) rfl rfl rfl (ja [_] _ _ rfl (fun F2 le2 hz1 => ?_)))
 replace hbs := hbs.mono le2
 have hf1 : IntsF F2 x1 (([2, 1, 0, 2] : List Int)) := intsH.fz (xs := ([2, 1, 0, 2] : List Int)) hz1.fz
 skip
 refine qc (qd (qd (qb (qg (ptr cb 0) rfl (cX (qn (args := [ptr cb 0, ii (8)]) call102 rfl (jq [_, _, _, _] (l1Once_spec (n := 8) hbs (by omega) (hn := (by first | assumption | rfl | omega | simp)))) ?_))))))
 rintro _ _ _ _ ⟨⟨rfl, x5, rfl⟩, rfl⟩
 show XL _ _ _ _ _ _ _ (cellsH b2 [x1, x2, x3] 108 :: intsH 2 x2 (([0, 3] : List Int)) :: linesD 2 22 206 x3 x4 :: cellsH b1 [sN, sN, sN] 108 :: curH .i64 247 cb bsv bs.length :: L)
 refine qg (.bool (x5)) rfl ?_
 by_cases h1 : (x5) = true
 ·refine qo (t := 9) rfl (vB h1) (qk (2) qy rfl jm (by decide) rfl rfl (qo (t := 9) rfl (vB h1) (qj jE rfl (Rd.own [] rfl rfl) (qo (t := 9) rfl (vB h1) (qE qS rfl (linesH.slv [_, _] rfl) (qo (t := 9) rfl (vB h1) (jG rfl rfl (cX (qO (.bool (decide (((x4.length : Int) : Int) > 0))) (vB h1) rfl (qc ?_))))))))))
  refine qC (p := ((x4.length : Int) : Int) > 0) rfl (fun h2 => ?_) (fun h2 => ?_)
  ·refine qd (qb (qg (ptr cb 0) rfl (cX (qk (2) qy rfl jm (by decide) rfl rfl (cX (qj jE rfl (Rd.own [] rfl rfl) (cX (qE qS rfl (linesH.slv [_, _] rfl) (cX (qn (args := [ptr cb 0, ii ((x4.length : Int))]) yb rfl (jq [_, _, _, _] (l1Below_spec (n := (x4.length : Int)) hbs (by omega) (hn := (by first | assumption | rfl | omega | simp)))) ?_))))))))))
   rintro _ _ _ _ ⟨⟨rfl, x6, rfl, hr7⟩, rfl⟩
   show XL _ _ _ _ _ _ _ (cellsH b2 [x1, x2, x3] 108 :: intsH 2 x2 (([0, 3] : List Int)) :: linesD 2 22 206 x3 x4 :: cellsH b1 [sN, sN, sN] 108 :: curH .i64 247 cb bsv bs.length :: L)
   refine qh (ii (x6)) rfl (qc (qd (qb (qg (ptr cb 0) rfl (cX (qn (args := [ptr cb 0, ii (6)]) yb rfl (jq [_, _, _, _] (l1Below_spec (n := 6) hbs (by omega) (hn := (by first | assumption | rfl | omega | simp)))) ?_))))))
   rintro _ _ _ _ ⟨⟨rfl, x7, rfl, hr8⟩, rfl⟩
   show XL _ _ _ _ _ _ _ (cellsH b2 [x1, x2, x3] 108 :: intsH 2 x2 (([0, 3] : List Int)) :: linesD 2 22 206 x3 x4 :: cellsH b1 [sN, sN, sN] 108 :: curH .i64 247 cb bsv bs.length :: L)
   refine qc (qH (qd (qb (cX (ju rfl rfl (qh (.bool (decide ((x7 : Int) = 0))) rfl (qc ?_)))))))
   refine qC (p := (x7 : Int) = 0) rfl (fun h3 => ?_) (fun h3 => ?_)
   ·have htw9 := lineS_two (k := (x6).toNat) hr4 (by omega)
    refine X.openD [_, _] _ rfl (fun cs1 Ls1 F6 le6 hs1 hD1 hZ1 => ?_)
    replace hbs := hbs.mono le6
    replace hf1 := hf1.mono le6
    have hc1 := hD1.lines hZ1
    show X _ _ _ _ _ _ (cellsH b2 [x1, x2, x3] 108 :: intsH 2 x2 (([0, 3] : List Int)) :: slH 206 3 x3 x4.length cs1 :: cellsH b1 [sN, sN, sN] 108 :: curH .i64 247 cb bsv bs.length :: L)
    refine jM [cellsH b2 [x1, x2, x3] 108, intsH 2 x2 (([0, 3] : List Int)), slH 206 3 x3 x4.length cs1, cellsH b1 [sN, sN, sN] 108, curH .i64 247 cb bsv bs.length] L 5 [] [[], [0], [], [], [3]] [] (phiG [pe (ptr b2 2), pe x3, pe (ii (x6)), pe (ptr cb 0), fun FF us v => (ii (((intAt v))) : Value) = v]) (ownL []) mixed rfl rfl (by kernel_rfl) (by kernel_rfl) (MonoG.get (m1 (m1 (m1 (m1 (mC (fun le h => h) MonoG.nil)))))) ?_ ?_
    ·refine gD (fun W Fs R lF z9 => ?_) ?_
     ·refine qi (qk (2) qy rfl jm (by decide) rfl rfl ?_)
      exact ⟨rfl, rfl⟩
     refine gD (fun W Fs R lF z9 => ?_) ?_
     ·replace hbs := hbs.mono lF
      replace hf1 := hf1.mono lF
      replace hc1 := hc1.mono lF
      rw [zA 0 (z9 0 rfl)]
      refine qi (qj jE rfl (Rd.own [] rfl rfl) ?_)
      exact ⟨rfl, rfl⟩
     refine gD (fun W Fs R lF z9 => ?_) ?_
     ·refine qi (qm (ii (x6)) rfl ?_)
      exact ⟨rfl, rfl⟩
     refine gD (fun W Fs R lF z9 => ?_) ?_
     ·refine qi (qm (ptr cb 0) rfl ?_)
      exact ⟨rfl, rfl⟩
     refine gD (fun W Fs R lF z9 => ?_) ?_
     ·replace hbs := hbs.mono lF
      replace hf1 := hf1.mono lF
      replace hc1 := hc1.mono lF
      rw [zA 3 (z9 3 rfl)]
      refine qi (qn (args := [ptr cb 0, ii (4)]) call203 rfl (jq [_, _, _, _] (l1Num_spec (m := 4) hbs (by omega) (hm := (by first | assumption | rfl | omega | simp)))) ?_)
      rintro _ _ _ _ ⟨⟨rfl, x9, rfl⟩, rfl⟩
      exact ⟨rfl, rfl⟩
     exact stepsG.nil
    intro W F9 le9 hphi
    have e4 : (ii (((intAt (W 4)))) : Value) = (W 4) := hphi 4 (by decide)
    generalize hu1 : (intAt (W 4)) = u1 at e4
    rw [eS (l := [(1, _), (2, _), (4, (ii ((u1))))]) ⟨(hphi 1 (by decide)), (hphi 2 (by decide)), (e4).symm, ⟨⟩⟩]
    replace hbs := hbs.mono le9
    replace hf1 := hf1.mono le9
    replace hc1 := hc1.mono le9
    show XL _ _ _ _ _ _ _ (cellsH b2 [x1, x2, x3] 108 :: intsH 2 x2 (([0, 3] : List Int)) :: slH 206 3 x3 x4.length cs1 :: cellsH b1 [sN, sN, sN] 108 :: curH .i64 247 cb bsv bs.length :: L)
    refine cX (qt ((x6).toNat) qS jl rfl rfl (by omega) (SlV.own [_, _] rfl) (by omega) rfl (cX (XOp.fieldE (((x6).toNat) * 3) qR rfl qq (by decide) rfl rfl (cX (XOp.storeS (i := ((x6).toNat) * 3) (cs := cs1) [_, _] _ qq rfl rfl rfl rfl (by have h9 := CO.len hc1; (try simp only [List.length_set, List.length_replicate] at h9 ⊢) <;> omega) ?_)))))
    have hc2 := hc1.setFun (j := ((x6).toNat)) (n := (u1)) (by (try simp only [List.length_set, List.length_replicate]); omega)
    refine qc (qd (qb (cX (qu [x1, x2, x3] jj qT rfl rfl (Rd.ownN [] rfl rfl) (cX (qV [_, _, _] _ [x1, x2, x3] qT rfl rfl rfl (qx (qI (qB hf1)) (qx (qI (qB hr2)) (qx (qI hs1) qX))) rfl rfl rfl (qc (qY [_] _ _ rfl (fun F10 le10 hz2 => ?_)))))))))
    replace hbs := hbs.mono le10
    replace hf1 := hf1.mono le10
    replace hc2 := hc2.mono le10
    have hf2 : IntsF F10 x2 (([0, 3] : List Int)) := intsH.fz (xs := ([0, 3] : List Int)) hz2.fz
    refine qY [_] _ _ rfl (fun F11 le11 hz3 => ?_)
    replace hbs := hbs.mono le11
    replace hf1 := hf1.mono le11
    replace hc2 := hc2.mono le11
    replace hf2 := hf2.mono le11
    have hf3 : LinesF F11 x3 ((x4.set ((x6).toNat) ((u1), (x4.getD ((x6).toNat) (0, [], [])).2))) := CO.fz hc2 (by first | rfl | omega | (rw [List.length_set]; omega) | (simp; done)) hz3.fz
    refine qw (qr (L' := curH .i64 247 cb bsv bs.length :: L) [.agg #[x1, x2, x3]] (.agg #[x1, x2, x3]) (.cell rfl (jH [x1, x2, x3] jj qT rfl (Rd.ownN [_] rfl rfl)) .nil) rfl (qa (qa (qa (qa le2 le6) le9) le10) le11) rF (sD (sD (sC sR))) ?_)
    exact ⟨⟨_, _, _, _, _, rfl, hf1, hf2, hf3, by simp, by (try rw [List.length_set]); omega, by first | exact hw | exact linesS_W hr4 | exact linesW_set (linesS_W hr4) (lineW_at (linesS_W hr4) _) | exact linesW_set (linesS_W hr4) (lineW_drop (lineW_at (linesS_W hr4) _)) | exact linesW_set (linesS_W hr4) (lineW_body (lineW_at (linesS_W hr4) _) (by omega)) | exact linesW_set (linesS_W hr4) (lineW_pat (lineW_at (linesS_W hr4) _) (by decide))⟩, rfl⟩
   refine qd (qb (cX (ju rfl rfl (qh (.bool (decide ((x7 : Int) = 1))) rfl (qc ?_)))))
   refine qC (p := (x7 : Int) = 1) rfl (fun h4 => ?_) (fun h4 => ?_)
   ·have htw9 := lineS_two (k := (x6).toNat) hr4 (by omega)
    refine X.openD [_, _] _ rfl (fun cs2 Ls2 F12 le12 hs2 hD2 hZ2 => ?_)
    replace hbs := hbs.mono le12
    replace hf1 := hf1.mono le12
    have hc3 := hD2.lines hZ2
    show X _ _ _ _ _ _ (cellsH b2 [x1, x2, x3] 108 :: intsH 2 x2 (([0, 3] : List Int)) :: slH 206 3 x3 x4.length cs2 :: cellsH b1 [sN, sN, sN] 108 :: curH .i64 247 cb bsv bs.length :: L)
    obtain ⟨a1, a2, ha1, ha2, hq1⟩ := hc3.get (i := (x6).toNat) (by omega)
    refine jM [cellsH b2 [x1, x2, x3] 108, intsH 2 x2 (([0, 3] : List Int)), slH 206 3 x3 x4.length cs2, cellsH b1 [sN, sN, sN] 108, curH .i64 247 cb bsv bs.length] L 10 [] [[], [0], [], [], [3], [], [4, 5], [6], [7], [8]] [] (phiG [pe (ptr b2 2), pe x3, pe (ii (x6)), pe (ptr b2 2), pe x3, pe (ii (x6)), pe (.pointer (some (elemA x3 (((x6).toNat) * 3)))), pe (.pointer (some (elemA x3 (((x6).toNat) * 3 + 1)))), pe a1, fun FF us v => (v : Value) = v ∧ (RowsF FF v (((((x4.getD ((x6).toNat) (0, [], [])).2.1).drop 1).take ((((x4.getD ((x6).toNat) (0, [], [])).2.1).length) - 1))))]) (ownL []) mixed rfl rfl (by kernel_rfl) (by kernel_rfl) (MonoG.get (m1 (m1 (m1 (m1 (m1 (m1 (m1 (m1 (m1 (mC (fun le h => ⟨h.1, h.2.mono le⟩) MonoG.nil))))))))))) ?_ ?_
    ·refine gD (fun W Fs R lF z9 => ?_) ?_
     ·refine qi (qk (2) qy rfl jm (by decide) rfl rfl ?_)
      exact ⟨rfl, rfl⟩
     refine gD (fun W Fs R lF z9 => ?_) ?_
     ·replace hbs := hbs.mono lF
      replace hf1 := hf1.mono lF
      replace hc3 := hc3.mono lF
      replace ha1 := ha1.mono lF
      rw [zA 0 (z9 0 rfl)]
      refine qi (qj jE rfl (Rd.own [] rfl rfl) ?_)
      exact ⟨rfl, rfl⟩
     refine gD (fun W Fs R lF z9 => ?_) ?_
     ·refine qi (qm (ii (x6)) rfl ?_)
      exact ⟨rfl, rfl⟩
     refine gD (fun W Fs R lF z9 => ?_) ?_
     ·refine qi (qk (2) qy rfl jm (by decide) rfl rfl ?_)
      exact ⟨rfl, rfl⟩
     refine gD (fun W Fs R lF z9 => ?_) ?_
     ·replace hbs := hbs.mono lF
      replace hf1 := hf1.mono lF
      replace hc3 := hc3.mono lF
      replace ha1 := ha1.mono lF
      rw [zA 3 (z9 3 rfl)]
      refine qi (qj jE rfl (Rd.own [] rfl rfl) ?_)
      exact ⟨rfl, rfl⟩
     refine gD (fun W Fs R lF z9 => ?_) ?_
     ·refine qi (qm (ii (x6)) rfl ?_)
      exact ⟨rfl, rfl⟩
     refine gD (fun W Fs R lF z9 => ?_) ?_
     ·replace hbs := hbs.mono lF
      replace hf1 := hf1.mono lF
      replace hc3 := hc3.mono lF
      replace ha1 := ha1.mono lF
      rw [zB 4 5 (z9 4 rfl) (z9 5 rfl)]
      refine qi (qt ((x6).toNat) qS jl rfl rfl (by omega) (SlV.own [_, _] rfl) (by omega) rfl ?_)
      exact ⟨rfl, rfl⟩
     refine gD (fun W Fs R lF z9 => ?_) ?_
     ·rw [zA 6 (z9 6 rfl)]
      refine qi (XOp.fieldE (((x6).toNat) * 3 + 1) qR rfl qW (by decide) rfl rfl ?_)
      exact ⟨rfl, rfl⟩
     refine gD (fun W Fs R lF z9 => ?_) ?_
     ·replace hbs := hbs.mono lF
      replace hf1 := hf1.mono lF
      replace hc3 := hc3.mono lF
      replace ha1 := ha1.mono lF
      rw [zA 7 (z9 7 rfl)]
      refine qi (qj jz rfl (Rd.sl [_, _] rfl (hq1 1 _ rfl)) ?_)
      exact ⟨rfl, rfl⟩
     refine gD (fun W Fs R lF z9 => ?_) ?_
     ·replace hbs := hbs.mono lF
      replace hf1 := hf1.mono lF
      replace hc3 := hc3.mono lF
      replace ha1 := ha1.mono lF
      rw [zA 8 (z9 8 rfl)]
      refine qi (XOp.sliceC 1 (((x4.getD ((x6).toNat) (0, [], [])).2.1).length) qF qA rfl ha1 ⟨_, rfl⟩ rfl (by omega) (by omega) ?_)
      intro v2 hv2
      replace hv2 : RowsF Fs v2 ((((x4.getD ((x6).toNat) (0, [], [])).2.1).drop 1).take ((((x4.getD ((x6).toNat) (0, [], [])).2.1).length) - 1)) := hv2
      exact ⟨⟨rfl, hv2⟩, rfl⟩
     exact stepsG.nil
    intro W F13 le13 hphi
    obtain ⟨e9, f9_2hv⟩ := hphi 9 (by decide)
    generalize hu2 : (W 9) = u2 at e9 f9_2hv
    rw [eS (l := [(1, _), (2, _), (9, u2)]) ⟨(hphi 1 (by decide)), (hphi 2 (by decide)), hu2, ⟨⟩⟩]
    replace hbs := hbs.mono le13
    replace hf1 := hf1.mono le13
    replace hc3 := hc3.mono le13
    show XL _ _ _ _ _ _ _ (cellsH b2 [x1, x2, x3] 108 :: intsH 2 x2 (([0, 3] : List Int)) :: slH 206 3 x3 x4.length cs2 :: cellsH b1 [sN, sN, sN] 108 :: curH .i64 247 cb bsv bs.length :: L)
    refine cX (qt ((x6).toNat) qS jl rfl rfl (by omega) (SlV.own [_, _] rfl) (by omega) rfl (cX (XOp.fieldE (((x6).toNat) * 3 + 1) qR rfl qW (by decide) rfl rfl (cX (XOp.storeS (i := ((x6).toNat) * 3 + 1) (cs := cs2) [_, _] _ qW rfl rfl (qI (RowsF.isSl f9_2hv)) rfl (by have h9 := CO.len hc3; (try simp only [List.length_set, List.length_replicate] at h9 ⊢) <;> omega) ?_)))))
    have hc4 := hc3.setPats (j := ((x6).toNat)) (by (try simp only [List.length_set, List.length_replicate]); omega) f9_2hv
    refine qc (qd (qb (cX (qu [x1, x2, x3] jj qT rfl rfl (Rd.ownN [] rfl rfl) (cX (qV [_, _, _] _ [x1, x2, x3] qT rfl rfl rfl (qx (qI (qB hf1)) (qx (qI (qB hr2)) (qx (qI hs2) qX))) rfl rfl rfl (qc (qY [_] _ _ rfl (fun F14 le14 hz4 => ?_)))))))))
    replace hbs := hbs.mono le14
    replace hf1 := hf1.mono le14
    replace hc4 := hc4.mono le14
    have hf4 : IntsF F14 x2 (([0, 3] : List Int)) := intsH.fz (xs := ([0, 3] : List Int)) hz4.fz
    refine qY [_] _ _ rfl (fun F15 le15 hz5 => ?_)
    replace hbs := hbs.mono le15
    replace hf1 := hf1.mono le15
    replace hc4 := hc4.mono le15
    replace hf4 := hf4.mono le15
    have hf5 : LinesF F15 x3 ((x4.set ((x6).toNat) ((x4.getD ((x6).toNat) (0, [], [])).1, ((((x4.getD ((x6).toNat) (0, [], [])).2.1).drop 1).take ((((x4.getD ((x6).toNat) (0, [], [])).2.1).length) - 1)), (x4.getD ((x6).toNat) (0, [], [])).2.2))) := CO.fz hc4 (by first | rfl | omega | (rw [List.length_set]; omega) | (simp; done)) hz5.fz
    refine qw (qr (L' := curH .i64 247 cb bsv bs.length :: L) [.agg #[x1, x2, x3]] (.agg #[x1, x2, x3]) (.cell rfl (jH [x1, x2, x3] jj qT rfl (Rd.ownN [_] rfl rfl)) .nil) rfl (qa (qa (qa (qa le2 le12) le13) le14) le15) rF (sD (sD (sC sR))) ?_)
    exact ⟨⟨_, _, _, _, _, rfl, hf1, hf4, hf5, by simp, by (try rw [List.length_set]); omega, by first | exact hw | exact linesS_W hr4 | exact linesW_set (linesS_W hr4) (lineW_at (linesS_W hr4) _) | exact linesW_set (linesS_W hr4) (lineW_drop (lineW_at (linesS_W hr4) _)) | exact linesW_set (linesS_W hr4) (lineW_body (lineW_at (linesS_W hr4) _) (by omega)) | exact linesW_set (linesS_W hr4) (lineW_pat (lineW_at (linesS_W hr4) _) (by decide))⟩, rfl⟩
   refine qd (qb (cX (ju rfl rfl (qh (.bool (decide ((x7 : Int) = 2))) rfl (qc ?_)))))
   refine qC (p := (x7 : Int) = 2) rfl (fun h5 => ?_) (fun h5 => ?_)
   ·have htw9 := lineS_two (k := (x6).toNat) hr4 (by omega)
    refine X.openD [_, _] _ rfl (fun cs3 Ls3 F16 le16 hs3 hD3 hZ3 => ?_)
    replace hbs := hbs.mono le16
    replace hf1 := hf1.mono le16
    have hc5 := hD3.lines hZ3
    show X _ _ _ _ _ _ (cellsH b2 [x1, x2, x3] 108 :: intsH 2 x2 (([0, 3] : List Int)) :: slH 206 3 x3 x4.length cs3 :: cellsH b1 [sN, sN, sN] 108 :: curH .i64 247 cb bsv bs.length :: L)
    refine jM [cellsH b2 [x1, x2, x3] 108, intsH 2 x2 (([0, 3] : List Int)), slH 206 3 x3 x4.length cs3, cellsH b1 [sN, sN, sN] 108, curH .i64 247 cb bsv bs.length] L 7 [] [[], [0], [], [], [], [4], [3, 5]] [] (phiG [pe (ptr b2 2), pe x3, pe (ii (x6)), pe (ptr cb 0), pe (ptr b2 0), pe (.agg #[x1]), fun FF us v => ((v) : Value) = v ∧ (SomesF FF (v) (fun u => u.length ≤ 2000))]) (ownL []) mixed rfl rfl (by kernel_rfl) (by kernel_rfl) (MonoG.get (m1 (m1 (m1 (m1 (m1 (m1 (mC (fun le h => ⟨h.1, h.2.mono le⟩) MonoG.nil)))))))) ?_ ?_
    ·refine gD (fun W Fs R lF z9 => ?_) ?_
     ·refine qi (qk (2) qy rfl jm (by decide) rfl rfl ?_)
      exact ⟨rfl, rfl⟩
     refine gD (fun W Fs R lF z9 => ?_) ?_
     ·replace hbs := hbs.mono lF
      replace hf1 := hf1.mono lF
      replace hc5 := hc5.mono lF
      rw [zA 0 (z9 0 rfl)]
      refine qi (qj jE rfl (Rd.own [] rfl rfl) ?_)
      exact ⟨rfl, rfl⟩
     refine gD (fun W Fs R lF z9 => ?_) ?_
     ·refine qi (qm (ii (x6)) rfl ?_)
      exact ⟨rfl, rfl⟩
     refine gD (fun W Fs R lF z9 => ?_) ?_
     ·refine qi (qm (ptr cb 0) rfl ?_)
      exact ⟨rfl, rfl⟩
     refine gD (fun W Fs R lF z9 => ?_) ?_
     ·refine qi (qk (0) qy rfl qJ (by decide) rfl rfl ?_)
      exact ⟨rfl, rfl⟩
     refine gD (fun W Fs R lF z9 => ?_) ?_
     ·replace hbs := hbs.mono lF
      replace hf1 := hf1.mono lF
      replace hc5 := hc5.mono lF
      rw [zA 4 (z9 4 rfl)]
      refine qi (qu [x1] jf qJ rfl rfl (Rd.ownN [] rfl rfl) ?_)
      exact ⟨rfl, rfl⟩
     refine gD (fun W Fs R lF z9 => ?_) ?_
     ·replace hbs := hbs.mono lF
      replace hf1 := hf1.mono lF
      replace hc5 := hc5.mono lF
      rw [zB 3 5 (z9 3 rfl) (z9 5 rfl)]
      refine qi (qn (args := [ptr cb 0, .agg #[x1]]) call251 rfl (jq [_, _, _, _] (l1DrawAny_spec hbs (by omega) hf1 (hal := (by first | assumption | rfl | omega | simp)))) ?_)
      rintro _ F18 _ le18 ⟨⟨x11, rfl, hr10⟩, rfl⟩
      replace hbs := hbs.mono le18
      replace hf1 := hf1.mono le18
      replace hc5 := hc5.mono le18
      exact ⟨⟨rfl, hr10⟩, rfl⟩
     exact stepsG.nil
    intro W F19 le19 hphi
    obtain ⟨e6, f6_3hp_a⟩ := hphi 6 (by decide)
    obtain ⟨t6X3_a, f6_3hp_a, q6_3_a0⟩ := f6_3hp_a
    generalize hu3 : ((W 6)) = u3 at e6 f6_3hp_a
    rw [eS (l := [(1, _), (2, _), (6, u3)]) ⟨(hphi 1 (by decide)), (hphi 2 (by decide)), hu3, ⟨⟩⟩]
    replace hbs := hbs.mono le19
    replace hf1 := hf1.mono le19
    replace hc5 := hc5.mono le19
    show XL _ _ _ _ _ _ _ (cellsH b2 [x1, x2, x3] 108 :: intsH 2 x2 (([0, 3] : List Int)) :: slH 206 3 x3 x4.length cs3 :: cellsH b1 [sN, sN, sN] 108 :: curH .i64 247 cb bsv bs.length :: L)
    refine cX (qt ((x6).toNat) qS jl rfl rfl (by omega) (SlV.own [_, _] rfl) (by omega) rfl (cX (XOp.fieldE (((x6).toNat) * 3 + 2) qR rfl qA (by decide) rfl rfl (cX (XOp.storeS (i := ((x6).toNat) * 3 + 2) (cs := cs3) [_, _] _ qA rfl rfl (qI (qB f6_3hp_a)) rfl (by have h9 := CO.len hc5; (try simp only [List.length_set, List.length_replicate] at h9 ⊢) <;> omega) ?_)))))
    have hc6 := hc5.setBody (j := ((x6).toNat)) (by (try simp only [List.length_set, List.length_replicate]); omega) f6_3hp_a
    refine qc (qd (qb (cX (qu [x1, x2, x3] jj qT rfl rfl (Rd.ownN [] rfl rfl) (cX (qV [_, _, _] _ [x1, x2, x3] qT rfl rfl rfl (qx (qI (qB hf1)) (qx (qI (qB hr2)) (qx (qI hs3) qX))) rfl rfl rfl (qc (qY [_] _ _ rfl (fun F20 le20 hz6 => ?_)))))))))
    replace hbs := hbs.mono le20
    replace hf1 := hf1.mono le20
    replace hc6 := hc6.mono le20
    have hf6 : IntsF F20 x2 (([0, 3] : List Int)) := intsH.fz (xs := ([0, 3] : List Int)) hz6.fz
    refine qY [_] _ _ rfl (fun F21 le21 hz7 => ?_)
    replace hbs := hbs.mono le21
    replace hf1 := hf1.mono le21
    replace hc6 := hc6.mono le21
    replace hf6 := hf6.mono le21
    have hf7 : LinesF F21 x3 ((x4.set ((x6).toNat) ((x4.getD ((x6).toNat) (0, [], [])).1, (x4.getD ((x6).toNat) (0, [], [])).2.1, t6X3_a))) := CO.fz hc6 (by first | rfl | omega | (rw [List.length_set]; omega) | (simp; done)) hz7.fz
    refine qw (qr (L' := curH .i64 247 cb bsv bs.length :: L) [.agg #[x1, x2, x3]] (.agg #[x1, x2, x3]) (.cell rfl (jH [x1, x2, x3] jj qT rfl (Rd.ownN [_] rfl rfl)) .nil) rfl (qa (qa (qa (qa le2 le16) le19) le20) le21) rF (sD (sD (sC sR))) ?_)
    exact ⟨⟨_, _, _, _, _, rfl, hf1, hf6, hf7, by simp, by (try rw [List.length_set]); omega, by first | exact hw | exact linesS_W hr4 | exact linesW_set (linesS_W hr4) (lineW_at (linesS_W hr4) _) | exact linesW_set (linesS_W hr4) (lineW_drop (lineW_at (linesS_W hr4) _)) | exact linesW_set (linesS_W hr4) (lineW_body (lineW_at (linesS_W hr4) _) (by omega)) | exact linesW_set (linesS_W hr4) (lineW_pat (lineW_at (linesS_W hr4) _) (by decide))⟩, rfl⟩
   refine qd (qb (cX (ju rfl rfl (qh (.bool (decide ((x7 : Int) = 3))) rfl (qc ?_)))))
   refine qC (p := (x7 : Int) = 3) rfl (fun h6 => ?_) (fun h6 => ?_)
   ·have htw9 := lineS_two (k := (x6).toNat) hr4 (by omega)
    refine X.openPats (xs := x4) [_, _] _ (k := ((x6).toNat)) (by omega) rfl (fun cs4 a3 pcs1 F22 le22 hs4 hs5 hq2 hq3 hC1 hX1 => ?_)
    replace hbs := hbs.mono le22
    replace hf1 := hf1.mono le22
    show X _ _ _ _ _ _ (slH 22 1 a3 ((x4.getD ((x6).toNat) (0, [], [])).2.1.length) pcs1 :: cellsH b2 [x1, x2, x3] 108 :: intsH 2 x2 (([0, 3] : List Int)) :: slH 206 3 x3 x4.length cs4 :: cellsH b1 [sN, sN, sN] 108 :: curH .i64 247 cb bsv bs.length :: L)
    refine qb (cX (qk (2) qy rfl jm (by decide) rfl rfl (cX (qj jE rfl (Rd.own [_] rfl rfl) (qg (ii (x6)) rfl (cX (qt ((x6).toNat) qS jl rfl rfl (by omega) (SlV.own [_, _, _] rfl) (by omega) rfl (cX (XOp.fieldE (((x6).toNat) * 3 + 1) qR rfl qW (by decide) rfl rfl (cX (qj jz rfl (Rd.sl [_, _, _] rfl hq2) (cX (qs (s := 1) [ii (0), ii (2), ii (2)] [ii (0)] [(0, [ii (0)]), (1, [ii (2)]), (2, [ii (2)])] qf qq qL rfl (by decide) rfl (.cons rfl (.cons rfl (.cons rfl CellsAre.nil))) rfl ?_)))))))))))))
    intro v3 hv3
    show XL _ _ _ _ _ _ _ (intsH 2 v3 ([0, 2, 2] : List Int) :: slH 22 1 a3 ((x4.getD ((x6).toNat) (0, [], [])).2.1.length) pcs1 :: cellsH b2 [x1, x2, x3] 108 :: intsH 2 x2 (([0, 3] : List Int)) :: slH 206 3 x3 x4.length cs4 :: cellsH b1 [sN, sN, sN] 108 :: curH .i64 247 cb bsv bs.length :: L)
    refine ja [] _ _ rfl (fun F23 le23 hz8 => ?_)
    replace hbs := hbs.mono le23
    replace hf1 := hf1.mono le23
    replace hC1 := hC1.mono le23
    have hf8 : IntsF F23 v3 ([0, 2, 2]) := intsH.fz (xs := [0, 2, 2]) hz8.fz
    skip
    refine cX (qt 0 qF qA rfl rfl rfl (SlV.own [] rfl) (by omega) (Nat.mul_one _) (cX (XOp.storeS (i := 0) (cs := pcs1) [] _ qA rfl rfl (qI (qB hf8)) rfl (by have h9 := CO.len hC1; (try simp only [List.length_set, List.length_replicate] at h9 ⊢) <;> omega) ?_)))
    have hc7 := hC1.set 0 hf8
    refine ja [] _ _ rfl (fun F24 le24 hz9 => ?_)
    replace hbs := hbs.mono le24
    replace hf1 := hf1.mono le24
    replace hc7 := hc7.mono le24
    have hf9 : RowsF F24 a3 ((((x4.getD ((x6).toNat) (0, [], [])).2.1).set 0 ([0, 2, 2]))) := CO.fz hc7 (by first | rfl | omega | (rw [List.length_set]; omega) | (simp; done)) hz9.fz
    have hc8 := LinesX.close hX1 (qa le23 le24) hf9
    skip
    refine qc (qd (qb (cX (qu [x1, x2, x3] jj qT rfl rfl (Rd.ownN [] rfl rfl) (cX (qV [_, _, _] _ [x1, x2, x3] qT rfl rfl rfl (qx (qI (qB hf1)) (qx (qI (qB hr2)) (qx (qI hs4) qX))) rfl rfl rfl (qc (qY [_] _ _ rfl (fun F25 le25 hz10 => ?_)))))))))
    replace hbs := hbs.mono le25
    replace hf1 := hf1.mono le25
    replace hc8 := hc8.mono le25
    have hf10 : IntsF F25 x2 (([0, 3] : List Int)) := intsH.fz (xs := ([0, 3] : List Int)) hz10.fz
    refine qY [_] _ _ rfl (fun F26 le26 hz11 => ?_)
    replace hbs := hbs.mono le26
    replace hf1 := hf1.mono le26
    replace hc8 := hc8.mono le26
    replace hf10 := hf10.mono le26
    have hf11 : LinesF F26 x3 ((x4.set ((x6).toNat) ((x4.getD ((x6).toNat) (0, [], [])).1, (((x4.getD ((x6).toNat) (0, [], [])).2.1).set 0 ([0, 2, 2])), (x4.getD ((x6).toNat) (0, [], [])).2.2))) := CO.fz hc8 (by first | rfl | omega | (rw [List.length_set]; omega) | (simp; done)) hz11.fz
    refine qw (qr (L' := curH .i64 247 cb bsv bs.length :: L) [.agg #[x1, x2, x3]] (.agg #[x1, x2, x3]) (.cell rfl (jH [x1, x2, x3] jj qT rfl (Rd.ownN [_] rfl rfl)) .nil) rfl (qa (qa (qa (qa (qa le2 le22) le23) le24) le25) le26) rF (sD (sD (sC sR))) ?_)
    exact ⟨⟨_, _, _, _, _, rfl, hf1, hf10, hf11, by simp, by (try rw [List.length_set]); omega, by first | exact hw | exact linesS_W hr4 | exact linesW_set (linesS_W hr4) (lineW_at (linesS_W hr4) _) | exact linesW_set (linesS_W hr4) (lineW_drop (lineW_at (linesS_W hr4) _)) | exact linesW_set (linesS_W hr4) (lineW_body (lineW_at (linesS_W hr4) _) (by omega)) | exact linesW_set (linesS_W hr4) (lineW_pat (lineW_at (linesS_W hr4) _) (by decide))⟩, rfl⟩
   refine qd (qb (cX (ju rfl rfl (qh (.bool (decide ((x7 : Int) = 4))) rfl (qc ?_)))))
   refine qC (p := (x7 : Int) = 4) rfl (fun h7 => ?_) (fun h7 => ?_)
   ·refine jM [cellsH b2 [x1, x2, x3] 108, intsH 2 x2 (([0, 3] : List Int)), linesD 2 22 206 x3 x4, cellsH b1 [sN, sN, sN] 108, curH .i64 247 cb bsv bs.length] L 5 [[], [], [], [], [3]] [[], [0], [], [2], [3]] [] (phiG [pe (ptr b2 1), pe x2, pe (ptr cb 0), fun FF us v => (ii (((intAt v))) : Value) = v, fun FF us v => ∃ b, v = .slice (some ⟨b, 0, none⟩) 1 1]) (ownL [o0, o0, o0, o0, fun us v => [slH 2 1 v 1 [ii (((intAt (us.getD 0 undef))))]]]) mixed rfl rfl (by kernel_rfl) (by kernel_rfl) (MonoG.get (m1 (m1 (m1 (mC (fun le h => h) (mC (fun le h => h) MonoG.nil)))))) ?_ ?_
    ·refine gD (fun W Fs R lF z9 => ?_) ?_
     ·refine qi (qk (1) qy rfl qA (by decide) rfl rfl ?_)
      exact ⟨rfl, rfl⟩
     refine gD (fun W Fs R lF z9 => ?_) ?_
     ·replace hbs := hbs.mono lF
      replace hf1 := hf1.mono lF
      rw [zA 0 (z9 0 rfl)]
      refine qi (qj qU rfl (Rd.own [] rfl rfl) ?_)
      exact ⟨rfl, rfl⟩
     refine gD (fun W Fs R lF z9 => ?_) ?_
     ·refine qi (qm (ptr cb 0) rfl ?_)
      exact ⟨rfl, rfl⟩
     refine gD (fun W Fs R lF z9 => ?_) ?_
     ·replace hbs := hbs.mono lF
      replace hf1 := hf1.mono lF
      rw [zA 2 (z9 2 rfl)]
      refine qi (qn (args := [ptr cb 0, ii (4)]) call203 rfl (jq [_, _, _, _] (l1Num_spec (m := 4) hbs (by omega) (hm := (by first | assumption | rfl | omega | simp)))) ?_)
      rintro _ _ _ _ ⟨⟨rfl, x13, rfl⟩, rfl⟩
      exact ⟨rfl, rfl⟩
     refine gD (fun W Fs R lF z9 => ?_) ?_
     ·have e3 : (ii (((intAt (W 3)))) : Value) = (W 3) := z9 3 rfl
      replace hbs := hbs.mono lF
      replace hf1 := hf1.mono lF
      rw [eS (l := [(3, (ii (((intAt (W 3))))))]) ⟨(e3).symm, ⟨⟩⟩]
      refine qi (qs (s := 1) [ii (((intAt (W 3))))] [ii (0)] [(0, [ii (((intAt (W 3))))])] qf qq qL rfl (by decide) rfl (.cons rfl CellsAre.nil) rfl ?_)
      intro v5 hv5
      exact ⟨hv5, rfl⟩
     exact stepsG.nil
    intro W F29 le29 hphi
    have e3 : (ii (((intAt (W 3)))) : Value) = (W 3) := hphi 3 (by decide)
    have f4 : ∃ b, (W 4) = .slice (some ⟨b, 0, none⟩) 1 1 := hphi 4 (by decide)
    generalize hu4 : (intAt (W 3)) = u4 at e3 f4
    generalize hu4 : W 4 = u5 at e3 f4
    rw [eS (l := [(1, _), (3, (ii ((u4)))), (4, u5)]) ⟨(hphi 1 (by decide)), (e3).symm, hu4, ⟨⟩⟩]
    replace hbs := hbs.mono le29
    replace hf1 := hf1.mono le29
    show XL _ _ _ _ _ _ _ (slH 2 1 u5 1 [ii ((u4))] :: cellsH b2 [x1, x2, x3] 108 :: intsH 2 x2 (([0, 3] : List Int)) :: linesD 2 22 206 x3 x4 :: cellsH b1 [sN, sN, sN] 108 :: curH .i64 247 cb bsv bs.length :: L)
    refine cX (jX (u := (u4)) [_, _] _ qf typeInfo2 rfl rfl rfl rfl rfl rfl (SlV.own [] rfl) (Rd.sl [] rfl rfl) (by (try simp only [List.length_append, List.length_nil, List.length_cons, List.length_singleton, List.length_take, List.length_drop]); omega) ?_)
    intro v6 hs6 hn1
    refine cX (qk (1) qy rfl qA (by decide) rfl rfl (cX (jw [_] _ [x1, v6, x3] qA rfl rfl (qI hs6) rfl rfl rfl (qc (qd (qb (cX (qu [x1, v6, x3] jj qT rfl rfl (Rd.ownN [_] rfl rfl) (cX (qV [_, _, _, _] _ [x1, v6, x3] qT rfl rfl rfl (qx (qI (qB hf1)) (qx (qI hs6) (qx (qI (LinesF.isSl hr3)) qX))) rfl rfl rfl (qc (qY [_, _] _ _ rfl (fun F30 le30 hz12 => ?_)))))))))))))
    replace hbs := hbs.mono le30
    replace hf1 := hf1.mono le30
    have hf12 : IntsF F30 v6 ((([0, 3] : List Int)) ++ [(u4)]) := intsH.fz (xs := (([0, 3] : List Int)) ++ [(u4)]) hz12.fz
    refine qY [_, _] _ _ rfl (fun F31 le31 hz13 => ?_)
    replace hbs := hbs.mono le31
    replace hf1 := hf1.mono le31
    replace hf12 := hf12.mono le31
    have hf13 : LinesF F31 x3 x4 := linesD.fz hz13.fz
    refine qw (qr (L' := curH .i64 247 cb bsv bs.length :: L) [.agg #[x1, v6, x3]] (.agg #[x1, v6, x3]) (.cell rfl (jH [x1, v6, x3] jj qT rfl (Rd.ownN [_, _] rfl rfl)) .nil) rfl (qa (qa (qa le2 le29) le30) le31) rF (sD (sD (sD (sC sR)))) ?_)
    exact ⟨⟨_, _, _, _, _, rfl, hf1, hf12, hf13, by simp, by (try rw [List.length_set]); omega, by first | exact hw | exact linesS_W hr4 | exact linesW_set (linesS_W hr4) (lineW_at (linesS_W hr4) _) | exact linesW_set (linesS_W hr4) (lineW_drop (lineW_at (linesS_W hr4) _)) | exact linesW_set (linesS_W hr4) (lineW_body (lineW_at (linesS_W hr4) _) (by omega)) | exact linesW_set (linesS_W hr4) (lineW_pat (lineW_at (linesS_W hr4) _) (by decide))⟩, rfl⟩
   refine qd (qb (cX (ju rfl rfl (qh (.bool (decide ((x7 : Int) = 5))) rfl (qc ?_)))))
   refine qC (p := (x7 : Int) = 5) rfl (fun h8 => ?_) (fun h8 => ?_)
   ·have htw9 := lineS_two (k := (x6).toNat) hr4 (by omega)
    refine X.openD [_, _] _ rfl (fun cs5 Ls4 F32 le32 hs7 hD4 hZ4 => ?_)
    replace hbs := hbs.mono le32
    replace hf1 := hf1.mono le32
    have hc9 := hD4.lines hZ4
    show X _ _ _ _ _ _ (cellsH b2 [x1, x2, x3] 108 :: intsH 2 x2 (([0, 3] : List Int)) :: slH 206 3 x3 x4.length cs5 :: cellsH b1 [sN, sN, sN] 108 :: curH .i64 247 cb bsv bs.length :: L)
    refine qH (jn (α := Value × List LineT × List Value × Nat × FH) (fun xQ => [(0, ptr cb 0), (2, ptr b1 0), (3, ptr b2 0)]) (fun xQ => cellsH b2 [x1, x2, xQ.1] 108 :: intsH 2 x2 (([0, 3] : List Int)) :: slH 206 3 xQ.1 xQ.2.2.2.1 xQ.2.2.1 :: cellsH b1 [sN, sN, sN] 108 :: curH .i64 247 cb bsv bs.length :: L) (fun xQ F' => xQ.2.2.2.2 = F' ∧ F32 ≤ xQ.2.2.2.2 ∧ (IsSl xQ.1) ∧ (LinesC xQ.2.2.2.2 xQ.2.2.1 xQ.2.1) ∧ (xQ.2.2.2.1 = xQ.2.1.length) ∧ (1 ≤ xQ.2.1.length ∧ xQ.2.1.length ≤ 9) ∧ (linesW xQ.2.1 = true)) (fun xQ => 9 - xQ.2.1.length) (x3, x4, cs5, x4.length, F32) ⟨rfl, rfl, rfl, ⟨⟩⟩ (sC (sC (sC (sC (sC sR))))) ⟨rfl, FLe.refl _, (hs7), (hc9), (rfl), (by (try dsimp only); omega), (linesS_W hr4)⟩ ?_)
    rintro ⟨ov, os, cs, m, G1⟩ rE _ _ ⟨rfl, leG, hov, hC, hm, h19, hw⟩
    show X _ _ _ _ (envs [(0, ptr cb 0), (2, ptr b1 0), (3, ptr b2 0)] rE) _ (cellsH b2 [x1, x2, ov] 108 :: intsH 2 x2 (([0, 3] : List Int)) :: slH 206 3 ov m cs :: cellsH b1 [sN, sN, sN] 108 :: curH .i64 247 cb bsv bs.length :: L)
    replace leG : F32 ≤ G1 := leG
    dsimp only at hov hC hm h19 hw
    have leG1 := leG
    replace hbs := hbs.mono leG1
    replace hf1 := hf1.mono leG1
    refine qd (qd ?_)
    refine jM [cellsH b2 [x1, x2, ov] 108, intsH 2 x2 (([0, 3] : List Int)), slH 206 3 ov m cs, cellsH b1 [sN, sN, sN] 108, curH .i64 247 cb bsv bs.length] L 6 [[], [], [], [], [], [4]] [[], [0], [1], [], [3], [4]] [] (phiG [pe (ptr b2 2), pe ov, pe (ii ((m : Int)) : Value), pe (ptr cb 0), fun FF us v => (ii (((intAt v))) : Value) = v ∧ (0 ≤ ((intAt v)) ∧ (((intAt v)) < 2 ∨ ((intAt v)) = 0)), fun FF us v => v = (ii (8 + (((intAt (us.getD 0 undef))))) : Value)]) (ownL []) mixed rfl rfl (by kernel_rfl) (by kernel_rfl) (MonoG.get (m1 (m1 (m1 (m1 (mC (fun le h => ⟨h.1, h.2⟩) (mC (fun le h => h) MonoG.nil))))))) ?_ ?_
    ·refine gD (fun W Fs R lF z9 => ?_) ?_
     ·refine qi (qk (2) qy rfl jm (by decide) rfl rfl ?_)
      exact ⟨rfl, rfl⟩
     refine gD (fun W Fs R lF z9 => ?_) ?_
     ·replace hbs := hbs.mono lF
      replace hf1 := hf1.mono lF
      replace hC := hC.mono lF
      rw [zA 0 (z9 0 rfl)]
      refine qi (qj jE rfl (Rd.own [] rfl rfl) ?_)
      exact ⟨rfl, rfl⟩
     refine gD (fun W Fs R lF z9 => ?_) ?_
     ·replace hbs := hbs.mono lF
      replace hf1 := hf1.mono lF
      replace hC := hC.mono lF
      rw [zA 1 (z9 1 rfl)]
      refine qi (qE qS rfl (SlV.own [_, _] rfl) ?_)
      exact ⟨rfl, rfl⟩
     refine gD (fun W Fs R lF z9 => ?_) ?_
     ·refine qi (qm (ptr cb 0) rfl ?_)
      exact ⟨rfl, rfl⟩
     refine gD (fun W Fs R lF z9 => ?_) ?_
     ·replace hbs := hbs.mono lF
      replace hf1 := hf1.mono lF
      replace hC := hC.mono lF
      rw [zA 3 (z9 3 rfl)]
      refine qi (qn (args := [ptr cb 0, ii (2)]) yb rfl (jq [_, _, _, _] (l1Below_spec (n := 2) hbs (by omega) (hn := (by first | assumption | rfl | omega | simp)))) ?_)
      rintro _ _ _ _ ⟨⟨rfl, x15, rfl, hr12⟩, rfl⟩
      exact ⟨⟨rfl, hr12⟩, rfl⟩
     refine gD (fun W Fs R lF z9 => ?_) ?_
     ·obtain ⟨e4, f4_5hx⟩ := z9 4 rfl
      rw [eS (l := [(4, (ii (((intAt (W 4))))))]) ⟨(e4).symm, ⟨⟩⟩]
      refine qi (qK (8 + (((intAt (W 4))))) rfl rfl (by omega) (by omega) ?_)
      exact ⟨rfl, rfl⟩
     exact stepsG.nil
    intro W F35 le35 hphi
    obtain ⟨e4, f4_5hx⟩ := hphi 4 (by decide)
    have e5 : W 5 = (ii (8 + (((intAt (W 4))))) : Value) := hphi 5 (by decide)
    generalize hu5 : (intAt (W 4)) = u6 at e4 f4_5hx e5
    rw [eS (l := [(2, _), (4, (ii ((u6)))), (5, (ii (8 + ((u6)))))]) ⟨(hphi 2 (by decide)), (e4).symm, e5, ⟨⟩⟩]
    replace hf1 := hf1.mono le35
    replace hC := hC.mono le35
    show XL _ _ _ _ _ _ _ (cellsH b2 [x1, x2, ov] 108 :: intsH 2 x2 (([0, 3] : List Int)) :: slH 206 3 ov m cs :: cellsH b1 [sN, sN, sN] 108 :: curH .i64 247 cb bsv bs.length :: L)
    refine cX (qQ rfl rfl (qc ?_))
    refine qC (p := (m : Int) < 8 + ((u6))) rfl (fun h9 => ?_) (fun h9 => ?_)
    ·refine qz (qH ?_)
     obtain ⟨a4, a5, ha3, ha4, hq4⟩ := hC.get (i := 0) (by omega)
     refine jx [cellsH b2 [x1, x2, ov] 108, intsH 2 x2 (([0, 3] : List Int)), slH 206 3 ov m cs, cellsH b1 [sN, sN, sN] 108, curH .i64 247 cb bsv bs.length] L 7 [] [[], [0], [], [2], [3], [4], [5]] (phiL [qe (ptr b2 2), qe ov, qe (ptr b2 2), qe ov, qe (.pointer (some (elemA ov (0 * 3)))), qe (.agg #[ii ((os.getD 0 (0, [], [])).1), a4, a5]), fun us v => ∃ b, v = .slice (some ⟨b, 0, none⟩) 1 1]) (ownL [o0, o0, o0, o0, o0, o0, fun us v => [slH 206 3 v 1 [ii ((os.getD 0 (0, [], [])).1), a4, a5]]]) mixed rfl rfl (by kernel_rfl) ?_ ?_
     ·refine pD (fun W R z9 => ?_) ?_
      ·refine qi (qk (2) qy rfl jm (by decide) rfl rfl ?_)
       exact ⟨rfl, rfl, rfl⟩
      refine pD (fun W R z9 => ?_) ?_
      ·rw [zA 0 (z9 0 rfl)]
       refine qi (qj jE rfl (Rd.own [] rfl rfl) ?_)
       exact ⟨rfl, rfl, rfl⟩
      refine pD (fun W R z9 => ?_) ?_
      ·refine qi (qk (2) qy rfl jm (by decide) rfl rfl ?_)
       exact ⟨rfl, rfl, rfl⟩
      refine pD (fun W R z9 => ?_) ?_
      ·rw [zA 2 (z9 2 rfl)]
       refine qi (qj jE rfl (Rd.own [] rfl rfl) ?_)
       exact ⟨rfl, rfl, rfl⟩
      refine pD (fun W R z9 => ?_) ?_
      ·rw [zA 3 (z9 3 rfl)]
       refine qi (qt 0 qS jl rfl rfl rfl (SlV.own [_, _] rfl) (by omega) rfl ?_)
       exact ⟨rfl, rfl, rfl⟩
      refine pD (fun W R z9 => ?_) ?_
      ·rw [zA 4 (z9 4 rfl)]
       refine qi (qu [ii ((os.getD 0 (0, [], [])).1), a4, a5] jW jl rfl rfl (Rd.slG [_, _] rfl 0 hq4 rfl) ?_)
       exact ⟨rfl, rfl, rfl⟩
      refine pD (fun W R z9 => ?_) ?_
      ·rw [zA 5 (z9 5 rfl)]
       refine qi (qs (s := 3) [ii ((os.getD 0 (0, [], [])).1), a4, a5] [ii (0), sN, sN] [(0, [ii ((os.getD 0 (0, [], [])).1), a4, a5])] qS jl jC rfl (by decide) rfl (.cons rfl CellsAre.nil) rfl ?_)
       intro v8 hv7
       exact ⟨rfl, hv7, rfl⟩
      exact stepsP.nil
     intro W hphi
     have f6 : ∃ b, (W 6) = .slice (some ⟨b, 0, none⟩) 1 1 := hphi 6 (by decide)
     generalize hu6 : W 6 = u7 at f6
     rw [eS (l := [(1, _), (6, u7)]) ⟨(hphi 1 (by decide)), hu6, ⟨⟩⟩]
     show XL _ _ _ _ _ _ _ (slH 206 3 u7 1 [ii ((os.getD 0 (0, [], [])).1), a4, a5] :: cellsH b2 [x1, x2, ov] 108 :: intsH 2 x2 (([0, 3] : List Int)) :: slH 206 3 ov m cs :: cellsH b1 [sN, sN, sN] 108 :: curH .i64 247 cb bsv bs.length :: L)
     refine cX (jT (m := 1) (bytes := 56) (cs := cs) [_, _, _] _ [ii ((os.getD 0 (0, [], [])).1), a4, a5] qS typeInfo206 rfl rfl rfl rfl rfl rfl rfl (SlV.own [] rfl) rfl (Rd.lit [] rfl) (qx rfl (qx (qI (RowsF.isSl ha3)) (qx (qI (qB ha4)) qX))) (by (try simp only [List.length_append, List.length_nil, List.length_cons, List.length_singleton]); omega) (by (try simp only [List.length_append, List.length_nil, List.length_cons, List.length_singleton]); omega) ?_)
     intro v9 hs8 hn2 hm1
     have hc10 := LinesC.snoc hC (y0 := (os.getD 0 (0, [], [])).1) (y1 := (os.getD 0 (0, [], [])).2.1) (y2 := (os.getD 0 (0, [], [])).2.2) ha3 ha4
     refine cX (qk (2) qy rfl jm (by decide) rfl rfl (cX (jw [_] _ [x1, x2, v9] jm rfl rfl (qI hs8) rfl rfl rfl (qc ?_))))
     exact ⟨(v9, os ++ [((os.getD 0 (0, [], [])).1, (os.getD 0 (0, [], [])).2.1, (os.getD 0 (0, [], [])).2.2)], cs ++ [ii ((os.getD 0 (0, [], [])).1), a4, a5], (m) + 1, F35), _, (qa leG1 le35), rF, ⟨rfl, rfl, rfl, ⟨⟩⟩, (sD (sC (sC (sC (sC (sC sR)))))), ⟨rfl, (qa leG1 le35), (hs8), (hc10), (by (try dsimp only); rw [List.length_append]; simp only [List.length_singleton]; omega), (by (try dsimp only); rw [List.length_append]; simp only [List.length_singleton]; omega), (linesW_app hw (lineW_at hw 0))⟩, (by (try dsimp only); rw [List.length_append]; simp only [List.length_singleton]; omega)⟩
    refine jg (qv (qv (qM (qd (qb (cX (qu [x1, x2, ov] jj qT rfl rfl (Rd.ownN [] rfl rfl) (cX (qV [_, _, _] _ [x1, x2, ov] qT rfl rfl rfl (qx (qI (qB hf1)) (qx (qI (qB hr2)) (qx (qI hov) qX))) rfl rfl rfl (qc (qY [_] _ _ rfl (fun F36 le36 hz14 => ?_))))))))))))
    replace hf1 := hf1.mono le36
    replace hC := hC.mono le36
    have hf14 : IntsF F36 x2 (([0, 3] : List Int)) := intsH.fz (xs := ([0, 3] : List Int)) hz14.fz
    refine qY [_] _ _ rfl (fun F37 le37 hz15 => ?_)
    replace hf1 := hf1.mono le37
    replace hC := hC.mono le37
    replace hf14 := hf14.mono le37
    have hf15 : LinesF F37 ov os := CO.fz hC (by first | rfl | omega | (rw [List.length_set]; omega) | (simp; done)) hz15.fz
    refine qw (qr (L' := curH .i64 247 cb bsv bs.length :: L) [.agg #[x1, x2, ov]] (.agg #[x1, x2, ov]) (.cell rfl (jH [x1, x2, ov] jj qT rfl (Rd.ownN [_] rfl rfl)) .nil) rfl (qa (qa (qa (qa (qa le2 le32) leG1) le35) le36) le37) rF (sD (sD (sC sR))) ?_)
    exact ⟨⟨_, _, _, _, _, rfl, hf1, hf14, hf15, by simp, by (try rw [List.length_set]); omega, by first | exact hw | exact linesS_W hr4 | exact linesW_set (linesS_W hr4) (lineW_at (linesS_W hr4) _) | exact linesW_set (linesS_W hr4) (lineW_drop (lineW_at (linesS_W hr4) _)) | exact linesW_set (linesS_W hr4) (lineW_body (lineW_at (linesS_W hr4) _) (by omega)) | exact linesW_set (linesS_W hr4) (lineW_pat (lineW_at (linesS_W hr4) _) (by decide))⟩, rfl⟩
   refine qz (qd (qb (cX (qu [x1, x2, x3] jj qT rfl rfl (Rd.ownN [] rfl rfl) (cX (qV [_, _, _] _ [x1, x2, x3] qT rfl rfl rfl (qx (qI (qB hf1)) (qx (qI (qB hr2)) (qx (qI (LinesF.isSl hr3)) qX))) rfl rfl rfl (qc (qY [_] _ _ rfl (fun F38 le38 hz16 => ?_)))))))))
   replace hf1 := hf1.mono le38
   have hf16 : IntsF F38 x2 (([0, 3] : List Int)) := intsH.fz (xs := ([0, 3] : List Int)) hz16.fz
   refine qY [_] _ _ rfl (fun F39 le39 hz17 => ?_)
   replace hf1 := hf1.mono le39
   replace hf16 := hf16.mono le39
   have hf17 : LinesF F39 x3 x4 := linesD.fz hz17.fz
   refine qw (qr (L' := curH .i64 247 cb bsv bs.length :: L) [.agg #[x1, x2, x3]] (.agg #[x1, x2, x3]) (.cell rfl (jH [x1, x2, x3] jj qT rfl (Rd.ownN [_] rfl rfl)) .nil) rfl (qa (qa le2 le38) le39) rF (sD (sD (sC sR))) ?_)
   exact ⟨⟨_, _, _, _, _, rfl, hf1, hf16, hf17, by simp, by (try rw [List.length_set]); omega, by first | exact hw | exact linesS_W hr4 | exact linesW_set (linesS_W hr4) (lineW_at (linesS_W hr4) _) | exact linesW_set (linesS_W hr4) (lineW_drop (lineW_at (linesS_W hr4) _)) | exact linesW_set (linesS_W hr4) (lineW_body (lineW_at (linesS_W hr4) _) (by omega)) | exact linesW_set (linesS_W hr4) (lineW_pat (lineW_at (linesS_W hr4) _) (by decide))⟩, rfl⟩
  refine qz (qd (qb (cX (qu [x1, x2, x3] jj qT rfl rfl (Rd.ownN [] rfl rfl) (cX (qV [_, _, _] _ [x1, x2, x3] qT rfl rfl rfl (qx (qI (qB hf1)) (qx (qI (qB hr2)) (qx (qI (LinesF.isSl hr3)) qX))) rfl rfl rfl (qc (qY [_] _ _ rfl (fun F40 le40 hz18 => ?_)))))))))
  replace hf1 := hf1.mono le40
  have hf18 : IntsF F40 x2 (([0, 3] : List Int)) := intsH.fz (xs := ([0, 3] : List Int)) hz18.fz
  refine qY [_] _ _ rfl (fun F41 le41 hz19 => ?_)
  replace hf1 := hf1.mono le41
  replace hf18 := hf18.mono le41
  have hf19 : LinesF F41 x3 x4 := linesD.fz hz19.fz
  refine qw (qr (L' := curH .i64 247 cb bsv bs.length :: L) [.agg #[x1, x2, x3]] (.agg #[x1, x2, x3]) (.cell rfl (jH [x1, x2, x3] jj qT rfl (Rd.ownN [_] rfl rfl)) .nil) rfl (qa (qa le2 le40) le41) rF (sD (sD (sC sR))) ?_)
  exact ⟨⟨_, _, _, _, _, rfl, hf1, hf18, hf19, by simp, by (try rw [List.length_set]); omega, by first | exact hw | exact linesS_W hr4 | exact linesW_set (linesS_W hr4) (lineW_at (linesS_W hr4) _) | exact linesW_set (linesS_W hr4) (lineW_drop (lineW_at (linesS_W hr4) _)) | exact linesW_set (linesS_W hr4) (lineW_body (lineW_at (linesS_W hr4) _) (by omega)) | exact linesW_set (linesS_W hr4) (lineW_pat (lineW_at (linesS_W hr4) _) (by decide))⟩, rfl⟩
 rw [Bool.not_eq_true] at h1
 refine qp (t := 9) rfl (vB h1) (qp (t := 9) rfl (vB h1) (qp (t := 9) rfl (vB h1) (qp (t := 9) rfl (vB h1) (cX (qN (.bool (false)) (vB h1) rfl (qc (jO rfl (qz (qd (qb (cX (qu [x1, x2, x3] jj qT rfl rfl (Rd.ownN [] rfl rfl) (cX (qV [_, _, _] _ [x1, x2, x3] qT rfl rfl rfl (qx (qI (qB hf1)) (qx (qI (qB hr2)) (qx (qI (LinesF.isSl hr3)) qX))) rfl rfl rfl ?_))))))))))))))
 refine qc (qY [_] _ _ rfl (fun F42 le42 hz20 => ?_))
 replace hf1 := hf1.mono le42
 have hf20 : IntsF F42 x2 (([0, 3] : List Int)) := intsH.fz (xs := ([0, 3] : List Int)) hz20.fz
 refine qY [_] _ _ rfl (fun F43 le43 hz21 => ?_)
 replace hf1 := hf1.mono le43
 replace hf20 := hf20.mono le43
 have hf21 : LinesF F43 x3 x4 := linesD.fz hz21.fz
 refine qw (qr (L' := curH .i64 247 cb bsv bs.length :: L) [.agg #[x1, x2, x3]] (.agg #[x1, x2, x3]) (.cell rfl (jH [x1, x2, x3] jj qT rfl (Rd.ownN [_] rfl rfl)) .nil) rfl (qa (qa le2 le42) le43) rF (sD (sD (sC sR))) ?_)
 exact ⟨⟨_, _, _, _, _, rfl, hf1, hf20, hf21, by simp, by (try rw [List.length_set]); omega, by first | exact hw | exact linesS_W hr4 | exact linesW_set (linesS_W hr4) (lineW_at (linesS_W hr4) _) | exact linesW_set (linesS_W hr4) (lineW_drop (lineW_at (linesS_W hr4) _)) | exact linesW_set (linesS_W hr4) (lineW_body (lineW_at (linesS_W hr4) _) (by omega)) | exact linesW_set (linesS_W hr4) (lineW_pat (lineW_at (linesS_W hr4) _) (by decide))⟩, rfl⟩

/- impl.RulesOf -/
set_option maxHeartbeats 1000000 in
set_option maxRecDepth 20000 in
theorem RulesOf_spec {F : FH} {L : List HP} {arv : Value} {ar : List Int} (har : IntsF F arv ar) {fsv : Value} {fs : List Int} (hfs : IntsF F fsv fs) {lsv : Value} {ls : List LineT} (hls : LinesF F lsv ls) (hsa : ar.length ≤ 4000000) (hlf : fs.length ≤ 4000000) (hll : ls.length ≤ 4000000) (hlb : ∀ i, i < ls.length → (ls.getD i (0, [], [])).2.1.length ≤ 4000000 ∧ (∀ j, j < (ls.getD i (0, [], [])).2.1.length → ((ls.getD i (0, [], [])).2.1.getD j []).length ≤ 4000000) ∧ (ls.getD i (0, [], [])).2.2.length ≤ 4000000) :
    Does prog 57 [.agg #[arv, fsv, lsv]] F (L) (fun v F' L' => ∃ (a : Value), ∃ (b : Value), (.tuple #[.agg #[a, b], .bool (frontB ar fs ls)] : Value) = v ∧ (IntsF F' a (if frontB ar fs ls = true then ar else [])) ∧ (PairsF F' b (if frontB ar fs ls = true then rulesOf ls else [])) ∧ L = L') := by
 refine qG func57 rfl rfl rfl (qd (qb (cX (jb [arv, fsv, lsv] rfl rfl ?_))))
 intro b1
 refine cX (jr [sN, sN] zeroValue39 rfl ?_)
 intro b2
 refine qh (.bool (false)) rfl (qc (qd (qd (qb (cX (qu [arv, fsv, lsv] jj qT rfl rfl (Rd.ownN [_] rfl rfl) (cX (qn (args := [.agg #[arv, fsv, lsv]]) call59 rfl (FrontOk_spec har hfs hls (hsa := (by first | assumption | rfl | omega | simp)) (hlf := (by first | assumption | rfl | omega | simp)) (hll := (by first | assumption | rfl | omega | simp)) (hlb := (by first | assumption | rfl | omega | simp))) ?_))))))))
 rintro _ _ _ _ ⟨rfl, rfl, rfl⟩
 refine cX (jt rfl (qc ?_))
 refine jF (t := !(frontB ar fs ls)) rfl (fun h1 => ?_) (fun h1 => ?_)
 ·have hfr := Bool.not_inj (y := false) h1
  refine qd (qb (cX (jv [sN, sN] [sN, sN] [(0, 1), (1, 1)] [] js zeroValue39 rfl (.cons rfl qJ (.cons rfl sizeOf37 PlacesAre.nil)) rfl CellsAre.nil (cX (qV [] _ [sN, sN] jK rfl rfl rfl (qx rfl (qx rfl qX)) rfl rfl rfl (qh (.bool (false)) rfl (qc (qw (ql (qr (L' := L) [.agg #[sN, sN], .bool (false)] (.tuple #[.agg #[sN, sN], .bool (false)]) (.cell rfl (jH [sN, sN] jU jK rfl (Rd.ownN [] rfl rfl)) (.tmp rfl .nil)) rfl rF rF (sD (sD sR)) ?_))))))))))
  exact ⟨_, _, by rw [hfr] <;> rfl, by rw [hfr]; exact IntsF.nilV, by rw [hfr]; exact SlOf.nilV, rfl⟩
 have hfr := Bool.not_inj (y := true) h1
 have hfi := front_iff.1 hfr
 have hsg := sigOk_spec hfi.1
 have hls8 := hfi.2.2.1
 have hln := fun (i : Nat) (hi : i < ls.length) => line_iff.1 ((all_getD_iff ((0, [], []) : LineT)).1 hfi.2.2.2 i hi)
 have hel9 : ∀ i, i < ls.length → termOk ar (leftL (ls.getD i (0, [], []))) = true ∧ (ls.getD i (0, [], [])).2.1.length ≤ 10 ∧ ∀ j, j < (ls.getD i (0, [], [])).2.1.length → ((ls.getD i (0, [], [])).2.1.getD j []).length ≤ 4000000 := fun i hi => ⟨(ruleOk_iff.1 (hln i hi).2.2.2.1).left, by have h9 := (hln i hi).2.1; have h8 := set_mem hfi.2.1 (hln i hi).1; have h7 := (hsg.2.2 (ls.getD i (0, [], [])).1.toNat (by omega)).2; omega, fun j hj => by have h9 := termOk_len ((hln i hi).2.2.1 j hj).1; omega⟩
 refine qz (qd (qb (cX (qk (0) qy rfl qJ (by decide) rfl rfl (cX (qk (0) ji rfl qA (by decide) rfl rfl (cX (qj qU rfl (Rd.own [_] rfl rfl) (cX (jD <| qn (args := [arv]) call96 rfl (Clone_spec har (hlt := (by first | omega | exact hbk (by omega)))) ?_))))))))))
 rintro v1 _ _ _ ⟨rfl, hs1, rfl⟩
 refine ⟨_, _, rfl, fun F1 le1 hz1 => ?_⟩
 replace har := har.mono le1
 replace hls := hls.mono le1
 have hf1 : IntsF F1 v1 ((ar)) := intsH.fz (xs := (ar)) hz1.fz
 refine cX (jv [v1] [sN] [(0, 1)] [(0, [v1])] ji zeroValue36 rfl (.cons rfl qA PlacesAre.nil) rfl (.cons (cells_one (qB hf1)) CellsAre.nil) (cX (jv [v1, sN] [sN, sN] [(0, 1), (1, 1)] [(0, [v1])] js zeroValue39 rfl (.cons rfl qJ (.cons rfl sizeOf37 PlacesAre.nil)) rfl (.cons rfl CellsAre.nil) (cX (jr [sN, sN] zeroValue39 rfl ?_)))))
 intro b3
 refine cX (qV [] _ [v1, sN] jK rfl rfl rfl (qx (qI (qB hf1)) (qx rfl qX)) rfl rfl rfl (qc (qd (qd (qb (cX (qk (2) qy rfl jm (by decide) rfl rfl (cX (qj jE rfl (Rd.own [_, _] rfl rfl) (cX (qE qS rfl hls.slv (qg (ii (0)) rfl (qc (qH (jn (α := Nat × Value × List (List Int × List Int) × List Value × Nat × FH) (fun xQ => [(2, ptr b2 0), (4, ptr b3 0), (18, lsv), (19, ii ((ls.length : Int))), (20, ii (((xQ.1 : Nat) : Int)))]) (fun xQ => slH 76 2 xQ.2.1 xQ.2.2.2.2.1 xQ.2.2.2.1 :: cellsH b3 [v1, xQ.2.1] 39 :: cellsH b2 [sN, sN] 39 :: cellsH b1 [arv, fsv, lsv] 108 :: L) (fun xQ F' => xQ.2.2.2.2.2 = F' ∧ F1 ≤ xQ.2.2.2.2.2 ∧ (IsSl xQ.2.1) ∧ (PairsC xQ.2.2.2.2.2 xQ.2.2.2.1 xQ.2.2.1) ∧ (xQ.2.2.2.2.1 = xQ.2.2.1.length) ∧ (xQ.1 ≤ ls.length) ∧ (xQ.2.2.1 = (rulesOf ls).take xQ.1) ∧ (xQ.2.2.1.length ≤ xQ.1)) (fun xQ => ls.length - xQ.1) (0, sN, [], [], 0, F1) ⟨rfl, rfl, rfl, rfl, rfl, ⟨⟩⟩ (jN (Sub.addNil 76 2 _ _) (sC (sC (sC (sC sR))))) ⟨rfl, FLe.refl _, (⟨_, _, _, rfl⟩), (CO.nil), (rfl), (by (try dsimp only) <;> omega), (rfl), (Nat.zero_le _)⟩ ?_)))))))))))))))
 rintro ⟨k, ov, os, cs, m, G1⟩ rE _ _ ⟨rfl, leG, hov, hC, hm, hk, hos, hol⟩
 show X _ _ _ _ (envs [(2, ptr b2 0), (4, ptr b3 0), (18, lsv), (19, ii ((ls.length : Int))), (20, ii ((k : Int)))] rE) _ (slH 76 2 ov m cs :: cellsH b3 [v1, ov] 39 :: cellsH b2 [sN, sN] 39 :: cellsH b1 [arv, fsv, lsv] 108 :: L)
 replace leG : F1 ≤ G1 := leG
 dsimp only at hov hC hm hk hos hol
 have hek := fun h : k < ls.length => hel9 k h
 have hbk := fun h : k < ls.length => (hlb k h).2.2
 have leG1 := leG
 replace har := har.mono leG1
 replace hls := hls.mono leG1
 replace hf1 := hf1.mono leG1
 refine qd (qb (cX (qQ rfl rfl (qc (qd ?_)))))
 refine qC (p := (k : Int) < (ls.length : Int)) rfl (fun h2 => ?_) (fun h2 => ?_)
 ·refine qz (qd (qH (qd (qb (cX (qt k qS jl rfl rfl rfl hls.slv (by omega) rfl ?_))))))
  obtain ⟨a1, a2, ha1, ha2, hrg1, hq1⟩ := hls.rd (i := k) (by omega)
  refine cX (qu [ii ((ls.getD k (0, [], [])).1), a1, a2] jW jl rfl rfl (Rd.all (hrg1 _)) (cX (jr [ii (0), sN, sN] jC rfl ?_)))
  intro b4
  refine cX (qV [] _ [ii ((ls.getD k (0, [], [])).1), a1, a2] jl rfl rfl rfl (qx rfl (qx (qI (RowsF.isSl ha1)) (qx (qI (qB ha2)) qX))) rfl rfl rfl (qc ?_))
  refine jM [cellsH b4 [ii ((ls.getD k (0, [], [])).1), a1, a2] 206, slH 76 2 ov m cs, cellsH b3 [v1, ov] 39, cellsH b2 [sN, sN] 39, cellsH b1 [arv, fsv, lsv] 108] L 9 [[], [], [], [], [], [], [], [3, 6], [3, 6]] [[], [0], [], [2], [], [4], [5], [3, 6], [3, 6, 7]] [] (phiG [pe (ptr b3 1), pe ov, pe (.agg #[ii ((ls.getD k (0, [], [])).1), a1, a2]), fun FF us v => ((v) : Value) = v ∧ (IntsF FF (v) (leftL (((ls.getD k (0, [], [])).1), ((ls.getD k (0, [], [])).2.1), ((ls.getD k (0, [], [])).2.2)))), pe (ptr b4 2), pe a2, fun FF us v => ((v) : Value) = v ∧ (IntsF FF (v) (((ls.getD k (0, [], [])).2.2))), fun FF us v => v = (.agg #[((us.getD 0 undef)), ((us.getD 1 undef))] : Value), fun FF us v => ∃ b, v = .slice (some ⟨b, 0, none⟩) 1 1]) (ownL [o0, o0, o0, o0, o0, o0, o0, o0, fun us v => [slH 76 2 v 1 [((us.getD 0 undef)), ((us.getD 1 undef))]]]) mixed rfl rfl (by kernel_rfl) (by kernel_rfl) (MonoG.get (m1 (m1 (m1 (mC (fun le h => ⟨h.1, h.2.mono le⟩) (m1 (m1 (mC (fun le h => ⟨h.1, h.2.mono le⟩) (mC (fun le h => h) (mC (fun le h => h) MonoG.nil)))))))))) ?_ ?_
  ·refine gD (fun W Fs R lF z9 => ?_) ?_
   ·refine qi (qk (1) js rfl sizeOf37 (by decide) rfl rfl ?_)
    exact ⟨rfl, rfl⟩
   refine gD (fun W Fs R lF z9 => ?_) ?_
   ·replace har := har.mono lF
    replace hf1 := hf1.mono lF
    replace hC := hC.mono lF
    replace ha1 := ha1.mono lF
    replace ha2 := ha2.mono lF
    rw [zA 0 (z9 0 rfl)]
    refine qi (qj isAgg37 rfl (Rd.own [_, _] rfl rfl) ?_)
    exact ⟨rfl, rfl⟩
   refine gD (fun W Fs R lF z9 => ?_) ?_
   ·replace har := har.mono lF
    replace hf1 := hf1.mono lF
    replace hC := hC.mono lF
    replace ha1 := ha1.mono lF
    replace ha2 := ha2.mono lF
    refine qi (qu [ii ((ls.getD k (0, [], [])).1), a1, a2] jW jl rfl rfl (Rd.ownN [] rfl rfl) ?_)
    exact ⟨rfl, rfl⟩
   refine gD (fun W Fs R lF z9 => ?_) ?_
   ·replace har := har.mono lF
    replace hf1 := hf1.mono lF
    replace hC := hC.mono lF
    replace ha1 := ha1.mono lF
    replace ha2 := ha2.mono lF
    rw [zA 2 (z9 2 rfl)]
    refine qi (qn (args := [.agg #[ii ((ls.getD k (0, [], [])).1), a1, a2]]) call145 rfl (left_spec ha1 ha2 (hpn := ((hek (by omega)).2.1)) (hpb := ((hek (by omega)).2.2))) ?_)
    rintro _ F3 _ le3 ⟨x2, rfl, hr2, rfl⟩
    replace har := har.mono le3
    replace hf1 := hf1.mono le3
    replace hC := hC.mono le3
    replace ha2 := ha2.mono le3
    exact ⟨⟨rfl, hr2⟩, rfl⟩
   refine gD (fun W Fs R lF z9 => ?_) ?_
   ·refine qi (qk (2) qR rfl qA (by decide) rfl rfl ?_)
    exact ⟨rfl, rfl⟩
   refine gD (fun W Fs R lF z9 => ?_) ?_
   ·replace har := har.mono lF
    replace hf1 := hf1.mono lF
    replace hC := hC.mono lF
    replace ha2 := ha2.mono lF
    rw [zA 4 (z9 4 rfl)]
    refine qi (qj qU rfl (Rd.own [] rfl rfl) ?_)
    exact ⟨rfl, rfl⟩
   refine gD (fun W Fs R lF z9 => ?_) ?_
   ·replace har := har.mono lF
    replace hf1 := hf1.mono lF
    replace hC := hC.mono lF
    replace ha2 := ha2.mono lF
    rw [zA 5 (z9 5 rfl)]
    refine qi (jD <| qn (args := [a2]) call96 rfl (Clone_spec ha2 (hlt := (by first | omega | exact hbk (by omega)))) ?_)
    rintro v4 _ _ _ ⟨rfl, hs3, rfl⟩
    refine ⟨_, _, rfl, fun F4 le4 hz2 => ?_⟩
    replace hf1 := hf1.mono le4
    replace hC := hC.mono le4
    have hf2 : IntsF F4 v4 ((((ls.getD k (0, [], [])).2.2))) := intsH.fz (xs := (((ls.getD k (0, [], [])).2.2))) hz2.fz
    exact ⟨⟨rfl, hf2⟩, rfl⟩
   refine gD (fun W Fs R lF z9 => ?_) ?_
   ·obtain ⟨e3, f3_1hr⟩ := z9 3 rfl
    obtain ⟨e6, f6_1ha⟩ := z9 6 rfl
    replace hf1 := hf1.mono lF
    replace hC := hC.mono lF
    rw [eS (l := [(3, ((W 3))), (6, ((W 6)))]) ⟨(e3).symm, (e6).symm, ⟨⟩⟩]
    refine qi (jv [((W 3)), ((W 6))] [sN, sN] [(0, 1), (1, 1)] [(0, [((W 3))]), (1, [((W 6))])] jy zeroValue76 rfl (.cons rfl qA (.cons rfl qA PlacesAre.nil)) rfl (.cons (cells_one (qB f3_1hr)) (.cons (cells_one (qB f6_1ha)) CellsAre.nil)) ?_)
    exact ⟨rfl, rfl⟩
   refine gD (fun W Fs R lF z9 => ?_) ?_
   ·obtain ⟨e3, f3_1hr⟩ := z9 3 rfl
    obtain ⟨e6, f6_1ha⟩ := z9 6 rfl
    have e7 : W 7 = (.agg #[((W 3)), ((W 6))] : Value) := z9 7 rfl
    replace hf1 := hf1.mono lF
    replace hC := hC.mono lF
    rw [eS (l := [(3, ((W 3))), (6, ((W 6))), (7, (.agg #[((W 3)), ((W 6))]))]) ⟨(e3).symm, (e6).symm, e7, ⟨⟩⟩]
    refine qi (qs (s := 2) [((W 3)), ((W 6))] [sN, sN] [(0, [((W 3)), ((W 6))])] jZ sizeOf76 zeroValue76 rfl (by decide) rfl (.cons rfl CellsAre.nil) rfl ?_)
    intro v5 hv2
    exact ⟨hv2, rfl⟩
   exact stepsG.nil
  intro W F5 le5 hphi
  obtain ⟨e3, f3_1hr⟩ := hphi 3 (by decide)
  obtain ⟨e6, f6_1ha⟩ := hphi 6 (by decide)
  have e7 : W 7 = (.agg #[((W 3)), ((W 6))] : Value) := hphi 7 (by decide)
  have f8 : ∃ b, (W 8) = .slice (some ⟨b, 0, none⟩) 1 1 := hphi 8 (by decide)
  generalize hu1 : ((W 3)) = u1 at e3 f3_1hr e6 f6_1ha e7 f8
  generalize hu2 : ((W 6)) = u2 at e3 f3_1hr e6 f6_1ha e7 f8
  generalize hu8 : W 8 = u3 at e3 f3_1hr e6 f6_1ha e7 f8
  rw [eS (l := [(1, _), (3, u1), (6, u2), (8, u3)]) ⟨(hphi 1 (by decide)), hu1, hu2, hu8, ⟨⟩⟩]
  replace hf1 := hf1.mono le5
  replace hC := hC.mono le5
  show XL _ _ _ _ _ _ _ (slH 76 2 u3 1 [u1, u2] :: cellsH b4 [ii ((ls.getD k (0, [], [])).1), a1, a2] 206 :: slH 76 2 ov m cs :: cellsH b3 [v1, ov] 39 :: cellsH b2 [sN, sN] 39 :: cellsH b1 [arv, fsv, lsv] 108 :: L)
  refine cX (jT (m := 1) (bytes := 48) (cs := cs) [_, _] _ [u1, u2] jZ typeInfo76 rfl rfl rfl rfl rfl rfl rfl (SlV.own [] rfl) rfl (Rd.lit [] rfl) (qx (qI (qB f3_1hr)) (qx (qI (qB f6_1ha)) qX)) (by (try simp only [List.length_append, List.length_nil, List.length_cons, List.length_singleton]); omega) (by (try simp only [List.length_append, List.length_nil, List.length_cons, List.length_singleton]); omega) ?_)
  intro v6 hs4 hn1 hm1
  have hc1 := PairsC.snoc hC f3_1hr f6_1ha
  refine cX (qk (1) js rfl sizeOf37 (by decide) rfl rfl (cX (jw [_, _, _] _ [v1, v6] sizeOf37 rfl rfl (qI hs4) rfl rfl rfl (qc (qb (cX (qK (((k + 1 : Nat) : Int)) rfl rfl (by omega) (by omega) (qg (ii (((k + 1 : Nat) : Int))) rfl (qc ?_)))))))))
  exact ⟨(k + 1, v6, os ++ [(leftL (((ls.getD k (0, [], [])).1), ((ls.getD k (0, [], [])).2.1), ((ls.getD k (0, [], [])).2.2)), (((ls.getD k (0, [], [])).2.2)))], cs ++ [u1, u2], (m) + 1, F5), _, (qa leG1 le5), rF, ⟨rfl, rfl, rfl, rfl, rfl, ⟨⟩⟩, (sD (sD (sC (sC (sC (sC sR)))))), ⟨rfl, (qa leG1 le5), (hs4), (hc1), (by (try dsimp only); rw [List.length_append]; simp only [List.length_singleton]; omega), (by (try dsimp only) <;> omega), (by (try dsimp only); rw [hos, take_succ_getD ([], []) (by rw [rules_len]; omega), rules_get (by omega)]), (by (try dsimp only); rw [List.length_append]; simp only [List.length_singleton]; omega)⟩, (by omega)⟩
 refine jg (qv (qv (qM (qd (qb (cX (qu [v1, ov] jU jK rfl rfl (Rd.ownN [_] rfl rfl) (cX (qV [_, _] _ [v1, ov] jK rfl rfl rfl (qx (qI (qB hf1)) (qx (qI hov) qX)) rfl rfl rfl (qh (.bool (true)) rfl (qc (qY [] _ _ rfl (fun F6 le6 hz3 => ?_)))))))))))))
 replace hf1 := hf1.mono le6
 replace hC := hC.mono le6
 have hf3 : PairsF F6 ov os := CO.fz hC (by first | rfl | omega | (rw [List.length_set]; omega) | (simp; done)) hz3.fz
 refine qw (qr (L' := L) [.agg #[v1, ov], .bool (true)] (.tuple #[.agg #[v1, ov], .bool (true)]) (.cell rfl (jH [v1, ov] jU jK rfl (Rd.ownN [_] rfl rfl)) (.tmp rfl .nil)) rfl (qa (qa le1 leG1) le6) rF (sD (sD (sD sR))) ?_)
 have e9 : os = rulesOf ls := by rw [hos, List.take_of_length_le (by rw [rules_len]; omega)]
 subst e9
 exact ⟨_, _, by rw [hfr] <;> rfl, by rw [hfr]; exact hf1, by rw [hfr]; exact hf3, rfl⟩

/- impl.ClashesOf -/
set_option maxHeartbeats 2000000 in
set_option maxRecDepth 20000 in
theorem ClashesOf_spec {F : FH} {L : List HP} {arv : Value} {ar : List Int} (har : IntsF F arv ar) {fsv : Value} {fs : List Int} (hfs : IntsF F fsv fs) {lsv : Value} {ls : List LineT} (hls : LinesF F lsv ls) (hsa : ar.length ≤ 4000000) (hlf : fs.length ≤ 4000000) (hll : ls.length ≤ 4000000) (hlb : ∀ i, i < ls.length → (ls.getD i (0, [], [])).2.1.length ≤ 4000000 ∧ (∀ j, j < (ls.getD i (0, [], [])).2.1.length → ((ls.getD i (0, [], [])).2.1.getD j []).length ≤ 4000000) ∧ (ls.getD i (0, [], [])).2.2.length ≤ 4000000) :
    Does prog 60 [.agg #[arv, fsv, lsv]] F (L) (fun v F' L' => ∃ (a : Value), ∃ (os : List (List Int)), (a : Value) = v ∧ (RowsF F' a os) ∧ (frontB ar fs ls = true → os = [] → ∀ a b, a < b → b < ls.length → NoC ar (leftL (ls.getD a (0, [], []))) (leftL (ls.getD b (0, [], [])))) ∧ (os.length ≤ 64) ∧ L = L') := by
 refine qG func60 rfl rfl rfl (qd (qb (cX (jb [arv, fsv, lsv] rfl rfl ?_))))
 intro b1
 refine qh (sN) rfl (qc (qd (qd (qb (cX (qu [arv, fsv, lsv] jj qT rfl rfl (Rd.ownN [] rfl rfl) (cX (qn (args := [.agg #[arv, fsv, lsv]]) call59 rfl (FrontOk_spec har hfs hls (hsa := (by first | assumption | rfl | omega | simp)) (hlf := (by first | assumption | rfl | omega | simp)) (hll := (by first | assumption | rfl | omega | simp)) (hlb := (by first | assumption | rfl | omega | simp))) ?_))))))))
 rintro _ _ _ _ ⟨rfl, rfl, rfl⟩
 refine cX (jt rfl (qc ?_))
 refine jF (t := !(frontB ar fs ls)) rfl (fun h1 => ?_) (fun h1 => ?_)
 ·have hfr := Bool.not_inj (y := false) h1
  refine qd (qb (qh (sN) rfl (qc (qw (ql (qr (L' := L) [sN] (sN) (.tmp rfl .nil) rfl rF rF (sD sR) ?_))))))
  exact ⟨_, [], rfl, SlOf.nilV, (fun h => by rw [hfr] at h; cases h), by simp, rfl⟩
 have hfr := Bool.not_inj (y := true) h1
 have hfi := front_iff.1 hfr
 have hsg := sigOk_spec hfi.1
 have hls8 := hfi.2.2.1
 have hln := fun (i : Nat) (hi : i < ls.length) => line_iff.1 ((all_getD_iff ((0, [], []) : LineT)).1 hfi.2.2.2 i hi)
 have hel9 : ∀ i, i < ls.length → termOk ar (leftL (ls.getD i (0, [], []))) = true ∧ (ls.getD i (0, [], [])).2.1.length ≤ 10 ∧ ∀ j, j < (ls.getD i (0, [], [])).2.1.length → ((ls.getD i (0, [], [])).2.1.getD j []).length ≤ 4000000 := fun i hi => ⟨(ruleOk_iff.1 (hln i hi).2.2.2.1).left, by have h9 := (hln i hi).2.1; have h8 := set_mem hfi.2.1 (hln i hi).1; have h7 := (hsg.2.2 (ls.getD i (0, [], [])).1.toNat (by omega)).2; omega, fun j hj => by have h9 := termOk_len ((hln i hi).2.2.1 j hj).1; omega⟩
 refine qz (qd (qb (qh (sN) rfl (qc (qd (qd (qb (cX (qk (2) qy rfl jm (by decide) rfl rfl (cX (qj jE rfl (Rd.own [] rfl rfl) (cX (qE qS rfl hls.slv (qg (ii (0)) rfl (qc (qH (jn (α := Nat × Value × List (List Int) × List Value × Nat × FH) (fun xQ => [(1, ptr b1 0), (3, xQ.2.1), (12, lsv), (13, ii ((ls.length : Int))), (14, ii (((xQ.1 : Nat) : Int)))]) (fun xQ => slH 22 1 xQ.2.1 xQ.2.2.2.2.1 xQ.2.2.2.1 :: cellsH b1 [arv, fsv, lsv] 108 :: L) (fun xQ F' => xQ.2.2.2.2.2 = F' ∧ F ≤ xQ.2.2.2.2.2 ∧ (IsSl xQ.2.1) ∧ (RowsC xQ.2.2.2.2.2 xQ.2.2.2.1 xQ.2.2.1) ∧ (xQ.2.2.2.2.1 = xQ.2.2.1.length) ∧ (xQ.1 ≤ ls.length) ∧ (xQ.2.2.1 = [] → ∀ a b, a < xQ.1 → a < b → b < ls.length → NoC ar (leftL (ls.getD a (0, [], []))) (leftL (ls.getD b (0, [], [])))) ∧ (xQ.2.2.1.length ≤ 8 * xQ.1)) (fun xQ => ls.length - xQ.1) (0, sN, [], [], 0, F) ⟨rfl, rfl, rfl, rfl, rfl, ⟨⟩⟩ (jN (Sub.addNil 22 1 _ _) (sC (sC sR))) ⟨rfl, FLe.refl _, (⟨_, _, _, rfl⟩), (CO.nil), (rfl), (by (try dsimp only) <;> omega), (fun _ a b h => absurd h (by omega)), (Nat.zero_le _)⟩ ?_)))))))))))))))))
 rintro ⟨i, ov, os, cs, m, G1⟩ rE _ _ ⟨rfl, leG, hov, hC, hm, hi, hno, hol⟩
 show X _ _ _ _ (envs [(1, ptr b1 0), (3, ov), (12, lsv), (13, ii ((ls.length : Int))), (14, ii ((i : Int)))] rE) _ (slH 22 1 ov m cs :: cellsH b1 [arv, fsv, lsv] 108 :: L)
 replace leG : F ≤ G1 := leG
 dsimp only at hov hC hm hi hno hol
 have hei := fun h : i < ls.length => hel9 i h
 have leG1 := leG
 replace har := har.mono leG1
 replace hls := hls.mono leG1
 refine qd (qb (cX (qQ rfl rfl (qc (qd ?_)))))
 refine qC (p := (i : Int) < (ls.length : Int)) rfl (fun h2 => ?_) (fun h2 => ?_)
 ·refine qz (qd (qH (qd (qb (qg (ii ((i : Int))) rfl (cX (qt i qS jl rfl rfl rfl hls.slv (by omega) rfl ?_)))))))
  obtain ⟨a1, a2, ha1, ha2, hrg1, hq1⟩ := hls.rd (i := i) (by omega)
  refine cX (qu [ii ((ls.getD i (0, [], [])).1), a1, a2] jW jl rfl rfl (Rd.all (hrg1 _)) (cX (jr [ii (0), sN, sN] jC rfl ?_)))
  intro b2
  refine qh (ii ((i : Int))) rfl (cX (qV [] _ [ii ((ls.getD i (0, [], [])).1), a1, a2] jl rfl rfl rfl (qx rfl (qx (qI (RowsF.isSl ha1)) (qx (qI (qB ha2)) qX))) rfl rfl rfl (qc (qd (qb (qg (ii ((i : Int))) rfl (cX (qK (((i + 1 : Nat) : Int)) rfl rfl (by omega) (by omega) (qh (ii (((i + 1 : Nat) : Int))) rfl (qc (qH (jn (α := Nat × Value × List (List Int) × List Value × Nat × FH) (fun xQ => [(1, ptr b1 0), (3, xQ.2.1), (4, ii ((i : Int))), (5, ptr b2 0), (6, ii (((xQ.1 : Nat) : Int))), (12, lsv), (13, ii ((ls.length : Int))), (14, ii ((i : Int)))]) (fun xQ => slH 22 1 xQ.2.1 xQ.2.2.2.2.1 xQ.2.2.2.1 :: cellsH b2 [ii ((ls.getD i (0, [], [])).1), a1, a2] 206 :: cellsH b1 [arv, fsv, lsv] 108 :: L) (fun xQ F' => xQ.2.2.2.2.2 = F' ∧ G1 ≤ xQ.2.2.2.2.2 ∧ (IsSl xQ.2.1) ∧ (RowsC xQ.2.2.2.2.2 xQ.2.2.2.1 xQ.2.2.1) ∧ (xQ.2.2.2.2.1 = xQ.2.2.1.length) ∧ (i < xQ.1 ∧ xQ.1 ≤ ls.length) ∧ (xQ.2.2.1 = [] → (∀ a b, a < i → a < b → b < ls.length → NoC ar (leftL (ls.getD a (0, [], []))) (leftL (ls.getD b (0, [], [])))) ∧ ∀ b, i < b → b < xQ.1 → NoC ar (leftL (ls.getD i (0, [], []))) (leftL (ls.getD b (0, [], [])))) ∧ (xQ.2.2.1.length + i ≤ 8 * i + xQ.1)) (fun xQ => ls.length - xQ.1) (i + 1, ov, os, cs, m, G1) ⟨rfl, rfl, rfl, rfl, rfl, rfl, rfl, rfl, ⟨⟩⟩ (jN (Sub.front (A := [_, _])) (jN (Sub.front (A := [_])) (jN (Sub.front (A := [_, _])) (sC (sC (sC sR)))))) ⟨rfl, FLe.refl _, (hov), (hC), (by (try dsimp only); omega), (by (try dsimp only) <;> omega), (fun e => ⟨hno e, fun b h1 h2 => absurd h2 (by omega)⟩), (by (try dsimp only); omega)⟩ ?_))))))))))))
  rintro ⟨j, ov2, os2, cs2, m2, G2⟩ rE _ _ ⟨rfl, leG, hov2, hC2, hm2, hj, hno2, hol2⟩
  show X _ _ _ _ (envs [(1, ptr b1 0), (3, ov2), (4, ii ((i : Int))), (5, ptr b2 0), (6, ii ((j : Int))), (12, lsv), (13, ii ((ls.length : Int))), (14, ii ((i : Int)))] rE) _ (slH 22 1 ov2 m2 cs2 :: cellsH b2 [ii ((ls.getD i (0, [], [])).1), a1, a2] 206 :: cellsH b1 [arv, fsv, lsv] 108 :: L)
  replace leG : G1 ≤ G2 := leG
  dsimp only at hov2 hC2 hm2 hj hno2 hol2
  have hej := fun h : j < ls.length => hel9 j h
  have leG2 := leG
  replace har := har.mono leG2
  replace hls := hls.mono leG2
  replace hC := hC.mono leG2
  replace ha1 := ha1.mono leG2
  replace ha2 := ha2.mono leG2
  refine qd (qd (qb (qg (ii ((j : Int))) rfl (cX (qk (2) qy rfl jm (by decide) rfl rfl (cX (qj jE rfl (Rd.own [_, _] rfl rfl) (cX (qE qS rfl hls.slv (cX (qQ rfl rfl (qc ?_))))))))))))
  refine qC (p := (j : Int) < (ls.length : Int)) rfl (fun h3 => ?_) (fun h3 => ?_)
  ·refine qz (qd (qH (qd (qb (cX (qk (0) qy rfl qJ (by decide) rfl rfl (cX (qu [arv] jf qJ rfl rfl (Rd.ownN [_, _] rfl rfl) (cX (jv [arv, sN, sN, sN, sN, sN, sN, sN, sN, sN, sN, sN, sN, sN, sN, sN, sN, sN, sN, sN, sN, sN, sN, sN, sN, sN, sN, sN, sN, sN, sN, sN, sN, sN, sN, sN, sN, sN, sN, sN, sN, sN, sN, sN, sN, sN, sN, sN, sN] [sN, sN, sN, sN, sN, sN, sN, sN, sN, sN, sN, sN, sN, sN, sN, sN, sN, sN, sN, sN, sN, sN, sN, sN, sN, sN, sN, sN, sN, sN, sN, sN, sN, sN, sN, sN, sN, sN, sN, sN, sN, sN, sN, sN, sN, sN, sN, sN, sN] [(0, 1), (1, 48)] [(0, [arv])] jL zeroValue221 rfl (.cons rfl qJ (.cons rfl sizeOf219 PlacesAre.nil)) rfl (.cons rfl CellsAre.nil) (cX (jb [arv, sN, sN, sN, sN, sN, sN, sN, sN, sN, sN, sN, sN, sN, sN, sN, sN, sN, sN, sN, sN, sN, sN, sN, sN, sN, sN, sN, sN, sN, sN, sN, sN, sN, sN, sN, sN, sN, sN, sN, sN, sN, sN, sN, sN, sN, sN, sN, sN] rfl rfl ?_))))))))))))
   intro b3
   refine qh (ptr b3 0) rfl ?_
   have hc1 : BindC G2 _ _ := BindC.nils 48
   show XL _ _ _ _ _ _ _ (cellsH b3 (arv :: ((List.replicate 48 (sN)))) 221 :: slH 22 1 ov2 m2 cs2 :: cellsH b2 [ii ((ls.getD i (0, [], [])).1), a1, a2] 206 :: cellsH b1 [arv, fsv, lsv] 108 :: L)
   skip
   refine qc (qd ?_)
   obtain ⟨a3, a4, ha3, ha4, hrg2, hq2⟩ := hls.rd (i := j) (by omega)
   refine jM [cellsH b3 (arv :: ((List.replicate 48 (sN)))) 221, slH 22 1 ov2 m2 cs2, cellsH b2 [ii ((ls.getD i (0, [], [])).1), a1, a2] 206, cellsH b1 [arv, fsv, lsv] 108] L 10 [] [[], [], [1], [], [3], [], [4, 5], [6], [7], [8]] [] (phiG [pe (ptr b3 0), pe (.agg #[ii ((ls.getD i (0, [], [])).1), a1, a2]), fun FF us v => ((v) : Value) = v ∧ (IntsF FF (v) (leftL (((ls.getD i (0, [], [])).1), ((ls.getD i (0, [], [])).2.1), ((ls.getD i (0, [], [])).2.2)))), pe (ptr b1 2), pe lsv, pe (ii ((j : Int)) : Value), pe (.pointer (some (elemA lsv (j * 3)))), pe (.agg #[ii ((ls.getD j (0, [], [])).1), a3, a4]), fun FF us v => ((v) : Value) = v ∧ (IntsF FF (v) (leftL (((ls.getD j (0, [], [])).1), ((ls.getD j (0, [], [])).2.1), ((ls.getD j (0, [], [])).2.2)))), fun FF us v => ((v) : Value) = v ∧ (IntsF FF (v) (awayL (leftL (((ls.getD j (0, [], [])).1), ((ls.getD j (0, [], [])).2.1), ((ls.getD j (0, [], [])).2.2)))))]) (ownL []) mixed rfl rfl (by kernel_rfl) (by kernel_rfl) (MonoG.get (m1 (m1 (mC (fun le h => ⟨h.1, h.2.mono le⟩) (m1 (m1 (m1 (m1 (m1 (mC (fun le h => ⟨h.1, h.2.mono le⟩) (mC (fun le h => ⟨h.1, h.2.mono le⟩) MonoG.nil))))))))))) ?_ ?_
   ·refine gD (fun W Fs R lF z9 => ?_) ?_
    ·refine qi (qm (ptr b3 0) rfl ?_)
     exact ⟨rfl, rfl⟩
    refine gD (fun W Fs R lF z9 => ?_) ?_
    ·replace har := har.mono lF
     replace hls := hls.mono lF
     replace hC := hC.mono lF
     replace ha1 := ha1.mono lF
     replace ha2 := ha2.mono lF
     replace hC2 := hC2.mono lF
     replace hc1 := hc1.mono lF
     replace ha3 := ha3.mono lF
     replace ha4 := ha4.mono lF
     replace hrg2 := fun L9 j9 u9 h9 => Rd.mono (hrg2 L9 j9 u9 h9) lF
     refine qi (qu [ii ((ls.getD i (0, [], [])).1), a1, a2] jW jl rfl rfl (Rd.ownN [_, _] rfl rfl) ?_)
     exact ⟨rfl, rfl⟩
    refine gD (fun W Fs R lF z9 => ?_) ?_
    ·replace har := har.mono lF
     replace hls := hls.mono lF
     replace hC := hC.mono lF
     replace ha1 := ha1.mono lF
     replace ha2 := ha2.mono lF
     replace hC2 := hC2.mono lF
     replace hc1 := hc1.mono lF
     replace ha3 := ha3.mono lF
     replace ha4 := ha4.mono lF
     replace hrg2 := fun L9 j9 u9 h9 => Rd.mono (hrg2 L9 j9 u9 h9) lF
     rw [zA 1 (z9 1 rfl)]
     refine qi (qn (args := [.agg #[ii ((ls.getD i (0, [], [])).1), a1, a2]]) call145 rfl (left_spec ha1 ha2 (hpn := (by first | exact (hei (by omega)).2.1 | exact (hej (by omega)).2.1)) (hpb := (by first | exact (hei (by omega)).2.2 | exact (hej (by omega)).2.2))) ?_)
     rintro _ F3 _ le3 ⟨x3, rfl, hr3, rfl⟩
     replace har := har.mono le3
     replace hls := hls.mono le3
     replace hC := hC.mono le3
     replace hC2 := hC2.mono le3
     replace hc1 := hc1.mono le3
     replace ha3 := ha3.mono le3
     replace ha4 := ha4.mono le3
     replace hrg2 := fun L9 j9 u9 h9 => Rd.mono (hrg2 L9 j9 u9 h9) le3
     exact ⟨⟨rfl, hr3⟩, rfl⟩
    refine gD (fun W Fs R lF z9 => ?_) ?_
    ·refine qi (qk (2) qy rfl jm (by decide) rfl rfl ?_)
     exact ⟨rfl, rfl⟩
    refine gD (fun W Fs R lF z9 => ?_) ?_
    ·replace har := har.mono lF
     replace hls := hls.mono lF
     replace hC := hC.mono lF
     replace hC2 := hC2.mono lF
     replace hc1 := hc1.mono lF
     replace ha3 := ha3.mono lF
     replace ha4 := ha4.mono lF
     replace hrg2 := fun L9 j9 u9 h9 => Rd.mono (hrg2 L9 j9 u9 h9) lF
     rw [zA 3 (z9 3 rfl)]
     refine qi (qj jE rfl (Rd.own [_, _, _] rfl rfl) ?_)
     exact ⟨rfl, rfl⟩
    refine gD (fun W Fs R lF z9 => ?_) ?_
    ·refine qi (qm (ii ((j : Int))) rfl ?_)
     exact ⟨rfl, rfl⟩
    refine gD (fun W Fs R lF z9 => ?_) ?_
    ·replace har := har.mono lF
     replace hls := hls.mono lF
     replace hC := hC.mono lF
     replace hC2 := hC2.mono lF
     replace hc1 := hc1.mono lF
     replace ha3 := ha3.mono lF
     replace ha4 := ha4.mono lF
     replace hrg2 := fun L9 j9 u9 h9 => Rd.mono (hrg2 L9 j9 u9 h9) lF
     rw [zB 4 5 (z9 4 rfl) (z9 5 rfl)]
     refine qi (qt j qS jl rfl rfl rfl hls.slv (by omega) rfl ?_)
     exact ⟨rfl, rfl⟩
    refine gD (fun W Fs R lF z9 => ?_) ?_
    ·replace har := har.mono lF
     replace hC := hC.mono lF
     replace hC2 := hC2.mono lF
     replace hc1 := hc1.mono lF
     replace ha3 := ha3.mono lF
     replace ha4 := ha4.mono lF
     replace hrg2 := fun L9 j9 u9 h9 => Rd.mono (hrg2 L9 j9 u9 h9) lF
     rw [zA 6 (z9 6 rfl)]
     refine qi (qu [ii ((ls.getD j (0, [], [])).1), a3, a4] jW jl rfl rfl (Rd.all (hrg2 _)) ?_)
     exact ⟨rfl, rfl⟩
    refine gD (fun W Fs R lF z9 => ?_) ?_
    ·replace har := har.mono lF
     replace hC := hC.mono lF
     replace hC2 := hC2.mono lF
     replace hc1 := hc1.mono lF
     replace ha3 := ha3.mono lF
     replace ha4 := ha4.mono lF
     rw [zA 7 (z9 7 rfl)]
     refine qi (qn (args := [.agg #[ii ((ls.getD j (0, [], [])).1), a3, a4]]) call145 rfl (left_spec ha3 ha4 (hpn := (by first | exact (hei (by omega)).2.1 | exact (hej (by omega)).2.1)) (hpb := (by first | exact (hei (by omega)).2.2 | exact (hej (by omega)).2.2))) ?_)
     rintro _ F4 _ le4 ⟨x4, rfl, hr4, rfl⟩
     replace har := har.mono le4
     replace hC := hC.mono le4
     replace hC2 := hC2.mono le4
     replace hc1 := hc1.mono le4
     exact ⟨⟨rfl, hr4⟩, rfl⟩
    refine gD (fun W Fs R lF z9 => ?_) ?_
    ·obtain ⟨e8, f8_1hr⟩ := z9 8 rfl
     replace har := har.mono lF
     replace hC := hC.mono lF
     replace hC2 := hC2.mono lF
     replace hc1 := hc1.mono lF
     rw [eS (l := [(8, ((W 8)))]) ⟨(e8).symm, ⟨⟩⟩]
     refine qi (jD <| qn (args := [((W 8))]) call163 rfl (away_spec f8_1hr (hlt := (Nat.le_trans (termOk_len (hej (by omega)).1).2 (by decide))) (htg := (fun q hq => Int.le_trans (by decide) (termOk_ge (hej (by omega)).1 hq)))) ?_)
     rintro v2 _ _ _ ⟨rfl, hs2, rfl⟩
     refine ⟨_, _, rfl, fun F5 le5 hz1 => ?_⟩
     replace har := har.mono le5
     replace hC := hC.mono le5
     replace hC2 := hC2.mono le5
     replace hc1 := hc1.mono le5
     replace f8_1hr := f8_1hr.mono le5
     have hf1 : IntsF F5 v2 ((awayL (leftL (((ls.getD j (0, [], [])).1), ((ls.getD j (0, [], [])).2.1), ((ls.getD j (0, [], [])).2.2))))) := intsH.fz (xs := (awayL (leftL (((ls.getD j (0, [], [])).1), ((ls.getD j (0, [], [])).2.1), ((ls.getD j (0, [], [])).2.2))))) hz1.fz
     exact ⟨⟨rfl, hf1⟩, rfl⟩
    exact stepsG.nil
   intro W F6 le6 hphi
   obtain ⟨e2, f2_1hr⟩ := hphi 2 (by decide)
   obtain ⟨e8, f8_1hr⟩ := hphi 8 (by decide)
   obtain ⟨e9, f9_1ha⟩ := hphi 9 (by decide)
   generalize hu1 : ((W 2)) = u1 at e2 f2_1hr e8 f8_1hr e9 f9_1ha
   generalize hu2 : ((W 8)) = u2 at e2 f2_1hr e8 f8_1hr e9 f9_1ha
   generalize hu3 : ((W 9)) = u3 at e2 f2_1hr e8 f8_1hr e9 f9_1ha
   rw [eS (l := [(0, _), (2, u1), (9, u3)]) ⟨(hphi 0 (by decide)), hu1, hu3, ⟨⟩⟩]
   replace har := har.mono le6
   replace hC := hC.mono le6
   replace hC2 := hC2.mono le6
   replace hc1 := hc1.mono le6
   show XL _ _ _ _ _ _ _ (cellsH b3 (arv :: ((List.replicate 48 (sN)))) 221 :: slH 22 1 ov2 m2 cs2 :: cellsH b2 [ii ((ls.getD i (0, [], [])).1), a1, a2] 206 :: cellsH b1 [arv, fsv, lsv] 108 :: L)
   refine cX (qn (args := [ptr b3 0, u1, u3]) call162 rfl (solve_spec har hc1 BOk.nils f2_1hr f9_1ha (termW_of (hei (by omega)).1) (away_W (hej (by omega)).1) (by first | assumption | exact notNil_of_pos f2_1hr (by first | (show 0 < (leftL _).length; simp [leftL]) | (rw [away_len]; simp [leftL]))) (by first | assumption | exact notNil_of_pos f9_1ha (by first | (show 0 < (leftL _).length; simp [leftL]) | (rw [away_len]; simp [leftL])))) ?_)
   rintro _ F7 _ le7 ⟨ok9, b4, l1, rfl, hb1, hy1, hn1, rfl⟩
   cases ok9
   ·replace har := har.mono le7
    replace hC := hC.mono le7
    replace hC2 := hC2.mono le7
    refine qc (jO rfl (qz (qb (qg (ii ((j : Int))) rfl (cX (qK (((j + 1 : Nat) : Int)) rfl rfl (by omega) (by omega) (qh (ii (((j + 1 : Nat) : Int))) rfl (qc ?_))))))))
    exact ⟨(j + 1, ov2, os2, cs2, m2, F7), _, (qa (qa leG2 le6) le7), rF, ⟨rfl, rfl, rfl, rfl, rfl, rfl, rfl, rfl, ⟨⟩⟩, (sD (sC (sC (sC sR)))), ⟨rfl, (qa (qa leG2 le6) le7), (hov2), (hC2), (by (try dsimp only); (try simp only [List.length_append, List.length_singleton]); omega), (by (try dsimp only) <;> omega), ((fun e => ⟨(hno2 e).1, fun b h1 h2 => (Nat.lt_or_ge b j).elim (fun h => (hno2 e).2 b h1 h) (fun h => by obtain rfl : b = j := (by omega); exact nils_no (hn1 rfl))⟩)), (by (try dsimp only); (try simp only [List.length_append, List.length_singleton]); omega)⟩, (by omega)⟩
   replace har := har.mono le7
   replace hC := hC.mono le7
   replace hC2 := hC2.mono le7
   refine qc (jA rfl (qb (qg (ov2) rfl (qg (ii ((i : Int))) rfl (qg (ii ((j : Int))) rfl (cX (qs (s := 1) [ii ((i : Int)), ii ((j : Int))] [ii (0)] [(0, [ii ((i : Int))]), (1, [ii ((j : Int))])] qf qq qL rfl (by decide) rfl (.cons rfl (.cons rfl CellsAre.nil)) rfl ?_)))))))
   intro v3 hv1
   refine cX (qs (s := 1) [v3] [sN] [(0, [v3])] qF qA jI rfl (by decide) rfl (.cons (cells_one (jo hv1)) CellsAre.nil) rfl ?_)
   intro v4 hv2
   show XL _ _ _ _ _ _ _ (slH 22 1 v4 1 [v3] :: intsH 2 v3 ([(i : Int), (j : Int)] : List Int) :: cellsH b3 (arv :: b4) 221 :: slH 22 1 ov2 m2 cs2 :: cellsH b2 [ii ((ls.getD i (0, [], [])).1), a1, a2] 206 :: cellsH b1 [arv, fsv, lsv] 108 :: L)
   refine ja [_] _ _ rfl (fun F8 le8 hz2 => ?_)
   replace hC := hC.mono le8
   replace hC2 := hC2.mono le8
   have hf2 : IntsF F8 v3 ([(i : Int), (j : Int)]) := intsH.fz (xs := [(i : Int), (j : Int)]) hz2.fz
   refine cX (jT (m := 1) (bytes := 24) (cs := cs2) [_, _] _ [v3] qF typeInfo22 rfl rfl rfl rfl rfl rfl rfl (SlV.own [] rfl) rfl (Rd.lit [] rfl) (qx (qI (qB hf2)) qX) (by (try simp only [List.length_append, List.length_nil, List.length_cons, List.length_singleton]); omega) (by (try simp only [List.length_append, List.length_nil, List.length_cons, List.length_singleton]); omega) ?_)
   intro v5 hs3 hn2 hm1
   have hc2 := RowsC.snoc hC2 hf2
   refine qh (v5) rfl (qc (qb (qg (ii ((j : Int))) rfl (cX (qK (((j + 1 : Nat) : Int)) rfl rfl (by omega) (by omega) (qh (ii (((j + 1 : Nat) : Int))) rfl (qc ?_)))))))
   exact ⟨(j + 1, v5, os2 ++ [[(i : Int), (j : Int)]], cs2 ++ [v3], (m2) + 1, F8), _, (qa (qa (qa leG2 le6) le7) le8), rF, ⟨rfl, rfl, rfl, rfl, rfl, rfl, rfl, rfl, ⟨⟩⟩, (sD (sD (sC (sC (sC sR))))), ⟨rfl, (qa (qa (qa leG2 le6) le7) le8), (hs3), (hc2), (by (try dsimp only); (try simp only [List.length_append, List.length_singleton]); omega), (by (try dsimp only) <;> omega), ((fun e => by simp at e)), (by (try dsimp only); (try simp only [List.length_append, List.length_singleton]); omega)⟩, (by omega)⟩
  refine jg (qv (qv (qM (qb (cX (qK (((i + 1 : Nat) : Int)) rfl rfl (by omega) (by omega) (qg (ii (((i + 1 : Nat) : Int))) rfl (qc ?_))))))))
  exact ⟨(i + 1, ov2, os2, cs2, m2, G2), _, (qa leG1 leG2), rF, ⟨rfl, rfl, rfl, rfl, rfl, ⟨⟩⟩, (sC (sD (sC sR))), ⟨rfl, (qa leG1 leG2), (hov2), (hC2), (by (try dsimp only); omega), (by (try dsimp only) <;> omega), ((fun e a b ha hab hb => (Nat.lt_or_ge a i).elim (fun h => (hno2 e).1 a b h hab hb) (fun h => by obtain rfl : a = i := (by omega); exact (hno2 e).2 b hab (by omega)))), (by (try dsimp only); omega)⟩, (by omega)⟩
 refine jg (qv (qv (qM (qd (qb (qg (ov) rfl (qh (ov) rfl (qc (qY [] _ _ rfl (fun F9 le9 hz3 => ?_))))))))))
 replace hC := hC.mono le9
 have hf3 : RowsF F9 ov os := CO.fz hC (by first | rfl | omega | (rw [List.length_set]; omega) | (simp; done)) hz3.fz
 refine qw (qr (L' := L) [ov] (ov) (.tmp rfl .nil) rfl (qa leG1 le9) rF (sD sR) ?_)
 exact ⟨_, _, rfl, hf3, (fun _ e a b hab hb => hno e a b (by omega) hab hb), by omega, rfl⟩

/- laws.big -/
theorem big_spec {F : FH} {L : List HP} {bsv : Value} {bs : List Int} (hbs : BytesF F bsv bs) :
    Does prog 26 [bsv] F (L) (fun v F' L' => (.bool (decide ((bs.length : Int) > 4096)) : Value) = v ∧ F = F' ∧ L = L') := by
 refine qG func26 rfl rfl rfl (qd (qb (qh (.bool (false)) rfl (qc (qd (qb (qg (bsv) rfl (cX (qE runUnderlying60 rfl hbs.slv (cX (jG rfl rfl (qh (.bool (decide (((bs.length : Int) : Int) > 4096))) rfl (qc (qw (qr (L' := L) [.bool (decide (((bs.length : Int) : Int) > 4096))] (.bool (decide (((bs.length : Int) : Int) > 4096))) (.tmp rfl .nil) rfl rF rF sR ?_)))))))))))))))
 exact ⟨rfl, rfl, rfl⟩


/- spec.l26DrawGround -/
theorem l26DrawGround_spec {F : FH} {L : List HP} {cb : Nat} {bsv : Value} {bs : List Int} (hbs : BytesF F bsv bs) (hbl : bs.length ≤ 4000000) {arv : Value} {ar : List Int} (har : IntsF F arv ar) {fsv : Value} {fs : List Int} (hfs : IntsF F fsv fs) {lv : Value} (hlv : IsSl lv) (hso : sigOk ar = true) :
    Does prog 138 [ptr cb 0, .agg #[arv, fsv, lv]] F (curH .i64 247 cb bsv bs.length :: L) (fun v F' L' => (∃ (a : Value), (a : Value) = v ∧ (SomesF F' a (fun u => u.length ≤ 2000))) ∧ curH .i64 247 cb bsv bs.length :: L = L') := by
 refine qG func138 rfl rfl rfl ?_
 have hsl := sigOk_spec hso
 refine qd (qb (cX (jb [arv, fsv, lv] rfl rfl ?_)))
 intro b1
 refine qh (sN) rfl (qc (qd (qd (qb (qg (ptr cb 0) rfl (cX (qn (args := [ptr cb 0, ii (12)]) call102 rfl (jq [_] (l1Once_spec (n := 12) hbs (by omega) (hn := (by first | assumption | rfl | omega | simp)))) ?_)))))))
 rintro _ _ _ _ ⟨⟨rfl, x1, rfl⟩, rfl⟩
 show XL _ _ _ _ _ _ _ (cellsH b1 [arv, fsv, lv] 108 :: curH .i64 247 cb bsv bs.length :: L)
 refine qc ?_
 refine jF (t := x1) rfl (fun h1 => ?_) (fun h1 => ?_)
 ·refine qd (qb (qg (ptr cb 0) rfl (cX (qk (0) qy rfl qJ (by decide) rfl rfl (cX (qu [arv] jf qJ rfl rfl (Rd.ownN [] rfl rfl) (cX (qn (args := [ptr cb 0, .agg #[arv]]) call251 rfl (jq [_] (l1DrawAny_spec hbs (by omega) har (hal := (by first | assumption | rfl | omega | simp)))) ?_))))))))
  rintro _ F2 _ le2 ⟨⟨x2, rfl, hr1⟩, rfl⟩
  obtain ⟨t1, hr1, q1⟩ := hr1
  replace hbs := hbs.mono le2
  replace har := har.mono le2
  show XL _ _ _ _ _ _ _ (cellsH b1 [arv, fsv, lv] 108 :: curH .i64 247 cb bsv bs.length :: L)
  refine qh (x2) rfl (qc (qw (ql (qr (L' := curH .i64 247 cb bsv bs.length :: L) [x2] (x2) (.tmp rfl .nil) rfl le2 rF (sD (sC sR)) ?_))))
  exact ⟨⟨_, rfl, ⟨_, hr1, by omega⟩⟩, rfl⟩
 refine qz (qd ?_)
 refine jM [cellsH b1 [arv, fsv, lv] 108, curH .i64 247 cb bsv bs.length] L 6 [[], [], [], [], [], [4]] [[], [], [1], [], [3], [4]] [] (phiG [pe (ptr cb 0), pe (ptr b1 0), pe (.agg #[arv]), pe (ptr cb 0), fun FF us v => (ii (((intAt v))) : Value) = v ∧ (0 ≤ ((intAt v)) ∧ (((intAt v)) < 3 ∨ ((intAt v)) = 0)), fun FF us v => v = (ii (2 + (((intAt (us.getD 0 undef))))) : Value)]) (ownL []) mixed rfl rfl (by kernel_rfl) (by kernel_rfl) (MonoG.get (m1 (m1 (m1 (m1 (mC (fun le h => ⟨h.1, h.2⟩) (mC (fun le h => h) MonoG.nil))))))) ?_ ?_
 ·refine gD (fun W Fs R lF z9 => ?_) ?_
  ·refine qi (qm (ptr cb 0) rfl ?_)
   exact ⟨rfl, rfl⟩
  refine gD (fun W Fs R lF z9 => ?_) ?_
  ·refine qi (qk (0) qy rfl qJ (by decide) rfl rfl ?_)
   exact ⟨rfl, rfl⟩
  refine gD (fun W Fs R lF z9 => ?_) ?_
  ·replace hbs := hbs.mono lF
   replace har := har.mono lF
   rw [zA 1 (z9 1 rfl)]
   refine qi (qu [arv] jf qJ rfl rfl (Rd.ownN [] rfl rfl) ?_)
   exact ⟨rfl, rfl⟩
  refine gD (fun W Fs R lF z9 => ?_) ?_
  ·refine qi (qm (ptr cb 0) rfl ?_)
   exact ⟨rfl, rfl⟩
  refine gD (fun W Fs R lF z9 => ?_) ?_
  ·replace hbs := hbs.mono lF
   replace har := har.mono lF
   rw [zA 3 (z9 3 rfl)]
   refine qi (qn (args := [ptr cb 0, ii (3)]) yb rfl (jq [_] (l1Below_spec (n := 3) hbs (by omega) (hn := (by first | assumption | rfl | omega | simp)))) ?_)
   rintro _ _ _ _ ⟨⟨rfl, x4, rfl, hr3⟩, rfl⟩
   exact ⟨⟨rfl, hr3⟩, rfl⟩
  refine gD (fun W Fs R lF z9 => ?_) ?_
  ·obtain ⟨e4, f4_1hx⟩ := z9 4 rfl
   rw [eS (l := [(4, (ii (((intAt (W 4))))))]) ⟨(e4).symm, ⟨⟩⟩]
   refine qi (qK (2 + (((intAt (W 4))))) rfl rfl (by omega) (by omega) ?_)
   exact ⟨rfl, rfl⟩
  exact stepsG.nil
 intro W F5 le5 hphi
 obtain ⟨e4, f4_1hx⟩ := hphi 4 (by decide)
 have e5 : W 5 = (ii (2 + (((intAt (W 4))))) : Value) := hphi 5 (by decide)
 generalize hu1 : (intAt (W 4)) = u1 at e4 f4_1hx e5
 rw [eS (l := [(0, _), (2, _), (4, (ii ((u1)))), (5, (ii (2 + ((u1)))))]) ⟨(hphi 0 (by decide)), (hphi 2 (by decide)), (e4).symm, e5, ⟨⟩⟩]
 replace hbs := hbs.mono le5
 replace har := har.mono le5
 show XL _ _ _ _ _ _ _ (cellsH b1 [arv, fsv, lv] 108 :: curH .i64 247 cb bsv bs.length :: L)
 refine cX (qn (args := [ptr cb 0, .agg #[arv], ii (((2 + ((u1))).toNat : Nat) : Int), ii (0)]) call252 (by rw [show (((2 + ((u1))).toNat : Nat) : Int) = 2 + ((u1)) from by omega]; rfl) (Does.atO [_] (l1DrawTerm_spec ((2 + ((u1))).toNat) (vs := 0) hbs (by omega) har (hso := (by first | assumption | rfl | omega | simp)) (hdp := (by first | assumption | rfl | omega | simp)) (hvs := (by first | assumption | rfl | omega | simp)))) ?_)
 rintro _ F6 _ le6 ⟨x6, ⟨rfl, hsl1⟩, rfl⟩
 show XL _ _ _ _ _ _ _ (drawnH 2 x6 (fun t => goodT ar t ∧ 1 ≤ t.length ∧ t.length ≤ szT ((2 + ((u1))).toNat)) :: cellsH b1 [arv, fsv, lv] 108 :: curH .i64 247 cb bsv bs.length :: L)
 refine XL.undraw [] rfl (fun t2 hq9 => ?_)
 obtain ⟨q2, q3, q4⟩ := hq9
 show XL _ _ _ _ _ _ _ (intsH 2 x6 t2 :: cellsH b1 [arv, fsv, lv] 108 :: curH .i64 247 cb bsv bs.length :: L)
 have hz9 := szT_le (d := (2 + ((u1))).toNat) (e := 4) (by omega)
 have hz8 : szT 4 = 121 := rfl
 refine qh (x6) rfl (qc (qY [] _ _ rfl (fun F7 le7 hz1 => ?_)))
 have hf1 : IntsF F7 x6 t2 := intsH.fz (xs := t2) hz1.fz
 refine qw (qr (L' := curH .i64 247 cb bsv bs.length :: L) [x6] (x6) (.tmp rfl .nil) rfl (qa (qa le5 le6) le7) rF (sD (sC sR)) ?_)
 exact ⟨⟨_, rfl, ⟨_, hf1, by omega⟩⟩, rfl⟩

/- spec.DrawCallBy -/
theorem DrawCallBy_spec {F : FH} {L : List HP} {bsv : Value} {bs : List Int} (hbs : BytesF F bsv bs) (hbl : bs.length ≤ 4000000) :
    Does prog 54 [bsv] F (L) (fun v F' L' => ∃ (a : Value), ∃ (b : Value), ∃ (c : Value), ∃ (d : Value), ∃ (fs : List Int), ∃ (ls : List LineT), ∃ (t : List Int), ∃ (n : Int), (.tuple #[.agg #[a, b, c], d, ii (n)] : Value) = v ∧ (IntsF F' a ([2, 1, 0, 2] : List Int)) ∧ (IntsF F' b fs) ∧ (LinesF F' c ls) ∧ (IntsF F' d t) ∧ (fs.length ≤ 3) ∧ (ls.length ≤ 9) ∧ (linesW ls = true) ∧ (t.length ≤ 2000) ∧ L = L') := by
 refine qG func54 rfl rfl rfl (qd (qb (cX (jr [sN, sN, sN] zeroValue108 rfl ?_))))
 intro b1
 refine qh (sN) rfl (qh (ii (0)) rfl (qc (qd (qb (qg (bsv) rfl (cX (qn (args := [bsv]) call92 rfl (l1New_spec hbs (by omega)) ?_)))))))
 rintro _ _ _ _ ⟨cb1, rfl, rfl, rfl⟩
 show XL _ _ _ _ _ _ _ (curH .i64 247 cb1 bsv bs.length :: cellsH b1 [sN, sN, sN] 108 :: L)
 refine qh (ptr cb1 0) rfl (qc (qd (qb (qg (ptr cb1 0) rfl (cX (qn (args := [ptr cb1 0]) call137 rfl (jq [] (l26DrawAny_spec hbs (by omega))) ?_))))))
 rintro _ F1 _ le1 ⟨⟨x1, x2, x3, x4, x5, rfl, hr1, hr2, hr3, hr4, hr5, hr6⟩, rfl⟩
 replace hbs := hbs.mono le1
 show XL _ _ _ _ _ _ _ (curH .i64 247 cb1 bsv bs.length :: cellsH b1 [sN, sN, sN] 108 :: L)
 refine cX (jr [sN, sN, sN] zeroValue108 rfl ?_)
 intro b2
 refine cX (qV [] _ [x1, x2, x3] qT rfl rfl rfl (qx (qI (qB hr1)) (qx (qI (qB hr2)) (qx (qI (LinesF.isSl hr3)) qX))) rfl rfl rfl (qc (qd (qb (qg (ptr cb1 0) rfl (cX (qu [x1, x2, x3] jj qT rfl rfl (Rd.ownN [] rfl rfl) (cX (qn (args := [ptr cb1 0, .agg #[x1, x2, x3]]) call138 rfl (jq [_] (l26DrawGround_spec hbs (by omega) hr1 hr2 ((LinesF.isSl hr3)) (hso := (by decide)))) ?_)))))))))
 rintro _ F2 _ le2 ⟨⟨x6, rfl, hr7⟩, rfl⟩
 obtain ⟨t1, hr7, q1⟩ := hr7
 replace hbs := hbs.mono le2
 replace hr1 := hr1.mono le2
 replace hr2 := hr2.mono le2
 replace hr3 := hr3.mono le2
 show XL _ _ _ _ _ _ _ (cellsH b2 [x1, x2, x3] 108 :: curH .i64 247 cb1 bsv bs.length :: cellsH b1 [sN, sN, sN] 108 :: L)
 refine qh (x6) rfl (qc (qd (X.weaken (Sub.front (A := [_, _])) ?_)))
 show X _ _ _ _ _ _ (cellsH b1 [sN, sN, sN] 108 :: cellsH b2 [x1, x2, x3] 108 :: curH .i64 247 cb1 bsv bs.length :: L)
 refine X.drawH [cellsH b2 [x1, x2, x3] 108, curH .i64 247 cb1 bsv bs.length] L 5 [] [[], [], [], [2], [0]] [] (phiG [pe (.agg #[x1, x2, x3]), pe x6, pe (ptr cb1 0), fun FF us v => (ii (((intAt v))) : Value) = v, fun FF us v => True]) (ownL [o0, o0, o0, o0, fun us v => [cellsH b1 [x1, x2, x3] 108]]) (fun i => ([[], [], [], [], [cellsH b1 [sN, sN, sN] 108]] : List (List HP)).getD i []) mixed rfl rfl (by kernel_rfl) (by kernel_rfl) (MonoG.get (m1 (m1 (m1 (mC (fun le h => h) (mC (fun le h => h) MonoG.nil)))))) ?_ ?_
 ·refine tD (fun W Fs R lF z9 => ?_) ?_
  ·replace hbs := hbs.mono lF
   replace hr1 := hr1.mono lF
   replace hr2 := hr2.mono lF
   replace hr3 := hr3.mono lF
   replace hr7 := hr7.mono lF
   refine qi (qu [x1, x2, x3] jj qT rfl rfl (Rd.ownN [] rfl rfl) ?_)
   exact ⟨rfl, rfl⟩
  refine tD (fun W Fs R lF z9 => ?_) ?_
  ·refine qi (qm (x6) rfl ?_)
   exact ⟨rfl, rfl⟩
  refine tD (fun W Fs R lF z9 => ?_) ?_
  ·refine qi (qm (ptr cb1 0) rfl ?_)
   exact ⟨rfl, rfl⟩
  refine tD (fun W Fs R lF z9 => ?_) ?_
  ·replace hbs := hbs.mono lF
   replace hr1 := hr1.mono lF
   replace hr2 := hr2.mono lF
   replace hr3 := hr3.mono lF
   replace hr7 := hr7.mono lF
   rw [zA 2 (z9 2 rfl)]
   refine qi (qn (args := [ptr cb1 0]) call139 rfl (jq [_] (l8DrawFuel_spec hbs (by omega))) ?_)
   rintro _ _ _ _ ⟨⟨rfl, x8, rfl⟩, rfl⟩
   exact ⟨rfl, rfl⟩
  refine tD (fun W Fs R lF z9 => ?_) ?_
  ·replace hbs := hbs.mono lF
   replace hr1 := hr1.mono lF
   replace hr2 := hr2.mono lF
   replace hr3 := hr3.mono lF
   replace hr7 := hr7.mono lF
   rw [zA 0 (z9 0 rfl)]
   show XG _ _ _ _ _ (cellsH b1 [sN, sN, sN] 108 :: ([cellsH b2 [x1, x2, x3] 108, curH .i64 247 cb1 bsv bs.length] ++ R)) _
   refine qi (qV [] _ [x1, x2, x3] qT rfl rfl rfl (qx (qI (qB hr1)) (qx (qI (qB hr2)) (qx (qI (LinesF.isSl hr3)) qX))) rfl rfl rfl ?_)
   exact ⟨trivial, rfl⟩
  exact stepsT.nil
 intro W F5 le5 hphi
 have e3 : (ii (((intAt (W 3)))) : Value) = (W 3) := hphi 3 (by decide)
 generalize hu1 : (intAt (W 3)) = u1 at e3
 rw [eS (l := [(1, _), (3, (ii ((u1))))]) ⟨(hphi 1 (by decide)), (e3).symm, ⟨⟩⟩]
 replace hr1 := hr1.mono le5
 replace hr2 := hr2.mono le5
 replace hr3 := hr3.mono le5
 replace hr7 := hr7.mono le5
 show XL _ _ _ _ _ _ _ (cellsH b1 [x1, x2, x3] 108 :: cellsH b2 [x1, x2, x3] 108 :: curH .i64 247 cb1 bsv bs.length :: L)
 refine qh (x6) rfl (qh (ii ((u1))) rfl (qc (qw (qr (L' := L) [.agg #[x1, x2, x3], x6, ii ((u1))] (.tuple #[.agg #[x1, x2, x3], x6, ii ((u1))]) (.cell rfl (jH [x1, x2, x3] jj qT rfl (Rd.ownN [] rfl rfl)) (.tmp rfl (.tmp rfl .nil))) rfl (qa (qa le1 le2) le5) rF (sD (sD (sD sR))) ?_))))
 exact ⟨_, _, _, _, _, _, _, _, rfl, hr1, hr2, hr3, hr7, hr4, hr5, hr6, by omega, rfl⟩

/- laws.FnCalls -/
set_option maxRecDepth 20000 in
theorem FnCalls_does {F : FH} {L : List HP} {bsv : Value} {bs : List Int} (hbs : BytesF F bsv bs) (hlb : bs.length ≤ 9223372036854775807) :
    Does prog 8 [bsv] F (L) (fun v F' L' => (.bool (true) : Value) = v ∧ F = F' ∧ L = L') := by
 refine qG func8 rfl rfl rfl (qd (qb (qh (.bool (false)) rfl (qc (qd (qd (qb (qg (bsv) rfl (cX (qn (args := [bsv]) call26 rfl (big_spec hbs) ?_))))))))))
 rintro _ _ _ _ ⟨rfl, rfl, rfl⟩
 refine qc ?_
 refine qC (p := (bs.length : Int) > 4096) rfl (fun h1 => ?_) (fun h1 => ?_)
 ·refine qd (qb (qh (.bool (true)) rfl (qc (qw (ql (qr (L' := L) [.bool (true)] (.bool (true)) (.tmp rfl .nil) rfl rF rF sR ?_))))))
  exact ⟨(vB ((by first | rfl | exact (decide_eq_true (call_none hfr)).symm | exact (decide_eq_true hlaw).symm))), rfl, rfl⟩
 have hbl2 : bs.length ≤ 4000000 := by omega
 refine qz (qd (qb (qg (bsv) rfl (cX (qn (args := [bsv]) call54 rfl (DrawCallBy_spec hbs (hbl := (by first | assumption | rfl | omega | simp))) ?_)))))
 rintro _ F1 _ le1 ⟨x1, x2, x3, x4, x5, x6, x7, x8, rfl, hr1, hr2, hr3, hr4, hr5, hr6, hr7, hr8, rfl⟩
 have hlb := linesW_bounds hr7
 have htl9 : x7.length ≤ 2000 := hr8
 have hcl9 := call_len (ar := ([2, 1, 0, 2] : List Int)) (fs := x5) (ls := x6) (n := x8) htl9
 refine qg (.tuple #[.agg #[x1, x2, x3], x4, ii (x8)]) rfl (cX (jd (.agg #[x1, x2, x3]) rfl rfl (cX (jd (x4) rfl rfl (cX (jd (ii (x8)) rfl rfl (cX (jr [sN, sN, sN] zeroValue108 rfl ?_))))))))
 intro b1
 refine cX (qV [] _ [x1, x2, x3] qT rfl rfl rfl (qx (qI (qB hr1)) (qx (qI (qB hr2)) (qx (qI (LinesF.isSl hr3)) qX))) rfl rfl rfl (qh (x4) rfl (qh (ii (x8)) rfl (qc (qd (qb (cX (qu [x1, x2, x3] jj qT rfl rfl (Rd.ownN [] rfl rfl) (qg (x4) rfl (qg (ii (x8)) rfl (cX (qn (args := [.agg #[x1, x2, x3], x4, ii (x8)]) call55 rfl (CallBy_spec (n := x8) hr1 hr2 hr3 hr4 (hsa := (by first | assumption | rfl | omega | simp)) (hlf := (by first | assumption | rfl | omega | simp)) (hll := (by first | assumption | rfl | omega | simp)) (hlb := (by first | assumption | rfl | omega | simp)) (hlt := (by first | assumption | rfl | omega | simp))) ?_))))))))))))
 rintro _ F2 _ le2 ⟨x9, rfl, hr9, hr10, rfl⟩
 replace hr1 := hr1.mono le2
 replace hr2 := hr2.mono le2
 replace hr3 := hr3.mono le2
 replace hr4 := hr4.mono le2
 refine qg (.tuple #[x9, ii ((callL (([2, 1, 0, 2] : List Int)) x5 x6 x7 x8).2)]) rfl (cX (jd (x9) rfl rfl (cX (jd (ii ((callL (([2, 1, 0, 2] : List Int)) x5 x6 x7 x8).2)) rfl rfl (qh (x9) rfl (qh (ii ((callL (([2, 1, 0, 2] : List Int)) x5 x6 x7 x8).2)) rfl (qc (qd (qb (cX (qu [x1, x2, x3] jj qT rfl rfl (Rd.ownN [] rfl rfl) (qg (x4) rfl (qg (ii (x8)) rfl (cX (qn (args := [.agg #[x1, x2, x3], x4, ii (x8)]) call56 rfl (sCallBy_spec (n := x8) hr1 hr2 hr3 hr4 (hla := (by first | assumption | rfl | omega | simp)) (hlf := (by first | assumption | rfl | omega | simp)) (hll := (by first | assumption | rfl | omega | simp)) (hlb := (by first | assumption | rfl | omega | simp)) (hlt := (by first | assumption | rfl | omega | simp))) ?_)))))))))))))))
 rintro _ F3 _ le3 ⟨x10, rfl, hr11, rfl⟩
 replace hr1 := hr1.mono le3
 replace hr2 := hr2.mono le3
 replace hr3 := hr3.mono le3
 replace hr4 := hr4.mono le3
 replace hr9 := hr9.mono le3
 refine qg (.tuple #[x10, ii ((callL (([2, 1, 0, 2] : List Int)) x5 x6 x7 x8).2)]) rfl (cX (jd (x10) rfl rfl (cX (jd (ii ((callL (([2, 1, 0, 2] : List Int)) x5 x6 x7 x8).2)) rfl rfl (qh (x10) rfl (qh (ii ((callL (([2, 1, 0, 2] : List Int)) x5 x6 x7 x8).2)) rfl (qc (qd (qb (cX (qu [x1, x2, x3] jj qT rfl rfl (Rd.ownN [] rfl rfl) (cX (qn (args := [.agg #[x1, x2, x3]]) call57 rfl (RulesOf_spec hr1 hr2 hr3 (hsa := (by first | assumption | rfl | omega | simp)) (hlf := (by first | assumption | rfl | omega | simp)) (hll := (by first | assumption | rfl | omega | simp)) (hlb := (by first | assumption | rfl | omega | simp))) ?_)))))))))))))
 rintro _ F4 _ le4 ⟨x11, x12, rfl, hr12, hr13, rfl⟩
 replace hr1 := hr1.mono le4
 replace hr2 := hr2.mono le4
 replace hr3 := hr3.mono le4
 replace hr4 := hr4.mono le4
 replace hr9 := hr9.mono le4
 replace hr11 := hr11.mono le4
 refine qg (.tuple #[.agg #[x11, x12], .bool (frontB (([2, 1, 0, 2] : List Int)) x5 x6)]) rfl (cX (jd (.agg #[x11, x12]) rfl rfl (cX (jd (.bool (frontB (([2, 1, 0, 2] : List Int)) x5 x6)) rfl rfl (cX (jr [sN, sN] zeroValue39 rfl ?_))))))
 intro b2
 refine cX (qV [] _ [x11, x12] jK rfl rfl rfl (qx (qI (qB hr12)) (qx (qI (PairsF.isSl hr13)) qX)) rfl rfl rfl (qh (.bool (frontB (([2, 1, 0, 2] : List Int)) x5 x6)) rfl (qc (qd (qd (qb (qg (ii ((callL (([2, 1, 0, 2] : List Int)) x5 x6 x7 x8).2)) rfl (qg (ii ((callL (([2, 1, 0, 2] : List Int)) x5 x6 x7 x8).2)) rfl (cX (XOp.neq rfl rfl (qg (.bool (decide (((callL (([2, 1, 0, 2] : List Int)) x5 x6 x7 x8).2 : Int) ≠ (callL (([2, 1, 0, 2] : List Int)) x5 x6 x7 x8).2))) rfl ?_)))))))))))
 by_cases h2 : ((callL (([2, 1, 0, 2] : List Int)) x5 x6 x7 x8).2 : Int) ≠ (callL (([2, 1, 0, 2] : List Int)) x5 x6 x7 x8).2
 ·exact absurd rfl h2
 refine qo (t := 44) rfl (vF h2) (qm (x9) rfl (qo (t := 44) rfl (vF h2) (qm (x10) rfl (qo (t := 44) rfl (vF h2) (qn (args := [x9, x10]) call32 rfl (SameTerm_spec hr9 hr11 (hbd := (by first | assumption | rfl | omega | (left; simp; done) | (right; simp; done)))) ?_)))))
 rintro _ _ _ _ ⟨rfl, rfl, rfl⟩
 refine qo (t := 44) rfl (vF h2) (jY rfl (cX (qN (.bool (decide (¬(((callL (([2, 1, 0, 2] : List Int)) x5 x6 x7 x8).1) = ((callL (([2, 1, 0, 2] : List Int)) x5 x6 x7 x8).1))))) (vF h2) rfl (qg (.bool (decide (¬(((callL (([2, 1, 0, 2] : List Int)) x5 x6 x7 x8).1) = ((callL (([2, 1, 0, 2] : List Int)) x5 x6 x7 x8).1))))) rfl ?_))))
 by_cases h3 : ¬(((callL (([2, 1, 0, 2] : List Int)) x5 x6 x7 x8).1) = ((callL (([2, 1, 0, 2] : List Int)) x5 x6 x7 x8).1))
 ·exact absurd rfl h3
 refine qo (t := 50) rfl (vF h3) (qm (.bool (frontB (([2, 1, 0, 2] : List Int)) x5 x6)) rfl (qo (t := 50) rfl (vF h3) (qu [x1, x2, x3] jj qT rfl rfl (Rd.ownN [_] rfl rfl) (qo (t := 50) rfl (vF h3) (qn (args := [.agg #[x1, x2, x3]]) call58 rfl (sFrontOk_spec hr1 hr2 hr3 (hla := (by first | assumption | rfl | omega | simp)) (hlf := (by first | assumption | rfl | omega | simp)) (hll := (by first | assumption | rfl | omega | simp)) (hlb := (by first | assumption | rfl | omega | simp))) ?_)))))
 rintro _ _ _ _ ⟨rfl, rfl, rfl⟩
 refine qo (t := 50) rfl (vF h3) (XOp.neB (a := frontB (([2, 1, 0, 2] : List Int)) x5 x6) (b := frontB (([2, 1, 0, 2] : List Int)) x5 x6) runUnderlying4 rfl rfl (cX (qN (.bool (decide ((frontB (([2, 1, 0, 2] : List Int)) x5 x6) ≠ (frontB (([2, 1, 0, 2] : List Int)) x5 x6)))) (vF h3) rfl (qg (.bool (decide ((frontB (([2, 1, 0, 2] : List Int)) x5 x6) ≠ (frontB (([2, 1, 0, 2] : List Int)) x5 x6)))) rfl ?_))))
 by_cases h4 : (frontB (([2, 1, 0, 2] : List Int)) x5 x6) ≠ (frontB (([2, 1, 0, 2] : List Int)) x5 x6)
 ·exact absurd rfl h4
 refine qo (t := 56) rfl (vF h4) (qu [x1, x2, x3] jj qT rfl rfl (Rd.ownN [_] rfl rfl) (qo (t := 56) rfl (vF h4) (qn (args := [.agg #[x1, x2, x3]]) call59 rfl (FrontOk_spec hr1 hr2 hr3 (hsa := (by first | assumption | rfl | omega | simp)) (hlf := (by first | assumption | rfl | omega | simp)) (hll := (by first | assumption | rfl | omega | simp)) (hlb := (by first | assumption | rfl | omega | simp))) ?_)))
 rintro _ _ _ _ ⟨rfl, rfl, rfl⟩
 refine qo (t := 56) rfl (vF h4) (qm (.bool (frontB (([2, 1, 0, 2] : List Int)) x5 x6)) rfl (qo (t := 56) rfl (vF h4) (XOp.neB (a := frontB (([2, 1, 0, 2] : List Int)) x5 x6) (b := frontB (([2, 1, 0, 2] : List Int)) x5 x6) runUnderlying4 rfl rfl (cX (qN (.bool (decide ((frontB (([2, 1, 0, 2] : List Int)) x5 x6) ≠ (frontB (([2, 1, 0, 2] : List Int)) x5 x6)))) (vF h4) rfl (qc (jO (vF h4) (qz (qd (qd (qb (qg (.bool (frontB (([2, 1, 0, 2] : List Int)) x5 x6)) rfl (cX (jt rfl (qg (.bool (!(frontB (([2, 1, 0, 2] : List Int)) x5 x6))) rfl ?_)))))))))))))))
 by_cases h5 : (!(frontB (([2, 1, 0, 2] : List Int)) x5 x6)) = true
 ·have hfr := Bool.not_inj (y := false) h5
  refine qp (t := 64) rfl (vB h5) (qp (t := 64) rfl (vB h5) (cX (qO (.bool (true)) (vB h5) rfl (qg (.bool (true)) rfl (qp (t := 68) rfl rfl (qp (t := 68) rfl rfl (qp (t := 68) rfl rfl (qp (t := 68) rfl rfl (cX (qO (.bool (true)) rfl rfl (qc ?_)))))))))))
  refine jA rfl (qd (qb (qg (.bool (frontB (([2, 1, 0, 2] : List Int)) x5 x6)) rfl (qg (.bool (frontB (([2, 1, 0, 2] : List Int)) x5 x6)) rfl ?_))))
  by_cases h6 : (frontB (([2, 1, 0, 2] : List Int)) x5 x6) = true
  ·exact absurd (hfr.symm.trans h6) (by decide)
  rw [Bool.not_eq_true] at h6
  refine qo (t := 75) rfl (vB h6) (qm (ii ((callL (([2, 1, 0, 2] : List Int)) x5 x6 x7 x8).2)) rfl (qo (t := 75) rfl (vB h6) (ju rfl rfl (cX (qN (.bool (decide (((callL (([2, 1, 0, 2] : List Int)) x5 x6 x7 x8).2 : Int) = -1))) (vB h6) rfl (qh (.bool (decide (((callL (([2, 1, 0, 2] : List Int)) x5 x6 x7 x8).2 : Int) = -1))) rfl (qc (qw (ql (qr (L' := L) [.bool (decide (((callL (([2, 1, 0, 2] : List Int)) x5 x6 x7 x8).2 : Int) = -1))] (.bool (decide (((callL (([2, 1, 0, 2] : List Int)) x5 x6 x7 x8).2 : Int) = -1))) (.tmp rfl .nil) rfl rF (qa (qa (qa le1 le2) le3) le4) (sD (sD sR)) ?_))))))))))
  exact ⟨(vB ((by first | rfl | exact (decide_eq_true (call_none hfr)).symm | exact (decide_eq_true hlaw).symm))), rfl, rfl⟩
 rw [Bool.not_eq_true] at h5
 have hfr := Bool.not_inj (y := true) h5
 refine qo (t := 64) rfl (vB h5) (qm (ii ((callL (([2, 1, 0, 2] : List Int)) x5 x6 x7 x8).2)) rfl (qo (t := 64) rfl (vB h5) (XOp.neq rfl rfl (cX (qN (.bool (decide (((callL (([2, 1, 0, 2] : List Int)) x5 x6 x7 x8).2 : Int) ≠ 0))) (vB h5) rfl (qg (.bool (decide (((callL (([2, 1, 0, 2] : List Int)) x5 x6 x7 x8).2 : Int) ≠ 0))) rfl ?_))))))
 by_cases h7 : ((callL (([2, 1, 0, 2] : List Int)) x5 x6 x7 x8).2 : Int) ≠ 0
 ·refine qp (t := 68) rfl (vT h7) (qp (t := 68) rfl (vT h7) (qp (t := 68) rfl (vT h7) (qp (t := 68) rfl (vT h7) (cX (qO (.bool (true)) (vT h7) rfl (qc (jA rfl (qd (qb (qg (.bool (frontB (([2, 1, 0, 2] : List Int)) x5 x6)) rfl (qg (.bool (frontB (([2, 1, 0, 2] : List Int)) x5 x6)) rfl ?_)))))))))))
  by_cases h8 : (frontB (([2, 1, 0, 2] : List Int)) x5 x6) = true
  ·refine qp (t := 75) rfl (vB h8) (qp (t := 75) rfl (vB h8) (cX (qO (.bool (true)) (vB h8) rfl (qh (.bool (true)) rfl (qc (qw (ql (qr (L' := L) [.bool (true)] (.bool (true)) (.tmp rfl .nil) rfl rF (qa (qa (qa le1 le2) le3) le4) (sD (sD sR)) ?_))))))))
   exact ⟨(vB ((by first | rfl | exact (decide_eq_true (call_none hfr)).symm | exact (decide_eq_true hlaw).symm))), rfl, rfl⟩
  rw [Bool.not_eq_true] at h8
  exact absurd (hfr.symm.trans h8) (by decide)
 have hd9 := Classical.not_not.1 h7
 refine qo (t := 68) rfl (vF h7) (qu [x1, x2, x3] jj qT rfl rfl (Rd.ownN [_] rfl rfl) (qo (t := 68) rfl (vF h7) (qn (args := [.agg #[x1, x2, x3]]) call60 rfl (ClashesOf_spec hr1 hr2 hr3 (hsa := (by first | assumption | rfl | omega | simp)) (hlf := (by first | assumption | rfl | omega | simp)) (hll := (by first | assumption | rfl | omega | simp)) (hlb := (by first | assumption | rfl | omega | simp))) ?_)))
 rintro _ F5 _ le5 ⟨x13, x14, rfl, hr14, hr15, hr16, rfl⟩
 replace hr4 := hr4.mono le5
 replace hr9 := hr9.mono le5
 replace hr12 := hr12.mono le5
 replace hr13 := hr13.mono le5
 refine qo (t := 68) rfl (vF h7) (qE qF rfl hr14.slv (qo (t := 68) rfl (vF h7) (jG rfl rfl (cX (qN (.bool (decide (((x14.length : Int) : Int) > 0))) (vF h7) rfl (qc ?_))))))
 refine qC (p := ((x14.length : Int) : Int) > 0) rfl (fun h9 => ?_) (fun h9 => ?_)
 ·refine qd (qb (qg (.bool (frontB (([2, 1, 0, 2] : List Int)) x5 x6)) rfl (qg (.bool (frontB (([2, 1, 0, 2] : List Int)) x5 x6)) rfl ?_)))
  by_cases h10 : (frontB (([2, 1, 0, 2] : List Int)) x5 x6) = true
  ·refine qp (t := 75) rfl (vB h10) (qp (t := 75) rfl (vB h10) (cX (qO (.bool (true)) (vB h10) rfl (qh (.bool (true)) rfl (qc (qw (ql (qr (L' := L) [.bool (true)] (.bool (true)) (.tmp rfl .nil) rfl rF (qa (qa (qa (qa le1 le2) le3) le4) le5) (sD (sD sR)) ?_))))))))
   exact ⟨(vB ((by first | rfl | exact (decide_eq_true (call_none hfr)).symm | exact (decide_eq_true hlaw).symm))), rfl, rfl⟩
  rw [Bool.not_eq_true] at h10
  exact absurd (hfr.symm.trans h10) (by decide)
 have hno := hr15 hfr (List.eq_nil_of_length_eq_zero (by omega))
 refine qz (qd (qb (cX (qu [x11, x12] jU jK rfl rfl (Rd.ownN [] rfl rfl) (qg (x4) rfl (cX (qn (args := [.agg #[x11, x12], x4, ii (1), ii (60)]) call61 rfl (sNormalBy_spec (st := 1) (n := 60) hr12 hr13 hr4 (hla := (by rw [if_pos hfr]; decide)) (hlr := (by rw [if_pos hfr, rules_len]; omega)) (hrb := (by rw [if_pos hfr]; exact rules_bounds hfr)) (hlt := (by first | assumption | rfl | omega | simp))) ?_)))))))
 rintro _ F6 _ le6 ⟨x15, rfl, hr17, rfl⟩
 replace hr9 := hr9.mono le6
 refine qg (.tuple #[x15, .bool ((normB ((if frontB (([2, 1, 0, 2] : List Int)) x5 x6 = true then (([2, 1, 0, 2] : List Int)) else [])) ((if frontB (([2, 1, 0, 2] : List Int)) x5 x6 = true then rulesOf x6 else [])) x7 1 60).2)]) rfl (cX (jd (x15) rfl rfl (cX (jd (.bool ((normB ((if frontB (([2, 1, 0, 2] : List Int)) x5 x6 = true then (([2, 1, 0, 2] : List Int)) else [])) ((if frontB (([2, 1, 0, 2] : List Int)) x5 x6 = true then rulesOf x6 else [])) x7 1 60).2)) rfl rfl (qh (x15) rfl (qh (.bool ((normB ((if frontB (([2, 1, 0, 2] : List Int)) x5 x6 = true then (([2, 1, 0, 2] : List Int)) else [])) ((if frontB (([2, 1, 0, 2] : List Int)) x5 x6 = true then rulesOf x6 else [])) x7 1 60).2)) rfl (qc (qd (qb (qg (.bool ((normB ((if frontB (([2, 1, 0, 2] : List Int)) x5 x6 = true then (([2, 1, 0, 2] : List Int)) else [])) ((if frontB (([2, 1, 0, 2] : List Int)) x5 x6 = true then rulesOf x6 else [])) x7 1 60).2)) rfl (cX (jt rfl (qg (.bool (!((normB ((if frontB (([2, 1, 0, 2] : List Int)) x5 x6 = true then (([2, 1, 0, 2] : List Int)) else [])) ((if frontB (([2, 1, 0, 2] : List Int)) x5 x6 = true then rulesOf x6 else [])) x7 1 60).2))) rfl ?_)))))))))))))
 by_cases h11 : (!((normB ((if frontB (([2, 1, 0, 2] : List Int)) x5 x6 = true then (([2, 1, 0, 2] : List Int)) else [])) ((if frontB (([2, 1, 0, 2] : List Int)) x5 x6 = true then rulesOf x6 else [])) x7 1 60).2)) = true
 ·refine qp (t := 87) rfl (vB h11) (qp (t := 87) rfl (vB h11) (qp (t := 87) rfl (vB h11) (cX (qO (.bool (true)) (vB h11) rfl (qh (.bool (true)) rfl (qc (qw (qr (L' := L) [.bool (true)] (.bool (true)) (.tmp rfl .nil) rfl rF (qa (qa (qa (qa (qa le1 le2) le3) le4) le5) le6) (sD (sD sR)) ?_))))))))
  exact ⟨(vB ((by first | rfl | exact (decide_eq_true (call_none hfr)).symm | exact (decide_eq_true hlaw).symm))), rfl, rfl⟩
 rw [Bool.not_eq_true] at h11
 have hnb := Bool.not_inj (y := true) h11
 have hlaw : (normB ((if frontB (([2, 1, 0, 2] : List Int)) x5 x6 = true then (([2, 1, 0, 2] : List Int)) else [])) ((if frontB (([2, 1, 0, 2] : List Int)) x5 x6 = true then rulesOf x6 else [])) x7 1 60).1 = (callL ([2, 1, 0, 2] : List Int) x5 x6 x7 x8).1 := by
   rw [if_pos hfr, if_pos hfr] at hnb ⊢
   exact call_law hfr hno hd9 hnb
 refine qo (t := 87) rfl (vB h11) (qm (x15) rfl (qo (t := 87) rfl (vB h11) (qm (x9) rfl (qo (t := 87) rfl (vB h11) (qn (args := [x15, x9]) call32 rfl (SameTerm_spec hr17 hr9 (hbd := (by first | assumption | rfl | omega | (left; simp; done) | (right; simp; done)))) ?_)))))
 rintro _ _ _ _ ⟨rfl, rfl, rfl⟩
 refine cX (qN (.bool (decide (((normB ((if frontB (([2, 1, 0, 2] : List Int)) x5 x6 = true then (([2, 1, 0, 2] : List Int)) else [])) ((if frontB (([2, 1, 0, 2] : List Int)) x5 x6 = true then rulesOf x6 else [])) x7 1 60).1) = ((callL (([2, 1, 0, 2] : List Int)) x5 x6 x7 x8).1)))) (vB h11) rfl (qh (.bool (decide (((normB ((if frontB (([2, 1, 0, 2] : List Int)) x5 x6 = true then (([2, 1, 0, 2] : List Int)) else [])) ((if frontB (([2, 1, 0, 2] : List Int)) x5 x6 = true then rulesOf x6 else [])) x7 1 60).1) = ((callL (([2, 1, 0, 2] : List Int)) x5 x6 x7 x8).1)))) rfl (qc (qw (qr (L' := L) [.bool (decide (((normB ((if frontB (([2, 1, 0, 2] : List Int)) x5 x6 = true then (([2, 1, 0, 2] : List Int)) else [])) ((if frontB (([2, 1, 0, 2] : List Int)) x5 x6 = true then rulesOf x6 else [])) x7 1 60).1) = ((callL (([2, 1, 0, 2] : List Int)) x5 x6 x7 x8).1)))] (.bool (decide (((normB ((if frontB (([2, 1, 0, 2] : List Int)) x5 x6 = true then (([2, 1, 0, 2] : List Int)) else [])) ((if frontB (([2, 1, 0, 2] : List Int)) x5 x6 = true then rulesOf x6 else [])) x7 1 60).1) = ((callL (([2, 1, 0, 2] : List Int)) x5 x6 x7 x8).1)))) (.tmp rfl .nil) rfl rF (qa (qa (qa (qa (qa le1 le2) le3) le4) le5) le6) (sD (sD sR)) ?_)))))
 exact ⟨(vB ((by first | rfl | exact (decide_eq_true (call_none hfr)).symm | exact (decide_eq_true hlaw).symm))), rfl, rfl⟩
end Go.Proofs.YtjpfankibmeaaaaGreat
