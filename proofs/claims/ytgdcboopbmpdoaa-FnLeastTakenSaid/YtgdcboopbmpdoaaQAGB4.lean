/-
  Walks, one after the other (part 5).
-/
import Derived.Test.YtgdcboopbmpdoaaQAGL1
import Derived.Test.YtgdcboopbmpdoaaQAGB3
set_option linter.unusedSimpArgs false
set_option linter.unusedVariables false
namespace Go.Proofs.Ytgdcboopbmpdoaa
open Go X M Try

/- spec.l23Draw -/
set_option maxHeartbeats 2000000 in
set_option maxRecDepth 20000 in
theorem l23Draw_spec {F : FH} {L : List HP} {cb : Nat} {bsv : Value} {bs : List Int} (hbs : BytesF F bsv bs) (hbl : bs.length ≤ 4000000) {arv : Value} {ar : List Int} (har : IntsF F arv ar) (hso : sigOk ar = true) :
    Does prog 48 [ptr cb 0, .agg #[arv]] F (curH .i64 83 cb bsv bs.length :: L) (fun v F' L' => (∃ (a : Value), ∃ (b : Value), ∃ (z : Int), ∃ (os : List TranT), ∃ (gs : List Int), (.agg #[ii (z), a, b] : Value) = v ∧ (TransF F' a os) ∧ (IntsF F' b gs) ∧ (0 ≤ z ∧ z ≤ 16) ∧ (autoS 0 os gs) ∧ (Fresh F F' (star [transD 2 68 a os, intsH 2 b gs]))) ∧ curH .i64 83 cb bsv bs.length :: L = L') := by
 refine qO func48 rfl rfl rfl ?_
 have hsg9 := sigOk_spec hso
 refine qc (qa (cX (ji [arv] rfl rfl ?_)))
 intro b1
 refine cX (jt [ii (0), sN, sN] jK rfl ?_)
 intro b2
 refine qb (qc (qa (qd (ptr cb 0) rfl (cX (qq (args := [ptr cb 0, ii (3)]) call22 rfl (jl [_, _] (l1Below_spec (n := 3) hbs (by omega) (hn := (by first | assumption | rfl | omega | simp)))) ?_)))))
 rintro _ _ _ _ ⟨⟨rfl, x1, rfl, hr1⟩, rfl⟩
 show XL _ _ _ _ _ _ _ (cellsH b2 [ii (0), sN, sN] 29 :: cellsH b1 [arv] 26 :: curH .i64 83 cb bsv bs.length :: L)
 refine cX (qD (1 + x1) rfl rfl (by omega) (by omega) (cX (XOp.build [ii (1 + x1), sN, sN] [ii (0), sN, sN] [(0, 1), (1, 1), (2, 1)] [(0, [ii (1 + x1)])] qA jK rfl (.cons rfl qr (.cons rfl jh (.cons rfl qw PlacesAre.nil))) rfl (.cons rfl CellsAre.nil) (cX (jt [ii (0), sN, sN] jK rfl ?_)))))
 intro b3
 refine cX (qX [] _ [ii (1 + x1), sN, sN] qN rfl rfl rfl (qt rfl (qt rfl (qt rfl qZ))) rfl rfl rfl (qb (qc (qc (qa (qd (ptr cb 0) rfl (cX (qq (args := [ptr cb 0, ii (7)]) call22 rfl (jl [_, _, _] (l1Below_spec (n := 7) hbs (by omega) (hn := (by first | assumption | rfl | omega | simp)))) ?_))))))))
 rintro _ _ _ _ ⟨⟨rfl, x2, rfl, hr2⟩, rfl⟩
 show XL _ _ _ _ _ _ _ (cellsH b3 [ii (1 + x1), sN, sN] 29 :: cellsH b2 [ii (0), sN, sN] 29 :: cellsH b1 [arv] 26 :: curH .i64 83 cb bsv bs.length :: L)
 refine qg (ii (x2)) rfl (qb (qF (jg (α := Nat × Value × List TranT × List Value × List HP × Nat × FH) (fun xQ => [(0, ptr cb 0), (3, ptr b1 0), (4, ptr b2 0), (5, ptr b3 0), (6, ii ((xQ.1 : Int) - 1))]) (fun xQ => slH 68 3 xQ.2.1 xQ.2.2.2.2.2.1 xQ.2.2.2.1 :: cellsH b3 [ii (1 + x1), xQ.2.1, sN] 29 :: cellsH b2 [ii (0), sN, sN] 29 :: cellsH b1 [arv] 26 :: curH .i64 83 cb bsv bs.length :: L) (fun xQ F' => xQ.2.2.2.2.2.2 = F' ∧ F ≤ xQ.2.2.2.2.2.2 ∧ (xQ.2.2.1.length + xQ.1 ≤ 8) ∧ (IsSl xQ.2.1) ∧ (TransC xQ.2.2.2.2.2.2 xQ.2.2.2.1 xQ.2.2.1) ∧ (xQ.2.2.2.2.2.1 = xQ.2.2.1.length) ∧ (xQ.2.2.1.length ≤ 300) ∧ (∀ r ∈ xQ.2.2.1, r.2.1.length ≤ 10) ∧ (DeepL 3 (TranO 2) xQ.2.2.2.1 xQ.2.2.1 xQ.2.2.2.2.1) ∧ (Fresh F xQ.2.2.2.2.2.2 (star xQ.2.2.2.2.1))) (fun xQ => xQ.1) ((x2).toNat + 1, sN, [], [], [], 0, F) ⟨rfl, rfl, rfl, rfl, (vI (by omega)), ⟨⟩⟩ (jj (Sub.addNil 68 3 _ _) (sC (sC (sC (sC (sC sR)))))) ⟨rfl, FLe.refl _, (by (try dsimp only); simp only [List.length_nil]; omega), (⟨_, _, _, rfl⟩), (CO.nil), (rfl), (Nat.zero_le _), (fun r hr => absurd hr (by simp)), (DeepL.nil), (Fresh.nilL)⟩ ?_)))
 rintro ⟨j, ov, os, cs, Ls, m, G1⟩ rE _ _ ⟨rfl, leG, hj, hov, hC, hm, ho3, hob, hD, hZ⟩
 show X _ _ _ _ (envs [(0, ptr cb 0), (3, ptr b1 0), (4, ptr b2 0), (5, ptr b3 0), (6, ii ((j : Int) - 1))] rE) _ (slH 68 3 ov m cs :: cellsH b3 [ii (1 + x1), ov, sN] 29 :: cellsH b2 [ii (0), sN, sN] 29 :: cellsH b1 [arv] 26 :: curH .i64 83 cb bsv bs.length :: L)
 replace leG : F ≤ G1 := leG
 dsimp only at hj hov hC hm ho3 hob hD hZ
 have leG1 := leG
 replace hbs := hbs.mono leG1
 replace har := har.mono leG1
 refine qc (qc (qa (qd (ii ((j : Int) - 1)) rfl (cX (XOp.geq rfl rfl (qb ?_))))))
 refine qE (p := ((j : Int) - 1 : Int) ≥ 0) rfl (fun h1 => ?_) (fun h1 => ?_)
 ·refine qx (qc (qF (qc (qa (qd (ptr cb 0) rfl (cX (ql (0) ja rfl qw (by decide) rfl rfl (cX (qi qT rfl (Rd.own [_, _, _] rfl rfl) (cX (qG qf rfl har.slv (cX (qq (args := [ptr cb 0, ii ((ar.length : Int))]) call22 rfl (jl [_, _, _, _] (l1Below_spec (n := (ar.length : Int)) hbs (by omega) (hn := (by first | assumption | rfl | omega | simp)))) ?_)))))))))))))
  rintro _ _ _ _ ⟨⟨rfl, x3, rfl, hr3⟩, rfl⟩
  show XL _ _ _ _ _ _ _ (slH 68 3 ov m cs :: cellsH b3 [ii (1 + x1), ov, sN] 29 :: cellsH b2 [ii (0), sN, sN] 29 :: cellsH b1 [arv] 26 :: curH .i64 83 cb bsv bs.length :: L)
  refine qg (ii (x3)) rfl (qb (qc (qc (qa (qd (ii ((j : Int) - 1)) rfl (cX (qV rfl rfl (qb ?_))))))))
  refine qE (p := ((j : Int) - 1 : Int) < 2) rfl (fun h2 => ?_) (fun h2 => ?_)
  ·refine qc (qa (qg (ii (0)) rfl (qb (qF (jg (α := Nat × Int) (fun xQ => [(0, ptr cb 0), (3, ptr b1 0), (4, ptr b2 0), (5, ptr b3 0), (6, ii ((j : Int) - 1)), (7, ii (xQ.2)), (8, ii (((xQ.1 : Nat) : Int)))]) (fun xQ => slH 68 3 ov m cs :: cellsH b3 [ii (1 + x1), ov, sN] 29 :: cellsH b2 [ii (0), sN, sN] 29 :: cellsH b1 [arv] 26 :: curH .i64 83 cb bsv bs.length :: L) (fun xQ F' => G1 = F' ∧ (xQ.1 ≤ ar.length) ∧ (0 ≤ xQ.2 ∧ xQ.2 < (ar.length : Int))) (fun xQ => ar.length - xQ.1) (0, x3) ⟨rfl, rfl, rfl, rfl, rfl, rfl, rfl, ⟨⟩⟩ (sC (sC (sC (sC (sC sR))))) ⟨rfl, (Nat.zero_le _), (by (try dsimp only); omega)⟩ ?_)))))
   rintro ⟨g, f⟩ rE _ _ ⟨rfl, hg, hf⟩
   show X _ _ _ _ (envs [(0, ptr cb 0), (3, ptr b1 0), (4, ptr b2 0), (5, ptr b3 0), (6, ii ((j : Int) - 1)), (7, ii (f)), (8, ii ((g : Int)))] rE) _ (slH 68 3 ov m cs :: cellsH b3 [ii (1 + x1), ov, sN] 29 :: cellsH b2 [ii (0), sN, sN] 29 :: cellsH b1 [arv] 26 :: curH .i64 83 cb bsv bs.length :: L)
   dsimp only at hg hf
   refine qc (qc (qa (qd (ii ((g : Int))) rfl (cX (ql (0) ja rfl qw (by decide) rfl rfl (cX (qi qT rfl (Rd.own [_, _, _] rfl rfl) (cX (qG qf rfl har.slv (cX (qV rfl rfl (qb ?_))))))))))))
   refine qE (p := (g : Int) < (ar.length : Int)) rfl (fun h3 => ?_) (fun h3 => ?_)
   ·refine qx (qc (qF (qc (qa (cX (ql (0) ja rfl qw (by decide) rfl rfl (cX (qi qT rfl (Rd.own [_, _, _] rfl rfl) (qd (ii ((g : Int))) rfl (cX (qy g qf qr rfl rfl rfl har.slv (by omega) (Nat.mul_one _) (cX (qi qM rfl (har.rd (by omega)) (cX (jp rfl rfl (qb ?_))))))))))))))))
    refine qE (p := (ar.getD g 0 : Int) = 0) rfl (fun h4 => ?_) (fun h4 => ?_)
    ·refine qa (qd (ii ((g : Int))) rfl (qg (ii ((g : Int))) rfl (qb (qa (qd (ii ((g : Int))) rfl (cX (qD (((g + 1 : Nat) : Int)) rfl rfl (by omega) (by omega) (qg (ii (((g + 1 : Nat) : Int))) rfl (qb ?_)))))))))
     exact ⟨(g + 1, (g : Int)), _, FLe.refl _, rF, ⟨rfl, rfl, rfl, rfl, rfl, rfl, rfl, ⟨⟩⟩, (sC (sC (sC (sC (sC sR))))), ⟨rfl, (by (try dsimp only) <;> omega), (by (try dsimp only); omega)⟩, (by omega)⟩
    refine qx (qa (qd (ii ((g : Int))) rfl (cX (qD (((g + 1 : Nat) : Int)) rfl rfl (by omega) (by omega) (qg (ii (((g + 1 : Nat) : Int))) rfl (qb ?_))))))
    exact ⟨(g + 1, f), _, FLe.refl _, rF, ⟨rfl, rfl, rfl, rfl, rfl, rfl, rfl, ⟨⟩⟩, (sC (sC (sC (sC (sC sR))))), ⟨rfl, (by (try dsimp only) <;> omega), (by (try dsimp only); omega)⟩, (by omega)⟩
   refine jd (qp (qp (qJ (qc (qa (qd (ii (f)) rfl (qd (ptr cb 0) rfl (cX (ql (0) qA rfl qr (by decide) rfl rfl (cX (qi qM rfl (Rd.own [_] rfl rfl) (cX (qq (args := [ptr cb 0, ii (1 + x1)]) call22 rfl (jl [_, _, _, _] (l1Below_spec (n := 1 + x1) hbs (by omega) (hn := (by first | assumption | rfl | omega | simp)))) ?_)))))))))))))
   rintro _ _ _ _ ⟨⟨rfl, x4, rfl, hr4⟩, rfl⟩
   show XL _ _ _ _ _ _ _ (slH 68 3 ov m cs :: cellsH b3 [ii (1 + x1), ov, sN] 29 :: cellsH b2 [ii (0), sN, sN] 29 :: cellsH b1 [arv] 26 :: curH .i64 83 cb bsv bs.length :: L)
   refine cX (XOp.build [ii (f), sN, ii (x4)] [ii (0), sN, ii (0)] [(0, 1), (1, 1), (2, 1)] [(0, [ii (f)]), (2, [ii (x4)])] qB jF rfl (.cons rfl qr (.cons rfl qw (.cons rfl qr PlacesAre.nil))) rfl (.cons rfl (.cons rfl CellsAre.nil)) (cX (jt [ii (0), sN, ii (0)] jF rfl ?_)))
   intro b4
   refine cX (qX [] _ [ii (f), sN, ii (x4)] jb rfl rfl rfl (qt rfl (qt rfl (qt rfl qZ))) rfl rfl rfl (qb (qc (qc (qa (qg (ii (0)) rfl (qb (qF ?_))))))))
   have hyf := hsg9.2.2 (f).toNat (by omega)
   refine jg (α := Nat × Value × List Int) (fun xQ => [(0, ptr cb 0), (3, ptr b1 0), (4, ptr b2 0), (5, ptr b3 0), (6, ii ((j : Int) - 1)), (7, ii (f)), (9, ptr b4 0), (10, ii (((xQ.1 : Nat) : Int)))]) (fun xQ => intsH 2 xQ.2.1 xQ.2.2 :: cellsH b4 [ii (f), xQ.2.1, ii (x4)] 68 :: slH 68 3 ov m cs :: cellsH b3 [ii (1 + x1), ov, sN] 29 :: cellsH b2 [ii (0), sN, sN] 29 :: cellsH b1 [arv] 26 :: curH .i64 83 cb bsv bs.length :: L) (fun xQ F' => G1 = F' ∧ (IsSl xQ.2.1) ∧ (xQ.1 ≤ (ar.getD (f).toNat 0).toNat) ∧ (xQ.2.2.length = xQ.1)) (fun xQ => (ar.getD (f).toNat 0).toNat - xQ.1) (0, sN, []) ⟨rfl, rfl, rfl, rfl, rfl, rfl, rfl, rfl, ⟨⟩⟩ (jj (intsH.addNil 2 none _) (sC (sC (sC (sC (sC (sC (sC sR)))))))) ⟨rfl, (⟨_, _, _, rfl⟩), (Nat.zero_le _), (rfl)⟩ ?_
   rintro ⟨i, av, as9⟩ rE _ _ ⟨rfl, hav, hi, hal⟩
   show X _ _ _ _ (envs [(0, ptr cb 0), (3, ptr b1 0), (4, ptr b2 0), (5, ptr b3 0), (6, ii ((j : Int) - 1)), (7, ii (f)), (9, ptr b4 0), (10, ii ((i : Int)))] rE) _ (intsH 2 av as9 :: cellsH b4 [ii (f), av, ii (x4)] 68 :: slH 68 3 ov m cs :: cellsH b3 [ii (1 + x1), ov, sN] 29 :: cellsH b2 [ii (0), sN, sN] 29 :: cellsH b1 [arv] 26 :: curH .i64 83 cb bsv bs.length :: L)
   dsimp only at hav hi hal
   refine qc (qc (qa (qd (ii ((i : Int))) rfl (cX (ql (0) ja rfl qw (by decide) rfl rfl (cX (qi qT rfl (Rd.own [_, _, _, _, _] rfl rfl) (qd (ii (f)) rfl (cX (qy ((f).toNat) qf qr rfl rfl (by omega) har.slv (by omega) (Nat.mul_one _) (cX (qi qM rfl (har.rd (by omega)) (cX (qV rfl rfl (qb ?_)))))))))))))))
   refine qE (p := (i : Int) < ar.getD ((f).toNat) 0) rfl (fun h5 => ?_) (fun h5 => ?_)
   ·refine qx (qc (qF ?_))
    refine X.drawG [intsH 2 av as9, cellsH b4 [ii (f), av, ii (x4)] 68, slH 68 3 ov m cs, cellsH b3 [ii (1 + x1), ov, sN] 29, cellsH b2 [ii (0), sN, sN] 29, cellsH b1 [arv] 26, curH .i64 83 cb bsv bs.length] L 7 [[], [], [], [], [], [], [5]] [[], [0], [], [], [3], [2, 4], [5]] [] (phiG [pe (ptr b4 1), pe av, pe (ptr cb 0), pe (ptr b3 0), pe (ii (1 + x1)), fun FF us v => (ii (((intAt v))) : Value) = v ∧ (0 ≤ ((intAt v)) ∧ (((intAt v)) < (1 + x1) ∨ ((intAt v)) = 0)), fun FF us v => ∃ b, v = .slice (some ⟨b, 0, none⟩) 1 1]) (ownL [o0, o0, o0, o0, o0, o0, fun us v => [slH 2 1 v 1 [ii (((intAt (us.getD 0 undef))))]]]) mixed rfl rfl (by kernel_rfl) (by kernel_rfl) (MonoG.get (m1 (m1 (m1 (m1 (m1 (mC (fun le h => ⟨h.1, h.2⟩) (mC (fun le h => h) MonoG.nil)))))))) ?_ ?_
    ·refine gD (fun W Fs R lF z9 => ?_) ?_
     ·refine qh (ql (1) qB rfl qw (by decide) rfl rfl ?_)
      exact ⟨rfl, rfl⟩
     refine gD (fun W Fs R lF z9 => ?_) ?_
     ·replace hbs := hbs.mono lF
      replace har := har.mono lF
      replace hC := hC.mono lF
      rw [zA 0 (z9 0 rfl)]
      refine qh (qi qT rfl (Rd.own [_] rfl rfl) ?_)
      exact ⟨rfl, rfl⟩
     refine gD (fun W Fs R lF z9 => ?_) ?_
     ·refine qh (qk (ptr cb 0) rfl ?_)
      exact ⟨rfl, rfl⟩
     refine gD (fun W Fs R lF z9 => ?_) ?_
     ·refine qh (ql (0) qA rfl qr (by decide) rfl rfl ?_)
      exact ⟨rfl, rfl⟩
     refine gD (fun W Fs R lF z9 => ?_) ?_
     ·replace hbs := hbs.mono lF
      replace har := har.mono lF
      replace hC := hC.mono lF
      rw [zA 3 (z9 3 rfl)]
      refine qh (qi qM rfl (Rd.own [_, _, _] rfl rfl) ?_)
      exact ⟨rfl, rfl⟩
     refine gD (fun W Fs R lF z9 => ?_) ?_
     ·replace hbs := hbs.mono lF
      replace har := har.mono lF
      replace hC := hC.mono lF
      rw [zB 2 4 (z9 2 rfl) (z9 4 rfl)]
      refine qh (qq (args := [ptr cb 0, ii (1 + x1)]) call22 rfl (jl [_, _, _, _, _, _] (l1Below_spec (n := 1 + x1) hbs (by omega) (hn := (by first | assumption | rfl | omega | simp)))) ?_)
      rintro _ _ _ _ ⟨⟨rfl, x6, rfl, hr6⟩, rfl⟩
      exact ⟨⟨rfl, hr6⟩, rfl⟩
     refine gD (fun W Fs R lF z9 => ?_) ?_
     ·obtain ⟨e5, f5_1hx⟩ := z9 5 rfl
      replace hbs := hbs.mono lF
      replace har := har.mono lF
      replace hC := hC.mono lF
      rw [eS (l := [(5, (ii (((intAt (W 5))))))]) ⟨(e5).symm, ⟨⟩⟩]
      refine qh (qP (s := 1) [ii (((intAt (W 5))))] [ii (0)] [(0, [ii (((intAt (W 5))))])] qf qr jm rfl (by decide) rfl (.cons rfl CellsAre.nil) rfl ?_)
      intro v2 hv2
      exact ⟨hv2, rfl⟩
     exact stepsG.nil
    intro W F7 le7 hphi
    obtain ⟨e5, f5_1hx⟩ := hphi 5 (by decide)
    have f6 : ∃ b, (W 6) = .slice (some ⟨b, 0, none⟩) 1 1 := hphi 6 (by decide)
    generalize hu1 : (intAt (W 5)) = u1 at e5 f5_1hx f6
    generalize huu6 : W 6 = u2 at e5 f5_1hx f6
    rw [eS (l := [(1, _), (5, (ii ((u1)))), (6, u2)]) ⟨(hphi 1 (by decide)), (e5).symm, huu6, ⟨⟩⟩]
    replace hbs := hbs.mono le7
    replace har := har.mono le7
    replace hC := hC.mono le7
    show XL _ _ _ _ _ _ _ (slH 2 1 u2 1 [ii ((u1))] :: intsH 2 av as9 :: cellsH b4 [ii (f), av, ii (x4)] 68 :: slH 68 3 ov m cs :: cellsH b3 [ii (1 + x1), ov, sN] 29 :: cellsH b2 [ii (0), sN, sN] 29 :: cellsH b1 [arv] 26 :: curH .i64 83 cb bsv bs.length :: L)
    refine cX (jL (u := (u1)) [_] _ qf typeInfo2 rfl rfl rfl rfl rfl rfl (SlV.own [] rfl) (Rd.sl [] rfl rfl) (by (try simp only [List.length_append, List.length_nil, List.length_cons, List.length_singleton, List.length_take, List.length_drop]); omega) ?_)
    intro v3 hs1 hn1
    refine cX (ql (1) qB rfl qw (by decide) rfl rfl (cX (jC [_, _] _ [ii (f), v3, ii (x4)] qw rfl rfl (qU hs1) rfl rfl rfl (qb (qa (qd (ii ((i : Int))) rfl (cX (qD (((i + 1 : Nat) : Int)) rfl rfl (by omega) (by omega) (qg (ii (((i + 1 : Nat) : Int))) rfl (qb ?_))))))))))
    exact ⟨(i + 1, v3, as9 ++ [(u1)]), _, FLe.refl _, le7, ⟨rfl, rfl, rfl, rfl, rfl, rfl, rfl, rfl, ⟨⟩⟩, (sD (sC (sC (sC (sC (sC (sC (sC sR)))))))), ⟨rfl, (hs1), (by (try dsimp only) <;> omega), (by (try dsimp only); (try rw [List.length_append]); (try simp only [List.length_singleton]); omega)⟩, (by omega)⟩
   refine jd (qp (qp (qJ (qc (qa (jz [] _ _ rfl (fun F8 le8 hz1 => ?_)))))))
   replace hbs := hbs.mono le8
   replace har := har.mono le8
   replace hC := hC.mono le8
   have hf1 : IntsF F8 av as9 := intsH.fz (xs := as9) hz1.fz
   skip
   refine qg (.bool (true)) rfl (qb (qc (qc (qa (qg (ii (0)) rfl (qb (qF (jg (α := Nat × Bool) (fun xQ => [(0, ptr cb 0), (3, ptr b1 0), (4, ptr b2 0), (5, ptr b3 0), (6, ii ((j : Int) - 1)), (9, ptr b4 0), (11, .bool (xQ.2)), (12, ii (((xQ.1 : Nat) : Int)))]) (fun xQ => cellsH b4 [ii (f), av, ii (x4)] 68 :: slH 68 3 ov m cs :: cellsH b3 [ii (1 + x1), ov, sN] 29 :: cellsH b2 [ii (0), sN, sN] 29 :: cellsH b1 [arv] 26 :: curH .i64 83 cb bsv bs.length :: L) (fun xQ F' => F8 = F' ∧ (xQ.1 ≤ os.length)) (fun xQ => os.length - xQ.1) (0, true) ⟨rfl, rfl, rfl, rfl, rfl, rfl, rfl, rfl, ⟨⟩⟩ (sC (sC (sC (sC (sC (sC sR)))))) ⟨rfl, (Nat.zero_le _)⟩ ?_))))))))
   rintro ⟨y, b⟩ rE _ _ ⟨rfl, hy⟩
   show X _ _ _ _ (envs [(0, ptr cb 0), (3, ptr b1 0), (4, ptr b2 0), (5, ptr b3 0), (6, ii ((j : Int) - 1)), (9, ptr b4 0), (11, .bool (b)), (12, ii ((y : Int)))] rE) _ (cellsH b4 [ii (f), av, ii (x4)] 68 :: slH 68 3 ov m cs :: cellsH b3 [ii (1 + x1), ov, sN] 29 :: cellsH b2 [ii (0), sN, sN] 29 :: cellsH b1 [arv] 26 :: curH .i64 83 cb bsv bs.length :: L)
   dsimp only at hy
   have hoa := fun i => trans_at hob i
   refine qc (qc (qa (qd (ii ((y : Int))) rfl (cX (ql (1) qA rfl jh (by decide) rfl rfl (cX (qi jo rfl (Rd.own [_, _] rfl rfl) (cX (qG qR rfl (SlV.own [_] rfl) (cX (qV rfl rfl (qb ?_))))))))))))
   refine qE (p := (y : Int) < (m : Int)) rfl (fun h6 => ?_) (fun h6 => ?_)
   ·refine qx (qc (qF ?_))
    by_cases h7 : (b) = true
    ·obtain ⟨a1, ha1, hq1⟩ := hC.get (i := y) (by omega)
     by_cases h8 : ((os.getD y (0, [], 0)).1) = f ∧ ((os.getD y (0, [], 0)).2.1) = as9
     ·refine jq [cellsH b4 [ii (f), av, ii (x4)] 68, slH 68 3 ov m cs, cellsH b3 [ii (1 + x1), ov, sN] 29, cellsH b2 [ii (0), sN, sN] 29, cellsH b1 [arv] 26, curH .i64 83 cb bsv bs.length] L 18 [] [[], [0], [1], [1, 2], [1], [1, 3, 4], [1, 5], [1], [1, 6, 7], [1, 8], [9], [9, 10], [9], [9, 11, 12], [9, 13], [9, 14], [9], [9, 16]] (phiL [qe (.bool (b)), qe (.bool (b)), qe (ptr b3 1), qe ov, qe (ii ((y : Int)) : Value), qe (.pointer (some (elemA ov (y * 3)))), qe (.agg #[ii ((os.getD y (0, [], 0)).1), a1, ii ((os.getD y (0, [], 0)).2.2)]), qe (.agg #[ii (f), av, ii (x4)]), qe (.bool (decide (((os.getD y (0, [], 0)).1) = f ∧ ((os.getD y (0, [], 0)).2.1) = as9))), qe (.bool (decide (((os.getD y (0, [], 0)).1) = f ∧ ((os.getD y (0, [], 0)).2.1) = as9))), qe (ptr b3 1), qe ov, qe (ii ((y : Int)) : Value), qe (.pointer (some (elemA ov (y * 3)))), qe (.pointer (some (elemA ov (y * 3 + 2)))), qe (ii ((os.getD y (0, [], 0)).2.2)), qe (ptr b4 2), qe (ii (x4))]) (ownL []) mixed rfl rfl (by kernel_rfl) ?_ ?_
      ·refine pD (fun W R z9 => ?_) ?_
       ·refine qh (qk (.bool (b)) rfl ?_)
        exact ⟨rfl, rfl, rfl⟩
       refine pD (fun W R z9 => ?_) ?_
       ·rw [zA 0 (z9 0 rfl)]
        refine qh (qk (.bool (b)) rfl ?_)
        exact ⟨rfl, rfl, rfl⟩
       refine pD (fun W R z9 => ?_) ?_
       ·rw [zA 1 (z9 1 rfl)]
        refine qH (t := 77) rfl (vB h7) (ql (1) qA rfl jh (by decide) rfl rfl ?_)
        exact ⟨rfl, rfl, rfl⟩
       refine pD (fun W R z9 => ?_) ?_
       ·rw [zB 1 2 (z9 1 rfl) (z9 2 rfl)]
        refine qH (t := 77) rfl (vB h7) (qi jo rfl (Rd.own [_, _] rfl rfl) ?_)
        exact ⟨rfl, rfl, rfl⟩
       refine pD (fun W R z9 => ?_) ?_
       ·rw [zA 1 (z9 1 rfl)]
        refine qH (t := 77) rfl (vB h7) (qk (ii ((y : Int))) rfl ?_)
        exact ⟨rfl, rfl, rfl⟩
       refine pD (fun W R z9 => ?_) ?_
       ·rw [eS (l := [(1, _), (3, _), (4, _)]) ⟨z9 1 rfl, z9 3 rfl, z9 4 rfl, ⟨⟩⟩]
        refine qH (t := 77) rfl (vB h7) (qy y qR jb rfl rfl rfl (SlV.own [_] rfl) (by omega) rfl ?_)
        exact ⟨rfl, rfl, rfl⟩
       refine pD (fun W R z9 => ?_) ?_
       ·rw [zB 1 5 (z9 1 rfl) (z9 5 rfl)]
        refine qH (t := 77) rfl (vB h7) (qu [ii ((os.getD y (0, [], 0)).1), a1, ii ((os.getD y (0, [], 0)).2.2)] jD jb rfl rfl (Rd.slG [_] rfl 0 hq1 rfl) ?_)
        exact ⟨rfl, rfl, rfl⟩
       refine pD (fun W R z9 => ?_) ?_
       ·rw [zA 1 (z9 1 rfl)]
        refine qH (t := 77) rfl (vB h7) (qu [ii (f), av, ii (x4)] jD jb rfl rfl (Rd.ownN [] rfl rfl) ?_)
        exact ⟨rfl, rfl, rfl⟩
       refine pD (fun W R z9 => ?_) ?_
       ·rw [eS (l := [(1, _), (6, _), (7, _)]) ⟨z9 1 rfl, z9 6 rfl, z9 7 rfl, ⟨⟩⟩]
        refine qH (t := 77) rfl (vB h7) (qq (args := [.agg #[ii ((os.getD y (0, [], 0)).1), a1, ii ((os.getD y (0, [], 0)).2.2)], .agg #[ii (f), av, ii (x4)]]) call44 rfl (l23From_spec ha1 hf1 (hlb := (Nat.le_trans (hoa y) (by decide))) (hls := (by omega))) ?_)
        rintro _ _ _ _ ⟨rfl, rfl, rfl⟩
        exact ⟨rfl, rfl, rfl⟩
       refine pD (fun W R z9 => ?_) ?_
       ·rw [zB 1 8 (z9 1 rfl) (z9 8 rfl)]
        refine qH (t := 77) rfl (vB h7) (qk (.bool (decide (((os.getD y (0, [], 0)).1) = f ∧ ((os.getD y (0, [], 0)).2.1) = as9))) rfl ?_)
        exact ⟨rfl, rfl, rfl⟩
       refine pD (fun W R z9 => ?_) ?_
       ·rw [zA 9 (z9 9 rfl)]
        refine qH (t := 85) rfl (vT h8) (ql (1) qA rfl jh (by decide) rfl rfl ?_)
        exact ⟨rfl, rfl, rfl⟩
       refine pD (fun W R z9 => ?_) ?_
       ·rw [zB 9 10 (z9 9 rfl) (z9 10 rfl)]
        refine qH (t := 85) rfl (vT h8) (qi jo rfl (Rd.own [_, _] rfl rfl) ?_)
        exact ⟨rfl, rfl, rfl⟩
       refine pD (fun W R z9 => ?_) ?_
       ·rw [zA 9 (z9 9 rfl)]
        refine qH (t := 85) rfl (vT h8) (qk (ii ((y : Int))) rfl ?_)
        exact ⟨rfl, rfl, rfl⟩
       refine pD (fun W R z9 => ?_) ?_
       ·rw [eS (l := [(9, _), (11, _), (12, _)]) ⟨z9 9 rfl, z9 11 rfl, z9 12 rfl, ⟨⟩⟩]
        refine qH (t := 85) rfl (vT h8) (qy y qR jb rfl rfl rfl (SlV.own [_] rfl) (by omega) rfl ?_)
        exact ⟨rfl, rfl, rfl⟩
       refine pD (fun W R z9 => ?_) ?_
       ·rw [zB 9 13 (z9 9 rfl) (z9 13 rfl)]
        refine qH (t := 85) rfl (vT h8) (XOp.fieldE (y * 3 + 2) qB rfl qr (by decide) rfl rfl ?_)
        exact ⟨rfl, rfl, rfl⟩
       refine pD (fun W R z9 => ?_) ?_
       ·rw [zB 9 14 (z9 9 rfl) (z9 14 rfl)]
        refine qH (t := 85) rfl (vT h8) (qi qM rfl (Rd.sl [_] rfl (hq1 2 _ rfl)) ?_)
        exact ⟨rfl, rfl, rfl⟩
       refine pD (fun W R z9 => ?_) ?_
       ·rw [zA 9 (z9 9 rfl)]
        refine qH (t := 85) rfl (vT h8) (ql (2) qB rfl qr (by decide) rfl rfl ?_)
        exact ⟨rfl, rfl, rfl⟩
       refine pD (fun W R z9 => ?_) ?_
       ·rw [zB 9 16 (z9 9 rfl) (z9 16 rfl)]
        refine qH (t := 85) rfl (vT h8) (qi qM rfl (Rd.own [] rfl rfl) ?_)
        exact ⟨rfl, rfl, rfl⟩
       exact stepsP.nil
      intro W hphi
      rw [eS (l := [(1, _), (9, _), (15, _), (17, _)]) ⟨(hphi 1 (by decide)), (hphi 9 (by decide)), (hphi 15 (by decide)), (hphi 17 (by decide)), ⟨⟩⟩]
      show XL _ _ _ _ _ _ _ (cellsH b4 [ii (f), av, ii (x4)] 68 :: slH 68 3 ov m cs :: cellsH b3 [ii (1 + x1), ov, sN] 29 :: cellsH b2 [ii (0), sN, sN] 29 :: cellsH b1 [arv] 26 :: curH .i64 83 cb bsv bs.length :: L)
      refine qo (t := 85) rfl (vT h8) (jp rfl rfl (qo (t := 77) rfl (vB h7) (qL (.bool (decide (((os.getD y (0, [], 0)).2.2 : Int) = x4))) (vT h8) rfl (qo (t := 77) rfl (vB h7) (XOp.notD rfl (cX (qL (.bool (decide (¬(((os.getD y (0, [], 0)).2.2 : Int) = x4)))) (vB h7) rfl (qg (.bool (decide (¬(((os.getD y (0, [], 0)).2.2 : Int) = x4)))) rfl (qb (qa (qd (ii ((y : Int))) rfl (cX (qD (((y + 1 : Nat) : Int)) rfl rfl (by omega) (by omega) (qg (ii (((y + 1 : Nat) : Int))) rfl (qb ?_)))))))))))))))
      exact ⟨(y + 1, decide (¬(((os.getD y (0, [], 0)).2.2 : Int) = x4))), _, FLe.refl _, rF, ⟨rfl, rfl, rfl, rfl, rfl, rfl, rfl, rfl, ⟨⟩⟩, (sC (sC (sC (sC (sC (sC sR)))))), ⟨rfl, (by (try dsimp only) <;> omega)⟩, (by omega)⟩
     refine jq [cellsH b4 [ii (f), av, ii (x4)] 68, slH 68 3 ov m cs, cellsH b3 [ii (1 + x1), ov, sN] 29, cellsH b2 [ii (0), sN, sN] 29, cellsH b1 [arv] 26, curH .i64 83 cb bsv bs.length] L 18 [] [[], [0], [1], [1, 2], [1], [1, 3, 4], [1, 5], [1], [1, 6, 7], [1, 8], [9], [9, 10], [9], [9, 11, 12], [9, 13], [9, 14], [9], [9, 16]] (phiL [qe (.bool (b)), qe (.bool (b)), qe (ptr b3 1), qe ov, qe (ii ((y : Int)) : Value), qe (.pointer (some (elemA ov (y * 3)))), qe (.agg #[ii ((os.getD y (0, [], 0)).1), a1, ii ((os.getD y (0, [], 0)).2.2)]), qe (.agg #[ii (f), av, ii (x4)]), qe (.bool (decide (((os.getD y (0, [], 0)).1) = f ∧ ((os.getD y (0, [], 0)).2.1) = as9))), qe (.bool (decide (((os.getD y (0, [], 0)).1) = f ∧ ((os.getD y (0, [], 0)).2.1) = as9))), qe undef, qe undef, qe undef, qe undef, qe undef, qe undef, qe undef, qe undef]) (ownL []) mixed rfl rfl (by kernel_rfl) ?_ ?_
     ·refine pD (fun W R z9 => ?_) ?_
      ·refine qh (qk (.bool (b)) rfl ?_)
       exact ⟨rfl, rfl, rfl⟩
      refine pD (fun W R z9 => ?_) ?_
      ·rw [zA 0 (z9 0 rfl)]
       refine qh (qk (.bool (b)) rfl ?_)
       exact ⟨rfl, rfl, rfl⟩
      refine pD (fun W R z9 => ?_) ?_
      ·rw [zA 1 (z9 1 rfl)]
       refine qH (t := 77) rfl (vB h7) (ql (1) qA rfl jh (by decide) rfl rfl ?_)
       exact ⟨rfl, rfl, rfl⟩
      refine pD (fun W R z9 => ?_) ?_
      ·rw [zB 1 2 (z9 1 rfl) (z9 2 rfl)]
       refine qH (t := 77) rfl (vB h7) (qi jo rfl (Rd.own [_, _] rfl rfl) ?_)
       exact ⟨rfl, rfl, rfl⟩
      refine pD (fun W R z9 => ?_) ?_
      ·rw [zA 1 (z9 1 rfl)]
       refine qH (t := 77) rfl (vB h7) (qk (ii ((y : Int))) rfl ?_)
       exact ⟨rfl, rfl, rfl⟩
      refine pD (fun W R z9 => ?_) ?_
      ·rw [eS (l := [(1, _), (3, _), (4, _)]) ⟨z9 1 rfl, z9 3 rfl, z9 4 rfl, ⟨⟩⟩]
       refine qH (t := 77) rfl (vB h7) (qy y qR jb rfl rfl rfl (SlV.own [_] rfl) (by omega) rfl ?_)
       exact ⟨rfl, rfl, rfl⟩
      refine pD (fun W R z9 => ?_) ?_
      ·rw [zB 1 5 (z9 1 rfl) (z9 5 rfl)]
       refine qH (t := 77) rfl (vB h7) (qu [ii ((os.getD y (0, [], 0)).1), a1, ii ((os.getD y (0, [], 0)).2.2)] jD jb rfl rfl (Rd.slG [_] rfl 0 hq1 rfl) ?_)
       exact ⟨rfl, rfl, rfl⟩
      refine pD (fun W R z9 => ?_) ?_
      ·rw [zA 1 (z9 1 rfl)]
       refine qH (t := 77) rfl (vB h7) (qu [ii (f), av, ii (x4)] jD jb rfl rfl (Rd.ownN [] rfl rfl) ?_)
       exact ⟨rfl, rfl, rfl⟩
      refine pD (fun W R z9 => ?_) ?_
      ·rw [eS (l := [(1, _), (6, _), (7, _)]) ⟨z9 1 rfl, z9 6 rfl, z9 7 rfl, ⟨⟩⟩]
       refine qH (t := 77) rfl (vB h7) (qq (args := [.agg #[ii ((os.getD y (0, [], 0)).1), a1, ii ((os.getD y (0, [], 0)).2.2)], .agg #[ii (f), av, ii (x4)]]) call44 rfl (l23From_spec ha1 hf1 (hlb := (Nat.le_trans (hoa y) (by decide))) (hls := (by omega))) ?_)
       rintro _ _ _ _ ⟨rfl, rfl, rfl⟩
       exact ⟨rfl, rfl, rfl⟩
      refine pD (fun W R z9 => ?_) ?_
      ·rw [zB 1 8 (z9 1 rfl) (z9 8 rfl)]
       refine qH (t := 77) rfl (vB h7) (qk (.bool (decide (((os.getD y (0, [], 0)).1) = f ∧ ((os.getD y (0, [], 0)).2.1) = as9))) rfl ?_)
       exact ⟨rfl, rfl, rfl⟩
      refine pD (fun W R z9 => ?_) ?_
      ·rw [zA 9 (z9 9 rfl)]
       exact qW (t := 85) rfl (vF h8) ⟨rfl, rfl, rfl⟩
      refine pD (fun W R z9 => ?_) ?_
      ·rw [eS (l := [(9, _), (10, undef)]) ⟨z9 9 rfl, z9 10 rfl, ⟨⟩⟩]
       exact qW (t := 85) rfl (vF h8) ⟨rfl, rfl, rfl⟩
      refine pD (fun W R z9 => ?_) ?_
      ·rw [zA 9 (z9 9 rfl)]
       exact qW (t := 85) rfl (vF h8) ⟨rfl, rfl, rfl⟩
      refine pD (fun W R z9 => ?_) ?_
      ·rw [eS (l := [(9, _), (11, undef), (12, undef)]) ⟨z9 9 rfl, z9 11 rfl, z9 12 rfl, ⟨⟩⟩]
       exact qW (t := 85) rfl (vF h8) ⟨rfl, rfl, rfl⟩
      refine pD (fun W R z9 => ?_) ?_
      ·rw [eS (l := [(9, _), (13, undef)]) ⟨z9 9 rfl, z9 13 rfl, ⟨⟩⟩]
       exact qW (t := 85) rfl (vF h8) ⟨rfl, rfl, rfl⟩
      refine pD (fun W R z9 => ?_) ?_
      ·rw [eS (l := [(9, _), (14, undef)]) ⟨z9 9 rfl, z9 14 rfl, ⟨⟩⟩]
       exact qW (t := 85) rfl (vF h8) ⟨rfl, rfl, rfl⟩
      refine pD (fun W R z9 => ?_) ?_
      ·rw [zA 9 (z9 9 rfl)]
       exact qW (t := 85) rfl (vF h8) ⟨rfl, rfl, rfl⟩
      refine pD (fun W R z9 => ?_) ?_
      ·rw [eS (l := [(9, _), (16, undef)]) ⟨z9 9 rfl, z9 16 rfl, ⟨⟩⟩]
       exact qW (t := 85) rfl (vF h8) ⟨rfl, rfl, rfl⟩
      exact stepsP.nil
     intro W hphi
     rw [eS (l := [(1, _), (9, _), (15, undef), (17, undef)]) ⟨(hphi 1 (by decide)), (hphi 9 (by decide)), (hphi 15 (by decide)), (hphi 17 (by decide)), ⟨⟩⟩]
     show XL _ _ _ _ _ _ _ (cellsH b4 [ii (f), av, ii (x4)] 68 :: slH 68 3 ov m cs :: cellsH b3 [ii (1 + x1), ov, sN] 29 :: cellsH b2 [ii (0), sN, sN] 29 :: cellsH b1 [arv] 26 :: curH .i64 83 cb bsv bs.length :: L)
     refine qm (t := 85) rfl (vF h8) (qo (t := 77) rfl (vB h7) (qQ (.bool (false)) (vF h8) rfl (qo (t := 77) rfl (vB h7) (jx rfl (cX (qL (.bool (true)) (vB h7) rfl (qg (.bool (true)) rfl (qb (qa (qd (ii ((y : Int))) rfl (cX (qD (((y + 1 : Nat) : Int)) rfl rfl (by omega) (by omega) (qg (ii (((y + 1 : Nat) : Int))) rfl (qb ?_))))))))))))))
     exact ⟨(y + 1, true), _, FLe.refl _, rF, ⟨rfl, rfl, rfl, rfl, rfl, rfl, rfl, rfl, ⟨⟩⟩, (sC (sC (sC (sC (sC (sC sR)))))), ⟨rfl, (by (try dsimp only) <;> omega)⟩, (by omega)⟩
    rw [Bool.not_eq_true] at h7
    refine jq [cellsH b4 [ii (f), av, ii (x4)] 68, slH 68 3 ov m cs, cellsH b3 [ii (1 + x1), ov, sN] 29, cellsH b2 [ii (0), sN, sN] 29, cellsH b1 [arv] 26, curH .i64 83 cb bsv bs.length] L 18 [] [[], [0], [1], [1, 2], [1], [1, 3, 4], [1, 5], [1], [1, 6, 7], [1, 8], [9], [9, 10], [9], [9, 11, 12], [9, 13], [9, 14], [9], [9, 16]] (phiL [qe (.bool (b)), qe (.bool (b)), qe undef, qe undef, qe undef, qe undef, qe undef, qe undef, qe undef, qe undef, qe undef, qe undef, qe undef, qe undef, qe undef, qe undef, qe undef, qe undef]) (ownL []) mixed rfl rfl (by kernel_rfl) ?_ ?_
    ·refine pD (fun W R z9 => ?_) ?_
     ·refine qh (qk (.bool (b)) rfl ?_)
      exact ⟨rfl, rfl, rfl⟩
     refine pD (fun W R z9 => ?_) ?_
     ·rw [zA 0 (z9 0 rfl)]
      refine qh (qk (.bool (b)) rfl ?_)
      exact ⟨rfl, rfl, rfl⟩
     refine pD (fun W R z9 => ?_) ?_
     ·rw [zA 1 (z9 1 rfl)]
      exact qW (t := 77) rfl (vB h7) ⟨rfl, rfl, rfl⟩
     refine pD (fun W R z9 => ?_) ?_
     ·rw [eS (l := [(1, _), (2, undef)]) ⟨z9 1 rfl, z9 2 rfl, ⟨⟩⟩]
      exact qW (t := 77) rfl (vB h7) ⟨rfl, rfl, rfl⟩
     refine pD (fun W R z9 => ?_) ?_
     ·rw [zA 1 (z9 1 rfl)]
      exact qW (t := 77) rfl (vB h7) ⟨rfl, rfl, rfl⟩
     refine pD (fun W R z9 => ?_) ?_
     ·rw [eS (l := [(1, _), (3, undef), (4, undef)]) ⟨z9 1 rfl, z9 3 rfl, z9 4 rfl, ⟨⟩⟩]
      exact qW (t := 77) rfl (vB h7) ⟨rfl, rfl, rfl⟩
     refine pD (fun W R z9 => ?_) ?_
     ·rw [eS (l := [(1, _), (5, undef)]) ⟨z9 1 rfl, z9 5 rfl, ⟨⟩⟩]
      exact qW (t := 77) rfl (vB h7) ⟨rfl, rfl, rfl⟩
     refine pD (fun W R z9 => ?_) ?_
     ·rw [zA 1 (z9 1 rfl)]
      exact qW (t := 77) rfl (vB h7) ⟨rfl, rfl, rfl⟩
     refine pD (fun W R z9 => ?_) ?_
     ·rw [eS (l := [(1, _), (6, undef), (7, undef)]) ⟨z9 1 rfl, z9 6 rfl, z9 7 rfl, ⟨⟩⟩]
      exact qW (t := 77) rfl (vB h7) ⟨rfl, rfl, rfl⟩
     refine pD (fun W R z9 => ?_) ?_
     ·rw [eS (l := [(1, _), (8, undef)]) ⟨z9 1 rfl, z9 8 rfl, ⟨⟩⟩]
      exact qW (t := 77) rfl (vB h7) ⟨rfl, rfl, rfl⟩
     refine pD (fun W R z9 => ?_) ?_
     ·rw [eS (l := [(9, undef)]) ⟨z9 9 rfl, ⟨⟩⟩]
      exact XG.noU (t := 85) rfl rfl ⟨rfl, rfl, rfl⟩
     refine pD (fun W R z9 => ?_) ?_
     ·rw [eS (l := [(9, undef), (10, undef)]) ⟨z9 9 rfl, z9 10 rfl, ⟨⟩⟩]
      exact XG.noU (t := 85) rfl rfl ⟨rfl, rfl, rfl⟩
     refine pD (fun W R z9 => ?_) ?_
     ·rw [eS (l := [(9, undef)]) ⟨z9 9 rfl, ⟨⟩⟩]
      exact XG.noU (t := 85) rfl rfl ⟨rfl, rfl, rfl⟩
     refine pD (fun W R z9 => ?_) ?_
     ·rw [eS (l := [(9, undef), (11, undef), (12, undef)]) ⟨z9 9 rfl, z9 11 rfl, z9 12 rfl, ⟨⟩⟩]
      exact XG.noU (t := 85) rfl rfl ⟨rfl, rfl, rfl⟩
     refine pD (fun W R z9 => ?_) ?_
     ·rw [eS (l := [(9, undef), (13, undef)]) ⟨z9 9 rfl, z9 13 rfl, ⟨⟩⟩]
      exact XG.noU (t := 85) rfl rfl ⟨rfl, rfl, rfl⟩
     refine pD (fun W R z9 => ?_) ?_
     ·rw [eS (l := [(9, undef), (14, undef)]) ⟨z9 9 rfl, z9 14 rfl, ⟨⟩⟩]
      exact XG.noU (t := 85) rfl rfl ⟨rfl, rfl, rfl⟩
     refine pD (fun W R z9 => ?_) ?_
     ·rw [eS (l := [(9, undef)]) ⟨z9 9 rfl, ⟨⟩⟩]
      exact XG.noU (t := 85) rfl rfl ⟨rfl, rfl, rfl⟩
     refine pD (fun W R z9 => ?_) ?_
     ·rw [eS (l := [(9, undef), (16, undef)]) ⟨z9 9 rfl, z9 16 rfl, ⟨⟩⟩]
      exact XG.noU (t := 85) rfl rfl ⟨rfl, rfl, rfl⟩
     exact stepsP.nil
    intro W hphi
    rw [eS (l := [(1, _), (9, undef), (15, undef), (17, undef)]) ⟨(hphi 1 (by decide)), (hphi 9 (by decide)), (hphi 15 (by decide)), (hphi 17 (by decide)), ⟨⟩⟩]
    show XL _ _ _ _ _ _ _ (cellsH b4 [ii (f), av, ii (x4)] 68 :: slH 68 3 ov m cs :: cellsH b3 [ii (1 + x1), ov, sN] 29 :: cellsH b2 [ii (0), sN, sN] 29 :: cellsH b1 [arv] 26 :: curH .i64 83 cb bsv bs.length :: L)
    refine jE (t := 85) rfl rfl (qm (t := 77) rfl (vB h7) (qm (t := 77) rfl (vB h7) (cX (qQ (.bool (false)) (vB h7) rfl (qg (.bool (false)) rfl (qb (qa (qd (ii ((y : Int))) rfl (cX (qD (((y + 1 : Nat) : Int)) rfl rfl (by omega) (by omega) (qg (ii (((y + 1 : Nat) : Int))) rfl (qb ?_))))))))))))
    exact ⟨(y + 1, false), _, FLe.refl _, rF, ⟨rfl, rfl, rfl, rfl, rfl, rfl, rfl, rfl, ⟨⟩⟩, (sC (sC (sC (sC (sC (sC sR)))))), ⟨rfl, (by (try dsimp only) <;> omega)⟩, (by omega)⟩
   refine jd (qp (qp (qJ (qc (qa (qd (.bool (b)) rfl (qb ?_)))))))
   refine jr (t := b) rfl (fun h9 => ?_) (fun h9 => ?_)
   ·refine qa (cX (ql (1) qA rfl jh (by decide) rfl rfl (cX (qi jo rfl (Rd.own [_, _] rfl rfl) (cX (qu [ii (f), av, ii (x4)] jD jb rfl rfl (Rd.ownN [] rfl rfl) (cX (qP (s := 3) [ii (f), av, ii (x4)] [ii (0), sN, ii (0)] [(0, [ii (f), av, ii (x4)])] qR jb jF rfl (by decide) rfl (.cons rfl CellsAre.nil) rfl ?_))))))))
    intro v4 hv3
    refine cX (jN (m := 1) (bytes := 40) (cs := cs) [_, _] _ [ii (f), av, ii (x4)] qR typeInfo68 rfl rfl rfl rfl rfl rfl rfl (SlV.own [] rfl) rfl (Rd.lit [] rfl) (qt rfl (qt (qU (qS hf1)) (qt rfl qZ))) (by (try simp only [List.length_append, List.length_nil, List.length_cons, List.length_singleton]); omega) (by (try simp only [List.length_append, List.length_nil, List.length_cons, List.length_singleton]); omega) ?_)
    intro v5 hs2 hn2 hm1
    have hc1 := TransC.snoc hC (y0 := f) (y1 := as9) (y2 := x4) hf1
    refine cX (ql (1) qA rfl jh (by decide) rfl rfl (cX (jC [_, _, _] _ [ii (1 + x1), v5, sN] jh rfl rfl (qU hs2) rfl rfl rfl (qb (qa (qd (ii ((j : Int) - 1)) rfl (cX (js (((j : Int) - 1) - 1) rfl rfl (by omega) (by omega) (qg (ii (((j : Int) - 1) - 1)) rfl (qb ?_))))))))))
    have hj9 := tran_more (x := f) (z := x4) hD (Fresh.app hZ leG1 (Fresh.one hz1) le8)
    obtain ⟨L9, hd9, hf9⟩ := hj9
    exact ⟨(j - 1, v5, os ++ [(f, as9, x4)], cs ++ [ii (f), av, ii (x4)], L9, (m) + 1, F8), _, (qj leG1 le8), rF, ⟨rfl, rfl, rfl, rfl, (vI (by (try dsimp only); omega)), ⟨⟩⟩, (sD (sD (sC (sC (sC (sC (sC sR))))))), ⟨rfl, (qj leG1 le8), (by (try dsimp only); (try rw [List.length_append]); (try simp only [List.length_singleton]); omega), (hs2), (hc1), (by (try dsimp only); (try rw [List.length_append]); (try simp only [List.length_singleton]); omega), (by (try dsimp only); (try rw [List.length_append]); (try simp only [List.length_singleton]); omega), (by first | exact hob | exact trans_snoc hob (by (try dsimp only); omega)), (hd9), (hf9)⟩, (by (try dsimp only); omega)⟩
   refine qx (qa (qd (ii ((j : Int) - 1)) rfl (cX (js (((j : Int) - 1) - 1) rfl rfl (by omega) (by omega) (qg (ii (((j : Int) - 1) - 1)) rfl (qb ?_))))))
   exact ⟨(j - 1, ov, os, cs, Ls, m, F8), _, (qj leG1 le8), rF, ⟨rfl, rfl, rfl, rfl, (vI (by (try dsimp only); omega)), ⟨⟩⟩, (sD (sC (sC (sC (sC (sC sR)))))), ⟨rfl, (qj leG1 le8), (by (try dsimp only); (try rw [List.length_append]); (try simp only [List.length_singleton]); omega), (hov), (hC), (by (try dsimp only); (try rw [List.length_append]); (try simp only [List.length_singleton]); omega), (by (try dsimp only); (try rw [List.length_append]); (try simp only [List.length_singleton]); omega), (by first | exact hob | exact trans_snoc hob (by (try dsimp only); omega)), (hD), (hZ.mono le8)⟩, (by (try dsimp only); omega)⟩
  refine qx (qc (qa (qd (ii (x3)) rfl (qd (ptr cb 0) rfl (cX (ql (0) qA rfl qr (by decide) rfl rfl (cX (qi qM rfl (Rd.own [_] rfl rfl) (cX (qq (args := [ptr cb 0, ii (1 + x1)]) call22 rfl (jl [_, _, _, _] (l1Below_spec (n := 1 + x1) hbs (by omega) (hn := (by first | assumption | rfl | omega | simp)))) ?_))))))))))
  rintro _ _ _ _ ⟨⟨rfl, x7, rfl, hr7⟩, rfl⟩
  show XL _ _ _ _ _ _ _ (slH 68 3 ov m cs :: cellsH b3 [ii (1 + x1), ov, sN] 29 :: cellsH b2 [ii (0), sN, sN] 29 :: cellsH b1 [arv] 26 :: curH .i64 83 cb bsv bs.length :: L)
  refine cX (XOp.build [ii (x3), sN, ii (x7)] [ii (0), sN, ii (0)] [(0, 1), (1, 1), (2, 1)] [(0, [ii (x3)]), (2, [ii (x7)])] qB jF rfl (.cons rfl qr (.cons rfl qw (.cons rfl qr PlacesAre.nil))) rfl (.cons rfl (.cons rfl CellsAre.nil)) (cX (jt [ii (0), sN, ii (0)] jF rfl ?_)))
  intro b5
  refine cX (qX [] _ [ii (x3), sN, ii (x7)] jb rfl rfl rfl (qt rfl (qt rfl (qt rfl qZ))) rfl rfl rfl (qb (qc (qc (qa (qg (ii (0)) rfl (qb (qF ?_))))))))
  have hyf := hsg9.2.2 (x3).toNat (by omega)
  refine jg (α := Nat × Value × List Int) (fun xQ => [(0, ptr cb 0), (3, ptr b1 0), (4, ptr b2 0), (5, ptr b3 0), (6, ii ((j : Int) - 1)), (7, ii (x3)), (9, ptr b5 0), (10, ii (((xQ.1 : Nat) : Int)))]) (fun xQ => intsH 2 xQ.2.1 xQ.2.2 :: cellsH b5 [ii (x3), xQ.2.1, ii (x7)] 68 :: slH 68 3 ov m cs :: cellsH b3 [ii (1 + x1), ov, sN] 29 :: cellsH b2 [ii (0), sN, sN] 29 :: cellsH b1 [arv] 26 :: curH .i64 83 cb bsv bs.length :: L) (fun xQ F' => G1 = F' ∧ (IsSl xQ.2.1) ∧ (xQ.1 ≤ (ar.getD (x3).toNat 0).toNat) ∧ (xQ.2.2.length = xQ.1)) (fun xQ => (ar.getD (x3).toNat 0).toNat - xQ.1) (0, sN, []) ⟨rfl, rfl, rfl, rfl, rfl, rfl, rfl, rfl, ⟨⟩⟩ (jj (intsH.addNil 2 none _) (sC (sC (sC (sC (sC (sC (sC sR)))))))) ⟨rfl, (⟨_, _, _, rfl⟩), (Nat.zero_le _), (rfl)⟩ ?_
  rintro ⟨i, av, as9⟩ rE _ _ ⟨rfl, hav, hi, hal⟩
  show X _ _ _ _ (envs [(0, ptr cb 0), (3, ptr b1 0), (4, ptr b2 0), (5, ptr b3 0), (6, ii ((j : Int) - 1)), (7, ii (x3)), (9, ptr b5 0), (10, ii ((i : Int)))] rE) _ (intsH 2 av as9 :: cellsH b5 [ii (x3), av, ii (x7)] 68 :: slH 68 3 ov m cs :: cellsH b3 [ii (1 + x1), ov, sN] 29 :: cellsH b2 [ii (0), sN, sN] 29 :: cellsH b1 [arv] 26 :: curH .i64 83 cb bsv bs.length :: L)
  dsimp only at hav hi hal
  refine qc (qc (qa (qd (ii ((i : Int))) rfl (cX (ql (0) ja rfl qw (by decide) rfl rfl (cX (qi qT rfl (Rd.own [_, _, _, _, _] rfl rfl) (qd (ii (x3)) rfl (cX (qy ((x3).toNat) qf qr rfl rfl (by omega) har.slv (by omega) (Nat.mul_one _) (cX (qi qM rfl (har.rd (by omega)) (cX (qV rfl rfl (qb ?_)))))))))))))))
  refine qE (p := (i : Int) < ar.getD ((x3).toNat) 0) rfl (fun h10 => ?_) (fun h10 => ?_)
  ·refine qx (qc (qF ?_))
   refine X.drawG [intsH 2 av as9, cellsH b5 [ii (x3), av, ii (x7)] 68, slH 68 3 ov m cs, cellsH b3 [ii (1 + x1), ov, sN] 29, cellsH b2 [ii (0), sN, sN] 29, cellsH b1 [arv] 26, curH .i64 83 cb bsv bs.length] L 7 [[], [], [], [], [], [], [5]] [[], [0], [], [], [3], [2, 4], [5]] [] (phiG [pe (ptr b5 1), pe av, pe (ptr cb 0), pe (ptr b3 0), pe (ii (1 + x1)), fun FF us v => (ii (((intAt v))) : Value) = v ∧ (0 ≤ ((intAt v)) ∧ (((intAt v)) < (1 + x1) ∨ ((intAt v)) = 0)), fun FF us v => ∃ b, v = .slice (some ⟨b, 0, none⟩) 1 1]) (ownL [o0, o0, o0, o0, o0, o0, fun us v => [slH 2 1 v 1 [ii (((intAt (us.getD 0 undef))))]]]) mixed rfl rfl (by kernel_rfl) (by kernel_rfl) (MonoG.get (m1 (m1 (m1 (m1 (m1 (mC (fun le h => ⟨h.1, h.2⟩) (mC (fun le h => h) MonoG.nil)))))))) ?_ ?_
   ·refine gD (fun W Fs R lF z9 => ?_) ?_
    ·refine qh (ql (1) qB rfl qw (by decide) rfl rfl ?_)
     exact ⟨rfl, rfl⟩
    refine gD (fun W Fs R lF z9 => ?_) ?_
    ·replace hbs := hbs.mono lF
     replace hC := hC.mono lF
     rw [zA 0 (z9 0 rfl)]
     refine qh (qi qT rfl (Rd.own [_] rfl rfl) ?_)
     exact ⟨rfl, rfl⟩
    refine gD (fun W Fs R lF z9 => ?_) ?_
    ·refine qh (qk (ptr cb 0) rfl ?_)
     exact ⟨rfl, rfl⟩
    refine gD (fun W Fs R lF z9 => ?_) ?_
    ·refine qh (ql (0) qA rfl qr (by decide) rfl rfl ?_)
     exact ⟨rfl, rfl⟩
    refine gD (fun W Fs R lF z9 => ?_) ?_
    ·replace hbs := hbs.mono lF
     replace hC := hC.mono lF
     rw [zA 3 (z9 3 rfl)]
     refine qh (qi qM rfl (Rd.own [_, _, _] rfl rfl) ?_)
     exact ⟨rfl, rfl⟩
    refine gD (fun W Fs R lF z9 => ?_) ?_
    ·replace hbs := hbs.mono lF
     replace hC := hC.mono lF
     rw [zB 2 4 (z9 2 rfl) (z9 4 rfl)]
     refine qh (qq (args := [ptr cb 0, ii (1 + x1)]) call22 rfl (jl [_, _, _, _, _, _] (l1Below_spec (n := 1 + x1) hbs (by omega) (hn := (by first | assumption | rfl | omega | simp)))) ?_)
     rintro _ _ _ _ ⟨⟨rfl, x9, rfl, hr9⟩, rfl⟩
     exact ⟨⟨rfl, hr9⟩, rfl⟩
    refine gD (fun W Fs R lF z9 => ?_) ?_
    ·obtain ⟨e5, f5_7hx⟩ := z9 5 rfl
     replace hbs := hbs.mono lF
     replace hC := hC.mono lF
     rw [eS (l := [(5, (ii (((intAt (W 5))))))]) ⟨(e5).symm, ⟨⟩⟩]
     refine qh (qP (s := 1) [ii (((intAt (W 5))))] [ii (0)] [(0, [ii (((intAt (W 5))))])] qf qr jm rfl (by decide) rfl (.cons rfl CellsAre.nil) rfl ?_)
     intro v7 hv5
     exact ⟨hv5, rfl⟩
    exact stepsG.nil
   intro W F12 le12 hphi
   obtain ⟨e5, f5_7hx⟩ := hphi 5 (by decide)
   have f6 : ∃ b, (W 6) = .slice (some ⟨b, 0, none⟩) 1 1 := hphi 6 (by decide)
   generalize hu2 : (intAt (W 5)) = u3 at e5 f5_7hx f6
   generalize huu6 : W 6 = u4 at e5 f5_7hx f6
   rw [eS (l := [(1, _), (5, (ii ((u3)))), (6, u4)]) ⟨(hphi 1 (by decide)), (e5).symm, huu6, ⟨⟩⟩]
   replace hbs := hbs.mono le12
   replace hC := hC.mono le12
   show XL _ _ _ _ _ _ _ (slH 2 1 u4 1 [ii ((u3))] :: intsH 2 av as9 :: cellsH b5 [ii (x3), av, ii (x7)] 68 :: slH 68 3 ov m cs :: cellsH b3 [ii (1 + x1), ov, sN] 29 :: cellsH b2 [ii (0), sN, sN] 29 :: cellsH b1 [arv] 26 :: curH .i64 83 cb bsv bs.length :: L)
   refine cX (jL (u := (u3)) [_] _ qf typeInfo2 rfl rfl rfl rfl rfl rfl (SlV.own [] rfl) (Rd.sl [] rfl rfl) (by (try simp only [List.length_append, List.length_nil, List.length_cons, List.length_singleton, List.length_take, List.length_drop]); omega) ?_)
   intro v8 hs3 hn3
   refine cX (ql (1) qB rfl qw (by decide) rfl rfl (cX (jC [_, _] _ [ii (x3), v8, ii (x7)] qw rfl rfl (qU hs3) rfl rfl rfl (qb (qa (qd (ii ((i : Int))) rfl (cX (qD (((i + 1 : Nat) : Int)) rfl rfl (by omega) (by omega) (qg (ii (((i + 1 : Nat) : Int))) rfl (qb ?_))))))))))
   exact ⟨(i + 1, v8, as9 ++ [(u3)]), _, FLe.refl _, le12, ⟨rfl, rfl, rfl, rfl, rfl, rfl, rfl, rfl, ⟨⟩⟩, (sD (sC (sC (sC (sC (sC (sC (sC sR)))))))), ⟨rfl, (hs3), (by (try dsimp only) <;> omega), (by (try dsimp only); (try rw [List.length_append]); (try simp only [List.length_singleton]); omega)⟩, (by omega)⟩
  refine jd (qp (qp (qJ (qc (qa (jz [] _ _ rfl (fun F13 le13 hz2 => ?_)))))))
  replace hbs := hbs.mono le13
  replace hC := hC.mono le13
  have hf2 : IntsF F13 av as9 := intsH.fz (xs := as9) hz2.fz
  skip
  refine qg (.bool (true)) rfl (qb (qc (qc (qa (qg (ii (0)) rfl (qb (qF (jg (α := Nat × Bool) (fun xQ => [(0, ptr cb 0), (3, ptr b1 0), (4, ptr b2 0), (5, ptr b3 0), (6, ii ((j : Int) - 1)), (9, ptr b5 0), (11, .bool (xQ.2)), (12, ii (((xQ.1 : Nat) : Int)))]) (fun xQ => cellsH b5 [ii (x3), av, ii (x7)] 68 :: slH 68 3 ov m cs :: cellsH b3 [ii (1 + x1), ov, sN] 29 :: cellsH b2 [ii (0), sN, sN] 29 :: cellsH b1 [arv] 26 :: curH .i64 83 cb bsv bs.length :: L) (fun xQ F' => F13 = F' ∧ (xQ.1 ≤ os.length)) (fun xQ => os.length - xQ.1) (0, true) ⟨rfl, rfl, rfl, rfl, rfl, rfl, rfl, rfl, ⟨⟩⟩ (sC (sC (sC (sC (sC (sC sR)))))) ⟨rfl, (Nat.zero_le _)⟩ ?_))))))))
  rintro ⟨y, b⟩ rE _ _ ⟨rfl, hy⟩
  show X _ _ _ _ (envs [(0, ptr cb 0), (3, ptr b1 0), (4, ptr b2 0), (5, ptr b3 0), (6, ii ((j : Int) - 1)), (9, ptr b5 0), (11, .bool (b)), (12, ii ((y : Int)))] rE) _ (cellsH b5 [ii (x3), av, ii (x7)] 68 :: slH 68 3 ov m cs :: cellsH b3 [ii (1 + x1), ov, sN] 29 :: cellsH b2 [ii (0), sN, sN] 29 :: cellsH b1 [arv] 26 :: curH .i64 83 cb bsv bs.length :: L)
  dsimp only at hy
  have hoa := fun i => trans_at hob i
  refine qc (qc (qa (qd (ii ((y : Int))) rfl (cX (ql (1) qA rfl jh (by decide) rfl rfl (cX (qi jo rfl (Rd.own [_, _] rfl rfl) (cX (qG qR rfl (SlV.own [_] rfl) (cX (qV rfl rfl (qb ?_))))))))))))
  refine qE (p := (y : Int) < (m : Int)) rfl (fun h11 => ?_) (fun h11 => ?_)
  ·refine qx (qc (qF ?_))
   by_cases h12 : (b) = true
   ·obtain ⟨a2, ha2, hq2⟩ := hC.get (i := y) (by omega)
    by_cases h13 : ((os.getD y (0, [], 0)).1) = x3 ∧ ((os.getD y (0, [], 0)).2.1) = as9
    ·refine jq [cellsH b5 [ii (x3), av, ii (x7)] 68, slH 68 3 ov m cs, cellsH b3 [ii (1 + x1), ov, sN] 29, cellsH b2 [ii (0), sN, sN] 29, cellsH b1 [arv] 26, curH .i64 83 cb bsv bs.length] L 18 [] [[], [0], [1], [1, 2], [1], [1, 3, 4], [1, 5], [1], [1, 6, 7], [1, 8], [9], [9, 10], [9], [9, 11, 12], [9, 13], [9, 14], [9], [9, 16]] (phiL [qe (.bool (b)), qe (.bool (b)), qe (ptr b3 1), qe ov, qe (ii ((y : Int)) : Value), qe (.pointer (some (elemA ov (y * 3)))), qe (.agg #[ii ((os.getD y (0, [], 0)).1), a2, ii ((os.getD y (0, [], 0)).2.2)]), qe (.agg #[ii (x3), av, ii (x7)]), qe (.bool (decide (((os.getD y (0, [], 0)).1) = x3 ∧ ((os.getD y (0, [], 0)).2.1) = as9))), qe (.bool (decide (((os.getD y (0, [], 0)).1) = x3 ∧ ((os.getD y (0, [], 0)).2.1) = as9))), qe (ptr b3 1), qe ov, qe (ii ((y : Int)) : Value), qe (.pointer (some (elemA ov (y * 3)))), qe (.pointer (some (elemA ov (y * 3 + 2)))), qe (ii ((os.getD y (0, [], 0)).2.2)), qe (ptr b5 2), qe (ii (x7))]) (ownL []) mixed rfl rfl (by kernel_rfl) ?_ ?_
     ·refine pD (fun W R z9 => ?_) ?_
      ·refine qh (qk (.bool (b)) rfl ?_)
       exact ⟨rfl, rfl, rfl⟩
      refine pD (fun W R z9 => ?_) ?_
      ·rw [zA 0 (z9 0 rfl)]
       refine qh (qk (.bool (b)) rfl ?_)
       exact ⟨rfl, rfl, rfl⟩
      refine pD (fun W R z9 => ?_) ?_
      ·rw [zA 1 (z9 1 rfl)]
       refine qH (t := 77) rfl (vB h12) (ql (1) qA rfl jh (by decide) rfl rfl ?_)
       exact ⟨rfl, rfl, rfl⟩
      refine pD (fun W R z9 => ?_) ?_
      ·rw [zB 1 2 (z9 1 rfl) (z9 2 rfl)]
       refine qH (t := 77) rfl (vB h12) (qi jo rfl (Rd.own [_, _] rfl rfl) ?_)
       exact ⟨rfl, rfl, rfl⟩
      refine pD (fun W R z9 => ?_) ?_
      ·rw [zA 1 (z9 1 rfl)]
       refine qH (t := 77) rfl (vB h12) (qk (ii ((y : Int))) rfl ?_)
       exact ⟨rfl, rfl, rfl⟩
      refine pD (fun W R z9 => ?_) ?_
      ·rw [eS (l := [(1, _), (3, _), (4, _)]) ⟨z9 1 rfl, z9 3 rfl, z9 4 rfl, ⟨⟩⟩]
       refine qH (t := 77) rfl (vB h12) (qy y qR jb rfl rfl rfl (SlV.own [_] rfl) (by omega) rfl ?_)
       exact ⟨rfl, rfl, rfl⟩
      refine pD (fun W R z9 => ?_) ?_
      ·rw [zB 1 5 (z9 1 rfl) (z9 5 rfl)]
       refine qH (t := 77) rfl (vB h12) (qu [ii ((os.getD y (0, [], 0)).1), a2, ii ((os.getD y (0, [], 0)).2.2)] jD jb rfl rfl (Rd.slG [_] rfl 0 hq2 rfl) ?_)
       exact ⟨rfl, rfl, rfl⟩
      refine pD (fun W R z9 => ?_) ?_
      ·rw [zA 1 (z9 1 rfl)]
       refine qH (t := 77) rfl (vB h12) (qu [ii (x3), av, ii (x7)] jD jb rfl rfl (Rd.ownN [] rfl rfl) ?_)
       exact ⟨rfl, rfl, rfl⟩
      refine pD (fun W R z9 => ?_) ?_
      ·rw [eS (l := [(1, _), (6, _), (7, _)]) ⟨z9 1 rfl, z9 6 rfl, z9 7 rfl, ⟨⟩⟩]
       refine qH (t := 77) rfl (vB h12) (qq (args := [.agg #[ii ((os.getD y (0, [], 0)).1), a2, ii ((os.getD y (0, [], 0)).2.2)], .agg #[ii (x3), av, ii (x7)]]) call44 rfl (l23From_spec ha2 hf2 (hlb := (Nat.le_trans (hoa y) (by decide))) (hls := (by omega))) ?_)
       rintro _ _ _ _ ⟨rfl, rfl, rfl⟩
       exact ⟨rfl, rfl, rfl⟩
      refine pD (fun W R z9 => ?_) ?_
      ·rw [zB 1 8 (z9 1 rfl) (z9 8 rfl)]
       refine qH (t := 77) rfl (vB h12) (qk (.bool (decide (((os.getD y (0, [], 0)).1) = x3 ∧ ((os.getD y (0, [], 0)).2.1) = as9))) rfl ?_)
       exact ⟨rfl, rfl, rfl⟩
      refine pD (fun W R z9 => ?_) ?_
      ·rw [zA 9 (z9 9 rfl)]
       refine qH (t := 85) rfl (vT h13) (ql (1) qA rfl jh (by decide) rfl rfl ?_)
       exact ⟨rfl, rfl, rfl⟩
      refine pD (fun W R z9 => ?_) ?_
      ·rw [zB 9 10 (z9 9 rfl) (z9 10 rfl)]
       refine qH (t := 85) rfl (vT h13) (qi jo rfl (Rd.own [_, _] rfl rfl) ?_)
       exact ⟨rfl, rfl, rfl⟩
      refine pD (fun W R z9 => ?_) ?_
      ·rw [zA 9 (z9 9 rfl)]
       refine qH (t := 85) rfl (vT h13) (qk (ii ((y : Int))) rfl ?_)
       exact ⟨rfl, rfl, rfl⟩
      refine pD (fun W R z9 => ?_) ?_
      ·rw [eS (l := [(9, _), (11, _), (12, _)]) ⟨z9 9 rfl, z9 11 rfl, z9 12 rfl, ⟨⟩⟩]
       refine qH (t := 85) rfl (vT h13) (qy y qR jb rfl rfl rfl (SlV.own [_] rfl) (by omega) rfl ?_)
       exact ⟨rfl, rfl, rfl⟩
      refine pD (fun W R z9 => ?_) ?_
      ·rw [zB 9 13 (z9 9 rfl) (z9 13 rfl)]
       refine qH (t := 85) rfl (vT h13) (XOp.fieldE (y * 3 + 2) qB rfl qr (by decide) rfl rfl ?_)
       exact ⟨rfl, rfl, rfl⟩
      refine pD (fun W R z9 => ?_) ?_
      ·rw [zB 9 14 (z9 9 rfl) (z9 14 rfl)]
       refine qH (t := 85) rfl (vT h13) (qi qM rfl (Rd.sl [_] rfl (hq2 2 _ rfl)) ?_)
       exact ⟨rfl, rfl, rfl⟩
      refine pD (fun W R z9 => ?_) ?_
      ·rw [zA 9 (z9 9 rfl)]
       refine qH (t := 85) rfl (vT h13) (ql (2) qB rfl qr (by decide) rfl rfl ?_)
       exact ⟨rfl, rfl, rfl⟩
      refine pD (fun W R z9 => ?_) ?_
      ·rw [zB 9 16 (z9 9 rfl) (z9 16 rfl)]
       refine qH (t := 85) rfl (vT h13) (qi qM rfl (Rd.own [] rfl rfl) ?_)
       exact ⟨rfl, rfl, rfl⟩
      exact stepsP.nil
     intro W hphi
     rw [eS (l := [(1, _), (9, _), (15, _), (17, _)]) ⟨(hphi 1 (by decide)), (hphi 9 (by decide)), (hphi 15 (by decide)), (hphi 17 (by decide)), ⟨⟩⟩]
     show XL _ _ _ _ _ _ _ (cellsH b5 [ii (x3), av, ii (x7)] 68 :: slH 68 3 ov m cs :: cellsH b3 [ii (1 + x1), ov, sN] 29 :: cellsH b2 [ii (0), sN, sN] 29 :: cellsH b1 [arv] 26 :: curH .i64 83 cb bsv bs.length :: L)
     refine qo (t := 85) rfl (vT h13) (jp rfl rfl (qo (t := 77) rfl (vB h12) (qL (.bool (decide (((os.getD y (0, [], 0)).2.2 : Int) = x7))) (vT h13) rfl (qo (t := 77) rfl (vB h12) (XOp.notD rfl (cX (qL (.bool (decide (¬(((os.getD y (0, [], 0)).2.2 : Int) = x7)))) (vB h12) rfl (qg (.bool (decide (¬(((os.getD y (0, [], 0)).2.2 : Int) = x7)))) rfl (qb (qa (qd (ii ((y : Int))) rfl (cX (qD (((y + 1 : Nat) : Int)) rfl rfl (by omega) (by omega) (qg (ii (((y + 1 : Nat) : Int))) rfl (qb ?_)))))))))))))))
     exact ⟨(y + 1, decide (¬(((os.getD y (0, [], 0)).2.2 : Int) = x7))), _, FLe.refl _, rF, ⟨rfl, rfl, rfl, rfl, rfl, rfl, rfl, rfl, ⟨⟩⟩, (sC (sC (sC (sC (sC (sC sR)))))), ⟨rfl, (by (try dsimp only) <;> omega)⟩, (by omega)⟩
    refine jq [cellsH b5 [ii (x3), av, ii (x7)] 68, slH 68 3 ov m cs, cellsH b3 [ii (1 + x1), ov, sN] 29, cellsH b2 [ii (0), sN, sN] 29, cellsH b1 [arv] 26, curH .i64 83 cb bsv bs.length] L 18 [] [[], [0], [1], [1, 2], [1], [1, 3, 4], [1, 5], [1], [1, 6, 7], [1, 8], [9], [9, 10], [9], [9, 11, 12], [9, 13], [9, 14], [9], [9, 16]] (phiL [qe (.bool (b)), qe (.bool (b)), qe (ptr b3 1), qe ov, qe (ii ((y : Int)) : Value), qe (.pointer (some (elemA ov (y * 3)))), qe (.agg #[ii ((os.getD y (0, [], 0)).1), a2, ii ((os.getD y (0, [], 0)).2.2)]), qe (.agg #[ii (x3), av, ii (x7)]), qe (.bool (decide (((os.getD y (0, [], 0)).1) = x3 ∧ ((os.getD y (0, [], 0)).2.1) = as9))), qe (.bool (decide (((os.getD y (0, [], 0)).1) = x3 ∧ ((os.getD y (0, [], 0)).2.1) = as9))), qe undef, qe undef, qe undef, qe undef, qe undef, qe undef, qe undef, qe undef]) (ownL []) mixed rfl rfl (by kernel_rfl) ?_ ?_
    ·refine pD (fun W R z9 => ?_) ?_
     ·refine qh (qk (.bool (b)) rfl ?_)
      exact ⟨rfl, rfl, rfl⟩
     refine pD (fun W R z9 => ?_) ?_
     ·rw [zA 0 (z9 0 rfl)]
      refine qh (qk (.bool (b)) rfl ?_)
      exact ⟨rfl, rfl, rfl⟩
     refine pD (fun W R z9 => ?_) ?_
     ·rw [zA 1 (z9 1 rfl)]
      refine qH (t := 77) rfl (vB h12) (ql (1) qA rfl jh (by decide) rfl rfl ?_)
      exact ⟨rfl, rfl, rfl⟩
     refine pD (fun W R z9 => ?_) ?_
     ·rw [zB 1 2 (z9 1 rfl) (z9 2 rfl)]
      refine qH (t := 77) rfl (vB h12) (qi jo rfl (Rd.own [_, _] rfl rfl) ?_)
      exact ⟨rfl, rfl, rfl⟩
     refine pD (fun W R z9 => ?_) ?_
     ·rw [zA 1 (z9 1 rfl)]
      refine qH (t := 77) rfl (vB h12) (qk (ii ((y : Int))) rfl ?_)
      exact ⟨rfl, rfl, rfl⟩
     refine pD (fun W R z9 => ?_) ?_
     ·rw [eS (l := [(1, _), (3, _), (4, _)]) ⟨z9 1 rfl, z9 3 rfl, z9 4 rfl, ⟨⟩⟩]
      refine qH (t := 77) rfl (vB h12) (qy y qR jb rfl rfl rfl (SlV.own [_] rfl) (by omega) rfl ?_)
      exact ⟨rfl, rfl, rfl⟩
     refine pD (fun W R z9 => ?_) ?_
     ·rw [zB 1 5 (z9 1 rfl) (z9 5 rfl)]
      refine qH (t := 77) rfl (vB h12) (qu [ii ((os.getD y (0, [], 0)).1), a2, ii ((os.getD y (0, [], 0)).2.2)] jD jb rfl rfl (Rd.slG [_] rfl 0 hq2 rfl) ?_)
      exact ⟨rfl, rfl, rfl⟩
     refine pD (fun W R z9 => ?_) ?_
     ·rw [zA 1 (z9 1 rfl)]
      refine qH (t := 77) rfl (vB h12) (qu [ii (x3), av, ii (x7)] jD jb rfl rfl (Rd.ownN [] rfl rfl) ?_)
      exact ⟨rfl, rfl, rfl⟩
     refine pD (fun W R z9 => ?_) ?_
     ·rw [eS (l := [(1, _), (6, _), (7, _)]) ⟨z9 1 rfl, z9 6 rfl, z9 7 rfl, ⟨⟩⟩]
      refine qH (t := 77) rfl (vB h12) (qq (args := [.agg #[ii ((os.getD y (0, [], 0)).1), a2, ii ((os.getD y (0, [], 0)).2.2)], .agg #[ii (x3), av, ii (x7)]]) call44 rfl (l23From_spec ha2 hf2 (hlb := (Nat.le_trans (hoa y) (by decide))) (hls := (by omega))) ?_)
      rintro _ _ _ _ ⟨rfl, rfl, rfl⟩
      exact ⟨rfl, rfl, rfl⟩
     refine pD (fun W R z9 => ?_) ?_
     ·rw [zB 1 8 (z9 1 rfl) (z9 8 rfl)]
      refine qH (t := 77) rfl (vB h12) (qk (.bool (decide (((os.getD y (0, [], 0)).1) = x3 ∧ ((os.getD y (0, [], 0)).2.1) = as9))) rfl ?_)
      exact ⟨rfl, rfl, rfl⟩
     refine pD (fun W R z9 => ?_) ?_
     ·rw [zA 9 (z9 9 rfl)]
      exact qW (t := 85) rfl (vF h13) ⟨rfl, rfl, rfl⟩
     refine pD (fun W R z9 => ?_) ?_
     ·rw [eS (l := [(9, _), (10, undef)]) ⟨z9 9 rfl, z9 10 rfl, ⟨⟩⟩]
      exact qW (t := 85) rfl (vF h13) ⟨rfl, rfl, rfl⟩
     refine pD (fun W R z9 => ?_) ?_
     ·rw [zA 9 (z9 9 rfl)]
      exact qW (t := 85) rfl (vF h13) ⟨rfl, rfl, rfl⟩
     refine pD (fun W R z9 => ?_) ?_
     ·rw [eS (l := [(9, _), (11, undef), (12, undef)]) ⟨z9 9 rfl, z9 11 rfl, z9 12 rfl, ⟨⟩⟩]
      exact qW (t := 85) rfl (vF h13) ⟨rfl, rfl, rfl⟩
     refine pD (fun W R z9 => ?_) ?_
     ·rw [eS (l := [(9, _), (13, undef)]) ⟨z9 9 rfl, z9 13 rfl, ⟨⟩⟩]
      exact qW (t := 85) rfl (vF h13) ⟨rfl, rfl, rfl⟩
     refine pD (fun W R z9 => ?_) ?_
     ·rw [eS (l := [(9, _), (14, undef)]) ⟨z9 9 rfl, z9 14 rfl, ⟨⟩⟩]
      exact qW (t := 85) rfl (vF h13) ⟨rfl, rfl, rfl⟩
     refine pD (fun W R z9 => ?_) ?_
     ·rw [zA 9 (z9 9 rfl)]
      exact qW (t := 85) rfl (vF h13) ⟨rfl, rfl, rfl⟩
     refine pD (fun W R z9 => ?_) ?_
     ·rw [eS (l := [(9, _), (16, undef)]) ⟨z9 9 rfl, z9 16 rfl, ⟨⟩⟩]
      exact qW (t := 85) rfl (vF h13) ⟨rfl, rfl, rfl⟩
     exact stepsP.nil
    intro W hphi
    rw [eS (l := [(1, _), (9, _), (15, undef), (17, undef)]) ⟨(hphi 1 (by decide)), (hphi 9 (by decide)), (hphi 15 (by decide)), (hphi 17 (by decide)), ⟨⟩⟩]
    show XL _ _ _ _ _ _ _ (cellsH b5 [ii (x3), av, ii (x7)] 68 :: slH 68 3 ov m cs :: cellsH b3 [ii (1 + x1), ov, sN] 29 :: cellsH b2 [ii (0), sN, sN] 29 :: cellsH b1 [arv] 26 :: curH .i64 83 cb bsv bs.length :: L)
    refine qm (t := 85) rfl (vF h13) (qo (t := 77) rfl (vB h12) (qQ (.bool (false)) (vF h13) rfl (qo (t := 77) rfl (vB h12) (jx rfl (cX (qL (.bool (true)) (vB h12) rfl (qg (.bool (true)) rfl (qb (qa (qd (ii ((y : Int))) rfl (cX (qD (((y + 1 : Nat) : Int)) rfl rfl (by omega) (by omega) (qg (ii (((y + 1 : Nat) : Int))) rfl (qb ?_))))))))))))))
    exact ⟨(y + 1, true), _, FLe.refl _, rF, ⟨rfl, rfl, rfl, rfl, rfl, rfl, rfl, rfl, ⟨⟩⟩, (sC (sC (sC (sC (sC (sC sR)))))), ⟨rfl, (by (try dsimp only) <;> omega)⟩, (by omega)⟩
   rw [Bool.not_eq_true] at h12
   refine jq [cellsH b5 [ii (x3), av, ii (x7)] 68, slH 68 3 ov m cs, cellsH b3 [ii (1 + x1), ov, sN] 29, cellsH b2 [ii (0), sN, sN] 29, cellsH b1 [arv] 26, curH .i64 83 cb bsv bs.length] L 18 [] [[], [0], [1], [1, 2], [1], [1, 3, 4], [1, 5], [1], [1, 6, 7], [1, 8], [9], [9, 10], [9], [9, 11, 12], [9, 13], [9, 14], [9], [9, 16]] (phiL [qe (.bool (b)), qe (.bool (b)), qe undef, qe undef, qe undef, qe undef, qe undef, qe undef, qe undef, qe undef, qe undef, qe undef, qe undef, qe undef, qe undef, qe undef, qe undef, qe undef]) (ownL []) mixed rfl rfl (by kernel_rfl) ?_ ?_
   ·refine pD (fun W R z9 => ?_) ?_
    ·refine qh (qk (.bool (b)) rfl ?_)
     exact ⟨rfl, rfl, rfl⟩
    refine pD (fun W R z9 => ?_) ?_
    ·rw [zA 0 (z9 0 rfl)]
     refine qh (qk (.bool (b)) rfl ?_)
     exact ⟨rfl, rfl, rfl⟩
    refine pD (fun W R z9 => ?_) ?_
    ·rw [zA 1 (z9 1 rfl)]
     exact qW (t := 77) rfl (vB h12) ⟨rfl, rfl, rfl⟩
    refine pD (fun W R z9 => ?_) ?_
    ·rw [eS (l := [(1, _), (2, undef)]) ⟨z9 1 rfl, z9 2 rfl, ⟨⟩⟩]
     exact qW (t := 77) rfl (vB h12) ⟨rfl, rfl, rfl⟩
    refine pD (fun W R z9 => ?_) ?_
    ·rw [zA 1 (z9 1 rfl)]
     exact qW (t := 77) rfl (vB h12) ⟨rfl, rfl, rfl⟩
    refine pD (fun W R z9 => ?_) ?_
    ·rw [eS (l := [(1, _), (3, undef), (4, undef)]) ⟨z9 1 rfl, z9 3 rfl, z9 4 rfl, ⟨⟩⟩]
     exact qW (t := 77) rfl (vB h12) ⟨rfl, rfl, rfl⟩
    refine pD (fun W R z9 => ?_) ?_
    ·rw [eS (l := [(1, _), (5, undef)]) ⟨z9 1 rfl, z9 5 rfl, ⟨⟩⟩]
     exact qW (t := 77) rfl (vB h12) ⟨rfl, rfl, rfl⟩
    refine pD (fun W R z9 => ?_) ?_
    ·rw [zA 1 (z9 1 rfl)]
     exact qW (t := 77) rfl (vB h12) ⟨rfl, rfl, rfl⟩
    refine pD (fun W R z9 => ?_) ?_
    ·rw [eS (l := [(1, _), (6, undef), (7, undef)]) ⟨z9 1 rfl, z9 6 rfl, z9 7 rfl, ⟨⟩⟩]
     exact qW (t := 77) rfl (vB h12) ⟨rfl, rfl, rfl⟩
    refine pD (fun W R z9 => ?_) ?_
    ·rw [eS (l := [(1, _), (8, undef)]) ⟨z9 1 rfl, z9 8 rfl, ⟨⟩⟩]
     exact qW (t := 77) rfl (vB h12) ⟨rfl, rfl, rfl⟩
    refine pD (fun W R z9 => ?_) ?_
    ·rw [eS (l := [(9, undef)]) ⟨z9 9 rfl, ⟨⟩⟩]
     exact XG.noU (t := 85) rfl rfl ⟨rfl, rfl, rfl⟩
    refine pD (fun W R z9 => ?_) ?_
    ·rw [eS (l := [(9, undef), (10, undef)]) ⟨z9 9 rfl, z9 10 rfl, ⟨⟩⟩]
     exact XG.noU (t := 85) rfl rfl ⟨rfl, rfl, rfl⟩
    refine pD (fun W R z9 => ?_) ?_
    ·rw [eS (l := [(9, undef)]) ⟨z9 9 rfl, ⟨⟩⟩]
     exact XG.noU (t := 85) rfl rfl ⟨rfl, rfl, rfl⟩
    refine pD (fun W R z9 => ?_) ?_
    ·rw [eS (l := [(9, undef), (11, undef), (12, undef)]) ⟨z9 9 rfl, z9 11 rfl, z9 12 rfl, ⟨⟩⟩]
     exact XG.noU (t := 85) rfl rfl ⟨rfl, rfl, rfl⟩
    refine pD (fun W R z9 => ?_) ?_
    ·rw [eS (l := [(9, undef), (13, undef)]) ⟨z9 9 rfl, z9 13 rfl, ⟨⟩⟩]
     exact XG.noU (t := 85) rfl rfl ⟨rfl, rfl, rfl⟩
    refine pD (fun W R z9 => ?_) ?_
    ·rw [eS (l := [(9, undef), (14, undef)]) ⟨z9 9 rfl, z9 14 rfl, ⟨⟩⟩]
     exact XG.noU (t := 85) rfl rfl ⟨rfl, rfl, rfl⟩
    refine pD (fun W R z9 => ?_) ?_
    ·rw [eS (l := [(9, undef)]) ⟨z9 9 rfl, ⟨⟩⟩]
     exact XG.noU (t := 85) rfl rfl ⟨rfl, rfl, rfl⟩
    refine pD (fun W R z9 => ?_) ?_
    ·rw [eS (l := [(9, undef), (16, undef)]) ⟨z9 9 rfl, z9 16 rfl, ⟨⟩⟩]
     exact XG.noU (t := 85) rfl rfl ⟨rfl, rfl, rfl⟩
    exact stepsP.nil
   intro W hphi
   rw [eS (l := [(1, _), (9, undef), (15, undef), (17, undef)]) ⟨(hphi 1 (by decide)), (hphi 9 (by decide)), (hphi 15 (by decide)), (hphi 17 (by decide)), ⟨⟩⟩]
   show XL _ _ _ _ _ _ _ (cellsH b5 [ii (x3), av, ii (x7)] 68 :: slH 68 3 ov m cs :: cellsH b3 [ii (1 + x1), ov, sN] 29 :: cellsH b2 [ii (0), sN, sN] 29 :: cellsH b1 [arv] 26 :: curH .i64 83 cb bsv bs.length :: L)
   refine jE (t := 85) rfl rfl (qm (t := 77) rfl (vB h12) (qm (t := 77) rfl (vB h12) (cX (qQ (.bool (false)) (vB h12) rfl (qg (.bool (false)) rfl (qb (qa (qd (ii ((y : Int))) rfl (cX (qD (((y + 1 : Nat) : Int)) rfl rfl (by omega) (by omega) (qg (ii (((y + 1 : Nat) : Int))) rfl (qb ?_))))))))))))
   exact ⟨(y + 1, false), _, FLe.refl _, rF, ⟨rfl, rfl, rfl, rfl, rfl, rfl, rfl, rfl, ⟨⟩⟩, (sC (sC (sC (sC (sC (sC sR)))))), ⟨rfl, (by (try dsimp only) <;> omega)⟩, (by omega)⟩
  refine jd (qp (qp (qJ (qc (qa (qd (.bool (b)) rfl (qb ?_)))))))
  refine jr (t := b) rfl (fun h14 => ?_) (fun h14 => ?_)
  ·refine qa (cX (ql (1) qA rfl jh (by decide) rfl rfl (cX (qi jo rfl (Rd.own [_, _] rfl rfl) (cX (qu [ii (x3), av, ii (x7)] jD jb rfl rfl (Rd.ownN [] rfl rfl) (cX (qP (s := 3) [ii (x3), av, ii (x7)] [ii (0), sN, ii (0)] [(0, [ii (x3), av, ii (x7)])] qR jb jF rfl (by decide) rfl (.cons rfl CellsAre.nil) rfl ?_))))))))
   intro v9 hv6
   refine cX (jN (m := 1) (bytes := 40) (cs := cs) [_, _] _ [ii (x3), av, ii (x7)] qR typeInfo68 rfl rfl rfl rfl rfl rfl rfl (SlV.own [] rfl) rfl (Rd.lit [] rfl) (qt rfl (qt (qU (qS hf2)) (qt rfl qZ))) (by (try simp only [List.length_append, List.length_nil, List.length_cons, List.length_singleton]); omega) (by (try simp only [List.length_append, List.length_nil, List.length_cons, List.length_singleton]); omega) ?_)
   intro v10 hs4 hn4 hm2
   have hc2 := TransC.snoc hC (y0 := x3) (y1 := as9) (y2 := x7) hf2
   refine cX (ql (1) qA rfl jh (by decide) rfl rfl (cX (jC [_, _, _] _ [ii (1 + x1), v10, sN] jh rfl rfl (qU hs4) rfl rfl rfl (qb (qa (qd (ii ((j : Int) - 1)) rfl (cX (js (((j : Int) - 1) - 1) rfl rfl (by omega) (by omega) (qg (ii (((j : Int) - 1) - 1)) rfl (qb ?_))))))))))
   have hj9 := tran_more (x := x3) (z := x7) hD (Fresh.app hZ leG1 (Fresh.one hz2) le13)
   obtain ⟨L9, hd9, hf9⟩ := hj9
   exact ⟨(j - 1, v10, os ++ [(x3, as9, x7)], cs ++ [ii (x3), av, ii (x7)], L9, (m) + 1, F13), _, (qj leG1 le13), rF, ⟨rfl, rfl, rfl, rfl, (vI (by (try dsimp only); omega)), ⟨⟩⟩, (sD (sD (sC (sC (sC (sC (sC sR))))))), ⟨rfl, (qj leG1 le13), (by (try dsimp only); (try rw [List.length_append]); (try simp only [List.length_singleton]); omega), (hs4), (hc2), (by (try dsimp only); (try rw [List.length_append]); (try simp only [List.length_singleton]); omega), (by (try dsimp only); (try rw [List.length_append]); (try simp only [List.length_singleton]); omega), (by first | exact hob | exact trans_snoc hob (by (try dsimp only); omega)), (hd9), (hf9)⟩, (by (try dsimp only); omega)⟩
  refine qx (qa (qd (ii ((j : Int) - 1)) rfl (cX (js (((j : Int) - 1) - 1) rfl rfl (by omega) (by omega) (qg (ii (((j : Int) - 1) - 1)) rfl (qb ?_))))))
  exact ⟨(j - 1, ov, os, cs, Ls, m, F13), _, (qj leG1 le13), rF, ⟨rfl, rfl, rfl, rfl, (vI (by (try dsimp only); omega)), ⟨⟩⟩, (sD (sC (sC (sC (sC (sC sR)))))), ⟨rfl, (qj leG1 le13), (by (try dsimp only); (try rw [List.length_append]); (try simp only [List.length_singleton]); omega), (hov), (hC), (by (try dsimp only); (try rw [List.length_append]); (try simp only [List.length_singleton]); omega), (by (try dsimp only); (try rw [List.length_append]); (try simp only [List.length_singleton]); omega), (by first | exact hob | exact trans_snoc hob (by (try dsimp only); omega)), (hD), (hZ.mono le13)⟩, (by (try dsimp only); omega)⟩
 refine jd (qp (qp (qJ (qc (qc (qa (qg (ii (0)) rfl (qb (qF (jg (α := Nat × Value × List Int) (fun xQ => [(0, ptr cb 0), (4, ptr b2 0), (5, ptr b3 0), (13, ii (((xQ.1 : Nat) : Int)))]) (fun xQ => intsH 2 xQ.2.1 xQ.2.2 :: slH 68 3 ov m cs :: cellsH b3 [ii (1 + x1), ov, xQ.2.1] 29 :: cellsH b2 [ii (0), sN, sN] 29 :: cellsH b1 [arv] 26 :: curH .i64 83 cb bsv bs.length :: L) (fun xQ F' => G1 = F' ∧ (IsSl xQ.2.1) ∧ ((xQ.1 : Int) ≤ 1 + x1) ∧ (xQ.2.2.length ≤ xQ.1)) (fun xQ => (1 + x1).toNat - xQ.1) (0, sN, []) ⟨rfl, rfl, rfl, rfl, ⟨⟩⟩ (jj (intsH.addNil 2 none _) (sC (sC (sC (sC (sC (sC sR))))))) ⟨rfl, (⟨_, _, _, rfl⟩), (by (try dsimp only); omega), (Nat.le_refl _)⟩ ?_))))))))))
 rintro ⟨q, fv, gs⟩ rE _ _ ⟨rfl, hfv, hq, hgl⟩
 show X _ _ _ _ (envs [(0, ptr cb 0), (4, ptr b2 0), (5, ptr b3 0), (13, ii ((q : Int)))] rE) _ (intsH 2 fv gs :: slH 68 3 ov m cs :: cellsH b3 [ii (1 + x1), ov, fv] 29 :: cellsH b2 [ii (0), sN, sN] 29 :: cellsH b1 [arv] 26 :: curH .i64 83 cb bsv bs.length :: L)
 dsimp only at hfv hq hgl
 refine qc (qc (qa (qd (ii ((q : Int))) rfl (cX (ql (0) qA rfl qr (by decide) rfl rfl (cX (qi qM rfl (Rd.own [_, _] rfl rfl) (cX (qV rfl rfl (qb ?_))))))))))
 refine qE (p := (q : Int) < 1 + x1) rfl (fun h15 => ?_) (fun h15 => ?_)
 ·refine qx (qc (qF (qc (qa (qd (ptr cb 0) rfl (cX (qq (args := [ptr cb 0, ii (2)]) call19 rfl (jl [_, _, _, _, _] (l1Once_spec (n := 2) hbs (by omega) (hn := (by first | assumption | rfl | omega | simp)))) ?_)))))))
  rintro _ _ _ _ ⟨⟨rfl, x10, rfl⟩, rfl⟩
  show XL _ _ _ _ _ _ _ (intsH 2 fv gs :: slH 68 3 ov m cs :: cellsH b3 [ii (1 + x1), ov, fv] 29 :: cellsH b2 [ii (0), sN, sN] 29 :: cellsH b1 [arv] 26 :: curH .i64 83 cb bsv bs.length :: L)
  refine qb ?_
  refine jr (t := x10) rfl (fun h16 => ?_) (fun h16 => ?_)
  ·refine qa (cX (ql (2) qA rfl qw (by decide) rfl rfl (cX (qi qT rfl (Rd.own [_, _] rfl rfl) (qd (ii ((q : Int))) rfl (cX (qP (s := 1) [ii ((q : Int))] [ii (0)] [(0, [ii ((q : Int))])] qf qr jm rfl (by decide) rfl (.cons rfl CellsAre.nil) rfl ?_)))))))
   intro v11 hv7
   refine cX (jL (u := (q : Int)) [_] _ qf typeInfo2 rfl rfl rfl rfl rfl rfl (SlV.own [] rfl) (Rd.sl [] rfl rfl) (by (try simp only [List.length_append, List.length_nil, List.length_cons, List.length_singleton, List.length_take, List.length_drop]); omega) ?_)
   intro v12 hs5 hn5
   refine cX (ql (2) qA rfl qw (by decide) rfl rfl (cX (jC [_, _, _] _ [ii (1 + x1), ov, v12] qw rfl rfl (qU hs5) rfl rfl rfl (qb (qa (qd (ii ((q : Int))) rfl (cX (qD (((q + 1 : Nat) : Int)) rfl rfl (by omega) (by omega) (qg (ii (((q + 1 : Nat) : Int))) rfl (qb ?_))))))))))
   exact ⟨(q + 1, v12, gs ++ [(q : Int)]), _, FLe.refl _, rF, ⟨rfl, rfl, rfl, rfl, ⟨⟩⟩, (sD (sC (sC (sC (sC (sC (sC sR))))))), ⟨rfl, (hs5), (by (try dsimp only) <;> omega), (by (try dsimp only); (try rw [List.length_append]); (try simp only [List.length_singleton]); omega)⟩, (by omega)⟩
  refine qx (qa (qd (ii ((q : Int))) rfl (cX (qD (((q + 1 : Nat) : Int)) rfl rfl (by omega) (by omega) (qg (ii (((q + 1 : Nat) : Int))) rfl (qb ?_))))))
  exact ⟨(q + 1, fv, gs), _, FLe.refl _, rF, ⟨rfl, rfl, rfl, rfl, ⟨⟩⟩, (sC (sC (sC (sC (sC (sC sR)))))), ⟨rfl, (hfv), (by (try dsimp only) <;> omega), (by (try dsimp only); (try rw [List.length_append]); (try simp only [List.length_singleton]); omega)⟩, (by omega)⟩
 refine jd (qp (qp (qJ (qc (qa (cX (qu [ii (1 + x1), ov, fv] jc qN rfl rfl (Rd.ownN [_, _] rfl rfl) (cX (qX [_, _, _] _ [ii (1 + x1), ov, fv] qN rfl rfl rfl (qt rfl (qt (qU hov) (qt (qU hfv) qZ))) rfl rfl rfl (qb (jf [_] _ _ rfl (fun F15 le15 hz3 => ?_))))))))))))
 replace hC := hC.mono le15
 have hf3 : TransF F15 ov os := CO.fz hC (by first | rfl | omega | (rw [List.length_set]; omega) | (simp; done) | (rw [List.length_append]; simp only [List.length_singleton]; omega) | ((simp only [List.length_append, List.length_singleton, List.length_nil]) <;> omega)) hz3.fz
 refine jf [] _ _ rfl (fun F16 le16 hz4 => ?_)
 replace hf3 := hf3.mono le16
 have hf4 : IntsF F16 fv gs := intsH.fz (xs := gs) hz4.fz
 refine qC (qv (L' := curH .i64 83 cb bsv bs.length :: L) [.agg #[ii (1 + x1), ov, fv]] (.agg #[ii (1 + x1), ov, fv]) (.cell rfl (jv [ii (1 + x1), ov, fv] jc qN rfl (Rd.ownN [_] rfl rfl)) .nil) rfl (qj (qj leG1 le15) le16) rF (sD (sD (sD (sC sR)))) ?_)
 exact ⟨⟨_, _, _, _, _, rfl, hf3, hf4, by omega, ⟨by omega, by omega, hob⟩, (Fresh.app (Fresh.one (Fresh.deep hD hZ leG1 hz3 (by omega) le15)) (qj leG1 le15) (Fresh.one hz4) le16)⟩, rfl⟩

/- spec.l23DrawAny -/
set_option maxHeartbeats 2000000 in
set_option maxRecDepth 20000 in
theorem l23DrawAny_spec {F : FH} {L : List HP} {cb : Nat} {bsv : Value} {bs : List Int} (hbs : BytesF F bsv bs) (hbl : bs.length ≤ 4000000) :
    Does prog 18 [ptr cb 0] F (curH .i64 83 cb bsv bs.length :: L) (fun v F' L' => (∃ (d : Value), ∃ (a : Value), ∃ (b : Value), ∃ (ar : List Int), ∃ (z : Int), ∃ (os : List TranT), ∃ (gs : List Int), (.tuple #[.agg #[d], .agg #[ii (z), a, b]] : Value) = v ∧ (IntsF F' d ar) ∧ (TransF F' a os) ∧ (IntsF F' b gs) ∧ (ar.length ≤ 20) ∧ (autoS 1 os gs)) ∧ curH .i64 83 cb bsv bs.length :: L = L') := by
 refine qO func18 rfl rfl rfl (qc (qa (cX (jt [sN] zeroValue26 rfl ?_))))
 intro b1
 refine cX (jt [ii (0), sN, sN] jK rfl ?_)
 intro b2
 refine qb (qc (qa (qd (ptr cb 0) rfl (cX (qq (args := [ptr cb 0]) call47 rfl (Does.atO [_, _] (l1DrawSig_spec hbs (by omega))) ?_)))))
 rintro _ F1 _ le1 ⟨x2, ⟨rfl, hsl1⟩, rfl⟩
 replace hbs := hbs.mono le1
 show XL _ _ _ _ _ _ _ (drawnH 2 x2 (fun ar => sigOk ar = true) :: cellsH b2 [ii (0), sN, sN] 29 :: cellsH b1 [sN] 26 :: curH .i64 83 cb bsv bs.length :: L)
 refine XL.undraw [] rfl (fun t1 hq9 => ?_)
 have q1 := hq9
 show XL _ _ _ _ _ _ _ (intsH 2 x2 t1 :: cellsH b2 [ii (0), sN, sN] 29 :: cellsH b1 [sN] 26 :: curH .i64 83 cb bsv bs.length :: L)
 refine cX (jt [sN] zeroValue26 rfl ?_)
 intro b3
 refine cX (qX [] _ [x2] qI rfl rfl rfl (qt (qU hsl1) qZ) rfl rfl rfl (jz [_] _ _ rfl (fun F2 le2 hz1 => ?_)))
 replace hbs := hbs.mono le2
 have hf1 : IntsF F2 x2 t1 := intsH.fz (xs := t1) hz1.fz
 have hso := q1
 have hsg9 := sigOk_spec hso
 refine qb (qc (qa (qd (ptr cb 0) rfl (cX (qu [x2] qY qI rfl rfl (Rd.ownN [] rfl rfl) (cX (XOp.thawL (id (qq (args := [ptr cb 0, .agg #[x2]]) call48 rfl (jl [_, _, _] (l23Draw_spec hbs (by omega) hf1 (hso := (by first | assumption | rfl | omega | simp)))) ?_)))))))))
 rintro _ F3 _ le3 ⟨⟨x3, x4, x5, x6, x7, rfl, hr1, hr2, hr3, hr4, hr5⟩, rfl⟩
 refine ⟨[transD 2 68 x3 x6, intsH 2 x4 x7], hr5, ?_⟩
 show XL _ _ _ _ _ _ _ (transD 2 68 x3 x6 :: intsH 2 x4 x7 :: cellsH b3 [x2] 26 :: cellsH b2 [ii (0), sN, sN] 29 :: cellsH b1 [sN] 26 :: curH .i64 83 cb bsv bs.length :: L)
 show XL _ _ _ _ _ _ _ (transD 2 68 x3 x6 :: intsH 2 x4 x7 :: cellsH b3 [x2] 26 :: cellsH b2 [ii (0), sN, sN] 29 :: cellsH b1 [sN] 26 :: curH .i64 83 cb bsv bs.length :: L)
 refine cX (jt [ii (0), sN, sN] jK rfl ?_)
 intro b4
 refine cX (qX [] _ [ii (x5), x3, x4] qN rfl rfl rfl (qt rfl (qt (qU (TransF.isSl hr1)) (qt (qU (qS hr2)) qZ))) rfl rfl rfl (qb (qc (qc ?_))))
 apply cutX (R := fun r9 Fq9 Lq9 => ∃ (zq : Int), ∃ (aq : Value), ∃ (bq : Value), ∃ (xq : List TranT), ∃ (gq : List Int), (∃ rE, r9 = envs [(0, ptr cb 0), (2, ptr b1 0), (3, ptr b2 0), (4, ptr b3 0), (5, ptr b4 0)] rE) ∧ F2 ≤ Fq9 ∧ Lq9 = cellsH b4 [ii (zq), aq, bq] 29 :: transD 2 68 aq xq :: intsH 2 bq gq :: cellsH b3 [x2] 26 :: cellsH b2 [ii (0), sN, sN] 29 :: cellsH b1 [sN] 26 :: curH .i64 83 cb bsv bs.length :: L ∧ (IsSl aq) ∧ (IsSl bq) ∧ (0 ≤ zq ∧ zq ≤ 16) ∧ (autoS 0 xq gq))
 ·intro tail1
  refine qa (qd (ptr cb 0) rfl (cX (qq (args := [ptr cb 0, ii (3)]) call19 rfl (jl [_, _, _, _, _, _] (l1Once_spec (n := 3) hbs (by omega) (hn := (by first | assumption | rfl | omega | simp)))) ?_)))
  rintro _ _ _ _ ⟨⟨rfl, x8, rfl⟩, rfl⟩
  show XL _ _ _ _ _ _ _ (cellsH b4 [ii (x5), x3, x4] 29 :: transD 2 68 x3 x6 :: intsH 2 x4 x7 :: cellsH b3 [x2] 26 :: cellsH b2 [ii (0), sN, sN] 29 :: cellsH b1 [sN] 26 :: curH .i64 83 cb bsv bs.length :: L)
  refine qb ?_
  refine jr (t := x8) rfl (fun h1 => ?_) (fun h1 => ?_)
  ·refine qc (qa (cX (qu [x2] qY qI rfl rfl (Rd.ownN [_, _, _] rfl rfl) (cX (qu [ii (x5), x3, x4] jc qN rfl rfl (Rd.ownN [] rfl rfl) (cX (XOp.lend [_] _ _ rfl (fun F5 le5 hz2 => (id (XOp.lend [_] _ _ rfl (fun F6 le6 hz3 => ?_)))))))))))
   have hf2 : TransF _ x3 x6 := (transD.fz hz2).mono le6
   have hf3 : IntsF _ x4 x7 := intsH.fz (xs := x7) hz3
   refine id (XOp.thawL (id (qq (args := [.agg #[x2], .agg #[ii (x5), x3, x4]]) call20 rfl (SureAuto_spec ((hf1.mono (qj le5 le6))) hf2 hf3 (hla := (by first | assumption | rfl | omega | simp)) (hlr := ((autoS.bounds (by assumption) (by decide)).1)) (hrb := ((autoS.bounds (by assumption) (by decide)).2.1)) (hlf := ((autoS.bounds (by assumption) (by decide)).2.2))) ?_)))
   rintro _ F7 _ le7 ⟨⟨x9, x10, x11, x12, x13, x14, rfl, hr6, hr7, hr8, hr9, hr10⟩, rfl⟩
   refine ⟨[transD 2 68 x9 x12, intsH 2 x10 x13], hr10, ?_⟩
   show XL _ _ _ _ _ _ _ (transD 2 68 x3 x6 :: intsH 2 x4 x7 :: transD 2 68 x9 x12 :: intsH 2 x10 x13 :: cellsH b4 [ii (x5), x3, x4] 29 :: cellsH b3 [x2] 26 :: cellsH b2 [ii (0), sN, sN] 29 :: cellsH b1 [sN] 26 :: curH .i64 83 cb bsv bs.length :: L)
   refine qd (.tuple #[.agg #[ii (x11), x9, x10], .bool (x14)]) rfl (cX (jn (.agg #[ii (x11), x9, x10]) rfl rfl (cX (jn (.bool (x14)) rfl rfl (cX (jt [ii (0), sN, sN] jK rfl ?_))))))
   intro b5
   refine cX (qX [] _ [ii (x11), x9, x10] qN rfl rfl rfl (qt rfl (qt (qU (TransF.isSl hr6)) (qt (qU (qS hr7)) qZ))) rfl rfl rfl (qg (.bool (x14)) rfl (qb (qc (qa (qd (.bool (x14)) rfl (qd (.bool (x14)) rfl ?_)))))))
   by_cases h2 : (x14) = true
   ·refine qo (t := 22) rfl (vB h2) (qk (ptr cb 0) rfl (qo (t := 22) rfl (vB h2) (qq (args := [ptr cb 0, ii (2)]) call19 rfl (jl [_, _, _, _, _, _, _, _, _] (l1Once_spec (n := 2) hbs (by omega) (hn := (by first | assumption | rfl | omega | simp)))) ?_)))
    rintro _ _ _ _ ⟨⟨rfl, x15, rfl⟩, rfl⟩
    show XL _ _ _ _ _ _ _ (cellsH b5 [ii (x11), x9, x10] 29 :: transD 2 68 x3 x6 :: intsH 2 x4 x7 :: transD 2 68 x9 x12 :: intsH 2 x10 x13 :: cellsH b4 [ii (x5), x3, x4] 29 :: cellsH b3 [x2] 26 :: cellsH b2 [ii (0), sN, sN] 29 :: cellsH b1 [sN] 26 :: curH .i64 83 cb bsv bs.length :: L)
    refine cX (qL (.bool (x15)) (vB h2) rfl (qb ?_))
    refine jr (t := x15) rfl (fun h3 => ?_) (fun h3 => ?_)
    ·refine qa (cX (qu [ii (x11), x9, x10] jc qN rfl rfl (Rd.ownN [] rfl rfl) (cX (qX [_, _, _, _, _] _ [ii (x11), x9, x10] qN rfl rfl rfl (qt rfl (qt (qU (TransF.isSl hr6)) (qt (qU (qS hr7)) qZ))) rfl rfl rfl (qb (qc (qc ?_)))))))
     exact jI (L' := cellsH b4 [ii (x11), x9, x10] 29 :: transD 2 68 x9 x12 :: intsH 2 x10 x13 :: cellsH b3 [x2] 26 :: cellsH b2 [ii (0), sN, sN] 29 :: cellsH b1 [sN] 26 :: curH .i64 83 cb bsv bs.length :: L) ((jj (je (A := [_, _, _, _, _, _, _, _, _])) (jj (je (A := [_, _, _, _, _, _, _, _, _])) (jj (je (A := [_, _, _, _, _, _, _, _, _])) (jj (je (A := [_, _, _, _, _, _, _, _, _])) (jj (je (A := [_, _, _, _, _, _, _, _])) (jj (je (A := [_, _, _, _, _, _, _, _])) (jj (je (A := [_, _, _, _, _, _, _, _, _])) (sC (sC (sC (sC (sC (sC (sC (sD (sD (sD sR)))))))))))))))))) (tail1 _ _ _ ⟨x11, x9, x10, x12, x13, ⟨_, (envs_of_sat (l := [(0, ptr cb 0), (2, ptr b1 0), (3, ptr b2 0), (4, ptr b3 0), (5, ptr b4 0)]) ⟨rfl, rfl, rfl, rfl, rfl, ⟨⟩⟩).symm⟩, rF, rfl, ((TransF.isSl hr6)), ((qS hr7)), (by assumption), (by assumption)⟩)
    refine qx (qc (qc ?_))
    exact jI (L' := cellsH b4 [ii (x5), x3, x4] 29 :: transD 2 68 x3 x6 :: intsH 2 x4 x7 :: cellsH b3 [x2] 26 :: cellsH b2 [ii (0), sN, sN] 29 :: cellsH b1 [sN] 26 :: curH .i64 83 cb bsv bs.length :: L) ((jj (je (A := [_, _, _, _, _, _, _, _, _])) (jj (je (A := [_, _, _, _, _, _, _, _, _])) (jj (je (A := [_, _, _, _, _, _, _, _, _])) (jj (je (A := [_, _, _, _, _, _, _, _, _])) (jj (je (A := [_, _, _, _, _, _])) (jj (je (A := [_, _, _, _, _, _])) (jj (je (A := [_, _, _, _, _, _, _, _, _])) (sC (sC (sC (sC (sC (sC (sC (sD (sD (sD sR)))))))))))))))))) (tail1 _ _ _ ⟨x5, x3, x4, x6, x7, ⟨_, (envs_of_sat (l := [(0, ptr cb 0), (2, ptr b1 0), (3, ptr b2 0), (4, ptr b3 0), (5, ptr b4 0)]) ⟨rfl, rfl, rfl, rfl, rfl, ⟨⟩⟩).symm⟩, rF, rfl, ((TransF.isSl hr1)), ((qS hr2)), (by assumption), (by assumption)⟩)
   rw [Bool.not_eq_true] at h2
   refine qm (t := 22) rfl (vB h2) (qm (t := 22) rfl (vB h2) (cX (qQ (.bool (false)) (vB h2) rfl (qb (jG rfl (qx (qc (qc ?_))))))))
   exact jI (L' := cellsH b4 [ii (x5), x3, x4] 29 :: transD 2 68 x3 x6 :: intsH 2 x4 x7 :: cellsH b3 [x2] 26 :: cellsH b2 [ii (0), sN, sN] 29 :: cellsH b1 [sN] 26 :: curH .i64 83 cb bsv bs.length :: L) ((jj (je (A := [_, _, _, _, _, _, _, _, _])) (jj (je (A := [_, _, _, _, _, _, _, _, _])) (jj (je (A := [_, _, _, _, _, _, _, _, _])) (jj (je (A := [_, _, _, _, _, _, _, _, _])) (jj (je (A := [_, _, _, _, _, _])) (jj (je (A := [_, _, _, _, _, _])) (jj (je (A := [_, _, _, _, _, _, _, _, _])) (sC (sC (sC (sC (sC (sC (sC (sD (sD (sD sR)))))))))))))))))) (tail1 _ _ _ ⟨x5, x3, x4, x6, x7, ⟨_, (envs_of_sat (l := [(0, ptr cb 0), (2, ptr b1 0), (3, ptr b2 0), (4, ptr b3 0), (5, ptr b4 0)]) ⟨rfl, rfl, rfl, rfl, rfl, ⟨⟩⟩).symm⟩, rF, rfl, ((TransF.isSl hr1)), ((qS hr2)), (by assumption), (by assumption)⟩)
  refine qx (qc (qc ?_))
  exact jI (L' := cellsH b4 [ii (x5), x3, x4] 29 :: transD 2 68 x3 x6 :: intsH 2 x4 x7 :: cellsH b3 [x2] 26 :: cellsH b2 [ii (0), sN, sN] 29 :: cellsH b1 [sN] 26 :: curH .i64 83 cb bsv bs.length :: L) ((sC (sC (sC (sC (sC (sC (sC sR)))))))) (tail1 _ _ _ ⟨x5, x3, x4, x6, x7, ⟨_, (envs_of_sat (l := [(0, ptr cb 0), (2, ptr b1 0), (3, ptr b2 0), (4, ptr b3 0), (5, ptr b4 0)]) ⟨rfl, rfl, rfl, rfl, rfl, ⟨⟩⟩).symm⟩, rF, rfl, ((TransF.isSl hr1)), ((qS hr2)), (by assumption), (by assumption)⟩)
 rintro _ F9 _ ⟨zq, aq, bq, xq, gq, ⟨rE, rfl⟩, le9, rfl, haq, hbq, hzq, hsq⟩
 replace hbs := hbs.mono le9
 replace hf1 := hf1.mono le9
 refine qa (qd (ptr cb 0) rfl (cX (qq (args := [ptr cb 0, ii (8)]) call19 rfl (jl [_, _, _, _, _, _] (l1Once_spec (n := 8) hbs (by omega) (hn := (by first | assumption | rfl | omega | simp)))) ?_)))
 rintro _ _ _ _ ⟨⟨rfl, x16, rfl⟩, rfl⟩
 show XL _ _ _ _ _ _ _ (cellsH b4 [ii (zq), aq, bq] 29 :: transD 2 68 aq xq :: intsH 2 bq gq :: cellsH b3 [x2] 26 :: cellsH b2 [ii (0), sN, sN] 29 :: cellsH b1 [sN] 26 :: curH .i64 83 cb bsv bs.length :: L)
 refine qb ?_
 refine jr (t := x16) rfl (fun h4 => ?_) (fun h4 => ?_)
 ·refine qc (qa (qd (ptr cb 0) rfl (cX (qq (args := [ptr cb 0, ii (6)]) call22 rfl (jl [_, _, _, _, _, _] (l1Below_spec (n := 6) hbs (by omega) (hn := (by first | assumption | rfl | omega | simp)))) ?_))))
  rintro _ _ _ _ ⟨⟨rfl, x17, rfl, hr11⟩, rfl⟩
  show XL _ _ _ _ _ _ _ (cellsH b4 [ii (zq), aq, bq] 29 :: transD 2 68 aq xq :: intsH 2 bq gq :: cellsH b3 [x2] 26 :: cellsH b2 [ii (0), sN, sN] 29 :: cellsH b1 [sN] 26 :: curH .i64 83 cb bsv bs.length :: L)
  refine qb (qF (qc (qa (cX (jp rfl rfl (qg (.bool (decide ((x17 : Int) = 0))) rfl (qb ?_)))))))
  refine qE (p := (x17 : Int) = 0) rfl (fun h5 => ?_) (fun h5 => ?_)
  ·refine qa (qd (ptr cb 0) rfl (cX (qq (args := [ptr cb 0, ii (16)]) call21 rfl (jl [_, _, _, _, _, _] (l1Num_spec (m := 16) hbs (by omega) (hm := (by first | assumption | rfl | omega | simp)))) ?_)))
   rintro _ _ _ _ ⟨⟨rfl, x18, rfl⟩, rfl⟩
   show XL _ _ _ _ _ _ _ (cellsH b4 [ii (zq), aq, bq] 29 :: transD 2 68 aq xq :: intsH 2 bq gq :: cellsH b3 [x2] 26 :: cellsH b2 [ii (0), sN, sN] 29 :: cellsH b1 [sN] 26 :: curH .i64 83 cb bsv bs.length :: L)
   refine cX (ql (0) qA rfl qr (by decide) rfl rfl (cX (jC [] _ [ii (x18), aq, bq] qr rfl rfl rfl rfl rfl rfl (qb (qc (jI (je (A := [_, _, _, _, _])) ?_))))))
   show X _ _ _ _ _ _ (cellsH b1 [sN] 26 :: cellsH b4 [ii (x18), aq, bq] 29 :: transD 2 68 aq xq :: intsH 2 bq gq :: cellsH b3 [x2] 26 :: cellsH b2 [ii (0), sN, sN] 29 :: curH .i64 83 cb bsv bs.length :: L)
   refine X.drawH [cellsH b4 [ii (x18), aq, bq] 29, transD 2 68 aq xq, intsH 2 bq gq, cellsH b3 [x2] 26, cellsH b2 [ii (0), sN, sN] 29, curH .i64 83 cb bsv bs.length] L 3 [] [[], [], [0]] [] (phiG [pe (.agg #[x2]), pe (.agg #[ii (x18), aq, bq]), fun FF us v => True]) (ownL [o0, o0, fun us v => [cellsH b1 [x2] 26]]) (fun i => ([[], [], [cellsH b1 [sN] 26]] : List (List HP)).getD i []) mixed rfl rfl (by kernel_rfl) (by kernel_rfl) (MonoG.get (m1 (m1 (mC (fun le h => h) MonoG.nil)))) ?_ ?_
   ·refine tD (fun W Fs R lF z9 => ?_) ?_
    ·replace hbs := hbs.mono lF
     replace hf1 := hf1.mono lF
     refine qh (qu [x2] qY qI rfl rfl (Rd.ownN [_, _, _] rfl rfl) ?_)
     exact ⟨rfl, rfl⟩
    refine tD (fun W Fs R lF z9 => ?_) ?_
    ·replace hbs := hbs.mono lF
     replace hf1 := hf1.mono lF
     refine qh (qu [ii (x18), aq, bq] jc qN rfl rfl (Rd.ownN [] rfl rfl) ?_)
     exact ⟨rfl, rfl⟩
    refine tD (fun W Fs R lF z9 => ?_) ?_
    ·replace hbs := hbs.mono lF
     replace hf1 := hf1.mono lF
     rw [zA 0 (z9 0 rfl)]
     show XG _ _ _ _ _ (cellsH b1 [sN] 26 :: ([cellsH b4 [ii (x18), aq, bq] 29, transD 2 68 aq xq, intsH 2 bq gq, cellsH b3 [x2] 26, cellsH b2 [ii (0), sN, sN] 29, curH .i64 83 cb bsv bs.length] ++ R)) _
     refine qh (qX [] _ [x2] qI rfl rfl rfl (qt (qU (qS hf1)) qZ) rfl rfl rfl ?_)
     exact ⟨trivial, rfl⟩
    exact stepsT.nil
   intro W F13 le13 hphi
   rw [zA 1 (hphi 1 (by decide))]
   replace hbs := hbs.mono le13
   replace hf1 := hf1.mono le13
   show XL _ _ _ _ _ _ _ (cellsH b1 [x2] 26 :: cellsH b4 [ii (x18), aq, bq] 29 :: transD 2 68 aq xq :: intsH 2 bq gq :: cellsH b3 [x2] 26 :: cellsH b2 [ii (0), sN, sN] 29 :: curH .i64 83 cb bsv bs.length :: L)
   refine cX (qX [_, _, _, _, _] _ [ii (x18), aq, bq] qN rfl rfl rfl (qt rfl (qt (qU haq) (qt (qU hbq) qZ))) rfl rfl rfl (qb (jf [_, _] _ _ rfl (fun F14 le14 hz4 => ?_))))
   replace hbs := hbs.mono le14
   replace hf1 := hf1.mono le14
   have hf4 : TransF F14 aq xq := transD.fz hz4.fz
   refine jf [_, _] _ _ rfl (fun F15 le15 hz5 => ?_)
   replace hbs := hbs.mono le15
   replace hf1 := hf1.mono le15
   replace hf4 := hf4.mono le15
   have hf5 : IntsF F15 bq gq := intsH.fz (xs := gq) hz5.fz
   refine qC (qv (L' := curH .i64 83 cb bsv bs.length :: L) [.agg #[x2], .agg #[ii (x18), aq, bq]] (.tuple #[.agg #[x2], .agg #[ii (x18), aq, bq]]) (.cell rfl (jv [x2] qY qI rfl (Rd.ownN [] rfl rfl)) (.cell rfl (jv [ii (x18), aq, bq] jc qN rfl (Rd.ownN [_, _, _] rfl rfl)) .nil)) rfl (qj (qj (qj (qj (qj le1 le2) le9) le13) le14) le15) rF (sD (sD (sD (sD (sC sR))))) ?_)
   exact ⟨⟨_, _, _, _, _, _, _, rfl, hf1, hf4, hf5, by omega, by first | exact autoS.up (by assumption) | exact autoS.setTo (by assumption) | exact autoS.app (by assumption) | exact autoS.setArgs (by assumption) | exact autoS.fin (by assumption)⟩, rfl⟩
  refine qc (qa (cX (jp rfl rfl (qg (.bool (decide ((x17 : Int) = 1))) rfl (qb ?_)))))
  refine qE (p := (x17 : Int) = 1) rfl (fun h6 => ?_) (fun h6 => ?_)
  ·refine qc (qa (cX (ql (1) qA rfl jh (by decide) rfl rfl (cX (qi jo rfl (Rd.own [] rfl rfl) (cX (qG qR rfl (transH.slv [_] rfl) (cX (jw rfl rfl (qb ?_))))))))))
   refine qE (p := ((xq.length : Int) : Int) > 0) rfl (fun h7 => ?_) (fun h7 => ?_)
   ·refine X.openD [_] _ rfl (fun cs1 Ls1 F16 le16 hs1 hD1 hZ1 => ?_)
    replace hbs := hbs.mono le16
    replace hf1 := hf1.mono le16
    have hc1 := hD1.trans hZ1
    show X _ _ _ _ _ _ (cellsH b4 [ii (zq), aq, bq] 29 :: slH 68 3 aq xq.length cs1 :: intsH 2 bq gq :: cellsH b3 [x2] 26 :: cellsH b2 [ii (0), sN, sN] 29 :: cellsH b1 [sN] 26 :: curH .i64 83 cb bsv bs.length :: L)
    refine X.drawG [cellsH b4 [ii (zq), aq, bq] 29, slH 68 3 aq xq.length cs1, intsH 2 bq gq, cellsH b3 [x2] 26, cellsH b2 [ii (0), sN, sN] 29, cellsH b1 [sN] 26, curH .i64 83 cb bsv bs.length] L 6 [] [[], [0], [], [], [3], [2, 4]] [] (phiG [pe (ptr b4 1), pe aq, pe (ptr cb 0), pe (ptr b4 0), pe (ii (zq)), fun FF us v => (ii (((intAt v))) : Value) = v]) (ownL []) mixed rfl rfl (by kernel_rfl) (by kernel_rfl) (MonoG.get (m1 (m1 (m1 (m1 (m1 (mC (fun le h => h) MonoG.nil))))))) ?_ ?_
    ·refine gD (fun W Fs R lF z9 => ?_) ?_
     ·refine qh (ql (1) qA rfl jh (by decide) rfl rfl ?_)
      exact ⟨rfl, rfl⟩
     refine gD (fun W Fs R lF z9 => ?_) ?_
     ·replace hbs := hbs.mono lF
      replace hf1 := hf1.mono lF
      replace hc1 := hc1.mono lF
      rw [zA 0 (z9 0 rfl)]
      refine qh (qi jo rfl (Rd.own [] rfl rfl) ?_)
      exact ⟨rfl, rfl⟩
     refine gD (fun W Fs R lF z9 => ?_) ?_
     ·refine qh (qk (ptr cb 0) rfl ?_)
      exact ⟨rfl, rfl⟩
     refine gD (fun W Fs R lF z9 => ?_) ?_
     ·refine qh (ql (0) qA rfl qr (by decide) rfl rfl ?_)
      exact ⟨rfl, rfl⟩
     refine gD (fun W Fs R lF z9 => ?_) ?_
     ·replace hbs := hbs.mono lF
      replace hf1 := hf1.mono lF
      replace hc1 := hc1.mono lF
      rw [zA 3 (z9 3 rfl)]
      refine qh (qi qM rfl (Rd.own [] rfl rfl) ?_)
      exact ⟨rfl, rfl⟩
     refine gD (fun W Fs R lF z9 => ?_) ?_
     ·replace hbs := hbs.mono lF
      replace hf1 := hf1.mono lF
      replace hc1 := hc1.mono lF
      rw [zB 2 4 (z9 2 rfl) (z9 4 rfl)]
      refine qh (qq (args := [ptr cb 0, ii (zq)]) call21 rfl (jl [_, _, _, _, _, _] (l1Num_spec (m := zq) hbs (by omega) (hm := (by first | assumption | rfl | omega | simp)))) ?_)
      rintro _ _ _ _ ⟨⟨rfl, x20, rfl⟩, rfl⟩
      exact ⟨rfl, rfl⟩
     exact stepsG.nil
    intro W F19 le19 hphi
    have e5 : (ii (((intAt (W 5)))) : Value) = (W 5) := hphi 5 (by decide)
    generalize hu1 : (intAt (W 5)) = u1 at e5
    rw [eS (l := [(1, _), (5, (ii ((u1))))]) ⟨(hphi 1 (by decide)), (e5).symm, ⟨⟩⟩]
    replace hbs := hbs.mono le19
    replace hf1 := hf1.mono le19
    replace hc1 := hc1.mono le19
    show XL _ _ _ _ _ _ _ (cellsH b4 [ii (zq), aq, bq] 29 :: slH 68 3 aq xq.length cs1 :: intsH 2 bq gq :: cellsH b3 [x2] 26 :: cellsH b2 [ii (0), sN, sN] 29 :: cellsH b1 [sN] 26 :: curH .i64 83 cb bsv bs.length :: L)
    refine cX (qy 0 qR jb rfl rfl rfl (SlV.own [_] rfl) (by omega) rfl (cX (XOp.fieldE (0 * 3 + 2) qB rfl qr (by decide) rfl rfl (cX (XOp.storeS (i := 0 * 3 + 2) (cs := cs1) [_] _ qr rfl rfl rfl rfl (by have h9 := CO.len hc1; (try simp only [List.length_set, List.length_replicate] at h9 ⊢) <;> omega) ?_)))))
    have hc2 := hc1.setTo (j := 0) (n := (u1)) (by (try simp only [List.length_set, List.length_replicate]); omega)
    refine qb (qc (jI (je (A := [_, _, _, _, _])) ?_))
    show X _ _ _ _ _ _ (cellsH b1 [sN] 26 :: cellsH b4 [ii (zq), aq, bq] 29 :: slH 68 3 aq xq.length ((cs1.set (0 * 3 + 2) (ii ((u1))))) :: intsH 2 bq gq :: cellsH b3 [x2] 26 :: cellsH b2 [ii (0), sN, sN] 29 :: curH .i64 83 cb bsv bs.length :: L)
    refine X.drawH [cellsH b4 [ii (zq), aq, bq] 29, slH 68 3 aq xq.length ((cs1.set (0 * 3 + 2) (ii ((u1))))), intsH 2 bq gq, cellsH b3 [x2] 26, cellsH b2 [ii (0), sN, sN] 29, curH .i64 83 cb bsv bs.length] L 3 [] [[], [], [0]] [] (phiG [pe (.agg #[x2]), pe (.agg #[ii (zq), aq, bq]), fun FF us v => True]) (ownL [o0, o0, fun us v => [cellsH b1 [x2] 26]]) (fun i => ([[], [], [cellsH b1 [sN] 26]] : List (List HP)).getD i []) mixed rfl rfl (by kernel_rfl) (by kernel_rfl) (MonoG.get (m1 (m1 (mC (fun le h => h) MonoG.nil)))) ?_ ?_
    ·refine tD (fun W Fs R lF z9 => ?_) ?_
     ·replace hbs := hbs.mono lF
      replace hf1 := hf1.mono lF
      replace hc2 := hc2.mono lF
      refine qh (qu [x2] qY qI rfl rfl (Rd.ownN [_, _, _] rfl rfl) ?_)
      exact ⟨rfl, rfl⟩
     refine tD (fun W Fs R lF z9 => ?_) ?_
     ·replace hbs := hbs.mono lF
      replace hf1 := hf1.mono lF
      replace hc2 := hc2.mono lF
      refine qh (qu [ii (zq), aq, bq] jc qN rfl rfl (Rd.ownN [] rfl rfl) ?_)
      exact ⟨rfl, rfl⟩
     refine tD (fun W Fs R lF z9 => ?_) ?_
     ·replace hbs := hbs.mono lF
      replace hf1 := hf1.mono lF
      replace hc2 := hc2.mono lF
      rw [zA 0 (z9 0 rfl)]
      show XG _ _ _ _ _ (cellsH b1 [sN] 26 :: ([cellsH b4 [ii (zq), aq, bq] 29, slH 68 3 aq xq.length ((cs1.set (0 * 3 + 2) (ii ((u1))))), intsH 2 bq gq, cellsH b3 [x2] 26, cellsH b2 [ii (0), sN, sN] 29, curH .i64 83 cb bsv bs.length] ++ R)) _
      refine qh (qX [] _ [x2] qI rfl rfl rfl (qt (qU (qS hf1)) qZ) rfl rfl rfl ?_)
      exact ⟨trivial, rfl⟩
     exact stepsT.nil
    intro W F20 le20 hphi
    rw [zA 1 (hphi 1 (by decide))]
    replace hbs := hbs.mono le20
    replace hf1 := hf1.mono le20
    replace hc2 := hc2.mono le20
    show XL _ _ _ _ _ _ _ (cellsH b1 [x2] 26 :: cellsH b4 [ii (zq), aq, bq] 29 :: slH 68 3 aq xq.length ((cs1.set (0 * 3 + 2) (ii ((u1))))) :: intsH 2 bq gq :: cellsH b3 [x2] 26 :: cellsH b2 [ii (0), sN, sN] 29 :: curH .i64 83 cb bsv bs.length :: L)
    refine cX (qX [_, _, _, _, _] _ [ii (zq), aq, bq] qN rfl rfl rfl (qt rfl (qt (qU hs1) (qt (qU hbq) qZ))) rfl rfl rfl (qb (jf [_, _] _ _ rfl (fun F21 le21 hz6 => ?_))))
    replace hbs := hbs.mono le21
    replace hf1 := hf1.mono le21
    replace hc2 := hc2.mono le21
    have hf6 : TransF F21 aq ((xq.set 0 ((xq.getD 0 (0, [], 0)).1, (xq.getD 0 (0, [], 0)).2.1, (u1)))) := CO.fz hc2 (by first | rfl | omega | (rw [List.length_set]; omega) | (simp; done) | (rw [List.length_append]; simp only [List.length_singleton]; omega) | ((simp only [List.length_append, List.length_singleton, List.length_nil]) <;> omega)) hz6.fz
    refine jf [_, _] _ _ rfl (fun F22 le22 hz7 => ?_)
    replace hbs := hbs.mono le22
    replace hf1 := hf1.mono le22
    replace hf6 := hf6.mono le22
    have hf7 : IntsF F22 bq gq := intsH.fz (xs := gq) hz7.fz
    refine qC (qv (L' := curH .i64 83 cb bsv bs.length :: L) [.agg #[x2], .agg #[ii (zq), aq, bq]] (.tuple #[.agg #[x2], .agg #[ii (zq), aq, bq]]) (.cell rfl (jv [x2] qY qI rfl (Rd.ownN [] rfl rfl)) (.cell rfl (jv [ii (zq), aq, bq] jc qN rfl (Rd.ownN [_, _, _] rfl rfl)) .nil)) rfl (qj (qj (qj (qj (qj (qj (qj le1 le2) le9) le16) le19) le20) le21) le22) rF (sD (sD (sD (sD (sC sR))))) ?_)
    exact ⟨⟨_, _, _, _, _, _, _, rfl, hf1, hf6, hf7, by omega, by first | exact autoS.up (by assumption) | exact autoS.setTo (by assumption) | exact autoS.app (by assumption) | exact autoS.setArgs (by assumption) | exact autoS.fin (by assumption)⟩, rfl⟩
   refine qx (qc (jI (je (A := [_, _, _, _, _])) ?_))
   show X _ _ _ _ _ _ (cellsH b1 [sN] 26 :: cellsH b4 [ii (zq), aq, bq] 29 :: transD 2 68 aq xq :: intsH 2 bq gq :: cellsH b3 [x2] 26 :: cellsH b2 [ii (0), sN, sN] 29 :: curH .i64 83 cb bsv bs.length :: L)
   refine X.drawH [cellsH b4 [ii (zq), aq, bq] 29, transD 2 68 aq xq, intsH 2 bq gq, cellsH b3 [x2] 26, cellsH b2 [ii (0), sN, sN] 29, curH .i64 83 cb bsv bs.length] L 3 [] [[], [], [0]] [] (phiG [pe (.agg #[x2]), pe (.agg #[ii (zq), aq, bq]), fun FF us v => True]) (ownL [o0, o0, fun us v => [cellsH b1 [x2] 26]]) (fun i => ([[], [], [cellsH b1 [sN] 26]] : List (List HP)).getD i []) mixed rfl rfl (by kernel_rfl) (by kernel_rfl) (MonoG.get (m1 (m1 (mC (fun le h => h) MonoG.nil)))) ?_ ?_
   ·refine tD (fun W Fs R lF z9 => ?_) ?_
    ·replace hbs := hbs.mono lF
     replace hf1 := hf1.mono lF
     refine qh (qu [x2] qY qI rfl rfl (Rd.ownN [_, _, _] rfl rfl) ?_)
     exact ⟨rfl, rfl⟩
    refine tD (fun W Fs R lF z9 => ?_) ?_
    ·replace hbs := hbs.mono lF
     replace hf1 := hf1.mono lF
     refine qh (qu [ii (zq), aq, bq] jc qN rfl rfl (Rd.ownN [] rfl rfl) ?_)
     exact ⟨rfl, rfl⟩
    refine tD (fun W Fs R lF z9 => ?_) ?_
    ·replace hbs := hbs.mono lF
     replace hf1 := hf1.mono lF
     rw [zA 0 (z9 0 rfl)]
     show XG _ _ _ _ _ (cellsH b1 [sN] 26 :: ([cellsH b4 [ii (zq), aq, bq] 29, transD 2 68 aq xq, intsH 2 bq gq, cellsH b3 [x2] 26, cellsH b2 [ii (0), sN, sN] 29, curH .i64 83 cb bsv bs.length] ++ R)) _
     refine qh (qX [] _ [x2] qI rfl rfl rfl (qt (qU (qS hf1)) qZ) rfl rfl rfl ?_)
     exact ⟨trivial, rfl⟩
    exact stepsT.nil
   intro W F23 le23 hphi
   rw [zA 1 (hphi 1 (by decide))]
   replace hbs := hbs.mono le23
   replace hf1 := hf1.mono le23
   show XL _ _ _ _ _ _ _ (cellsH b1 [x2] 26 :: cellsH b4 [ii (zq), aq, bq] 29 :: transD 2 68 aq xq :: intsH 2 bq gq :: cellsH b3 [x2] 26 :: cellsH b2 [ii (0), sN, sN] 29 :: curH .i64 83 cb bsv bs.length :: L)
   refine cX (qX [_, _, _, _, _] _ [ii (zq), aq, bq] qN rfl rfl rfl (qt rfl (qt (qU haq) (qt (qU hbq) qZ))) rfl rfl rfl (qb (jf [_, _] _ _ rfl (fun F24 le24 hz8 => ?_))))
   replace hbs := hbs.mono le24
   replace hf1 := hf1.mono le24
   have hf8 : TransF F24 aq xq := transD.fz hz8.fz
   refine jf [_, _] _ _ rfl (fun F25 le25 hz9 => ?_)
   replace hbs := hbs.mono le25
   replace hf1 := hf1.mono le25
   replace hf8 := hf8.mono le25
   have hf9 : IntsF F25 bq gq := intsH.fz (xs := gq) hz9.fz
   refine qC (qv (L' := curH .i64 83 cb bsv bs.length :: L) [.agg #[x2], .agg #[ii (zq), aq, bq]] (.tuple #[.agg #[x2], .agg #[ii (zq), aq, bq]]) (.cell rfl (jv [x2] qY qI rfl (Rd.ownN [] rfl rfl)) (.cell rfl (jv [ii (zq), aq, bq] jc qN rfl (Rd.ownN [_, _, _] rfl rfl)) .nil)) rfl (qj (qj (qj (qj (qj le1 le2) le9) le23) le24) le25) rF (sD (sD (sD (sD (sC sR))))) ?_)
   exact ⟨⟨_, _, _, _, _, _, _, rfl, hf1, hf8, hf9, by omega, by first | exact autoS.up (by assumption) | exact autoS.setTo (by assumption) | exact autoS.app (by assumption) | exact autoS.setArgs (by assumption) | exact autoS.fin (by assumption)⟩, rfl⟩
  refine qc (qa (cX (jp rfl rfl (qg (.bool (decide ((x17 : Int) = 2))) rfl (qb ?_)))))
  refine qE (p := (x17 : Int) = 2) rfl (fun h8 => ?_) (fun h8 => ?_)
  ·have hB9 := autoS.bounds (rs := xq) (fi := gq) (by assumption) (by decide)
   have hB0 := autoS.at (rs := xq) (fi := gq) (by assumption) 0
   refine qc (qa (cX (ql (1) qA rfl jh (by decide) rfl rfl (cX (qi jo rfl (Rd.own [] rfl rfl) (cX (qG qR rfl (transH.slv [_] rfl) (cX (jw rfl rfl (qb ?_))))))))))
   refine qE (p := ((xq.length : Int) : Int) > 0) rfl (fun h9 => ?_) (fun h9 => ?_)
   ·refine X.openD [_] _ rfl (fun cs2 Ls2 F26 le26 hs2 hD2 hZ2 => ?_)
    replace hbs := hbs.mono le26
    replace hf1 := hf1.mono le26
    have hc3 := hD2.trans hZ2
    show X _ _ _ _ _ _ (cellsH b4 [ii (zq), aq, bq] 29 :: slH 68 3 aq xq.length cs2 :: intsH 2 bq gq :: cellsH b3 [x2] 26 :: cellsH b2 [ii (0), sN, sN] 29 :: cellsH b1 [sN] 26 :: curH .i64 83 cb bsv bs.length :: L)
    obtain ⟨a1, ha1, hq1⟩ := hc3.get (i := 0) (by omega)
    refine jq [cellsH b4 [ii (zq), aq, bq] 29, slH 68 3 aq xq.length cs2, intsH 2 bq gq, cellsH b3 [x2] 26, cellsH b2 [ii (0), sN, sN] 29, cellsH b1 [sN] 26, curH .i64 83 cb bsv bs.length] L 7 [] [[], [0], [], [2], [3], [4], [5]] (phiL [qe (ptr b4 1), qe aq, qe (ptr b4 1), qe aq, qe (.pointer (some (elemA aq (0 * 3)))), qe (.agg #[ii ((xq.getD 0 (0, [], 0)).1), a1, ii ((xq.getD 0 (0, [], 0)).2.2)]), fun us v => ∃ b, v = .slice (some ⟨b, 0, none⟩) 1 1]) (ownL [o0, o0, o0, o0, o0, o0, fun us v => [slH 68 3 v 1 [ii ((xq.getD 0 (0, [], 0)).1), a1, ii ((xq.getD 0 (0, [], 0)).2.2)]]]) mixed rfl rfl (by kernel_rfl) ?_ ?_
    ·refine pD (fun W R z9 => ?_) ?_
     ·refine qh (ql (1) qA rfl jh (by decide) rfl rfl ?_)
      exact ⟨rfl, rfl, rfl⟩
     refine pD (fun W R z9 => ?_) ?_
     ·rw [zA 0 (z9 0 rfl)]
      refine qh (qi jo rfl (Rd.own [] rfl rfl) ?_)
      exact ⟨rfl, rfl, rfl⟩
     refine pD (fun W R z9 => ?_) ?_
     ·refine qh (ql (1) qA rfl jh (by decide) rfl rfl ?_)
      exact ⟨rfl, rfl, rfl⟩
     refine pD (fun W R z9 => ?_) ?_
     ·rw [zA 2 (z9 2 rfl)]
      refine qh (qi jo rfl (Rd.own [] rfl rfl) ?_)
      exact ⟨rfl, rfl, rfl⟩
     refine pD (fun W R z9 => ?_) ?_
     ·rw [zA 3 (z9 3 rfl)]
      refine qh (qy 0 qR jb rfl rfl rfl (SlV.own [_] rfl) (by omega) rfl ?_)
      exact ⟨rfl, rfl, rfl⟩
     refine pD (fun W R z9 => ?_) ?_
     ·rw [zA 4 (z9 4 rfl)]
      refine qh (qu [ii ((xq.getD 0 (0, [], 0)).1), a1, ii ((xq.getD 0 (0, [], 0)).2.2)] jD jb rfl rfl (Rd.slG [_] rfl 0 hq1 rfl) ?_)
      exact ⟨rfl, rfl, rfl⟩
     refine pD (fun W R z9 => ?_) ?_
     ·rw [zA 5 (z9 5 rfl)]
      refine qh (qP (s := 3) [ii ((xq.getD 0 (0, [], 0)).1), a1, ii ((xq.getD 0 (0, [], 0)).2.2)] [ii (0), sN, ii (0)] [(0, [ii ((xq.getD 0 (0, [], 0)).1), a1, ii ((xq.getD 0 (0, [], 0)).2.2)])] qR jb jF rfl (by decide) rfl (.cons rfl CellsAre.nil) rfl ?_)
      intro v2 hv2
      exact ⟨rfl, hv2, rfl⟩
     exact stepsP.nil
    intro W hphi
    have f6 : ∃ b, (W 6) = .slice (some ⟨b, 0, none⟩) 1 1 := hphi 6 (by decide)
    generalize huu6 : W 6 = u2 at f6
    rw [eS (l := [(1, _), (6, u2)]) ⟨(hphi 1 (by decide)), huu6, ⟨⟩⟩]
    show XL _ _ _ _ _ _ _ (slH 68 3 u2 1 [ii ((xq.getD 0 (0, [], 0)).1), a1, ii ((xq.getD 0 (0, [], 0)).2.2)] :: cellsH b4 [ii (zq), aq, bq] 29 :: slH 68 3 aq xq.length cs2 :: intsH 2 bq gq :: cellsH b3 [x2] 26 :: cellsH b2 [ii (0), sN, sN] 29 :: cellsH b1 [sN] 26 :: curH .i64 83 cb bsv bs.length :: L)
    refine cX (jN (m := 1) (bytes := 40) (cs := cs2) [_, _] _ [ii ((xq.getD 0 (0, [], 0)).1), a1, ii ((xq.getD 0 (0, [], 0)).2.2)] qR typeInfo68 rfl rfl rfl rfl rfl rfl rfl (SlV.own [] rfl) rfl (Rd.lit [] rfl) (qt rfl (qt (qU (qS ha1)) (qt rfl qZ))) (by (try simp only [List.length_append, List.length_nil, List.length_cons, List.length_singleton]); omega) (by (try simp only [List.length_append, List.length_nil, List.length_cons, List.length_singleton]); omega) ?_)
    intro v3 hs3 hn1 hm1
    have hc4 := TransC.snoc hc3 (y0 := (xq.getD 0 (0, [], 0)).1) (y1 := (xq.getD 0 (0, [], 0)).2.1) (y2 := (xq.getD 0 (0, [], 0)).2.2) ha1
    refine cX (ql (1) qA rfl jh (by decide) rfl rfl (cX (jC [_] _ [ii (zq), v3, bq] jh rfl rfl (qU hs3) rfl rfl rfl (qb (qc (jI (je (A := [_, _, _, _, _, _])) ?_))))))
    show X _ _ _ _ _ _ (cellsH b1 [sN] 26 :: slH 68 3 u2 1 [ii ((xq.getD 0 (0, [], 0)).1), a1, ii ((xq.getD 0 (0, [], 0)).2.2)] :: cellsH b4 [ii (zq), v3, bq] 29 :: slH 68 3 v3 ((xq.length) + 1) (cs2 ++ [ii ((xq.getD 0 (0, [], 0)).1), a1, ii ((xq.getD 0 (0, [], 0)).2.2)]) :: intsH 2 bq gq :: cellsH b3 [x2] 26 :: cellsH b2 [ii (0), sN, sN] 29 :: curH .i64 83 cb bsv bs.length :: L)
    refine X.drawH [slH 68 3 u2 1 [ii ((xq.getD 0 (0, [], 0)).1), a1, ii ((xq.getD 0 (0, [], 0)).2.2)], cellsH b4 [ii (zq), v3, bq] 29, slH 68 3 v3 ((xq.length) + 1) (cs2 ++ [ii ((xq.getD 0 (0, [], 0)).1), a1, ii ((xq.getD 0 (0, [], 0)).2.2)]), intsH 2 bq gq, cellsH b3 [x2] 26, cellsH b2 [ii (0), sN, sN] 29, curH .i64 83 cb bsv bs.length] L 3 [] [[], [], [0]] [] (phiG [pe (.agg #[x2]), pe (.agg #[ii (zq), v3, bq]), fun FF us v => True]) (ownL [o0, o0, fun us v => [cellsH b1 [x2] 26]]) (fun i => ([[], [], [cellsH b1 [sN] 26]] : List (List HP)).getD i []) mixed rfl rfl (by kernel_rfl) (by kernel_rfl) (MonoG.get (m1 (m1 (mC (fun le h => h) MonoG.nil)))) ?_ ?_
    ·refine tD (fun W Fs R lF z9 => ?_) ?_
     ·replace hbs := hbs.mono lF
      replace hf1 := hf1.mono lF
      replace hc4 := hc4.mono lF
      refine qh (qu [x2] qY qI rfl rfl (Rd.ownN [_, _, _, _] rfl rfl) ?_)
      exact ⟨rfl, rfl⟩
     refine tD (fun W Fs R lF z9 => ?_) ?_
     ·replace hbs := hbs.mono lF
      replace hf1 := hf1.mono lF
      replace hc4 := hc4.mono lF
      refine qh (qu [ii (zq), v3, bq] jc qN rfl rfl (Rd.ownN [_] rfl rfl) ?_)
      exact ⟨rfl, rfl⟩
     refine tD (fun W Fs R lF z9 => ?_) ?_
     ·replace hbs := hbs.mono lF
      replace hf1 := hf1.mono lF
      replace hc4 := hc4.mono lF
      rw [zA 0 (z9 0 rfl)]
      show XG _ _ _ _ _ (cellsH b1 [sN] 26 :: ([slH 68 3 u2 1 [ii ((xq.getD 0 (0, [], 0)).1), a1, ii ((xq.getD 0 (0, [], 0)).2.2)], cellsH b4 [ii (zq), v3, bq] 29, slH 68 3 v3 ((xq.length) + 1) (cs2 ++ [ii ((xq.getD 0 (0, [], 0)).1), a1, ii ((xq.getD 0 (0, [], 0)).2.2)]), intsH 2 bq gq, cellsH b3 [x2] 26, cellsH b2 [ii (0), sN, sN] 29, curH .i64 83 cb bsv bs.length] ++ R)) _
      refine qh (qX [] _ [x2] qI rfl rfl rfl (qt (qU (qS hf1)) qZ) rfl rfl rfl ?_)
      exact ⟨trivial, rfl⟩
     exact stepsT.nil
    intro W F27 le27 hphi
    rw [zA 1 (hphi 1 (by decide))]
    replace hbs := hbs.mono le27
    replace hf1 := hf1.mono le27
    replace hc4 := hc4.mono le27
    show XL _ _ _ _ _ _ _ (cellsH b1 [x2] 26 :: slH 68 3 u2 1 [ii ((xq.getD 0 (0, [], 0)).1), a1, ii ((xq.getD 0 (0, [], 0)).2.2)] :: cellsH b4 [ii (zq), v3, bq] 29 :: slH 68 3 v3 ((xq.length) + 1) (cs2 ++ [ii ((xq.getD 0 (0, [], 0)).1), a1, ii ((xq.getD 0 (0, [], 0)).2.2)]) :: intsH 2 bq gq :: cellsH b3 [x2] 26 :: cellsH b2 [ii (0), sN, sN] 29 :: curH .i64 83 cb bsv bs.length :: L)
    refine cX (qX [_, _, _, _, _, _] _ [ii (zq), v3, bq] qN rfl rfl rfl (qt rfl (qt (qU hs3) (qt (qU hbq) qZ))) rfl rfl rfl (qb (jf [_, _, _] _ _ rfl (fun F28 le28 hz10 => ?_))))
    replace hbs := hbs.mono le28
    replace hf1 := hf1.mono le28
    replace hc4 := hc4.mono le28
    have hf10 : TransF F28 v3 (xq ++ [((xq.getD 0 (0, [], 0)).1, (xq.getD 0 (0, [], 0)).2.1, (xq.getD 0 (0, [], 0)).2.2)]) := CO.fz hc4 (by first | rfl | omega | (rw [List.length_set]; omega) | (simp; done) | (rw [List.length_append]; simp only [List.length_singleton]; omega) | ((simp only [List.length_append, List.length_singleton, List.length_nil]) <;> omega)) hz10.fz
    refine jf [_, _, _] _ _ rfl (fun F29 le29 hz11 => ?_)
    replace hbs := hbs.mono le29
    replace hf1 := hf1.mono le29
    replace hf10 := hf10.mono le29
    have hf11 : IntsF F29 bq gq := intsH.fz (xs := gq) hz11.fz
    refine qC (qv (L' := curH .i64 83 cb bsv bs.length :: L) [.agg #[x2], .agg #[ii (zq), v3, bq]] (.tuple #[.agg #[x2], .agg #[ii (zq), v3, bq]]) (.cell rfl (jv [x2] qY qI rfl (Rd.ownN [] rfl rfl)) (.cell rfl (jv [ii (zq), v3, bq] jc qN rfl (Rd.ownN [_, _, _, _] rfl rfl)) .nil)) rfl (qj (qj (qj (qj (qj (qj le1 le2) le9) le26) le27) le28) le29) rF (sD (sD (sD (sD (sD (sC sR)))))) ?_)
    exact ⟨⟨_, _, _, _, _, _, _, rfl, hf1, hf10, hf11, by omega, by first | exact autoS.up (by assumption) | exact autoS.setTo (by assumption) | exact autoS.app (by assumption) | exact autoS.setArgs (by assumption) | exact autoS.fin (by assumption)⟩, rfl⟩
   refine qx (qc (jI (je (A := [_, _, _, _, _])) ?_))
   show X _ _ _ _ _ _ (cellsH b1 [sN] 26 :: cellsH b4 [ii (zq), aq, bq] 29 :: transD 2 68 aq xq :: intsH 2 bq gq :: cellsH b3 [x2] 26 :: cellsH b2 [ii (0), sN, sN] 29 :: curH .i64 83 cb bsv bs.length :: L)
   refine X.drawH [cellsH b4 [ii (zq), aq, bq] 29, transD 2 68 aq xq, intsH 2 bq gq, cellsH b3 [x2] 26, cellsH b2 [ii (0), sN, sN] 29, curH .i64 83 cb bsv bs.length] L 3 [] [[], [], [0]] [] (phiG [pe (.agg #[x2]), pe (.agg #[ii (zq), aq, bq]), fun FF us v => True]) (ownL [o0, o0, fun us v => [cellsH b1 [x2] 26]]) (fun i => ([[], [], [cellsH b1 [sN] 26]] : List (List HP)).getD i []) mixed rfl rfl (by kernel_rfl) (by kernel_rfl) (MonoG.get (m1 (m1 (mC (fun le h => h) MonoG.nil)))) ?_ ?_
   ·refine tD (fun W Fs R lF z9 => ?_) ?_
    ·replace hbs := hbs.mono lF
     replace hf1 := hf1.mono lF
     refine qh (qu [x2] qY qI rfl rfl (Rd.ownN [_, _, _] rfl rfl) ?_)
     exact ⟨rfl, rfl⟩
    refine tD (fun W Fs R lF z9 => ?_) ?_
    ·replace hbs := hbs.mono lF
     replace hf1 := hf1.mono lF
     refine qh (qu [ii (zq), aq, bq] jc qN rfl rfl (Rd.ownN [] rfl rfl) ?_)
     exact ⟨rfl, rfl⟩
    refine tD (fun W Fs R lF z9 => ?_) ?_
    ·replace hbs := hbs.mono lF
     replace hf1 := hf1.mono lF
     rw [zA 0 (z9 0 rfl)]
     show XG _ _ _ _ _ (cellsH b1 [sN] 26 :: ([cellsH b4 [ii (zq), aq, bq] 29, transD 2 68 aq xq, intsH 2 bq gq, cellsH b3 [x2] 26, cellsH b2 [ii (0), sN, sN] 29, curH .i64 83 cb bsv bs.length] ++ R)) _
     refine qh (qX [] _ [x2] qI rfl rfl rfl (qt (qU (qS hf1)) qZ) rfl rfl rfl ?_)
     exact ⟨trivial, rfl⟩
    exact stepsT.nil
   intro W F30 le30 hphi
   rw [zA 1 (hphi 1 (by decide))]
   replace hbs := hbs.mono le30
   replace hf1 := hf1.mono le30
   show XL _ _ _ _ _ _ _ (cellsH b1 [x2] 26 :: cellsH b4 [ii (zq), aq, bq] 29 :: transD 2 68 aq xq :: intsH 2 bq gq :: cellsH b3 [x2] 26 :: cellsH b2 [ii (0), sN, sN] 29 :: curH .i64 83 cb bsv bs.length :: L)
   refine cX (qX [_, _, _, _, _] _ [ii (zq), aq, bq] qN rfl rfl rfl (qt rfl (qt (qU haq) (qt (qU hbq) qZ))) rfl rfl rfl (qb (jf [_, _] _ _ rfl (fun F31 le31 hz12 => ?_))))
   replace hbs := hbs.mono le31
   replace hf1 := hf1.mono le31
   have hf12 : TransF F31 aq xq := transD.fz hz12.fz
   refine jf [_, _] _ _ rfl (fun F32 le32 hz13 => ?_)
   replace hbs := hbs.mono le32
   replace hf1 := hf1.mono le32
   replace hf12 := hf12.mono le32
   have hf13 : IntsF F32 bq gq := intsH.fz (xs := gq) hz13.fz
   refine qC (qv (L' := curH .i64 83 cb bsv bs.length :: L) [.agg #[x2], .agg #[ii (zq), aq, bq]] (.tuple #[.agg #[x2], .agg #[ii (zq), aq, bq]]) (.cell rfl (jv [x2] qY qI rfl (Rd.ownN [] rfl rfl)) (.cell rfl (jv [ii (zq), aq, bq] jc qN rfl (Rd.ownN [_, _, _] rfl rfl)) .nil)) rfl (qj (qj (qj (qj (qj le1 le2) le9) le30) le31) le32) rF (sD (sD (sD (sD (sC sR))))) ?_)
   exact ⟨⟨_, _, _, _, _, _, _, rfl, hf1, hf12, hf13, by omega, by first | exact autoS.up (by assumption) | exact autoS.setTo (by assumption) | exact autoS.app (by assumption) | exact autoS.setArgs (by assumption) | exact autoS.fin (by assumption)⟩, rfl⟩
  refine qc (qa (cX (jp rfl rfl (qg (.bool (decide ((x17 : Int) = 3))) rfl (qb ?_)))))
  refine qE (p := (x17 : Int) = 3) rfl (fun h10 => ?_) (fun h10 => ?_)
  ·have hB9 := autoS.bounds (rs := xq) (fi := gq) (by assumption) (by decide)
   have hB0 := autoS.at (rs := xq) (fi := gq) (by assumption) 0
   refine X.drawG [cellsH b4 [ii (zq), aq, bq] 29, transD 2 68 aq xq, intsH 2 bq gq, cellsH b3 [x2] 26, cellsH b2 [ii (0), sN, sN] 29, cellsH b1 [sN] 26, curH .i64 83 cb bsv bs.length] L 7 [[], [], [], [], [], [], [5]] [[], [0], [], [], [3], [2, 4], [5]] [] (phiG [pe (ptr b4 2), pe bq, pe (ptr cb 0), pe (ptr b4 0), pe (ii (zq)), fun FF us v => (ii (((intAt v))) : Value) = v, fun FF us v => ∃ b, v = .slice (some ⟨b, 0, none⟩) 1 1]) (ownL [o0, o0, o0, o0, o0, o0, fun us v => [slH 2 1 v 1 [ii (((intAt (us.getD 0 undef))))]]]) mixed rfl rfl (by kernel_rfl) (by kernel_rfl) (MonoG.get (m1 (m1 (m1 (m1 (m1 (mC (fun le h => h) (mC (fun le h => h) MonoG.nil)))))))) ?_ ?_
   ·refine gD (fun W Fs R lF z9 => ?_) ?_
    ·refine qh (ql (2) qA rfl qw (by decide) rfl rfl ?_)
     exact ⟨rfl, rfl⟩
    refine gD (fun W Fs R lF z9 => ?_) ?_
    ·replace hbs := hbs.mono lF
     replace hf1 := hf1.mono lF
     rw [zA 0 (z9 0 rfl)]
     refine qh (qi qT rfl (Rd.own [] rfl rfl) ?_)
     exact ⟨rfl, rfl⟩
    refine gD (fun W Fs R lF z9 => ?_) ?_
    ·refine qh (qk (ptr cb 0) rfl ?_)
     exact ⟨rfl, rfl⟩
    refine gD (fun W Fs R lF z9 => ?_) ?_
    ·refine qh (ql (0) qA rfl qr (by decide) rfl rfl ?_)
     exact ⟨rfl, rfl⟩
    refine gD (fun W Fs R lF z9 => ?_) ?_
    ·replace hbs := hbs.mono lF
     replace hf1 := hf1.mono lF
     rw [zA 3 (z9 3 rfl)]
     refine qh (qi qM rfl (Rd.own [] rfl rfl) ?_)
     exact ⟨rfl, rfl⟩
    refine gD (fun W Fs R lF z9 => ?_) ?_
    ·replace hbs := hbs.mono lF
     replace hf1 := hf1.mono lF
     rw [zB 2 4 (z9 2 rfl) (z9 4 rfl)]
     refine qh (qq (args := [ptr cb 0, ii (zq)]) call21 rfl (jl [_, _, _, _, _, _] (l1Num_spec (m := zq) hbs (by omega) (hm := (by first | assumption | rfl | omega | simp)))) ?_)
     rintro _ _ _ _ ⟨⟨rfl, x22, rfl⟩, rfl⟩
     exact ⟨rfl, rfl⟩
    refine gD (fun W Fs R lF z9 => ?_) ?_
    ·have e5 : (ii (((intAt (W 5)))) : Value) = (W 5) := z9 5 rfl
     replace hbs := hbs.mono lF
     replace hf1 := hf1.mono lF
     rw [eS (l := [(5, (ii (((intAt (W 5))))))]) ⟨(e5).symm, ⟨⟩⟩]
     refine qh (qP (s := 1) [ii (((intAt (W 5))))] [ii (0)] [(0, [ii (((intAt (W 5))))])] qf qr jm rfl (by decide) rfl (.cons rfl CellsAre.nil) rfl ?_)
     intro v5 hv4
     exact ⟨hv4, rfl⟩
    exact stepsG.nil
   intro W F35 le35 hphi
   have e5 : (ii (((intAt (W 5)))) : Value) = (W 5) := hphi 5 (by decide)
   have f6 : ∃ b, (W 6) = .slice (some ⟨b, 0, none⟩) 1 1 := hphi 6 (by decide)
   generalize hu2 : (intAt (W 5)) = u3 at e5 f6
   generalize huu6 : W 6 = u4 at e5 f6
   rw [eS (l := [(1, _), (5, (ii ((u3)))), (6, u4)]) ⟨(hphi 1 (by decide)), (e5).symm, huu6, ⟨⟩⟩]
   replace hbs := hbs.mono le35
   replace hf1 := hf1.mono le35
   show XL _ _ _ _ _ _ _ (slH 2 1 u4 1 [ii ((u3))] :: cellsH b4 [ii (zq), aq, bq] 29 :: transD 2 68 aq xq :: intsH 2 bq gq :: cellsH b3 [x2] 26 :: cellsH b2 [ii (0), sN, sN] 29 :: cellsH b1 [sN] 26 :: curH .i64 83 cb bsv bs.length :: L)
   refine cX (jL (u := (u3)) [_, _, _] _ qf typeInfo2 rfl rfl rfl rfl rfl rfl (SlV.own [] rfl) (Rd.sl [] rfl rfl) (by (try simp only [List.length_append, List.length_nil, List.length_cons, List.length_singleton, List.length_take, List.length_drop]); omega) ?_)
   intro v6 hs4 hn2
   refine cX (ql (2) qA rfl qw (by decide) rfl rfl (cX (jC [_] _ [ii (zq), aq, v6] qw rfl rfl (qU hs4) rfl rfl rfl (qb (qc (jI (je (A := [_, _, _, _, _, _])) ?_))))))
   show X _ _ _ _ _ _ (cellsH b1 [sN] 26 :: slH 2 1 u4 1 [ii ((u3))] :: cellsH b4 [ii (zq), aq, v6] 29 :: transD 2 68 aq xq :: intsH 2 v6 (gq ++ [(u3)]) :: cellsH b3 [x2] 26 :: cellsH b2 [ii (0), sN, sN] 29 :: curH .i64 83 cb bsv bs.length :: L)
   refine X.drawH [slH 2 1 u4 1 [ii ((u3))], cellsH b4 [ii (zq), aq, v6] 29, transD 2 68 aq xq, intsH 2 v6 (gq ++ [(u3)]), cellsH b3 [x2] 26, cellsH b2 [ii (0), sN, sN] 29, curH .i64 83 cb bsv bs.length] L 3 [] [[], [], [0]] [] (phiG [pe (.agg #[x2]), pe (.agg #[ii (zq), aq, v6]), fun FF us v => True]) (ownL [o0, o0, fun us v => [cellsH b1 [x2] 26]]) (fun i => ([[], [], [cellsH b1 [sN] 26]] : List (List HP)).getD i []) mixed rfl rfl (by kernel_rfl) (by kernel_rfl) (MonoG.get (m1 (m1 (mC (fun le h => h) MonoG.nil)))) ?_ ?_
   ·refine tD (fun W Fs R lF z9 => ?_) ?_
    ·replace hbs := hbs.mono lF
     replace hf1 := hf1.mono lF
     refine qh (qu [x2] qY qI rfl rfl (Rd.ownN [_, _, _, _] rfl rfl) ?_)
     exact ⟨rfl, rfl⟩
    refine tD (fun W Fs R lF z9 => ?_) ?_
    ·replace hbs := hbs.mono lF
     replace hf1 := hf1.mono lF
     refine qh (qu [ii (zq), aq, v6] jc qN rfl rfl (Rd.ownN [_] rfl rfl) ?_)
     exact ⟨rfl, rfl⟩
    refine tD (fun W Fs R lF z9 => ?_) ?_
    ·replace hbs := hbs.mono lF
     replace hf1 := hf1.mono lF
     rw [zA 0 (z9 0 rfl)]
     show XG _ _ _ _ _ (cellsH b1 [sN] 26 :: ([slH 2 1 u4 1 [ii ((u3))], cellsH b4 [ii (zq), aq, v6] 29, transD 2 68 aq xq, intsH 2 v6 (gq ++ [(u3)]), cellsH b3 [x2] 26, cellsH b2 [ii (0), sN, sN] 29, curH .i64 83 cb bsv bs.length] ++ R)) _
     refine qh (qX [] _ [x2] qI rfl rfl rfl (qt (qU (qS hf1)) qZ) rfl rfl rfl ?_)
     exact ⟨trivial, rfl⟩
    exact stepsT.nil
   intro W F36 le36 hphi
   rw [zA 1 (hphi 1 (by decide))]
   replace hbs := hbs.mono le36
   replace hf1 := hf1.mono le36
   show XL _ _ _ _ _ _ _ (cellsH b1 [x2] 26 :: slH 2 1 u4 1 [ii ((u3))] :: cellsH b4 [ii (zq), aq, v6] 29 :: transD 2 68 aq xq :: intsH 2 v6 (gq ++ [(u3)]) :: cellsH b3 [x2] 26 :: cellsH b2 [ii (0), sN, sN] 29 :: curH .i64 83 cb bsv bs.length :: L)
   refine cX (qX [_, _, _, _, _, _] _ [ii (zq), aq, v6] qN rfl rfl rfl (qt rfl (qt (qU haq) (qt (qU hs4) qZ))) rfl rfl rfl (qb (jf [_, _, _] _ _ rfl (fun F37 le37 hz14 => ?_))))
   replace hbs := hbs.mono le37
   replace hf1 := hf1.mono le37
   have hf14 : TransF F37 aq xq := transD.fz hz14.fz
   refine jf [_, _, _] _ _ rfl (fun F38 le38 hz15 => ?_)
   replace hbs := hbs.mono le38
   replace hf1 := hf1.mono le38
   replace hf14 := hf14.mono le38
   have hf15 : IntsF F38 v6 (gq ++ [(u3)]) := intsH.fz (xs := gq ++ [(u3)]) hz15.fz
   refine qC (qv (L' := curH .i64 83 cb bsv bs.length :: L) [.agg #[x2], .agg #[ii (zq), aq, v6]] (.tuple #[.agg #[x2], .agg #[ii (zq), aq, v6]]) (.cell rfl (jv [x2] qY qI rfl (Rd.ownN [] rfl rfl)) (.cell rfl (jv [ii (zq), aq, v6] jc qN rfl (Rd.ownN [_, _, _, _] rfl rfl)) .nil)) rfl (qj (qj (qj (qj (qj (qj le1 le2) le9) le35) le36) le37) le38) rF (sD (sD (sD (sD (sD (sC sR)))))) ?_)
   exact ⟨⟨_, _, _, _, _, _, _, rfl, hf1, hf14, hf15, by omega, by first | exact autoS.up (by assumption) | exact autoS.setTo (by assumption) | exact autoS.app (by assumption) | exact autoS.setArgs (by assumption) | exact autoS.fin (by assumption)⟩, rfl⟩
  refine qc (qa (cX (jp rfl rfl (qg (.bool (decide ((x17 : Int) = 4))) rfl (qb ?_)))))
  refine qE (p := (x17 : Int) = 4) rfl (fun h11 => ?_) (fun h11 => ?_)
  ·have hB9 := autoS.bounds (rs := xq) (fi := gq) (by assumption) (by decide)
   have hB0 := autoS.at (rs := xq) (fi := gq) (by assumption) 0
   refine qc (qa (cX (ql (1) qA rfl jh (by decide) rfl rfl (cX (qi jo rfl (Rd.own [] rfl rfl) (cX (qG qR rfl (transH.slv [_] rfl) (cX (jw rfl rfl (qb ?_))))))))))
   refine qE (p := ((xq.length : Int) : Int) > 0) rfl (fun h12 => ?_) (fun h12 => ?_)
   ·refine X.openArgs (xs := xq) [_] _ (k := 0) (by omega) rfl (fun cs3 a2 F39 le39 hs5 hs6 hq2 hq3 hX1 => ?_)
    replace hbs := hbs.mono le39
    replace hf1 := hf1.mono le39
    show X _ _ _ _ _ _ (intsH 2 a2 ((xq.getD 0 (0, [], 0)).2.1) :: cellsH b4 [ii (zq), aq, bq] 29 :: slH 68 3 aq xq.length cs3 :: intsH 2 bq gq :: cellsH b3 [x2] 26 :: cellsH b2 [ii (0), sN, sN] 29 :: cellsH b1 [sN] 26 :: curH .i64 83 cb bsv bs.length :: L)
    show X _ _ _ _ _ _ (intsH 2 a2 ((xq.getD 0 (0, [], 0)).2.1) :: cellsH b4 [ii (zq), aq, bq] 29 :: slH 68 3 aq xq.length cs3 :: intsH 2 bq gq :: cellsH b3 [x2] 26 :: cellsH b2 [ii (0), sN, sN] 29 :: cellsH b1 [sN] 26 :: curH .i64 83 cb bsv bs.length :: L)
    refine X.drawH [cellsH b4 [ii (zq), aq, bq] 29, slH 68 3 aq xq.length cs3, intsH 2 bq gq, cellsH b3 [x2] 26, cellsH b2 [ii (0), sN, sN] 29, cellsH b1 [sN] 26, curH .i64 83 cb bsv bs.length] L 9 [[], [], [], [], [], [], [], [], [7]] [[], [0], [], [2], [3], [4], [5], [], [6, 7]] [[], [], [], [], [], [], [], [], [7]] (phiG [pe (ptr b4 1), pe aq, pe (ptr b4 1), pe aq, pe (.pointer (some (elemA aq (0 * 3)))), pe (.pointer (some (elemA aq (0 * 3 + 1)))), pe a2, fun FF us v => ∃ b, v = .slice (some ⟨b, 0, none⟩) 1 1, fun FF us v => IsSl v]) (ownL [o0, o0, o0, o0, o0, o0, o0, fun us v => [slH 2 1 v 1 [ii (0)]], fun us v => [slH 2 1 (us.getD 0 undef) 1 [ii (0)], intsH 2 (v) (((xq.getD 0 (0, [], 0)).2.1) ++ [0])]]) (fun i => ([[], [], [], [], [], [], [], [], [intsH 2 a2 ((xq.getD 0 (0, [], 0)).2.1)]] : List (List HP)).getD i []) mixed rfl rfl (by kernel_rfl) (by kernel_rfl) (MonoG.get (m1 (m1 (m1 (m1 (m1 (m1 (m1 (mC (fun le h => h) (mC (fun le h => h) MonoG.nil)))))))))) ?_ ?_
    ·refine tD (fun W Fs R lF z9 => ?_) ?_
     ·refine qh (ql (1) qA rfl jh (by decide) rfl rfl ?_)
      exact ⟨rfl, rfl⟩
     refine tD (fun W Fs R lF z9 => ?_) ?_
     ·replace hbs := hbs.mono lF
      replace hf1 := hf1.mono lF
      rw [zA 0 (z9 0 rfl)]
      refine qh (qi jo rfl (Rd.own [] rfl rfl) ?_)
      exact ⟨rfl, rfl⟩
     refine tD (fun W Fs R lF z9 => ?_) ?_
     ·refine qh (ql (1) qA rfl jh (by decide) rfl rfl ?_)
      exact ⟨rfl, rfl⟩
     refine tD (fun W Fs R lF z9 => ?_) ?_
     ·replace hbs := hbs.mono lF
      replace hf1 := hf1.mono lF
      rw [zA 2 (z9 2 rfl)]
      refine qh (qi jo rfl (Rd.own [] rfl rfl) ?_)
      exact ⟨rfl, rfl⟩
     refine tD (fun W Fs R lF z9 => ?_) ?_
     ·replace hbs := hbs.mono lF
      replace hf1 := hf1.mono lF
      rw [zA 3 (z9 3 rfl)]
      refine qh (qy 0 qR jb rfl rfl rfl (SlV.own [_] rfl) (by omega) rfl ?_)
      exact ⟨rfl, rfl⟩
     refine tD (fun W Fs R lF z9 => ?_) ?_
     ·rw [zA 4 (z9 4 rfl)]
      refine qh (XOp.fieldE (0 * 3 + 1) qB rfl qw (by decide) rfl rfl ?_)
      exact ⟨rfl, rfl⟩
     refine tD (fun W Fs R lF z9 => ?_) ?_
     ·replace hbs := hbs.mono lF
      replace hf1 := hf1.mono lF
      rw [zA 5 (z9 5 rfl)]
      refine qh (qi qT rfl (Rd.sl [_] rfl hq2) ?_)
      exact ⟨rfl, rfl⟩
     refine tD (fun W Fs R lF z9 => ?_) ?_
     ·replace hbs := hbs.mono lF
      replace hf1 := hf1.mono lF
      refine qh (qP (s := 1) [ii (0)] [ii (0)] [(0, [ii (0)])] qf qr jm rfl (by decide) rfl (.cons rfl CellsAre.nil) rfl ?_)
      intro v9 hv6
      exact ⟨hv6, rfl⟩
     refine tD (fun W Fs R lF z9 => ?_) ?_
     ·have f7 : ∃ b, (W 7) = .slice (some ⟨b, 0, none⟩) 1 1 := z9 7 rfl
      replace hbs := hbs.mono lF
      replace hf1 := hf1.mono lF
      rw [zA 6 (z9 6 rfl)]
      show XG _ _ _ _ _ (slH 2 1 (W 7) 1 [ii (0)] :: intsH 2 a2 ((xq.getD 0 (0, [], 0)).2.1) :: ([cellsH b4 [ii (zq), aq, bq] 29, slH 68 3 aq xq.length cs3, intsH 2 bq gq, cellsH b3 [x2] 26, cellsH b2 [ii (0), sN, sN] 29, cellsH b1 [sN] 26, curH .i64 83 cb bsv bs.length] ++ R)) _
      refine qh (jL (u := 0) [_] _ qf typeInfo2 rfl rfl rfl rfl rfl rfl (SlV.own [] rfl) (Rd.sl [] rfl rfl) (by (try simp only [List.length_append, List.length_nil, List.length_cons, List.length_singleton, List.length_take, List.length_drop]); omega) ?_)
      intro v10 hs8 hn4
      exact ⟨hs8, rfl⟩
     exact stepsT.nil
    intro W F40 le40 hphi
    have f7 : ∃ b, (W 7) = .slice (some ⟨b, 0, none⟩) 1 1 := hphi 7 (by decide)
    have f8 : IsSl (W 8) := hphi 8 (by decide)
    generalize huu7 : W 7 = u5 at f7 f8
    generalize huu8 : W 8 = u6 at f7 f8
    rw [eS (l := [(1, _), (7, u5), (8, u6)]) ⟨(hphi 1 (by decide)), huu7, huu8, ⟨⟩⟩]
    replace hbs := hbs.mono le40
    replace hf1 := hf1.mono le40
    show XL _ _ _ _ _ _ _ (slH 2 1 u5 1 [ii (0)] :: intsH 2 u6 (((xq.getD 0 (0, [], 0)).2.1) ++ [0]) :: cellsH b4 [ii (zq), aq, bq] 29 :: slH 68 3 aq xq.length cs3 :: intsH 2 bq gq :: cellsH b3 [x2] 26 :: cellsH b2 [ii (0), sN, sN] 29 :: cellsH b1 [sN] 26 :: curH .i64 83 cb bsv bs.length :: L)
    refine cX (qy 0 qR jb rfl rfl rfl (SlV.own [_, _, _] rfl) (by omega) rfl (cX (XOp.fieldE (0 * 3 + 1) qB rfl qw (by decide) rfl rfl (cX (XOp.storeS (i := 0 * 3 + 1) (cs := cs3) [_, _, _] _ qw rfl rfl (qU f8) rfl (by omega) (jz [_] _ _ rfl (fun F41 le41 hz16 => ?_)))))))
    replace hbs := hbs.mono le41
    replace hf1 := hf1.mono le41
    have hf16 : IntsF F41 u6 (((xq.getD 0 (0, [], 0)).2.1) ++ [0]) := intsH.fz (xs := ((xq.getD 0 (0, [], 0)).2.1) ++ [0]) hz16.fz
    have hc5 : TransC F41 ((cs3.set (0 * 3 + 1) u6)) (xq.set 0 ((xq.getD 0 (0, [], 0)).1, ((xq.getD 0 (0, [], 0)).2.1) ++ [0], (xq.getD 0 (0, [], 0)).2.2)) := TransX.close hX1 (qj le40 le41) hf16
    skip
    refine qb (qc (jI (je (A := [_, _, _, _, _, _])) ?_))
    show X _ _ _ _ _ _ (cellsH b1 [sN] 26 :: slH 2 1 u5 1 [ii (0)] :: cellsH b4 [ii (zq), aq, bq] 29 :: slH 68 3 aq xq.length ((cs3.set (0 * 3 + 1) u6)) :: intsH 2 bq gq :: cellsH b3 [x2] 26 :: cellsH b2 [ii (0), sN, sN] 29 :: curH .i64 83 cb bsv bs.length :: L)
    refine X.drawH [slH 2 1 u5 1 [ii (0)], cellsH b4 [ii (zq), aq, bq] 29, slH 68 3 aq xq.length ((cs3.set (0 * 3 + 1) u6)), intsH 2 bq gq, cellsH b3 [x2] 26, cellsH b2 [ii (0), sN, sN] 29, curH .i64 83 cb bsv bs.length] L 3 [] [[], [], [0]] [] (phiG [pe (.agg #[x2]), pe (.agg #[ii (zq), aq, bq]), fun FF us v => True]) (ownL [o0, o0, fun us v => [cellsH b1 [x2] 26]]) (fun i => ([[], [], [cellsH b1 [sN] 26]] : List (List HP)).getD i []) mixed rfl rfl (by kernel_rfl) (by kernel_rfl) (MonoG.get (m1 (m1 (mC (fun le h => h) MonoG.nil)))) ?_ ?_
    ·refine tD (fun W Fs R lF z9 => ?_) ?_
     ·replace hbs := hbs.mono lF
      replace hf1 := hf1.mono lF
      replace hc5 := hc5.mono lF
      refine qh (qu [x2] qY qI rfl rfl (Rd.ownN [_, _, _, _] rfl rfl) ?_)
      exact ⟨rfl, rfl⟩
     refine tD (fun W Fs R lF z9 => ?_) ?_
     ·replace hbs := hbs.mono lF
      replace hf1 := hf1.mono lF
      replace hc5 := hc5.mono lF
      refine qh (qu [ii (zq), aq, bq] jc qN rfl rfl (Rd.ownN [_] rfl rfl) ?_)
      exact ⟨rfl, rfl⟩
     refine tD (fun W Fs R lF z9 => ?_) ?_
     ·replace hbs := hbs.mono lF
      replace hf1 := hf1.mono lF
      replace hc5 := hc5.mono lF
      rw [zA 0 (z9 0 rfl)]
      show XG _ _ _ _ _ (cellsH b1 [sN] 26 :: ([slH 2 1 u5 1 [ii (0)], cellsH b4 [ii (zq), aq, bq] 29, slH 68 3 aq xq.length ((cs3.set (0 * 3 + 1) u6)), intsH 2 bq gq, cellsH b3 [x2] 26, cellsH b2 [ii (0), sN, sN] 29, curH .i64 83 cb bsv bs.length] ++ R)) _
      refine qh (qX [] _ [x2] qI rfl rfl rfl (qt (qU (qS hf1)) qZ) rfl rfl rfl ?_)
      exact ⟨trivial, rfl⟩
     exact stepsT.nil
    intro W F42 le42 hphi
    rw [zA 1 (hphi 1 (by decide))]
    replace hbs := hbs.mono le42
    replace hf1 := hf1.mono le42
    replace hc5 := hc5.mono le42
    show XL _ _ _ _ _ _ _ (cellsH b1 [x2] 26 :: slH 2 1 u5 1 [ii (0)] :: cellsH b4 [ii (zq), aq, bq] 29 :: slH 68 3 aq xq.length ((cs3.set (0 * 3 + 1) u6)) :: intsH 2 bq gq :: cellsH b3 [x2] 26 :: cellsH b2 [ii (0), sN, sN] 29 :: curH .i64 83 cb bsv bs.length :: L)
    refine cX (qX [_, _, _, _, _, _] _ [ii (zq), aq, bq] qN rfl rfl rfl (qt rfl (qt (qU hs5) (qt (qU hbq) qZ))) rfl rfl rfl (qb (jf [_, _, _] _ _ rfl (fun F43 le43 hz17 => ?_))))
    replace hbs := hbs.mono le43
    replace hf1 := hf1.mono le43
    replace hc5 := hc5.mono le43
    have hf17 : TransF F43 aq ((xq.set 0 ((xq.getD 0 (0, [], 0)).1, ((xq.getD 0 (0, [], 0)).2.1) ++ [0], (xq.getD 0 (0, [], 0)).2.2))) := CO.fz hc5 (by first | rfl | omega | (rw [List.length_set]; omega) | (simp; done) | (rw [List.length_append]; simp only [List.length_singleton]; omega) | ((simp only [List.length_append, List.length_singleton, List.length_nil]) <;> omega)) hz17.fz
    refine jf [_, _, _] _ _ rfl (fun F44 le44 hz18 => ?_)
    replace hbs := hbs.mono le44
    replace hf1 := hf1.mono le44
    replace hf17 := hf17.mono le44
    have hf18 : IntsF F44 bq gq := intsH.fz (xs := gq) hz18.fz
    refine qC (qv (L' := curH .i64 83 cb bsv bs.length :: L) [.agg #[x2], .agg #[ii (zq), aq, bq]] (.tuple #[.agg #[x2], .agg #[ii (zq), aq, bq]]) (.cell rfl (jv [x2] qY qI rfl (Rd.ownN [] rfl rfl)) (.cell rfl (jv [ii (zq), aq, bq] jc qN rfl (Rd.ownN [_, _, _, _] rfl rfl)) .nil)) rfl (qj (qj (qj (qj (qj (qj (qj (qj le1 le2) le9) le39) le40) le41) le42) le43) le44) rF (sD (sD (sD (sD (sD (sC sR)))))) ?_)
    exact ⟨⟨_, _, _, _, _, _, _, rfl, hf1, hf17, hf18, by omega, by first | exact autoS.up (by assumption) | exact autoS.setTo (by assumption) | exact autoS.app (by assumption) | exact autoS.setArgs (by assumption) | exact autoS.fin (by assumption)⟩, rfl⟩
   refine qx (qc (jI (je (A := [_, _, _, _, _])) ?_))
   show X _ _ _ _ _ _ (cellsH b1 [sN] 26 :: cellsH b4 [ii (zq), aq, bq] 29 :: transD 2 68 aq xq :: intsH 2 bq gq :: cellsH b3 [x2] 26 :: cellsH b2 [ii (0), sN, sN] 29 :: curH .i64 83 cb bsv bs.length :: L)
   refine X.drawH [cellsH b4 [ii (zq), aq, bq] 29, transD 2 68 aq xq, intsH 2 bq gq, cellsH b3 [x2] 26, cellsH b2 [ii (0), sN, sN] 29, curH .i64 83 cb bsv bs.length] L 3 [] [[], [], [0]] [] (phiG [pe (.agg #[x2]), pe (.agg #[ii (zq), aq, bq]), fun FF us v => True]) (ownL [o0, o0, fun us v => [cellsH b1 [x2] 26]]) (fun i => ([[], [], [cellsH b1 [sN] 26]] : List (List HP)).getD i []) mixed rfl rfl (by kernel_rfl) (by kernel_rfl) (MonoG.get (m1 (m1 (mC (fun le h => h) MonoG.nil)))) ?_ ?_
   ·refine tD (fun W Fs R lF z9 => ?_) ?_
    ·replace hbs := hbs.mono lF
     replace hf1 := hf1.mono lF
     refine qh (qu [x2] qY qI rfl rfl (Rd.ownN [_, _, _] rfl rfl) ?_)
     exact ⟨rfl, rfl⟩
    refine tD (fun W Fs R lF z9 => ?_) ?_
    ·replace hbs := hbs.mono lF
     replace hf1 := hf1.mono lF
     refine qh (qu [ii (zq), aq, bq] jc qN rfl rfl (Rd.ownN [] rfl rfl) ?_)
     exact ⟨rfl, rfl⟩
    refine tD (fun W Fs R lF z9 => ?_) ?_
    ·replace hbs := hbs.mono lF
     replace hf1 := hf1.mono lF
     rw [zA 0 (z9 0 rfl)]
     show XG _ _ _ _ _ (cellsH b1 [sN] 26 :: ([cellsH b4 [ii (zq), aq, bq] 29, transD 2 68 aq xq, intsH 2 bq gq, cellsH b3 [x2] 26, cellsH b2 [ii (0), sN, sN] 29, curH .i64 83 cb bsv bs.length] ++ R)) _
     refine qh (qX [] _ [x2] qI rfl rfl rfl (qt (qU (qS hf1)) qZ) rfl rfl rfl ?_)
     exact ⟨trivial, rfl⟩
    exact stepsT.nil
   intro W F45 le45 hphi
   rw [zA 1 (hphi 1 (by decide))]
   replace hbs := hbs.mono le45
   replace hf1 := hf1.mono le45
   show XL _ _ _ _ _ _ _ (cellsH b1 [x2] 26 :: cellsH b4 [ii (zq), aq, bq] 29 :: transD 2 68 aq xq :: intsH 2 bq gq :: cellsH b3 [x2] 26 :: cellsH b2 [ii (0), sN, sN] 29 :: curH .i64 83 cb bsv bs.length :: L)
   refine cX (qX [_, _, _, _, _] _ [ii (zq), aq, bq] qN rfl rfl rfl (qt rfl (qt (qU haq) (qt (qU hbq) qZ))) rfl rfl rfl (qb (jf [_, _] _ _ rfl (fun F46 le46 hz19 => ?_))))
   replace hbs := hbs.mono le46
   replace hf1 := hf1.mono le46
   have hf19 : TransF F46 aq xq := transD.fz hz19.fz
   refine jf [_, _] _ _ rfl (fun F47 le47 hz20 => ?_)
   replace hbs := hbs.mono le47
   replace hf1 := hf1.mono le47
   replace hf19 := hf19.mono le47
   have hf20 : IntsF F47 bq gq := intsH.fz (xs := gq) hz20.fz
   refine qC (qv (L' := curH .i64 83 cb bsv bs.length :: L) [.agg #[x2], .agg #[ii (zq), aq, bq]] (.tuple #[.agg #[x2], .agg #[ii (zq), aq, bq]]) (.cell rfl (jv [x2] qY qI rfl (Rd.ownN [] rfl rfl)) (.cell rfl (jv [ii (zq), aq, bq] jc qN rfl (Rd.ownN [_, _, _] rfl rfl)) .nil)) rfl (qj (qj (qj (qj (qj le1 le2) le9) le45) le46) le47) rF (sD (sD (sD (sD (sC sR))))) ?_)
   exact ⟨⟨_, _, _, _, _, _, _, rfl, hf1, hf19, hf20, by omega, by first | exact autoS.up (by assumption) | exact autoS.setTo (by assumption) | exact autoS.app (by assumption) | exact autoS.setArgs (by assumption) | exact autoS.fin (by assumption)⟩, rfl⟩
  refine qc (qa (cX (jp rfl rfl (qg (.bool (decide ((x17 : Int) = 5))) rfl (qb ?_)))))
  refine qE (p := (x17 : Int) = 5) rfl (fun h13 => ?_) (fun h13 => ?_)
  ·refine qa (qd (ptr cb 0) rfl (cX (qq (args := [ptr cb 0]) call49 rfl (jl [_, _, _, _, _, _] (l1DrawSigAny_spec hbs (by omega))) ?_)))
   rintro _ F48 _ le48 ⟨⟨x23, x24, rfl, hr12, hr13⟩, rfl⟩
   replace hbs := hbs.mono le48
   replace hf1 := hf1.mono le48
   show XL _ _ _ _ _ _ _ (cellsH b4 [ii (zq), aq, bq] 29 :: transD 2 68 aq xq :: intsH 2 bq gq :: cellsH b3 [x2] 26 :: cellsH b2 [ii (0), sN, sN] 29 :: cellsH b1 [sN] 26 :: curH .i64 83 cb bsv bs.length :: L)
   refine cX (qX [_, _, _] _ [x23] qI rfl rfl rfl (qt (qU (qS hr12)) qZ) rfl rfl rfl (qb (qc (jI (je (A := [_, _, _, _, _])) ?_))))
   show X _ _ _ _ _ _ (cellsH b1 [sN] 26 :: cellsH b4 [ii (zq), aq, bq] 29 :: transD 2 68 aq xq :: intsH 2 bq gq :: cellsH b3 [x23] 26 :: cellsH b2 [ii (0), sN, sN] 29 :: curH .i64 83 cb bsv bs.length :: L)
   refine X.drawH [cellsH b4 [ii (zq), aq, bq] 29, transD 2 68 aq xq, intsH 2 bq gq, cellsH b3 [x23] 26, cellsH b2 [ii (0), sN, sN] 29, curH .i64 83 cb bsv bs.length] L 3 [] [[], [], [0]] [] (phiG [pe (.agg #[x23]), pe (.agg #[ii (zq), aq, bq]), fun FF us v => True]) (ownL [o0, o0, fun us v => [cellsH b1 [x23] 26]]) (fun i => ([[], [], [cellsH b1 [sN] 26]] : List (List HP)).getD i []) mixed rfl rfl (by kernel_rfl) (by kernel_rfl) (MonoG.get (m1 (m1 (mC (fun le h => h) MonoG.nil)))) ?_ ?_
   ·refine tD (fun W Fs R lF z9 => ?_) ?_
    ·replace hbs := hbs.mono lF
     replace hf1 := hf1.mono lF
     replace hr12 := hr12.mono lF
     refine qh (qu [x23] qY qI rfl rfl (Rd.ownN [_, _, _] rfl rfl) ?_)
     exact ⟨rfl, rfl⟩
    refine tD (fun W Fs R lF z9 => ?_) ?_
    ·replace hbs := hbs.mono lF
     replace hf1 := hf1.mono lF
     replace hr12 := hr12.mono lF
     refine qh (qu [ii (zq), aq, bq] jc qN rfl rfl (Rd.ownN [] rfl rfl) ?_)
     exact ⟨rfl, rfl⟩
    refine tD (fun W Fs R lF z9 => ?_) ?_
    ·replace hbs := hbs.mono lF
     replace hf1 := hf1.mono lF
     replace hr12 := hr12.mono lF
     rw [zA 0 (z9 0 rfl)]
     show XG _ _ _ _ _ (cellsH b1 [sN] 26 :: ([cellsH b4 [ii (zq), aq, bq] 29, transD 2 68 aq xq, intsH 2 bq gq, cellsH b3 [x23] 26, cellsH b2 [ii (0), sN, sN] 29, curH .i64 83 cb bsv bs.length] ++ R)) _
     refine qh (qX [] _ [x23] qI rfl rfl rfl (qt (qU (qS hr12)) qZ) rfl rfl rfl ?_)
     exact ⟨trivial, rfl⟩
    exact stepsT.nil
   intro W F49 le49 hphi
   rw [zA 1 (hphi 1 (by decide))]
   replace hbs := hbs.mono le49
   replace hf1 := hf1.mono le49
   replace hr12 := hr12.mono le49
   show XL _ _ _ _ _ _ _ (cellsH b1 [x23] 26 :: cellsH b4 [ii (zq), aq, bq] 29 :: transD 2 68 aq xq :: intsH 2 bq gq :: cellsH b3 [x23] 26 :: cellsH b2 [ii (0), sN, sN] 29 :: curH .i64 83 cb bsv bs.length :: L)
   refine cX (qX [_, _, _, _, _] _ [ii (zq), aq, bq] qN rfl rfl rfl (qt rfl (qt (qU haq) (qt (qU hbq) qZ))) rfl rfl rfl (qb (jf [_, _] _ _ rfl (fun F50 le50 hz21 => ?_))))
   replace hbs := hbs.mono le50
   replace hf1 := hf1.mono le50
   replace hr12 := hr12.mono le50
   have hf21 : TransF F50 aq xq := transD.fz hz21.fz
   refine jf [_, _] _ _ rfl (fun F51 le51 hz22 => ?_)
   replace hbs := hbs.mono le51
   replace hf1 := hf1.mono le51
   replace hr12 := hr12.mono le51
   replace hf21 := hf21.mono le51
   have hf22 : IntsF F51 bq gq := intsH.fz (xs := gq) hz22.fz
   refine qC (qv (L' := curH .i64 83 cb bsv bs.length :: L) [.agg #[x23], .agg #[ii (zq), aq, bq]] (.tuple #[.agg #[x23], .agg #[ii (zq), aq, bq]]) (.cell rfl (jv [x23] qY qI rfl (Rd.ownN [] rfl rfl)) (.cell rfl (jv [ii (zq), aq, bq] jc qN rfl (Rd.ownN [_, _, _] rfl rfl)) .nil)) rfl (qj (qj (qj (qj (qj (qj le1 le2) le9) le48) le49) le50) le51) rF (sD (sD (sD (sD (sC sR))))) ?_)
   exact ⟨⟨_, _, _, _, _, _, _, rfl, hr12, hf21, hf22, by omega, by first | exact autoS.up (by assumption) | exact autoS.setTo (by assumption) | exact autoS.app (by assumption) | exact autoS.setArgs (by assumption) | exact autoS.fin (by assumption)⟩, rfl⟩
  refine qx (qc (jI (je (A := [_, _, _, _, _])) ?_))
  show X _ _ _ _ _ _ (cellsH b1 [sN] 26 :: cellsH b4 [ii (zq), aq, bq] 29 :: transD 2 68 aq xq :: intsH 2 bq gq :: cellsH b3 [x2] 26 :: cellsH b2 [ii (0), sN, sN] 29 :: curH .i64 83 cb bsv bs.length :: L)
  refine X.drawH [cellsH b4 [ii (zq), aq, bq] 29, transD 2 68 aq xq, intsH 2 bq gq, cellsH b3 [x2] 26, cellsH b2 [ii (0), sN, sN] 29, curH .i64 83 cb bsv bs.length] L 3 [] [[], [], [0]] [] (phiG [pe (.agg #[x2]), pe (.agg #[ii (zq), aq, bq]), fun FF us v => True]) (ownL [o0, o0, fun us v => [cellsH b1 [x2] 26]]) (fun i => ([[], [], [cellsH b1 [sN] 26]] : List (List HP)).getD i []) mixed rfl rfl (by kernel_rfl) (by kernel_rfl) (MonoG.get (m1 (m1 (mC (fun le h => h) MonoG.nil)))) ?_ ?_
  ·refine tD (fun W Fs R lF z9 => ?_) ?_
   ·replace hbs := hbs.mono lF
    replace hf1 := hf1.mono lF
    refine qh (qu [x2] qY qI rfl rfl (Rd.ownN [_, _, _] rfl rfl) ?_)
    exact ⟨rfl, rfl⟩
   refine tD (fun W Fs R lF z9 => ?_) ?_
   ·replace hbs := hbs.mono lF
    replace hf1 := hf1.mono lF
    refine qh (qu [ii (zq), aq, bq] jc qN rfl rfl (Rd.ownN [] rfl rfl) ?_)
    exact ⟨rfl, rfl⟩
   refine tD (fun W Fs R lF z9 => ?_) ?_
   ·replace hbs := hbs.mono lF
    replace hf1 := hf1.mono lF
    rw [zA 0 (z9 0 rfl)]
    show XG _ _ _ _ _ (cellsH b1 [sN] 26 :: ([cellsH b4 [ii (zq), aq, bq] 29, transD 2 68 aq xq, intsH 2 bq gq, cellsH b3 [x2] 26, cellsH b2 [ii (0), sN, sN] 29, curH .i64 83 cb bsv bs.length] ++ R)) _
    refine qh (qX [] _ [x2] qI rfl rfl rfl (qt (qU (qS hf1)) qZ) rfl rfl rfl ?_)
    exact ⟨trivial, rfl⟩
   exact stepsT.nil
  intro W F52 le52 hphi
  rw [zA 1 (hphi 1 (by decide))]
  replace hbs := hbs.mono le52
  replace hf1 := hf1.mono le52
  show XL _ _ _ _ _ _ _ (cellsH b1 [x2] 26 :: cellsH b4 [ii (zq), aq, bq] 29 :: transD 2 68 aq xq :: intsH 2 bq gq :: cellsH b3 [x2] 26 :: cellsH b2 [ii (0), sN, sN] 29 :: curH .i64 83 cb bsv bs.length :: L)
  refine cX (qX [_, _, _, _, _] _ [ii (zq), aq, bq] qN rfl rfl rfl (qt rfl (qt (qU haq) (qt (qU hbq) qZ))) rfl rfl rfl (qb (jf [_, _] _ _ rfl (fun F53 le53 hz23 => ?_))))
  replace hbs := hbs.mono le53
  replace hf1 := hf1.mono le53
  have hf23 : TransF F53 aq xq := transD.fz hz23.fz
  refine jf [_, _] _ _ rfl (fun F54 le54 hz24 => ?_)
  replace hbs := hbs.mono le54
  replace hf1 := hf1.mono le54
  replace hf23 := hf23.mono le54
  have hf24 : IntsF F54 bq gq := intsH.fz (xs := gq) hz24.fz
  refine qC (qv (L' := curH .i64 83 cb bsv bs.length :: L) [.agg #[x2], .agg #[ii (zq), aq, bq]] (.tuple #[.agg #[x2], .agg #[ii (zq), aq, bq]]) (.cell rfl (jv [x2] qY qI rfl (Rd.ownN [] rfl rfl)) (.cell rfl (jv [ii (zq), aq, bq] jc qN rfl (Rd.ownN [_, _, _] rfl rfl)) .nil)) rfl (qj (qj (qj (qj (qj le1 le2) le9) le52) le53) le54) rF (sD (sD (sD (sD (sC sR))))) ?_)
  exact ⟨⟨_, _, _, _, _, _, _, rfl, hf1, hf23, hf24, by omega, by first | exact autoS.up (by assumption) | exact autoS.setTo (by assumption) | exact autoS.app (by assumption) | exact autoS.setArgs (by assumption) | exact autoS.fin (by assumption)⟩, rfl⟩
 refine qx (qc (jI (je (A := [_, _, _, _, _])) ?_))
 show X _ _ _ _ _ _ (cellsH b1 [sN] 26 :: cellsH b4 [ii (zq), aq, bq] 29 :: transD 2 68 aq xq :: intsH 2 bq gq :: cellsH b3 [x2] 26 :: cellsH b2 [ii (0), sN, sN] 29 :: curH .i64 83 cb bsv bs.length :: L)
 refine X.drawH [cellsH b4 [ii (zq), aq, bq] 29, transD 2 68 aq xq, intsH 2 bq gq, cellsH b3 [x2] 26, cellsH b2 [ii (0), sN, sN] 29, curH .i64 83 cb bsv bs.length] L 3 [] [[], [], [0]] [] (phiG [pe (.agg #[x2]), pe (.agg #[ii (zq), aq, bq]), fun FF us v => True]) (ownL [o0, o0, fun us v => [cellsH b1 [x2] 26]]) (fun i => ([[], [], [cellsH b1 [sN] 26]] : List (List HP)).getD i []) mixed rfl rfl (by kernel_rfl) (by kernel_rfl) (MonoG.get (m1 (m1 (mC (fun le h => h) MonoG.nil)))) ?_ ?_
 ·refine tD (fun W Fs R lF z9 => ?_) ?_
  ·replace hbs := hbs.mono lF
   replace hf1 := hf1.mono lF
   refine qh (qu [x2] qY qI rfl rfl (Rd.ownN [_, _, _] rfl rfl) ?_)
   exact ⟨rfl, rfl⟩
  refine tD (fun W Fs R lF z9 => ?_) ?_
  ·replace hbs := hbs.mono lF
   replace hf1 := hf1.mono lF
   refine qh (qu [ii (zq), aq, bq] jc qN rfl rfl (Rd.ownN [] rfl rfl) ?_)
   exact ⟨rfl, rfl⟩
  refine tD (fun W Fs R lF z9 => ?_) ?_
  ·replace hbs := hbs.mono lF
   replace hf1 := hf1.mono lF
   rw [zA 0 (z9 0 rfl)]
   show XG _ _ _ _ _ (cellsH b1 [sN] 26 :: ([cellsH b4 [ii (zq), aq, bq] 29, transD 2 68 aq xq, intsH 2 bq gq, cellsH b3 [x2] 26, cellsH b2 [ii (0), sN, sN] 29, curH .i64 83 cb bsv bs.length] ++ R)) _
   refine qh (qX [] _ [x2] qI rfl rfl rfl (qt (qU (qS hf1)) qZ) rfl rfl rfl ?_)
   exact ⟨trivial, rfl⟩
  exact stepsT.nil
 intro W F55 le55 hphi
 rw [zA 1 (hphi 1 (by decide))]
 replace hf1 := hf1.mono le55
 show XL _ _ _ _ _ _ _ (cellsH b1 [x2] 26 :: cellsH b4 [ii (zq), aq, bq] 29 :: transD 2 68 aq xq :: intsH 2 bq gq :: cellsH b3 [x2] 26 :: cellsH b2 [ii (0), sN, sN] 29 :: curH .i64 83 cb bsv bs.length :: L)
 refine cX (qX [_, _, _, _, _] _ [ii (zq), aq, bq] qN rfl rfl rfl (qt rfl (qt (qU haq) (qt (qU hbq) qZ))) rfl rfl rfl (qb (jf [_, _] _ _ rfl (fun F56 le56 hz25 => ?_))))
 replace hf1 := hf1.mono le56
 have hf25 : TransF F56 aq xq := transD.fz hz25.fz
 refine jf [_, _] _ _ rfl (fun F57 le57 hz26 => ?_)
 replace hf1 := hf1.mono le57
 replace hf25 := hf25.mono le57
 have hf26 : IntsF F57 bq gq := intsH.fz (xs := gq) hz26.fz
 refine qC (qv (L' := curH .i64 83 cb bsv bs.length :: L) [.agg #[x2], .agg #[ii (zq), aq, bq]] (.tuple #[.agg #[x2], .agg #[ii (zq), aq, bq]]) (.cell rfl (jv [x2] qY qI rfl (Rd.ownN [] rfl rfl)) (.cell rfl (jv [ii (zq), aq, bq] jc qN rfl (Rd.ownN [_, _, _] rfl rfl)) .nil)) rfl (qj (qj (qj (qj (qj le1 le2) le9) le55) le56) le57) rF (sD (sD (sD (sD (sC sR))))) ?_)
 exact ⟨⟨_, _, _, _, _, _, _, rfl, hf1, hf25, hf26, by omega, by first | exact autoS.up (by assumption) | exact autoS.setTo (by assumption) | exact autoS.app (by assumption) | exact autoS.setArgs (by assumption) | exact autoS.fin (by assumption)⟩, rfl⟩

/- spec.DrawCountTaken -/
set_option maxHeartbeats 1000000 in
set_option maxRecDepth 20000 in
theorem DrawCountTaken_spec {F : FH} {L : List HP} {bsv : Value} {bs : List Int} (hbs : BytesF F bsv bs) (hbl : bs.length ≤ 4000000) :
    Does prog 5 [bsv] F (L) (fun v F' L' => ∃ (d : Value), ∃ (a : Value), ∃ (b : Value), ∃ (ar : List Int), ∃ (z : Int), ∃ (os : List TranT), ∃ (gs : List Int), ∃ (y : Int), (.tuple #[.agg #[d], .agg #[ii (z), a, b], ii (y)] : Value) = v ∧ (IntsF F' d ar) ∧ (TransF F' a os) ∧ (IntsF F' b gs) ∧ (ar.length ≤ 20) ∧ (autoS 1 os gs) ∧ L = L') := by
 refine qO func5 rfl rfl rfl (qc (qa (cX (jt [sN] zeroValue26 rfl ?_))))
 intro b1
 refine cX (jt [ii (0), sN, sN] jK rfl ?_)
 intro b2
 refine qg (ii (0)) rfl (qb (qc (qa (qd (bsv) rfl (cX (qq (args := [bsv]) call17 rfl (l1New_spec hbs (by omega)) ?_))))))
 rintro _ _ _ _ ⟨cb1, rfl, rfl, rfl⟩
 show XL _ _ _ _ _ _ _ (curH .i64 83 cb1 bsv bs.length :: cellsH b2 [ii (0), sN, sN] 29 :: cellsH b1 [sN] 26 :: L)
 refine qg (ptr cb1 0) rfl (qb (qc (qa (qd (ptr cb1 0) rfl (cX (qq (args := [ptr cb1 0]) call18 rfl (jl [] (l23DrawAny_spec hbs (by omega))) ?_))))))
 rintro _ F1 _ le1 ⟨⟨x1, x2, x3, x4, x5, x6, x7, rfl, hr1, hr2, hr3, hr4, hr5⟩, rfl⟩
 replace hbs := hbs.mono le1
 show XL _ _ _ _ _ _ _ (curH .i64 83 cb1 bsv bs.length :: cellsH b2 [ii (0), sN, sN] 29 :: cellsH b1 [sN] 26 :: L)
 refine qd (.tuple #[.agg #[x1], .agg #[ii (x5), x2, x3]]) rfl (cX (jn (.agg #[x1]) rfl rfl (cX (jn (.agg #[ii (x5), x2, x3]) rfl rfl (cX (jt [sN] zeroValue26 rfl ?_))))))
 intro b3
 refine cX (jt [ii (0), sN, sN] jK rfl ?_)
 intro b4
 refine cX (qX [_] _ [x1] qI rfl rfl rfl (qt (qU (qS hr1)) qZ) rfl rfl rfl (cX (qX [] _ [ii (x5), x2, x3] qN rfl rfl rfl (qt rfl (qt (qU (TransF.isSl hr2)) (qt (qU (qS hr3)) qZ))) rfl rfl rfl (qb (qc (qc (qa (qd (ptr cb1 0) rfl (cX (qq (args := [ptr cb1 0, ii (3)]) call19 rfl (jl [_, _] (l1Once_spec (n := 3) hbs (by omega) (hn := (by first | assumption | rfl | omega | simp)))) ?_))))))))))
 rintro _ _ _ _ ⟨⟨rfl, x8, rfl⟩, rfl⟩
 show XL _ _ _ _ _ _ _ (cellsH b4 [ii (x5), x2, x3] 29 :: cellsH b3 [x1] 26 :: curH .i64 83 cb1 bsv bs.length :: cellsH b2 [ii (0), sN, sN] 29 :: cellsH b1 [sN] 26 :: L)
 refine cX (jx rfl (qb ?_))
 refine jr (t := !(x8)) rfl (fun h1 => ?_) (fun h1 => ?_)
 ·refine qc (qa (cX (qu [x1] qY qI rfl rfl (Rd.ownN [_] rfl rfl) (cX (qu [ii (x5), x2, x3] jc qN rfl rfl (Rd.ownN [] rfl rfl) (cX (qq (args := [.agg #[x1], .agg #[ii (x5), x2, x3]]) call20 rfl (SureAuto_spec hr1 hr2 hr3 (hla := (by first | assumption | rfl | omega | simp)) (hlr := ((autoS.bounds (by assumption) (by decide)).1)) (hrb := ((autoS.bounds (by assumption) (by decide)).2.1)) (hlf := ((autoS.bounds (by assumption) (by decide)).2.2))) ?_)))))))
  rintro _ F3 _ le3 ⟨⟨x9, x10, x11, x12, x13, x14, rfl, hr6, hr7, hr8, hr9, hr10⟩, rfl⟩
  replace hbs := hbs.mono le3
  replace hr1 := hr1.mono le3
  replace hr2 := hr2.mono le3
  replace hr3 := hr3.mono le3
  show XL _ _ _ _ _ _ _ (cellsH b4 [ii (x5), x2, x3] 29 :: cellsH b3 [x1] 26 :: curH .i64 83 cb1 bsv bs.length :: cellsH b2 [ii (0), sN, sN] 29 :: cellsH b1 [sN] 26 :: L)
  refine qd (.tuple #[.agg #[ii (x11), x9, x10], .bool (x14)]) rfl (cX (jn (.agg #[ii (x11), x9, x10]) rfl rfl (cX (jn (.bool (x14)) rfl rfl (cX (jt [ii (0), sN, sN] jK rfl ?_))))))
  intro b5
  refine cX (qX [] _ [ii (x11), x9, x10] qN rfl rfl rfl (qt rfl (qt (qU (TransF.isSl hr6)) (qt (qU (qS hr7)) qZ))) rfl rfl rfl (qg (.bool (x14)) rfl (qb (qc (qa (qd (.bool (x14)) rfl (qb ?_)))))))
  refine jr (t := x14) rfl (fun h2 => ?_) (fun h2 => ?_)
  ·refine qa (cX (qu [ii (x11), x9, x10] jc qN rfl rfl (Rd.ownN [] rfl rfl) (cX (qX [_] _ [ii (x11), x9, x10] qN rfl rfl rfl (qt rfl (qt (qU (TransF.isSl hr6)) (qt (qU (qS hr7)) qZ))) rfl rfl rfl (qb (qc (qc (qa (qd (ptr cb1 0) rfl (cX (qq (args := [ptr cb1 0, ii (8)]) call19 rfl (jl [_, _, _] (l1Once_spec (n := 8) hbs (by omega) (hn := (by first | assumption | rfl | omega | simp)))) ?_)))))))))))
   rintro _ _ _ _ ⟨⟨rfl, x15, rfl⟩, rfl⟩
   show XL _ _ _ _ _ _ _ (cellsH b5 [ii (x11), x9, x10] 29 :: cellsH b4 [ii (x11), x9, x10] 29 :: cellsH b3 [x1] 26 :: curH .i64 83 cb1 bsv bs.length :: cellsH b2 [ii (0), sN, sN] 29 :: cellsH b1 [sN] 26 :: L)
   refine qb ?_
   refine jr (t := x15) rfl (fun h3 => ?_) (fun h3 => ?_)
   ·refine qc (jI (je (A := [_, _, _, _, _])) ?_)
    show X _ _ _ _ _ _ (cellsH b1 [sN] 26 :: cellsH b5 [ii (x11), x9, x10] 29 :: cellsH b4 [ii (x11), x9, x10] 29 :: cellsH b3 [x1] 26 :: curH .i64 83 cb1 bsv bs.length :: cellsH b2 [ii (0), sN, sN] 29 :: L)
    refine X.drawH [cellsH b5 [ii (x11), x9, x10] 29, cellsH b4 [ii (x11), x9, x10] 29, cellsH b3 [x1] 26, curH .i64 83 cb1 bsv bs.length, cellsH b2 [ii (0), sN, sN] 29] L 5 [] [[], [], [], [2], [0]] [] (phiG [pe (.agg #[x1]), pe (.agg #[ii (x11), x9, x10]), pe (ptr cb1 0), fun FF us v => (ii (((intAt v))) : Value) = v, fun FF us v => True]) (ownL [o0, o0, o0, o0, fun us v => [cellsH b1 [x1] 26]]) (fun i => ([[], [], [], [], [cellsH b1 [sN] 26]] : List (List HP)).getD i []) mixed rfl rfl (by kernel_rfl) (by kernel_rfl) (MonoG.get (m1 (m1 (m1 (mC (fun le h => h) (mC (fun le h => h) MonoG.nil)))))) ?_ ?_
    ·refine tD (fun W Fs R lF z9 => ?_) ?_
     ·replace hbs := hbs.mono lF
      replace hr1 := hr1.mono lF
      replace hr2 := hr2.mono lF
      replace hr3 := hr3.mono lF
      replace hr6 := hr6.mono lF
      replace hr7 := hr7.mono lF
      refine qh (qu [x1] qY qI rfl rfl (Rd.ownN [_, _] rfl rfl) ?_)
      exact ⟨rfl, rfl⟩
     refine tD (fun W Fs R lF z9 => ?_) ?_
     ·replace hbs := hbs.mono lF
      replace hr1 := hr1.mono lF
      replace hr2 := hr2.mono lF
      replace hr3 := hr3.mono lF
      replace hr6 := hr6.mono lF
      replace hr7 := hr7.mono lF
      refine qh (qu [ii (x11), x9, x10] jc qN rfl rfl (Rd.ownN [_] rfl rfl) ?_)
      exact ⟨rfl, rfl⟩
     refine tD (fun W Fs R lF z9 => ?_) ?_
     ·refine qh (qk (ptr cb1 0) rfl ?_)
      exact ⟨rfl, rfl⟩
     refine tD (fun W Fs R lF z9 => ?_) ?_
     ·replace hbs := hbs.mono lF
      replace hr1 := hr1.mono lF
      replace hr2 := hr2.mono lF
      replace hr3 := hr3.mono lF
      replace hr6 := hr6.mono lF
      replace hr7 := hr7.mono lF
      rw [zA 2 (z9 2 rfl)]
      refine qh (qq (args := [ptr cb1 0, ii (60)]) call21 rfl (jl [_, _, _] (l1Num_spec (m := 60) hbs (by omega) (hm := (by first | assumption | rfl | omega | simp)))) ?_)
      rintro _ _ _ _ ⟨⟨rfl, x17, rfl⟩, rfl⟩
      exact ⟨rfl, rfl⟩
     refine tD (fun W Fs R lF z9 => ?_) ?_
     ·replace hbs := hbs.mono lF
      replace hr1 := hr1.mono lF
      replace hr2 := hr2.mono lF
      replace hr3 := hr3.mono lF
      replace hr6 := hr6.mono lF
      replace hr7 := hr7.mono lF
      rw [zA 0 (z9 0 rfl)]
      show XG _ _ _ _ _ (cellsH b1 [sN] 26 :: ([cellsH b5 [ii (x11), x9, x10] 29, cellsH b4 [ii (x11), x9, x10] 29, cellsH b3 [x1] 26, curH .i64 83 cb1 bsv bs.length, cellsH b2 [ii (0), sN, sN] 29] ++ R)) _
      refine qh (qX [] _ [x1] qI rfl rfl rfl (qt (qU (qS hr1)) qZ) rfl rfl rfl ?_)
      exact ⟨trivial, rfl⟩
     exact stepsT.nil
    intro W F7 le7 hphi
    have e3 : (ii (((intAt (W 3)))) : Value) = (W 3) := hphi 3 (by decide)
    generalize hu1 : (intAt (W 3)) = u1 at e3
    rw [eS (l := [(1, _), (3, (ii ((u1))))]) ⟨(hphi 1 (by decide)), (e3).symm, ⟨⟩⟩]
    replace hbs := hbs.mono le7
    replace hr1 := hr1.mono le7
    replace hr2 := hr2.mono le7
    replace hr3 := hr3.mono le7
    replace hr6 := hr6.mono le7
    replace hr7 := hr7.mono le7
    show XL _ _ _ _ _ _ _ (cellsH b1 [x1] 26 :: cellsH b5 [ii (x11), x9, x10] 29 :: cellsH b4 [ii (x11), x9, x10] 29 :: cellsH b3 [x1] 26 :: curH .i64 83 cb1 bsv bs.length :: cellsH b2 [ii (0), sN, sN] 29 :: L)
    refine cX (qX [_, _, _, _, _] _ [ii (x11), x9, x10] qN rfl rfl rfl (qt rfl (qt (qU (TransF.isSl hr6)) (qt (qU (qS hr7)) qZ))) rfl rfl rfl (qg (ii ((u1))) rfl (qb (qC (qn (qv (L' := L) [.agg #[x1], .agg #[ii (x11), x9, x10], ii ((u1))] (.tuple #[.agg #[x1], .agg #[ii (x11), x9, x10], ii ((u1))]) (.cell rfl (jv [x1] qY qI rfl (Rd.ownN [] rfl rfl)) (.cell rfl (jv [ii (x11), x9, x10] jc qN rfl (Rd.ownN [_, _, _, _, _] rfl rfl)) (.tmp rfl .nil))) rfl (qj (qj le1 le3) le7) rF (sD (sD (sD (sD (sD (sD sR)))))) ?_))))))
    exact ⟨_, _, _, _, _, _, _, _, rfl, hr1, hr6, hr7, by assumption, by first | assumption | exact autoS.up (by assumption), rfl⟩
   refine qx (qc (jI (je (A := [_, _, _, _])) (jI (je (A := [_, _, _, _, _])) ?_)))
   show X _ _ _ _ _ _ (cellsH b1 [sN] 26 :: cellsH b2 [ii (0), sN, sN] 29 :: cellsH b5 [ii (x11), x9, x10] 29 :: cellsH b4 [ii (x11), x9, x10] 29 :: cellsH b3 [x1] 26 :: curH .i64 83 cb1 bsv bs.length :: L)
   refine X.drawH [cellsH b5 [ii (x11), x9, x10] 29, cellsH b4 [ii (x11), x9, x10] 29, cellsH b3 [x1] 26, curH .i64 83 cb1 bsv bs.length] L 7 [[], [], [], [], [3]] [[], [], [], [2], [3], [0], [1]] [] (phiG [pe (.agg #[x1]), pe (.agg #[ii (x11), x9, x10]), pe (ptr cb1 0), fun FF us v => (ii (((intAt v))) : Value) = v ∧ (0 ≤ ((intAt v)) ∧ (((intAt v)) < 8 ∨ ((intAt v)) = 0)), fun FF us v => v = (ii (1 + (((intAt (us.getD 0 undef))))) : Value), fun FF us v => True, fun FF us v => True]) (ownL [o0, o0, o0, o0, o0, fun us v => [cellsH b1 [x1] 26], fun us v => [cellsH b2 [ii (x11), x9, x10] 29]]) (fun i => ([[], [], [], [], [], [cellsH b1 [sN] 26], [cellsH b2 [ii (0), sN, sN] 29]] : List (List HP)).getD i []) mixed rfl rfl (by kernel_rfl) (by kernel_rfl) (MonoG.get (m1 (m1 (m1 (mC (fun le h => ⟨h.1, h.2⟩) (mC (fun le h => h) (mC (fun le h => h) (mC (fun le h => h) MonoG.nil)))))))) ?_ ?_
   ·refine tD (fun W Fs R lF z9 => ?_) ?_
    ·replace hbs := hbs.mono lF
     replace hr1 := hr1.mono lF
     replace hr2 := hr2.mono lF
     replace hr3 := hr3.mono lF
     replace hr6 := hr6.mono lF
     replace hr7 := hr7.mono lF
     refine qh (qu [x1] qY qI rfl rfl (Rd.ownN [_, _] rfl rfl) ?_)
     exact ⟨rfl, rfl⟩
    refine tD (fun W Fs R lF z9 => ?_) ?_
    ·replace hbs := hbs.mono lF
     replace hr1 := hr1.mono lF
     replace hr2 := hr2.mono lF
     replace hr3 := hr3.mono lF
     replace hr6 := hr6.mono lF
     replace hr7 := hr7.mono lF
     refine qh (qu [ii (x11), x9, x10] jc qN rfl rfl (Rd.ownN [_] rfl rfl) ?_)
     exact ⟨rfl, rfl⟩
    refine tD (fun W Fs R lF z9 => ?_) ?_
    ·refine qh (qk (ptr cb1 0) rfl ?_)
     exact ⟨rfl, rfl⟩
    refine tD (fun W Fs R lF z9 => ?_) ?_
    ·replace hbs := hbs.mono lF
     replace hr1 := hr1.mono lF
     replace hr2 := hr2.mono lF
     replace hr3 := hr3.mono lF
     replace hr6 := hr6.mono lF
     replace hr7 := hr7.mono lF
     rw [zA 2 (z9 2 rfl)]
     refine qh (qq (args := [ptr cb1 0, ii (8)]) call22 rfl (jl [_, _, _] (l1Below_spec (n := 8) hbs (by omega) (hn := (by first | assumption | rfl | omega | simp)))) ?_)
     rintro _ _ _ _ ⟨⟨rfl, x19, rfl, hr12⟩, rfl⟩
     exact ⟨⟨rfl, hr12⟩, rfl⟩
    refine tD (fun W Fs R lF z9 => ?_) ?_
    ·obtain ⟨e3, f3_2hx⟩ := z9 3 rfl
     rw [eS (l := [(3, (ii (((intAt (W 3))))))]) ⟨(e3).symm, ⟨⟩⟩]
     refine qh (qD (1 + (((intAt (W 3))))) rfl rfl (by omega) (by omega) ?_)
     exact ⟨rfl, rfl⟩
    refine tD (fun W Fs R lF z9 => ?_) ?_
    ·replace hbs := hbs.mono lF
     replace hr1 := hr1.mono lF
     replace hr2 := hr2.mono lF
     replace hr3 := hr3.mono lF
     replace hr6 := hr6.mono lF
     replace hr7 := hr7.mono lF
     rw [zA 0 (z9 0 rfl)]
     show XG _ _ _ _ _ (cellsH b1 [sN] 26 :: ([cellsH b5 [ii (x11), x9, x10] 29, cellsH b4 [ii (x11), x9, x10] 29, cellsH b3 [x1] 26, curH .i64 83 cb1 bsv bs.length] ++ R)) _
     refine qh (qX [] _ [x1] qI rfl rfl rfl (qt (qU (qS hr1)) qZ) rfl rfl rfl ?_)
     exact ⟨trivial, rfl⟩
    refine tD (fun W Fs R lF z9 => ?_) ?_
    ·replace hbs := hbs.mono lF
     replace hr1 := hr1.mono lF
     replace hr2 := hr2.mono lF
     replace hr3 := hr3.mono lF
     replace hr6 := hr6.mono lF
     replace hr7 := hr7.mono lF
     rw [zA 1 (z9 1 rfl)]
     show XG _ _ _ _ _ (cellsH b2 [ii (0), sN, sN] 29 :: ([cellsH b5 [ii (x11), x9, x10] 29, cellsH b4 [ii (x11), x9, x10] 29, cellsH b3 [x1] 26, curH .i64 83 cb1 bsv bs.length] ++ R)) _
     refine qh (qX [] _ [ii (x11), x9, x10] qN rfl rfl rfl (qt rfl (qt (qU (TransF.isSl hr6)) (qt (qU (qS hr7)) qZ))) rfl rfl rfl ?_)
     exact ⟨trivial, rfl⟩
    exact stepsT.nil
   intro W F10 le10 hphi
   obtain ⟨e3, f3_2hx⟩ := hphi 3 (by decide)
   have e4 : W 4 = (ii (1 + (((intAt (W 3))))) : Value) := hphi 4 (by decide)
   generalize hu2 : (intAt (W 3)) = u2 at e3 f3_2hx e4
   rw [eS (l := [(3, (ii ((u2)))), (4, (ii (1 + ((u2)))))]) ⟨(e3).symm, e4, ⟨⟩⟩]
   replace hbs := hbs.mono le10
   replace hr1 := hr1.mono le10
   replace hr2 := hr2.mono le10
   replace hr3 := hr3.mono le10
   replace hr6 := hr6.mono le10
   replace hr7 := hr7.mono le10
   show XL _ _ _ _ _ _ _ (cellsH b1 [x1] 26 :: cellsH b2 [ii (x11), x9, x10] 29 :: cellsH b5 [ii (x11), x9, x10] 29 :: cellsH b4 [ii (x11), x9, x10] 29 :: cellsH b3 [x1] 26 :: curH .i64 83 cb1 bsv bs.length :: L)
   refine qg (ii (1 + ((u2)))) rfl (qb (qC (qv (L' := L) [.agg #[x1], .agg #[ii (x11), x9, x10], ii (1 + ((u2)))] (.tuple #[.agg #[x1], .agg #[ii (x11), x9, x10], ii (1 + ((u2)))]) (.cell rfl (jv [x1] qY qI rfl (Rd.ownN [] rfl rfl)) (.cell rfl (jv [ii (x11), x9, x10] jc qN rfl (Rd.ownN [_] rfl rfl)) (.tmp rfl .nil))) rfl (qj (qj le1 le3) le10) rF (sD (sD (sD (sD (sD (sD sR)))))) ?_)))
   exact ⟨_, _, _, _, _, _, _, _, rfl, hr1, hr6, hr7, by assumption, by first | assumption | exact autoS.up (by assumption), rfl⟩
  refine qx (qc (qc (qa (qd (ptr cb1 0) rfl (cX (qq (args := [ptr cb1 0, ii (8)]) call19 rfl (jl [_, _, _] (l1Once_spec (n := 8) hbs (by omega) (hn := (by first | assumption | rfl | omega | simp)))) ?_))))))
  rintro _ _ _ _ ⟨⟨rfl, x20, rfl⟩, rfl⟩
  show XL _ _ _ _ _ _ _ (cellsH b5 [ii (x11), x9, x10] 29 :: cellsH b4 [ii (x5), x2, x3] 29 :: cellsH b3 [x1] 26 :: curH .i64 83 cb1 bsv bs.length :: cellsH b2 [ii (0), sN, sN] 29 :: cellsH b1 [sN] 26 :: L)
  refine qb ?_
  refine jr (t := x20) rfl (fun h4 => ?_) (fun h4 => ?_)
  ·refine qc (jI (je (A := [_, _, _, _, _])) ?_)
   show X _ _ _ _ _ _ (cellsH b1 [sN] 26 :: cellsH b5 [ii (x11), x9, x10] 29 :: cellsH b4 [ii (x5), x2, x3] 29 :: cellsH b3 [x1] 26 :: curH .i64 83 cb1 bsv bs.length :: cellsH b2 [ii (0), sN, sN] 29 :: L)
   refine X.drawH [cellsH b5 [ii (x11), x9, x10] 29, cellsH b4 [ii (x5), x2, x3] 29, cellsH b3 [x1] 26, curH .i64 83 cb1 bsv bs.length, cellsH b2 [ii (0), sN, sN] 29] L 5 [] [[], [], [], [2], [0]] [] (phiG [pe (.agg #[x1]), pe (.agg #[ii (x5), x2, x3]), pe (ptr cb1 0), fun FF us v => (ii (((intAt v))) : Value) = v, fun FF us v => True]) (ownL [o0, o0, o0, o0, fun us v => [cellsH b1 [x1] 26]]) (fun i => ([[], [], [], [], [cellsH b1 [sN] 26]] : List (List HP)).getD i []) mixed rfl rfl (by kernel_rfl) (by kernel_rfl) (MonoG.get (m1 (m1 (m1 (mC (fun le h => h) (mC (fun le h => h) MonoG.nil)))))) ?_ ?_
   ·refine tD (fun W Fs R lF z9 => ?_) ?_
    ·replace hbs := hbs.mono lF
     replace hr1 := hr1.mono lF
     replace hr2 := hr2.mono lF
     replace hr3 := hr3.mono lF
     refine qh (qu [x1] qY qI rfl rfl (Rd.ownN [_, _] rfl rfl) ?_)
     exact ⟨rfl, rfl⟩
    refine tD (fun W Fs R lF z9 => ?_) ?_
    ·replace hbs := hbs.mono lF
     replace hr1 := hr1.mono lF
     replace hr2 := hr2.mono lF
     replace hr3 := hr3.mono lF
     refine qh (qu [ii (x5), x2, x3] jc qN rfl rfl (Rd.ownN [_] rfl rfl) ?_)
     exact ⟨rfl, rfl⟩
    refine tD (fun W Fs R lF z9 => ?_) ?_
    ·refine qh (qk (ptr cb1 0) rfl ?_)
     exact ⟨rfl, rfl⟩
    refine tD (fun W Fs R lF z9 => ?_) ?_
    ·replace hbs := hbs.mono lF
     replace hr1 := hr1.mono lF
     replace hr2 := hr2.mono lF
     replace hr3 := hr3.mono lF
     rw [zA 2 (z9 2 rfl)]
     refine qh (qq (args := [ptr cb1 0, ii (60)]) call21 rfl (jl [_, _, _] (l1Num_spec (m := 60) hbs (by omega) (hm := (by first | assumption | rfl | omega | simp)))) ?_)
     rintro _ _ _ _ ⟨⟨rfl, x22, rfl⟩, rfl⟩
     exact ⟨rfl, rfl⟩
    refine tD (fun W Fs R lF z9 => ?_) ?_
    ·replace hbs := hbs.mono lF
     replace hr1 := hr1.mono lF
     replace hr2 := hr2.mono lF
     replace hr3 := hr3.mono lF
     rw [zA 0 (z9 0 rfl)]
     show XG _ _ _ _ _ (cellsH b1 [sN] 26 :: ([cellsH b5 [ii (x11), x9, x10] 29, cellsH b4 [ii (x5), x2, x3] 29, cellsH b3 [x1] 26, curH .i64 83 cb1 bsv bs.length, cellsH b2 [ii (0), sN, sN] 29] ++ R)) _
     refine qh (qX [] _ [x1] qI rfl rfl rfl (qt (qU (qS hr1)) qZ) rfl rfl rfl ?_)
     exact ⟨trivial, rfl⟩
    exact stepsT.nil
   intro W F14 le14 hphi
   have e3 : (ii (((intAt (W 3)))) : Value) = (W 3) := hphi 3 (by decide)
   generalize hu3 : (intAt (W 3)) = u3 at e3
   rw [eS (l := [(1, _), (3, (ii ((u3))))]) ⟨(hphi 1 (by decide)), (e3).symm, ⟨⟩⟩]
   replace hbs := hbs.mono le14
   replace hr1 := hr1.mono le14
   replace hr2 := hr2.mono le14
   replace hr3 := hr3.mono le14
   show XL _ _ _ _ _ _ _ (cellsH b1 [x1] 26 :: cellsH b5 [ii (x11), x9, x10] 29 :: cellsH b4 [ii (x5), x2, x3] 29 :: cellsH b3 [x1] 26 :: curH .i64 83 cb1 bsv bs.length :: cellsH b2 [ii (0), sN, sN] 29 :: L)
   refine cX (qX [_, _, _, _, _] _ [ii (x5), x2, x3] qN rfl rfl rfl (qt rfl (qt (qU (TransF.isSl hr2)) (qt (qU (qS hr3)) qZ))) rfl rfl rfl (qg (ii ((u3))) rfl (qb (qC (qn (qv (L' := L) [.agg #[x1], .agg #[ii (x5), x2, x3], ii ((u3))] (.tuple #[.agg #[x1], .agg #[ii (x5), x2, x3], ii ((u3))]) (.cell rfl (jv [x1] qY qI rfl (Rd.ownN [] rfl rfl)) (.cell rfl (jv [ii (x5), x2, x3] jc qN rfl (Rd.ownN [_, _, _, _, _] rfl rfl)) (.tmp rfl .nil))) rfl (qj (qj le1 le3) le14) rF (sD (sD (sD (sD (sD (sD sR)))))) ?_))))))
   exact ⟨_, _, _, _, _, _, _, _, rfl, hr1, hr2, hr3, by assumption, by first | assumption | exact autoS.up (by assumption), rfl⟩
  refine qx (qc (jI (je (A := [_, _, _, _])) (jI (je (A := [_, _, _, _, _])) ?_)))
  show X _ _ _ _ _ _ (cellsH b1 [sN] 26 :: cellsH b2 [ii (0), sN, sN] 29 :: cellsH b5 [ii (x11), x9, x10] 29 :: cellsH b4 [ii (x5), x2, x3] 29 :: cellsH b3 [x1] 26 :: curH .i64 83 cb1 bsv bs.length :: L)
  refine X.drawH [cellsH b5 [ii (x11), x9, x10] 29, cellsH b4 [ii (x5), x2, x3] 29, cellsH b3 [x1] 26, curH .i64 83 cb1 bsv bs.length] L 7 [[], [], [], [], [3]] [[], [], [], [2], [3], [0], [1]] [] (phiG [pe (.agg #[x1]), pe (.agg #[ii (x5), x2, x3]), pe (ptr cb1 0), fun FF us v => (ii (((intAt v))) : Value) = v ∧ (0 ≤ ((intAt v)) ∧ (((intAt v)) < 8 ∨ ((intAt v)) = 0)), fun FF us v => v = (ii (1 + (((intAt (us.getD 0 undef))))) : Value), fun FF us v => True, fun FF us v => True]) (ownL [o0, o0, o0, o0, o0, fun us v => [cellsH b1 [x1] 26], fun us v => [cellsH b2 [ii (x5), x2, x3] 29]]) (fun i => ([[], [], [], [], [], [cellsH b1 [sN] 26], [cellsH b2 [ii (0), sN, sN] 29]] : List (List HP)).getD i []) mixed rfl rfl (by kernel_rfl) (by kernel_rfl) (MonoG.get (m1 (m1 (m1 (mC (fun le h => ⟨h.1, h.2⟩) (mC (fun le h => h) (mC (fun le h => h) (mC (fun le h => h) MonoG.nil)))))))) ?_ ?_
  ·refine tD (fun W Fs R lF z9 => ?_) ?_
   ·replace hbs := hbs.mono lF
    replace hr1 := hr1.mono lF
    replace hr2 := hr2.mono lF
    replace hr3 := hr3.mono lF
    refine qh (qu [x1] qY qI rfl rfl (Rd.ownN [_, _] rfl rfl) ?_)
    exact ⟨rfl, rfl⟩
   refine tD (fun W Fs R lF z9 => ?_) ?_
   ·replace hbs := hbs.mono lF
    replace hr1 := hr1.mono lF
    replace hr2 := hr2.mono lF
    replace hr3 := hr3.mono lF
    refine qh (qu [ii (x5), x2, x3] jc qN rfl rfl (Rd.ownN [_] rfl rfl) ?_)
    exact ⟨rfl, rfl⟩
   refine tD (fun W Fs R lF z9 => ?_) ?_
   ·refine qh (qk (ptr cb1 0) rfl ?_)
    exact ⟨rfl, rfl⟩
   refine tD (fun W Fs R lF z9 => ?_) ?_
   ·replace hbs := hbs.mono lF
    replace hr1 := hr1.mono lF
    replace hr2 := hr2.mono lF
    replace hr3 := hr3.mono lF
    rw [zA 2 (z9 2 rfl)]
    refine qh (qq (args := [ptr cb1 0, ii (8)]) call22 rfl (jl [_, _, _] (l1Below_spec (n := 8) hbs (by omega) (hn := (by first | assumption | rfl | omega | simp)))) ?_)
    rintro _ _ _ _ ⟨⟨rfl, x24, rfl, hr14⟩, rfl⟩
    exact ⟨⟨rfl, hr14⟩, rfl⟩
   refine tD (fun W Fs R lF z9 => ?_) ?_
   ·obtain ⟨e3, f3_4hx⟩ := z9 3 rfl
    rw [eS (l := [(3, (ii (((intAt (W 3))))))]) ⟨(e3).symm, ⟨⟩⟩]
    refine qh (qD (1 + (((intAt (W 3))))) rfl rfl (by omega) (by omega) ?_)
    exact ⟨rfl, rfl⟩
   refine tD (fun W Fs R lF z9 => ?_) ?_
   ·replace hbs := hbs.mono lF
    replace hr1 := hr1.mono lF
    replace hr2 := hr2.mono lF
    replace hr3 := hr3.mono lF
    rw [zA 0 (z9 0 rfl)]
    show XG _ _ _ _ _ (cellsH b1 [sN] 26 :: ([cellsH b5 [ii (x11), x9, x10] 29, cellsH b4 [ii (x5), x2, x3] 29, cellsH b3 [x1] 26, curH .i64 83 cb1 bsv bs.length] ++ R)) _
    refine qh (qX [] _ [x1] qI rfl rfl rfl (qt (qU (qS hr1)) qZ) rfl rfl rfl ?_)
    exact ⟨trivial, rfl⟩
   refine tD (fun W Fs R lF z9 => ?_) ?_
   ·replace hbs := hbs.mono lF
    replace hr1 := hr1.mono lF
    replace hr2 := hr2.mono lF
    replace hr3 := hr3.mono lF
    rw [zA 1 (z9 1 rfl)]
    show XG _ _ _ _ _ (cellsH b2 [ii (0), sN, sN] 29 :: ([cellsH b5 [ii (x11), x9, x10] 29, cellsH b4 [ii (x5), x2, x3] 29, cellsH b3 [x1] 26, curH .i64 83 cb1 bsv bs.length] ++ R)) _
    refine qh (qX [] _ [ii (x5), x2, x3] qN rfl rfl rfl (qt rfl (qt (qU (TransF.isSl hr2)) (qt (qU (qS hr3)) qZ))) rfl rfl rfl ?_)
    exact ⟨trivial, rfl⟩
   exact stepsT.nil
  intro W F17 le17 hphi
  obtain ⟨e3, f3_4hx⟩ := hphi 3 (by decide)
  have e4 : W 4 = (ii (1 + (((intAt (W 3))))) : Value) := hphi 4 (by decide)
  generalize hu4 : (intAt (W 3)) = u4 at e3 f3_4hx e4
  rw [eS (l := [(3, (ii ((u4)))), (4, (ii (1 + ((u4)))))]) ⟨(e3).symm, e4, ⟨⟩⟩]
  replace hbs := hbs.mono le17
  replace hr1 := hr1.mono le17
  replace hr2 := hr2.mono le17
  replace hr3 := hr3.mono le17
  show XL _ _ _ _ _ _ _ (cellsH b1 [x1] 26 :: cellsH b2 [ii (x5), x2, x3] 29 :: cellsH b5 [ii (x11), x9, x10] 29 :: cellsH b4 [ii (x5), x2, x3] 29 :: cellsH b3 [x1] 26 :: curH .i64 83 cb1 bsv bs.length :: L)
  refine qg (ii (1 + ((u4)))) rfl (qb (qC (qv (L' := L) [.agg #[x1], .agg #[ii (x5), x2, x3], ii (1 + ((u4)))] (.tuple #[.agg #[x1], .agg #[ii (x5), x2, x3], ii (1 + ((u4)))]) (.cell rfl (jv [x1] qY qI rfl (Rd.ownN [] rfl rfl)) (.cell rfl (jv [ii (x5), x2, x3] jc qN rfl (Rd.ownN [_] rfl rfl)) (.tmp rfl .nil))) rfl (qj (qj le1 le3) le17) rF (sD (sD (sD (sD (sD (sD sR)))))) ?_)))
  exact ⟨_, _, _, _, _, _, _, _, rfl, hr1, hr2, hr3, by assumption, by first | assumption | exact autoS.up (by assumption), rfl⟩
 refine qx (qc (qc (qa (qd (ptr cb1 0) rfl (cX (qq (args := [ptr cb1 0, ii (8)]) call19 rfl (jl [_, _] (l1Once_spec (n := 8) hbs (by omega) (hn := (by first | assumption | rfl | omega | simp)))) ?_))))))
 rintro _ _ _ _ ⟨⟨rfl, x25, rfl⟩, rfl⟩
 show XL _ _ _ _ _ _ _ (cellsH b4 [ii (x5), x2, x3] 29 :: cellsH b3 [x1] 26 :: curH .i64 83 cb1 bsv bs.length :: cellsH b2 [ii (0), sN, sN] 29 :: cellsH b1 [sN] 26 :: L)
 refine qb ?_
 refine jr (t := x25) rfl (fun h5 => ?_) (fun h5 => ?_)
 ·refine qc (jI (je (A := [_, _, _, _])) ?_)
  show X _ _ _ _ _ _ (cellsH b1 [sN] 26 :: cellsH b4 [ii (x5), x2, x3] 29 :: cellsH b3 [x1] 26 :: curH .i64 83 cb1 bsv bs.length :: cellsH b2 [ii (0), sN, sN] 29 :: L)
  refine X.drawH [cellsH b4 [ii (x5), x2, x3] 29, cellsH b3 [x1] 26, curH .i64 83 cb1 bsv bs.length, cellsH b2 [ii (0), sN, sN] 29] L 5 [] [[], [], [], [2], [0]] [] (phiG [pe (.agg #[x1]), pe (.agg #[ii (x5), x2, x3]), pe (ptr cb1 0), fun FF us v => (ii (((intAt v))) : Value) = v, fun FF us v => True]) (ownL [o0, o0, o0, o0, fun us v => [cellsH b1 [x1] 26]]) (fun i => ([[], [], [], [], [cellsH b1 [sN] 26]] : List (List HP)).getD i []) mixed rfl rfl (by kernel_rfl) (by kernel_rfl) (MonoG.get (m1 (m1 (m1 (mC (fun le h => h) (mC (fun le h => h) MonoG.nil)))))) ?_ ?_
  ·refine tD (fun W Fs R lF z9 => ?_) ?_
   ·replace hbs := hbs.mono lF
    replace hr1 := hr1.mono lF
    replace hr2 := hr2.mono lF
    replace hr3 := hr3.mono lF
    refine qh (qu [x1] qY qI rfl rfl (Rd.ownN [_] rfl rfl) ?_)
    exact ⟨rfl, rfl⟩
   refine tD (fun W Fs R lF z9 => ?_) ?_
   ·replace hbs := hbs.mono lF
    replace hr1 := hr1.mono lF
    replace hr2 := hr2.mono lF
    replace hr3 := hr3.mono lF
    refine qh (qu [ii (x5), x2, x3] jc qN rfl rfl (Rd.ownN [] rfl rfl) ?_)
    exact ⟨rfl, rfl⟩
   refine tD (fun W Fs R lF z9 => ?_) ?_
   ·refine qh (qk (ptr cb1 0) rfl ?_)
    exact ⟨rfl, rfl⟩
   refine tD (fun W Fs R lF z9 => ?_) ?_
   ·replace hbs := hbs.mono lF
    replace hr1 := hr1.mono lF
    replace hr2 := hr2.mono lF
    replace hr3 := hr3.mono lF
    rw [zA 2 (z9 2 rfl)]
    refine qh (qq (args := [ptr cb1 0, ii (60)]) call21 rfl (jl [_, _] (l1Num_spec (m := 60) hbs (by omega) (hm := (by first | assumption | rfl | omega | simp)))) ?_)
    rintro _ _ _ _ ⟨⟨rfl, x27, rfl⟩, rfl⟩
    exact ⟨rfl, rfl⟩
   refine tD (fun W Fs R lF z9 => ?_) ?_
   ·replace hbs := hbs.mono lF
    replace hr1 := hr1.mono lF
    replace hr2 := hr2.mono lF
    replace hr3 := hr3.mono lF
    rw [zA 0 (z9 0 rfl)]
    show XG _ _ _ _ _ (cellsH b1 [sN] 26 :: ([cellsH b4 [ii (x5), x2, x3] 29, cellsH b3 [x1] 26, curH .i64 83 cb1 bsv bs.length, cellsH b2 [ii (0), sN, sN] 29] ++ R)) _
    refine qh (qX [] _ [x1] qI rfl rfl rfl (qt (qU (qS hr1)) qZ) rfl rfl rfl ?_)
    exact ⟨trivial, rfl⟩
   exact stepsT.nil
  intro W F21 le21 hphi
  have e3 : (ii (((intAt (W 3)))) : Value) = (W 3) := hphi 3 (by decide)
  generalize hu5 : (intAt (W 3)) = u5 at e3
  rw [eS (l := [(1, _), (3, (ii ((u5))))]) ⟨(hphi 1 (by decide)), (e3).symm, ⟨⟩⟩]
  replace hbs := hbs.mono le21
  replace hr1 := hr1.mono le21
  replace hr2 := hr2.mono le21
  replace hr3 := hr3.mono le21
  show XL _ _ _ _ _ _ _ (cellsH b1 [x1] 26 :: cellsH b4 [ii (x5), x2, x3] 29 :: cellsH b3 [x1] 26 :: curH .i64 83 cb1 bsv bs.length :: cellsH b2 [ii (0), sN, sN] 29 :: L)
  refine cX (qX [_, _, _, _] _ [ii (x5), x2, x3] qN rfl rfl rfl (qt rfl (qt (qU (TransF.isSl hr2)) (qt (qU (qS hr3)) qZ))) rfl rfl rfl (qg (ii ((u5))) rfl (qb (qC (qn (qv (L' := L) [.agg #[x1], .agg #[ii (x5), x2, x3], ii ((u5))] (.tuple #[.agg #[x1], .agg #[ii (x5), x2, x3], ii ((u5))]) (.cell rfl (jv [x1] qY qI rfl (Rd.ownN [] rfl rfl)) (.cell rfl (jv [ii (x5), x2, x3] jc qN rfl (Rd.ownN [_, _, _, _] rfl rfl)) (.tmp rfl .nil))) rfl (qj le1 le21) rF (sD (sD (sD (sD (sD sR))))) ?_))))))
  exact ⟨_, _, _, _, _, _, _, _, rfl, hr1, hr2, hr3, by assumption, by first | assumption | exact autoS.up (by assumption), rfl⟩
 refine qx (qc (jI (je (A := [_, _, _])) (jI (je (A := [_, _, _, _])) ?_)))
 show X _ _ _ _ _ _ (cellsH b1 [sN] 26 :: cellsH b2 [ii (0), sN, sN] 29 :: cellsH b4 [ii (x5), x2, x3] 29 :: cellsH b3 [x1] 26 :: curH .i64 83 cb1 bsv bs.length :: L)
 refine X.drawH [cellsH b4 [ii (x5), x2, x3] 29, cellsH b3 [x1] 26, curH .i64 83 cb1 bsv bs.length] L 7 [[], [], [], [], [3]] [[], [], [], [2], [3], [0], [1]] [] (phiG [pe (.agg #[x1]), pe (.agg #[ii (x5), x2, x3]), pe (ptr cb1 0), fun FF us v => (ii (((intAt v))) : Value) = v ∧ (0 ≤ ((intAt v)) ∧ (((intAt v)) < 8 ∨ ((intAt v)) = 0)), fun FF us v => v = (ii (1 + (((intAt (us.getD 0 undef))))) : Value), fun FF us v => True, fun FF us v => True]) (ownL [o0, o0, o0, o0, o0, fun us v => [cellsH b1 [x1] 26], fun us v => [cellsH b2 [ii (x5), x2, x3] 29]]) (fun i => ([[], [], [], [], [], [cellsH b1 [sN] 26], [cellsH b2 [ii (0), sN, sN] 29]] : List (List HP)).getD i []) mixed rfl rfl (by kernel_rfl) (by kernel_rfl) (MonoG.get (m1 (m1 (m1 (mC (fun le h => ⟨h.1, h.2⟩) (mC (fun le h => h) (mC (fun le h => h) (mC (fun le h => h) MonoG.nil)))))))) ?_ ?_
 ·refine tD (fun W Fs R lF z9 => ?_) ?_
  ·replace hbs := hbs.mono lF
   replace hr1 := hr1.mono lF
   replace hr2 := hr2.mono lF
   replace hr3 := hr3.mono lF
   refine qh (qu [x1] qY qI rfl rfl (Rd.ownN [_] rfl rfl) ?_)
   exact ⟨rfl, rfl⟩
  refine tD (fun W Fs R lF z9 => ?_) ?_
  ·replace hbs := hbs.mono lF
   replace hr1 := hr1.mono lF
   replace hr2 := hr2.mono lF
   replace hr3 := hr3.mono lF
   refine qh (qu [ii (x5), x2, x3] jc qN rfl rfl (Rd.ownN [] rfl rfl) ?_)
   exact ⟨rfl, rfl⟩
  refine tD (fun W Fs R lF z9 => ?_) ?_
  ·refine qh (qk (ptr cb1 0) rfl ?_)
   exact ⟨rfl, rfl⟩
  refine tD (fun W Fs R lF z9 => ?_) ?_
  ·replace hbs := hbs.mono lF
   replace hr1 := hr1.mono lF
   replace hr2 := hr2.mono lF
   replace hr3 := hr3.mono lF
   rw [zA 2 (z9 2 rfl)]
   refine qh (qq (args := [ptr cb1 0, ii (8)]) call22 rfl (jl [_, _] (l1Below_spec (n := 8) hbs (by omega) (hn := (by first | assumption | rfl | omega | simp)))) ?_)
   rintro _ _ _ _ ⟨⟨rfl, x29, rfl, hr16⟩, rfl⟩
   exact ⟨⟨rfl, hr16⟩, rfl⟩
  refine tD (fun W Fs R lF z9 => ?_) ?_
  ·obtain ⟨e3, f3_6hx⟩ := z9 3 rfl
   rw [eS (l := [(3, (ii (((intAt (W 3))))))]) ⟨(e3).symm, ⟨⟩⟩]
   refine qh (qD (1 + (((intAt (W 3))))) rfl rfl (by omega) (by omega) ?_)
   exact ⟨rfl, rfl⟩
  refine tD (fun W Fs R lF z9 => ?_) ?_
  ·replace hbs := hbs.mono lF
   replace hr1 := hr1.mono lF
   replace hr2 := hr2.mono lF
   replace hr3 := hr3.mono lF
   rw [zA 0 (z9 0 rfl)]
   show XG _ _ _ _ _ (cellsH b1 [sN] 26 :: ([cellsH b4 [ii (x5), x2, x3] 29, cellsH b3 [x1] 26, curH .i64 83 cb1 bsv bs.length] ++ R)) _
   refine qh (qX [] _ [x1] qI rfl rfl rfl (qt (qU (qS hr1)) qZ) rfl rfl rfl ?_)
   exact ⟨trivial, rfl⟩
  refine tD (fun W Fs R lF z9 => ?_) ?_
  ·replace hbs := hbs.mono lF
   replace hr1 := hr1.mono lF
   replace hr2 := hr2.mono lF
   replace hr3 := hr3.mono lF
   rw [zA 1 (z9 1 rfl)]
   show XG _ _ _ _ _ (cellsH b2 [ii (0), sN, sN] 29 :: ([cellsH b4 [ii (x5), x2, x3] 29, cellsH b3 [x1] 26, curH .i64 83 cb1 bsv bs.length] ++ R)) _
   refine qh (qX [] _ [ii (x5), x2, x3] qN rfl rfl rfl (qt rfl (qt (qU (TransF.isSl hr2)) (qt (qU (qS hr3)) qZ))) rfl rfl rfl ?_)
   exact ⟨trivial, rfl⟩
  exact stepsT.nil
 intro W F24 le24 hphi
 obtain ⟨e3, f3_6hx⟩ := hphi 3 (by decide)
 have e4 : W 4 = (ii (1 + (((intAt (W 3))))) : Value) := hphi 4 (by decide)
 generalize hu6 : (intAt (W 3)) = u6 at e3 f3_6hx e4
 rw [eS (l := [(3, (ii ((u6)))), (4, (ii (1 + ((u6)))))]) ⟨(e3).symm, e4, ⟨⟩⟩]
 replace hr1 := hr1.mono le24
 replace hr2 := hr2.mono le24
 replace hr3 := hr3.mono le24
 show XL _ _ _ _ _ _ _ (cellsH b1 [x1] 26 :: cellsH b2 [ii (x5), x2, x3] 29 :: cellsH b4 [ii (x5), x2, x3] 29 :: cellsH b3 [x1] 26 :: curH .i64 83 cb1 bsv bs.length :: L)
 refine qg (ii (1 + ((u6)))) rfl (qb (qC (qv (L' := L) [.agg #[x1], .agg #[ii (x5), x2, x3], ii (1 + ((u6)))] (.tuple #[.agg #[x1], .agg #[ii (x5), x2, x3], ii (1 + ((u6)))]) (.cell rfl (jv [x1] qY qI rfl (Rd.ownN [] rfl rfl)) (.cell rfl (jv [ii (x5), x2, x3] jc qN rfl (Rd.ownN [_] rfl rfl)) (.tmp rfl .nil))) rfl (qj le1 le24) rF (sD (sD (sD (sD (sD sR))))) ?_)))
 exact ⟨_, _, _, _, _, _, _, _, rfl, hr1, hr2, hr3, by assumption, by first | assumption | exact autoS.up (by assumption), rfl⟩

/- laws.big -/
theorem big_spec {F : FH} {L : List HP} {bsv : Value} {bs : List Int} (hbs : BytesF F bsv bs) :
    Does prog 4 [bsv] F (L) (fun v F' L' => (.bool (decide ((bs.length : Int) > 4096)) : Value) = v ∧ F = F' ∧ L = L') := by
 refine qO func4 rfl rfl rfl (qc (qa (qg (.bool (false)) rfl (qb (qc (qa (qd (bsv) rfl (cX (qG runUnderlying22 rfl hbs.slv (cX (jw rfl rfl (qg (.bool (decide (((bs.length : Int) : Int) > 4096))) rfl (qb (qC (qv (L' := L) [.bool (decide (((bs.length : Int) : Int) > 4096))] (.bool (decide (((bs.length : Int) : Int) > 4096))) (.tmp rfl .nil) rfl rF rF sR ?_)))))))))))))))
 exact ⟨rfl, rfl, rfl⟩

/- laws.FnLeastTaken -/
set_option maxHeartbeats 2000000 in
set_option maxRecDepth 20000 in
theorem FnLeastTaken_does {F : FH} {L : List HP} {bsv : Value} {bs : List Int} (hbs : BytesF F bsv bs) (hlb : bs.length ≤ 9223372036854775807) :
    Does prog 3 [bsv] F (L) (fun v F' L' => (.bool (true) : Value) = v ∧ F = F' ∧ L = L') := by
 refine qO func3 rfl rfl rfl (qc (qa (qg (.bool (false)) rfl (qb (qc (qc (qa (qd (bsv) rfl (cX (qq (args := [bsv]) call4 rfl (big_spec hbs) ?_))))))))))
 rintro _ _ _ _ ⟨rfl, rfl, rfl⟩
 refine qb ?_
 refine qE (p := (bs.length : Int) > 4096) rfl (fun h1 => ?_) (fun h1 => ?_)
 ·refine qc (qa (qg (.bool (true)) rfl (qb (qC (qn (qv (L' := L) [.bool (true)] (.bool (true)) (.tmp rfl .nil) rfl rF rF sR ?_))))))
  exact ⟨(vB ((by first | rfl | exact (decide_eq_true (law_end hA9 hsu9 (by omega) (by omega) hbs hok9 (by omega) hct)).symm))), rfl, rfl⟩
 have hbl2 : bs.length ≤ 4000000 := by omega
 refine qx (qc (qa (qd (bsv) rfl (cX (qq (args := [bsv]) call5 rfl (DrawCountTaken_spec hbs (hbl := (by first | assumption | rfl | omega | simp))) ?_)))))
 rintro _ F1 _ le1 ⟨x1, x2, x3, x4, x5, x6, x7, x8, rfl, hr1, hr2, hr3, hr4, hr5, rfl⟩
 refine qd (.tuple #[.agg #[x1], .agg #[ii (x5), x2, x3], ii (x8)]) rfl (cX (jn (.agg #[x1]) rfl rfl (cX (jn (.agg #[ii (x5), x2, x3]) rfl rfl (cX (jn (ii (x8)) rfl rfl (cX (jt [sN] zeroValue26 rfl ?_))))))))
 intro b1
 refine cX (jt [ii (0), sN, sN] jK rfl ?_)
 intro b2
 refine cX (qX [_] _ [x1] qI rfl rfl rfl (qt (qU (qS hr1)) qZ) rfl rfl rfl (cX (qX [] _ [ii (x5), x2, x3] qN rfl rfl rfl (qt rfl (qt (qU (TransF.isSl hr2)) (qt (qU (qS hr3)) qZ))) rfl rfl rfl (qg (ii (x8)) rfl ?_))))
 have hB9 := hr5.bounds (by decide)
 refine qb (qc (qa (cX (qu [x1] qY qI rfl rfl (Rd.ownN [_] rfl rfl) (cX (qu [ii (x5), x2, x3] jc qN rfl rfl (Rd.ownN [] rfl rfl) (cX (qq (args := [.agg #[x1], .agg #[ii (x5), x2, x3]]) call6 rfl (LeastIn_spec hr1 hr2 hr3 (hlf := (hB9.2.2))) ?_))))))))
 rintro _ F2 _ le2 ⟨⟨x9, x10, rfl, hr6⟩, rfl⟩
 obtain ⟨t1, hr6, q1, q2⟩ := hr6
 replace hr1 := hr1.mono le2
 replace hr2 := hr2.mono le2
 replace hr3 := hr3.mono le2
 show XL _ _ _ _ _ _ _ (cellsH b2 [ii (x5), x2, x3] 29 :: cellsH b1 [x1] 26 :: L)
 refine qd (.tuple #[x9, .bool (x10)]) rfl (cX (jn (x9) rfl rfl (cX (jn (.bool (x10)) rfl rfl (qg (x9) rfl (qg (.bool (x10)) rfl (qb (qc (qa (cX (qu [x1] qY qI rfl rfl (Rd.ownN [_] rfl rfl) (cX (qu [ii (x5), x2, x3] jc qN rfl rfl (Rd.ownN [] rfl rfl) (cX (qq (args := [.agg #[x1], .agg #[ii (x5), x2, x3]]) call7 rfl (sLeastIn_spec hr1 hr2 hr3 (hla := (by omega)) (hlr := (hB9.1)) (hrb := (hB9.2.1)) (hlf := (hB9.2.2))) ?_)))))))))))))))
 rintro _ F3 _ le3 ⟨⟨x11, x12, rfl, hr7⟩, rfl⟩
 obtain ⟨t2, hr7, q3, q4⟩ := hr7
 replace hr1 := hr1.mono le3
 replace hr2 := hr2.mono le3
 replace hr3 := hr3.mono le3
 replace hr6 := hr6.mono le3
 show XL _ _ _ _ _ _ _ (cellsH b2 [ii (x5), x2, x3] 29 :: cellsH b1 [x1] 26 :: L)
 refine qd (.tuple #[x11, .bool (x12)]) rfl (cX (jn (x11) rfl rfl (cX (jn (.bool (x12)) rfl rfl (qg (x11) rfl (qg (.bool (x12)) rfl ?_))))))
 have hone := LeastR.one q1 q3
 refine qb (qc (qa (cX (qu [x1] qY qI rfl rfl (Rd.ownN [_] rfl rfl) (cX (qu [ii (x5), x2, x3] jc qN rfl rfl (Rd.ownN [] rfl rfl) (qd (ii (x8)) rfl (cX (qq (args := [.agg #[x1], .agg #[ii (x5), x2, x3], ii (x8)]) call8 rfl (CountTaken_spec (z := x8) hr1 hr2 hr3 (hlf := (hB9.2.2))) ?_)))))))))
 rintro _ _ _ _ ⟨rfl, rfl, rfl⟩
 refine qg (ii (cntZ x4 x5 x6 x7 x8)) rfl (qb (qc (qc (qa (qd (.bool (x10)) rfl (qd (.bool (x12)) rfl (cX (XOp.neB (a := x10) (b := x12) runUnderlying4 rfl rfl (qd (.bool (decide ((x10) ≠ (x12)))) rfl ?_)))))))))
 by_cases h2 : (x10) ≠ (x12)
 ·exact absurd hone.2 (by simpa using h2)
 refine qo (t := 43) rfl (vF h2) (qk (x9) rfl (qo (t := 43) rfl (vF h2) (qk (x11) rfl (qo (t := 43) rfl (vF h2) (qq (args := [x9, x11]) call9 rfl (SameTerm_spec hr6 hr7 (hbd := (by first | assumption | rfl | omega | (left; simp; done) | (right; simp; done)))) ?_)))))
 rintro _ _ _ _ ⟨rfl, rfl, rfl⟩
 refine qo (t := 43) rfl (vF h2) (XOp.notD rfl (cX (qQ (.bool (decide (¬(t1 = t2)))) (vF h2) rfl (qd (.bool (decide (¬(t1 = t2)))) rfl ?_))))
 by_cases h3 : ¬(t1 = t2)
 ·exact absurd hone.1 (by simpa using h3)
 refine qo (t := 49) rfl (vF h3) (qk (ii (cntZ x4 x5 x6 x7 x8)) rfl (qo (t := 49) rfl (vF h3) (qu [x1] qY qI rfl rfl (Rd.ownN [_] rfl rfl) (qo (t := 49) rfl (vF h3) (qu [ii (x5), x2, x3] jc qN rfl rfl (Rd.ownN [] rfl rfl) (qo (t := 49) rfl (vF h3) (qk (ii (x8)) rfl (qo (t := 49) rfl (vF h3) (qq (args := [.agg #[x1], .agg #[ii (x5), x2, x3], ii (x8)]) call10 rfl (sCountTaken_spec (z := x8) hr1 hr2 hr3 (hla := (by omega)) (hlr := (hB9.1)) (hrb := (hB9.2.1)) (hlf := (hB9.2.2))) ?_)))))))))
 rintro _ _ _ _ ⟨rfl, rfl, rfl⟩
 refine qo (t := 49) rfl (vF h3) (XOp.neq rfl rfl (cX (qQ (.bool (decide ((cntZ x4 x5 x6 x7 x8 : Int) ≠ cntZ x4 x5 x6 x7 x8))) (vF h3) rfl (qb ?_))))
 refine qE (p := (cntZ x4 x5 x6 x7 x8 : Int) ≠ cntZ x4 x5 x6 x7 x8) rfl (fun h4 => ?_) (fun h4 => ?_)
 ·exact absurd rfl h4
 refine qx (qc (qc (qa (qd (.bool (x10)) rfl (qd (.bool (x10)) rfl ?_)))))
 by_cases h5 : (x10) = true
 ·refine qo (t := 58) rfl (vB h5) (qu [x1] qY qI rfl rfl (Rd.ownN [_] rfl rfl) (qo (t := 58) rfl (vB h5) (qu [ii (x5), x2, x3] jc qN rfl rfl (Rd.ownN [] rfl rfl) (qo (t := 58) rfl (vB h5) (qk (x9) rfl (qo (t := 58) rfl (vB h5) (qq (args := [.agg #[x1], .agg #[ii (x5), x2, x3], x9]) call11 rfl (AcceptsIn_spec hr1 hr2 hr3 hr6 (hlf := (hB9.2.2)) (hlt := (by omega))) ?_)))))))
  rintro _ F4 _ le4 ⟨rfl, rfl⟩
  replace hr1 := hr1.mono le4
  replace hr2 := hr2.mono le4
  replace hr3 := hr3.mono le4
  replace hr6 := hr6.mono le4
  refine qo (t := 58) rfl (vB h5) (jx rfl (cX (qL (.bool (!((autoB x4 x5 x6 x7 && groundB x4 t1 && accT x4 x6 x7 t1)))) (vB h5) rfl (qb ?_))))
  refine jr (t := !((autoB x4 x5 x6 x7 && groundB x4 t1 && accT x4 x6 x7 t1))) rfl (fun h6 => ?_) (fun h6 => ?_)
  ·exact absurd (least_taken q1 (by assumption)) (by rw [Bool.not_inj (y := false) h6]; decide)
  refine qx (qc (qa (cX (qu [x1] qY qI rfl rfl (Rd.ownN [_] rfl rfl) (cX (qq (args := [.agg #[x1], ii (5)]) call12 rfl (GroundsOf_spec (z := 5) hr1 (hla := (by first | assumption | rfl | omega | simp))) ?_))))))
  rintro _ F5 _ le5 ⟨⟨x13, x14, rfl, hr8⟩, rfl⟩
  obtain ⟨t3, hr8, q5⟩ := hr8
  replace hr1 := hr1.mono le5
  replace hr2 := hr2.mono le5
  replace hr3 := hr3.mono le5
  replace hr6 := hr6.mono le5
  show XL _ _ _ _ _ _ _ (cellsH b2 [ii (x5), x2, x3] 29 :: cellsH b1 [x1] 26 :: L)
  refine qd (.tuple #[x13, .bool (x14)]) rfl (cX (jn (x13) rfl rfl (cX (jn (.bool (x14)) rfl rfl (qg (x13) rfl (qg (.bool (x14)) rfl ?_))))))
  have hgl := fun h => q5.len h
  have hgl2 := q5.1
  refine qb (qc (qc (qa (qd (.bool (x14)) rfl (cX (jx rfl (qd (.bool (!(x14))) rfl ?_)))))))
  by_cases h7 : (!(x14)) = true
  ·refine qm (t := 72) rfl (vB h7) (qm (t := 72) rfl (vB h7) (qm (t := 72) rfl (vB h7) (qm (t := 72) rfl (vB h7) (cX (qL (.bool (true)) (vB h7) rfl (qb (jA rfl (qc (qa (qg (.bool (true)) rfl (qb ?_)))))))))))
   refine qC (qn (qv (L' := L) [.bool (true)] (.bool (true)) (.tmp rfl .nil) rfl rF (qj (qj (qj (qj le1 le2) le3) le4) le5) (sD (sD sR)) ?_))
   exact ⟨(vB ((by first | rfl | exact (decide_eq_true (law_end hA9 hsu9 (by omega) (by omega) q5 hok9 (by omega) hct)).symm))), rfl, rfl⟩
  rw [Bool.not_eq_true] at h7
  have hok9 := Bool.not_inj (y := true) h7
  have hgl9 := hgl hok9
  refine qo (t := 72) rfl (vB h7) (qu [x1] qY qI rfl rfl (Rd.ownN [_] rfl rfl) (qo (t := 72) rfl (vB h7) (qu [ii (x5), x2, x3] jc qN rfl rfl (Rd.ownN [] rfl rfl) (qo (t := 72) rfl (vB h7) (qq (args := [.agg #[x1], .agg #[ii (x5), x2, x3]]) call13 rfl (sAutoOk_spec hr1 hr2 hr3 (hla := (by omega)) (hlr := (hB9.1)) (hrb := (hB9.2.1)) (hlf := (hB9.2.2))) ?_)))))
  rintro _ _ _ _ ⟨rfl, rfl, rfl⟩
  refine qo (t := 72) rfl (vB h7) (jx rfl (cX (qQ (.bool (!(autoB x4 x5 x6 x7))) (vB h7) rfl (qb ?_))))
  refine jr (t := !(autoB x4 x5 x6 x7)) rfl (fun h8 => ?_) (fun h8 => ?_)
  ·refine qc (qa (qg (.bool (true)) rfl (qb (qC (qn (qv (L' := L) [.bool (true)] (.bool (true)) (.tmp rfl .nil) rfl rF (qj (qj (qj (qj le1 le2) le3) le4) le5) (sD (sD sR)) ?_))))))
   exact ⟨(vB ((by first | rfl | exact (decide_eq_true (law_end hA9 hsu9 (by omega) (by omega) q5 hok9 (by omega) hct)).symm))), rfl, rfl⟩
  have hA9 : autoB x4 x5 x6 x7 = true := Bool.not_inj (y := true) h8
  refine qx (qc (qa (qg (ii (0)) rfl (qb (qc (qc (qa (qg (ii (0)) rfl (qb (qF (jg (α := Nat × Nat) (fun xQ => [(3, ptr b1 0), (4, ptr b2 0), (5, ii (x8)), (6, x9), (7, .bool (x10)), (10, ii (cntZ x4 x5 x6 x7 x8)), (11, x13), (13, ii (((xQ.2 : Nat) : Int))), (14, ii (((xQ.1 : Nat) : Int)))]) (fun xQ => cellsH b2 [ii (x5), x2, x3] 29 :: cellsH b1 [x1] 26 :: L) (fun xQ F' => F5 = F' ∧ (xQ.1 ≤ t3.length) ∧ (xQ.2 ≤ xQ.1) ∧ (xQ.2 = cnt (fun u => TakenP x4 x5 x6 x7 u ∧ (u.length : Int) = x8) (t3.take xQ.1))) (fun xQ => t3.length - xQ.1) (0, 0) ⟨rfl, rfl, rfl, rfl, rfl, rfl, rfl, rfl, rfl, ⟨⟩⟩ (sC (sC sR)) ⟨rfl, (Nat.zero_le _), (Nat.le_refl _), (rfl)⟩ ?_)))))))))))
  rintro ⟨i, c⟩ rE _ _ ⟨rfl, hi, hci, hct⟩
  show X _ _ _ _ (envs [(3, ptr b1 0), (4, ptr b2 0), (5, ii (x8)), (6, x9), (7, .bool (x10)), (10, ii (cntZ x4 x5 x6 x7 x8)), (11, x13), (13, ii ((c : Int))), (14, ii ((i : Int)))] rE) _ (cellsH b2 [ii (x5), x2, x3] 29 :: cellsH b1 [x1] 26 :: L)
  dsimp only at hi hci hct
  have hgi := hgl9 i
  refine qc (qc (qa (qd (ii ((i : Int))) rfl (qd (x13) rfl (cX (qG qz rfl hr8.slv (cX (qV rfl rfl (qb ?_)))))))))
  refine qE (p := (i : Int) < (t3.length : Int)) rfl (fun h9 => ?_) (fun h9 => ?_)
  ·refine qx (qc (qF (qc ?_)))
   obtain ⟨a1, ha1, hr9⟩ := hr8.rd (i := i) (by omega)
   refine jq [cellsH b2 [ii (x5), x2, x3] 29, cellsH b1 [x1] 26] L 6 [] [[], [], [], [], [2, 3], [4]] (phiL [qe (.agg #[x1]), qe (.agg #[ii (x5), x2, x3]), qe x13, qe (ii ((i : Int)) : Value), qe (.pointer (some (elemA x13 (i)))), qe a1]) (ownL []) mixed rfl rfl (by kernel_rfl) ?_ ?_
   ·refine pD (fun W R z9 => ?_) ?_
    ·refine qh (qu [x1] qY qI rfl rfl (Rd.ownN [_] rfl rfl) ?_)
     exact ⟨rfl, rfl, rfl⟩
    refine pD (fun W R z9 => ?_) ?_
    ·refine qh (qu [ii (x5), x2, x3] jc qN rfl rfl (Rd.ownN [] rfl rfl) ?_)
     exact ⟨rfl, rfl, rfl⟩
    refine pD (fun W R z9 => ?_) ?_
    ·refine qh (qk (x13) rfl ?_)
     exact ⟨rfl, rfl, rfl⟩
    refine pD (fun W R z9 => ?_) ?_
    ·refine qh (qk (ii ((i : Int))) rfl ?_)
     exact ⟨rfl, rfl, rfl⟩
    refine pD (fun W R z9 => ?_) ?_
    ·rw [zB 2 3 (z9 2 rfl) (z9 3 rfl)]
     refine qh (qy i qz qw rfl rfl rfl hr8.slv (by omega) (Nat.mul_one _) ?_)
     exact ⟨rfl, rfl, rfl⟩
    refine pD (fun W R z9 => ?_) ?_
    ·rw [zA 4 (z9 4 rfl)]
     refine qh (qi qT rfl (hr9 _) ?_)
     exact ⟨rfl, rfl, rfl⟩
    exact stepsP.nil
   intro W hphi
   rw [eS (l := [(0, _), (1, _), (5, _)]) ⟨(hphi 0 (by decide)), (hphi 1 (by decide)), (hphi 5 (by decide)), ⟨⟩⟩]
   show XL _ _ _ _ _ _ _ (cellsH b2 [ii (x5), x2, x3] 29 :: cellsH b1 [x1] 26 :: L)
   refine cX (qq (args := [.agg #[x1], .agg #[ii (x5), x2, x3], a1]) call14 rfl (sAcceptsIn_spec hr1 hr2 hr3 ha1 (hla := (by omega)) (hlr := (hB9.1)) (hrb := (hB9.2.1)) (hlf := (hB9.2.2)) (hlt := (by omega))) ?_)
   rintro _ F6 _ le6 ⟨rfl, rfl⟩
   replace hr1 := hr1.mono le6
   replace hr2 := hr2.mono le6
   replace hr3 := hr3.mono le6
   replace hr6 := hr6.mono le6
   replace hr8 := hr8.mono le6
   replace ha1 := ha1.mono le6
   replace hr9 := Rd.monoA hr9 le6
   refine qg (.bool ((autoB x4 x5 x6 x7 && groundB x4 ((t3.getD i [])) && accT x4 x6 x7 ((t3.getD i []))))) rfl (qb (qc (qc (qa (qd (.bool ((autoB x4 x5 x6 x7 && groundB x4 ((t3.getD i [])) && accT x4 x6 x7 ((t3.getD i []))))) rfl (qd (.bool ((autoB x4 x5 x6 x7 && groundB x4 ((t3.getD i [])) && accT x4 x6 x7 ((t3.getD i []))))) rfl ?_))))))
   by_cases h10 : ((autoB x4 x5 x6 x7 && groundB x4 ((t3.getD i [])) && accT x4 x6 x7 ((t3.getD i [])))) = true
   ·have htk : TakenP x4 x5 x6 x7 (t3.getD i []) := h10
    have hll := least_law q1 htk
    refine qo (t := 92) rfl (vB h10) (qk (.bool (x10)) rfl (qo (t := 92) rfl (vB h10) (jx rfl (qo (t := 92) rfl (vB h10) (qk (.bool (!(x10))) rfl ?_)))))
    by_cases h11 : (!(x10)) = true
    ·exact absurd hll.1 (by rw [Bool.not_inj (y := false) h11]; decide)
    rw [Bool.not_eq_true] at h11
    refine qo (t := 95) rfl (vB h11) (qk (x13) rfl (qo (t := 95) rfl (vB h11) (qk (ii ((i : Int))) rfl (qo (t := 95) rfl (vB h11) (qy i qz qw rfl rfl rfl hr8.slv (by omega) (Nat.mul_one _) (qo (t := 95) rfl (vB h11) (qi qT rfl (hr9 _) (qo (t := 95) rfl (vB h11) (qk (x9) rfl (qo (t := 95) rfl (vB h11) (qq (args := [a1, x9]) call15 rfl (LessTerm_spec ha1 hr6 (hlt := (by omega)) (hlu := (by omega))) ?_)))))))))))
    rintro _ _ _ _ ⟨rfl, rfl, rfl⟩
    refine qo (t := 92) rfl (vB h10) (qQ (.bool (lessB ((t3.getD i [])) t1)) (vB h11) rfl (cX (qL (.bool (lessB ((t3.getD i [])) t1)) (vB h10) rfl (qb ?_))))
    refine jr (t := lessB ((t3.getD i [])) t1) rfl (fun h12 => ?_) (fun h12 => ?_)
    ·exact absurd hll.2 (by rw [h12]; decide)
    refine qx (qc (qa (qd (.bool ((autoB x4 x5 x6 x7 && groundB x4 ((t3.getD i [])) && accT x4 x6 x7 ((t3.getD i []))))) rfl (qd (.bool ((autoB x4 x5 x6 x7 && groundB x4 ((t3.getD i [])) && accT x4 x6 x7 ((t3.getD i []))))) rfl (qo (t := 105) rfl (vB h10) (qk (x13) rfl (qo (t := 105) rfl (vB h10) (qk (ii ((i : Int))) rfl (qo (t := 105) rfl (vB h10) (qy i qz qw rfl rfl rfl hr8.slv (by omega) (Nat.mul_one _) (qo (t := 105) rfl (vB h10) (qi qT rfl (hr9 _) (qo (t := 105) rfl (vB h10) (qG qf rfl ha1.slv (qo (t := 105) rfl (vB h10) (qk (ii (x8)) rfl (qo (t := 105) rfl (vB h10) (jp rfl rfl ?_))))))))))))))))))
    refine cX (qL (.bool (decide ((((((t3.getD i [])).length : Nat) : Int) : Int) = x8))) (vB h10) rfl (qb ?_))
    refine qE (p := (((((t3.getD i [])).length : Nat) : Int) : Int) = x8) rfl (fun h13 => ?_) (fun h13 => ?_)
    ·have hln : ((t3.getD i []).length : Int) = x8 := h13
     refine qa (qd (ii ((c : Int))) rfl (cX (qD (((c + 1 : Nat) : Int)) rfl rfl (by omega) (by omega) (qg (ii (((c + 1 : Nat) : Int))) rfl (qb (qa (qd (ii ((i : Int))) rfl (cX (qD (((i + 1 : Nat) : Int)) rfl rfl (by omega) (by omega) (qg (ii (((i + 1 : Nat) : Int))) rfl (qb ?_)))))))))))
     exact ⟨(i + 1, c + 1), _, FLe.refl _, le6, ⟨rfl, rfl, rfl, rfl, rfl, rfl, rfl, rfl, rfl, ⟨⟩⟩, (sC (sC sR)), ⟨rfl, (by (try dsimp only) <;> omega), (by (try dsimp only) <;> omega), (by (try dsimp only); first | (rw [cnt_next (P := (fun u => TakenP x4 x5 x6 x7 u ∧ (u.length : Int) = x8)) (by omega) ⟨htk, hln⟩, ← hct]; done) | (rw [cnt_skip (P := (fun u => TakenP x4 x5 x6 x7 u ∧ (u.length : Int) = x8)) (by omega) (fun k => htk k.1), ← hct]; done) | (rw [cnt_skip (P := (fun u => TakenP x4 x5 x6 x7 u ∧ (u.length : Int) = x8)) (by omega) (fun k => hln k.2), ← hct]; done))⟩, (by omega)⟩
    have hln : ¬ ((t3.getD i []).length : Int) = x8 := h13
    refine qx (qa (qd (ii ((i : Int))) rfl (cX (qD (((i + 1 : Nat) : Int)) rfl rfl (by omega) (by omega) (qg (ii (((i + 1 : Nat) : Int))) rfl (qb ?_))))))
    exact ⟨(i + 1, c), _, FLe.refl _, le6, ⟨rfl, rfl, rfl, rfl, rfl, rfl, rfl, rfl, rfl, ⟨⟩⟩, (sC (sC sR)), ⟨rfl, (by (try dsimp only) <;> omega), (by (try dsimp only) <;> omega), (by (try dsimp only); first | (rw [cnt_next (P := (fun u => TakenP x4 x5 x6 x7 u ∧ (u.length : Int) = x8)) (by omega) ⟨htk, hln⟩, ← hct]; done) | (rw [cnt_skip (P := (fun u => TakenP x4 x5 x6 x7 u ∧ (u.length : Int) = x8)) (by omega) (fun k => htk k.1), ← hct]; done) | (rw [cnt_skip (P := (fun u => TakenP x4 x5 x6 x7 u ∧ (u.length : Int) = x8)) (by omega) (fun k => hln k.2), ← hct]; done))⟩, (by omega)⟩
   rw [Bool.not_eq_true] at h10
   have htk : ¬ TakenP x4 x5 x6 x7 (t3.getD i []) := fun k9 => by unfold TakenP at k9; rw [k9] at h10; cases h10
   refine qm (t := 92) rfl (vB h10) (qm (t := 92) rfl (vB h10) (qm (t := 92) rfl (vB h10) (jE (t := 95) rfl rfl (jE (t := 95) rfl rfl (jE (t := 95) rfl rfl (jE (t := 95) rfl rfl (jE (t := 95) rfl rfl (jE (t := 95) rfl rfl (qm (t := 92) rfl (vB h10) ?_)))))))))
   refine cX (qQ (.bool (false)) (vB h10) rfl (qb (jG rfl (qx (qc (qa (qd (.bool ((autoB x4 x5 x6 x7 && groundB x4 ((t3.getD i [])) && accT x4 x6 x7 ((t3.getD i []))))) rfl (qd (.bool ((autoB x4 x5 x6 x7 && groundB x4 ((t3.getD i [])) && accT x4 x6 x7 ((t3.getD i []))))) rfl (qm (t := 105) rfl (vB h10) (qm (t := 105) rfl (vB h10) (qm (t := 105) rfl (vB h10) (qm (t := 105) rfl (vB h10) ?_))))))))))))
   refine qm (t := 105) rfl (vB h10) (qm (t := 105) rfl (vB h10) (qm (t := 105) rfl (vB h10) (cX (qQ (.bool (false)) (vB h10) rfl (qb (jG rfl (qx (qa (qd (ii ((i : Int))) rfl (cX (qD (((i + 1 : Nat) : Int)) rfl rfl (by omega) (by omega) (qg (ii (((i + 1 : Nat) : Int))) rfl ?_))))))))))))
   refine qb ?_
   exact ⟨(i + 1, c), _, FLe.refl _, le6, ⟨rfl, rfl, rfl, rfl, rfl, rfl, rfl, rfl, rfl, ⟨⟩⟩, (sC (sC sR)), ⟨rfl, (by (try dsimp only) <;> omega), (by (try dsimp only) <;> omega), (by (try dsimp only); first | (rw [cnt_next (P := (fun u => TakenP x4 x5 x6 x7 u ∧ (u.length : Int) = x8)) (by omega) ⟨htk, hln⟩, ← hct]; done) | (rw [cnt_skip (P := (fun u => TakenP x4 x5 x6 x7 u ∧ (u.length : Int) = x8)) (by omega) (fun k => htk k.1), ← hct]; done) | (rw [cnt_skip (P := (fun u => TakenP x4 x5 x6 x7 u ∧ (u.length : Int) = x8)) (by omega) (fun k => hln k.2), ← hct]; done))⟩, (by omega)⟩
  refine jd (qp (qp (qJ (qc (qa (qd (ii (x8)) rfl (cX (qV rfl rfl (qd (.bool (decide ((x8 : Int) < 1))) rfl ?_)))))))))
  by_cases h14 : (x8 : Int) < 1
  ·refine qm (t := 118) rfl (vT h14) (qm (t := 118) rfl (vT h14) (cX (qL (.bool (true)) (vT h14) rfl (qd (.bool (true)) rfl (qm (t := 122) rfl rfl (qm (t := 122) rfl rfl (qm (t := 122) rfl rfl (qm (t := 122) rfl rfl (cX (qL (.bool (true)) rfl rfl (qd (.bool (true)) rfl ?_)))))))))))
   refine qm (t := 128) rfl rfl (qm (t := 128) rfl rfl (qm (t := 128) rfl rfl (cX (qL (.bool (true)) rfl rfl (qg (.bool (true)) rfl (qb (qC (qv (L' := L) [.bool (true)] (.bool (true)) (.tmp rfl .nil) rfl rF (qj (qj (qj (qj le1 le2) le3) le4) le5) (sD (sD sR)) ?_))))))))
   exact ⟨(vB ((by first | rfl | exact (decide_eq_true (law_end hA9 hsu9 (by omega) (by omega) q5 hok9 (by omega) hct)).symm))), rfl, rfl⟩
  refine qo (t := 118) rfl (vF h14) (qk (ii (x8)) rfl (qo (t := 118) rfl (vF h14) (jw rfl rfl (cX (qQ (.bool (decide ((x8 : Int) > 5))) (vF h14) rfl (qd (.bool (decide ((x8 : Int) > 5))) rfl ?_))))))
  by_cases h15 : (x8 : Int) > 5
  ·refine qm (t := 122) rfl (vT h15) (qm (t := 122) rfl (vT h15) (qm (t := 122) rfl (vT h15) (qm (t := 122) rfl (vT h15) (cX (qL (.bool (true)) (vT h15) rfl (qd (.bool (true)) rfl (qm (t := 128) rfl rfl (qm (t := 128) rfl rfl (qm (t := 128) rfl rfl (cX (qL (.bool (true)) rfl rfl ?_)))))))))))
   refine qg (.bool (true)) rfl (qb (qC (qv (L' := L) [.bool (true)] (.bool (true)) (.tmp rfl .nil) rfl rF (qj (qj (qj (qj le1 le2) le3) le4) le5) (sD (sD sR)) ?_)))
   exact ⟨(vB ((by first | rfl | exact (decide_eq_true (law_end hA9 hsu9 (by omega) (by omega) q5 hok9 (by omega) hct)).symm))), rfl, rfl⟩
  refine qo (t := 122) rfl (vF h15) (qu [x1] qY qI rfl rfl (Rd.ownN [_] rfl rfl) (qo (t := 122) rfl (vF h15) (qu [ii (x5), x2, x3] jc qN rfl rfl (Rd.ownN [] rfl rfl) (qo (t := 122) rfl (vF h15) (qq (args := [.agg #[x1], .agg #[ii (x5), x2, x3]]) call16 rfl (sSureIn_spec hr1 hr2 hr3 (hla := (by omega)) (hlr := (hB9.1)) (hrb := (hB9.2.1)) (hlf := (hB9.2.2))) ?_)))))
  rintro _ _ _ _ ⟨rfl, rfl, rfl⟩
  refine qo (t := 122) rfl (vF h15) (jx rfl (cX (qQ (.bool (!((autoB x4 x5 x6 x7 && surB x6)))) (vF h15) rfl (qd (.bool (!((autoB x4 x5 x6 x7 && surB x6)))) rfl ?_))))
  by_cases h16 : (!((autoB x4 x5 x6 x7 && surB x6))) = true
  ·refine qm (t := 128) rfl (vB h16) (qm (t := 128) rfl (vB h16) (qm (t := 128) rfl (vB h16) (cX (qL (.bool (true)) (vB h16) rfl (qg (.bool (true)) rfl (qb (qC (qv (L' := L) [.bool (true)] (.bool (true)) (.tmp rfl .nil) rfl rF (qj (qj (qj (qj le1 le2) le3) le4) le5) (sD (sD sR)) ?_))))))))
   exact ⟨(vB ((by first | rfl | exact (decide_eq_true (law_end hA9 hsu9 (by omega) (by omega) q5 hok9 (by omega) hct)).symm))), rfl, rfl⟩
  rw [Bool.not_eq_true] at h16
  have hsu9 : (autoB x4 x5 x6 x7 && surB x6) = true := Bool.not_inj (y := true) h16
  refine qo (t := 128) rfl (vB h16) (qk (ii (cntZ x4 x5 x6 x7 x8)) rfl (qo (t := 128) rfl (vB h16) (qk (ii ((c : Int))) rfl (qo (t := 128) rfl (vB h16) (jp rfl rfl (cX (qQ (.bool (decide ((cntZ x4 x5 x6 x7 x8 : Int) = (c : Int)))) (vB h16) rfl (qg (.bool (decide ((cntZ x4 x5 x6 x7 x8 : Int) = (c : Int)))) rfl (qb (qC (qv (L' := L) [.bool (decide ((cntZ x4 x5 x6 x7 x8 : Int) = (c : Int)))] (.bool (decide ((cntZ x4 x5 x6 x7 x8 : Int) = (c : Int)))) (.tmp rfl .nil) rfl rF (qj (qj (qj (qj le1 le2) le3) le4) le5) (sD (sD sR)) ?_)))))))))))
  exact ⟨(vB ((by first | rfl | exact (decide_eq_true (law_end hA9 hsu9 (by omega) (by omega) q5 hok9 (by omega) hct)).symm))), rfl, rfl⟩
 rw [Bool.not_eq_true] at h5
 refine qm (t := 58) rfl (vB h5) (qm (t := 58) rfl (vB h5) (qm (t := 58) rfl (vB h5) (qm (t := 58) rfl (vB h5) (qm (t := 58) rfl (vB h5) (cX (qQ (.bool (false)) (vB h5) rfl (qb (jG rfl (qx (qc (qa (cX (qu [x1] qY qI rfl rfl (Rd.ownN [_] rfl rfl) ?_)))))))))))))
 refine cX (qq (args := [.agg #[x1], ii (5)]) call12 rfl (GroundsOf_spec (z := 5) hr1 (hla := (by first | assumption | rfl | omega | simp))) ?_)
 rintro _ F7 _ le7 ⟨⟨x15, x16, rfl, hr10⟩, rfl⟩
 obtain ⟨t4, hr10, q6⟩ := hr10
 replace hr1 := hr1.mono le7
 replace hr2 := hr2.mono le7
 replace hr3 := hr3.mono le7
 replace hr6 := hr6.mono le7
 show XL _ _ _ _ _ _ _ (cellsH b2 [ii (x5), x2, x3] 29 :: cellsH b1 [x1] 26 :: L)
 refine qd (.tuple #[x15, .bool (x16)]) rfl (cX (jn (x15) rfl rfl (cX (jn (.bool (x16)) rfl rfl (qg (x15) rfl (qg (.bool (x16)) rfl ?_))))))
 have hgl := fun h => q6.len h
 have hgl2 := q6.1
 refine qb (qc (qc (qa (qd (.bool (x16)) rfl (cX (jx rfl (qd (.bool (!(x16))) rfl ?_)))))))
 by_cases h17 : (!(x16)) = true
 ·refine qm (t := 72) rfl (vB h17) (qm (t := 72) rfl (vB h17) (qm (t := 72) rfl (vB h17) (qm (t := 72) rfl (vB h17) (cX (qL (.bool (true)) (vB h17) rfl (qb (jA rfl (qc (qa (qg (.bool (true)) rfl (qb ?_)))))))))))
  refine qC (qn (qv (L' := L) [.bool (true)] (.bool (true)) (.tmp rfl .nil) rfl rF (qj (qj (qj le1 le2) le3) le7) (sD (sD sR)) ?_))
  exact ⟨(vB ((by first | rfl | exact (decide_eq_true (law_end hA9 hsu9 (by omega) (by omega) q6 hok9 (by omega) hct)).symm))), rfl, rfl⟩
 rw [Bool.not_eq_true] at h17
 have hok9 := Bool.not_inj (y := true) h17
 have hgl9 := hgl hok9
 refine qo (t := 72) rfl (vB h17) (qu [x1] qY qI rfl rfl (Rd.ownN [_] rfl rfl) (qo (t := 72) rfl (vB h17) (qu [ii (x5), x2, x3] jc qN rfl rfl (Rd.ownN [] rfl rfl) (qo (t := 72) rfl (vB h17) (qq (args := [.agg #[x1], .agg #[ii (x5), x2, x3]]) call13 rfl (sAutoOk_spec hr1 hr2 hr3 (hla := (by omega)) (hlr := (hB9.1)) (hrb := (hB9.2.1)) (hlf := (hB9.2.2))) ?_)))))
 rintro _ _ _ _ ⟨rfl, rfl, rfl⟩
 refine qo (t := 72) rfl (vB h17) (jx rfl (cX (qQ (.bool (!(autoB x4 x5 x6 x7))) (vB h17) rfl (qb ?_))))
 refine jr (t := !(autoB x4 x5 x6 x7)) rfl (fun h18 => ?_) (fun h18 => ?_)
 ·refine qc (qa (qg (.bool (true)) rfl (qb (qC (qn (qv (L' := L) [.bool (true)] (.bool (true)) (.tmp rfl .nil) rfl rF (qj (qj (qj le1 le2) le3) le7) (sD (sD sR)) ?_))))))
  exact ⟨(vB ((by first | rfl | exact (decide_eq_true (law_end hA9 hsu9 (by omega) (by omega) q6 hok9 (by omega) hct)).symm))), rfl, rfl⟩
 have hA9 : autoB x4 x5 x6 x7 = true := Bool.not_inj (y := true) h18
 refine qx (qc (qa (qg (ii (0)) rfl (qb (qc (qc (qa (qg (ii (0)) rfl (qb (qF (jg (α := Nat × Nat) (fun xQ => [(3, ptr b1 0), (4, ptr b2 0), (5, ii (x8)), (6, x9), (7, .bool (x10)), (10, ii (cntZ x4 x5 x6 x7 x8)), (11, x15), (13, ii (((xQ.2 : Nat) : Int))), (14, ii (((xQ.1 : Nat) : Int)))]) (fun xQ => cellsH b2 [ii (x5), x2, x3] 29 :: cellsH b1 [x1] 26 :: L) (fun xQ F' => F7 = F' ∧ (xQ.1 ≤ t4.length) ∧ (xQ.2 ≤ xQ.1) ∧ (xQ.2 = cnt (fun u => TakenP x4 x5 x6 x7 u ∧ (u.length : Int) = x8) (t4.take xQ.1))) (fun xQ => t4.length - xQ.1) (0, 0) ⟨rfl, rfl, rfl, rfl, rfl, rfl, rfl, rfl, rfl, ⟨⟩⟩ (sC (sC sR)) ⟨rfl, (Nat.zero_le _), (Nat.le_refl _), (rfl)⟩ ?_)))))))))))
 rintro ⟨i, c⟩ rE _ _ ⟨rfl, hi, hci, hct⟩
 show X _ _ _ _ (envs [(3, ptr b1 0), (4, ptr b2 0), (5, ii (x8)), (6, x9), (7, .bool (x10)), (10, ii (cntZ x4 x5 x6 x7 x8)), (11, x15), (13, ii ((c : Int))), (14, ii ((i : Int)))] rE) _ (cellsH b2 [ii (x5), x2, x3] 29 :: cellsH b1 [x1] 26 :: L)
 dsimp only at hi hci hct
 have hgi := hgl9 i
 refine qc (qc (qa (qd (ii ((i : Int))) rfl (qd (x15) rfl (cX (qG qz rfl hr10.slv (cX (qV rfl rfl (qb ?_)))))))))
 refine qE (p := (i : Int) < (t4.length : Int)) rfl (fun h19 => ?_) (fun h19 => ?_)
 ·refine qx (qc (qF (qc ?_)))
  obtain ⟨a2, ha2, hr11⟩ := hr10.rd (i := i) (by omega)
  refine jq [cellsH b2 [ii (x5), x2, x3] 29, cellsH b1 [x1] 26] L 6 [] [[], [], [], [], [2, 3], [4]] (phiL [qe (.agg #[x1]), qe (.agg #[ii (x5), x2, x3]), qe x15, qe (ii ((i : Int)) : Value), qe (.pointer (some (elemA x15 (i)))), qe a2]) (ownL []) mixed rfl rfl (by kernel_rfl) ?_ ?_
  ·refine pD (fun W R z9 => ?_) ?_
   ·refine qh (qu [x1] qY qI rfl rfl (Rd.ownN [_] rfl rfl) ?_)
    exact ⟨rfl, rfl, rfl⟩
   refine pD (fun W R z9 => ?_) ?_
   ·refine qh (qu [ii (x5), x2, x3] jc qN rfl rfl (Rd.ownN [] rfl rfl) ?_)
    exact ⟨rfl, rfl, rfl⟩
   refine pD (fun W R z9 => ?_) ?_
   ·refine qh (qk (x15) rfl ?_)
    exact ⟨rfl, rfl, rfl⟩
   refine pD (fun W R z9 => ?_) ?_
   ·refine qh (qk (ii ((i : Int))) rfl ?_)
    exact ⟨rfl, rfl, rfl⟩
   refine pD (fun W R z9 => ?_) ?_
   ·rw [zB 2 3 (z9 2 rfl) (z9 3 rfl)]
    refine qh (qy i qz qw rfl rfl rfl hr10.slv (by omega) (Nat.mul_one _) ?_)
    exact ⟨rfl, rfl, rfl⟩
   refine pD (fun W R z9 => ?_) ?_
   ·rw [zA 4 (z9 4 rfl)]
    refine qh (qi qT rfl (hr11 _) ?_)
    exact ⟨rfl, rfl, rfl⟩
   exact stepsP.nil
  intro W hphi
  rw [eS (l := [(0, _), (1, _), (5, _)]) ⟨(hphi 0 (by decide)), (hphi 1 (by decide)), (hphi 5 (by decide)), ⟨⟩⟩]
  show XL _ _ _ _ _ _ _ (cellsH b2 [ii (x5), x2, x3] 29 :: cellsH b1 [x1] 26 :: L)
  refine cX (qq (args := [.agg #[x1], .agg #[ii (x5), x2, x3], a2]) call14 rfl (sAcceptsIn_spec hr1 hr2 hr3 ha2 (hla := (by omega)) (hlr := (hB9.1)) (hrb := (hB9.2.1)) (hlf := (hB9.2.2)) (hlt := (by omega))) ?_)
  rintro _ F8 _ le8 ⟨rfl, rfl⟩
  replace hr1 := hr1.mono le8
  replace hr2 := hr2.mono le8
  replace hr3 := hr3.mono le8
  replace hr6 := hr6.mono le8
  replace hr10 := hr10.mono le8
  replace ha2 := ha2.mono le8
  replace hr11 := Rd.monoA hr11 le8
  refine qg (.bool ((autoB x4 x5 x6 x7 && groundB x4 ((t4.getD i [])) && accT x4 x6 x7 ((t4.getD i []))))) rfl (qb (qc (qc (qa (qd (.bool ((autoB x4 x5 x6 x7 && groundB x4 ((t4.getD i [])) && accT x4 x6 x7 ((t4.getD i []))))) rfl (qd (.bool ((autoB x4 x5 x6 x7 && groundB x4 ((t4.getD i [])) && accT x4 x6 x7 ((t4.getD i []))))) rfl ?_))))))
  by_cases h20 : ((autoB x4 x5 x6 x7 && groundB x4 ((t4.getD i [])) && accT x4 x6 x7 ((t4.getD i [])))) = true
  ·have htk : TakenP x4 x5 x6 x7 (t4.getD i []) := h20
   have hll := least_law q1 htk
   refine qo (t := 92) rfl (vB h20) (qk (.bool (x10)) rfl (qo (t := 92) rfl (vB h20) (jx rfl (qo (t := 92) rfl (vB h20) (qk (.bool (!(x10))) rfl ?_)))))
   by_cases h21 : (!(x10)) = true
   ·exact absurd hll.1 (by rw [Bool.not_inj (y := false) h21]; decide)
   rw [Bool.not_eq_true] at h21
   refine qo (t := 95) rfl (vB h21) (qk (x15) rfl (qo (t := 95) rfl (vB h21) (qk (ii ((i : Int))) rfl (qo (t := 95) rfl (vB h21) (qy i qz qw rfl rfl rfl hr10.slv (by omega) (Nat.mul_one _) (qo (t := 95) rfl (vB h21) (qi qT rfl (hr11 _) (qo (t := 95) rfl (vB h21) (qk (x9) rfl (qo (t := 95) rfl (vB h21) (qq (args := [a2, x9]) call15 rfl (LessTerm_spec ha2 hr6 (hlt := (by omega)) (hlu := (by omega))) ?_)))))))))))
   rintro _ _ _ _ ⟨rfl, rfl, rfl⟩
   refine qo (t := 92) rfl (vB h20) (qQ (.bool (lessB ((t4.getD i [])) t1)) (vB h21) rfl (cX (qL (.bool (lessB ((t4.getD i [])) t1)) (vB h20) rfl (qb ?_))))
   refine jr (t := lessB ((t4.getD i [])) t1) rfl (fun h22 => ?_) (fun h22 => ?_)
   ·exact absurd hll.2 (by rw [h22]; decide)
   refine qx (qc (qa (qd (.bool ((autoB x4 x5 x6 x7 && groundB x4 ((t4.getD i [])) && accT x4 x6 x7 ((t4.getD i []))))) rfl (qd (.bool ((autoB x4 x5 x6 x7 && groundB x4 ((t4.getD i [])) && accT x4 x6 x7 ((t4.getD i []))))) rfl (qo (t := 105) rfl (vB h20) (qk (x15) rfl (qo (t := 105) rfl (vB h20) (qk (ii ((i : Int))) rfl (qo (t := 105) rfl (vB h20) (qy i qz qw rfl rfl rfl hr10.slv (by omega) (Nat.mul_one _) (qo (t := 105) rfl (vB h20) (qi qT rfl (hr11 _) (qo (t := 105) rfl (vB h20) (qG qf rfl ha2.slv (qo (t := 105) rfl (vB h20) (qk (ii (x8)) rfl (qo (t := 105) rfl (vB h20) (jp rfl rfl ?_))))))))))))))))))
   refine cX (qL (.bool (decide ((((((t4.getD i [])).length : Nat) : Int) : Int) = x8))) (vB h20) rfl (qb ?_))
   refine qE (p := (((((t4.getD i [])).length : Nat) : Int) : Int) = x8) rfl (fun h23 => ?_) (fun h23 => ?_)
   ·have hln : ((t4.getD i []).length : Int) = x8 := h23
    refine qa (qd (ii ((c : Int))) rfl (cX (qD (((c + 1 : Nat) : Int)) rfl rfl (by omega) (by omega) (qg (ii (((c + 1 : Nat) : Int))) rfl (qb (qa (qd (ii ((i : Int))) rfl (cX (qD (((i + 1 : Nat) : Int)) rfl rfl (by omega) (by omega) (qg (ii (((i + 1 : Nat) : Int))) rfl (qb ?_)))))))))))
    exact ⟨(i + 1, c + 1), _, FLe.refl _, le8, ⟨rfl, rfl, rfl, rfl, rfl, rfl, rfl, rfl, rfl, ⟨⟩⟩, (sC (sC sR)), ⟨rfl, (by (try dsimp only) <;> omega), (by (try dsimp only) <;> omega), (by (try dsimp only); first | (rw [cnt_next (P := (fun u => TakenP x4 x5 x6 x7 u ∧ (u.length : Int) = x8)) (by omega) ⟨htk, hln⟩, ← hct]; done) | (rw [cnt_skip (P := (fun u => TakenP x4 x5 x6 x7 u ∧ (u.length : Int) = x8)) (by omega) (fun k => htk k.1), ← hct]; done) | (rw [cnt_skip (P := (fun u => TakenP x4 x5 x6 x7 u ∧ (u.length : Int) = x8)) (by omega) (fun k => hln k.2), ← hct]; done))⟩, (by omega)⟩
   have hln : ¬ ((t4.getD i []).length : Int) = x8 := h23
   refine qx (qa (qd (ii ((i : Int))) rfl (cX (qD (((i + 1 : Nat) : Int)) rfl rfl (by omega) (by omega) (qg (ii (((i + 1 : Nat) : Int))) rfl (qb ?_))))))
   exact ⟨(i + 1, c), _, FLe.refl _, le8, ⟨rfl, rfl, rfl, rfl, rfl, rfl, rfl, rfl, rfl, ⟨⟩⟩, (sC (sC sR)), ⟨rfl, (by (try dsimp only) <;> omega), (by (try dsimp only) <;> omega), (by (try dsimp only); first | (rw [cnt_next (P := (fun u => TakenP x4 x5 x6 x7 u ∧ (u.length : Int) = x8)) (by omega) ⟨htk, hln⟩, ← hct]; done) | (rw [cnt_skip (P := (fun u => TakenP x4 x5 x6 x7 u ∧ (u.length : Int) = x8)) (by omega) (fun k => htk k.1), ← hct]; done) | (rw [cnt_skip (P := (fun u => TakenP x4 x5 x6 x7 u ∧ (u.length : Int) = x8)) (by omega) (fun k => hln k.2), ← hct]; done))⟩, (by omega)⟩
  rw [Bool.not_eq_true] at h20
  have htk : ¬ TakenP x4 x5 x6 x7 (t4.getD i []) := fun k9 => by unfold TakenP at k9; rw [k9] at h20; cases h20
  refine qm (t := 92) rfl (vB h20) (qm (t := 92) rfl (vB h20) (qm (t := 92) rfl (vB h20) (jE (t := 95) rfl rfl (jE (t := 95) rfl rfl (jE (t := 95) rfl rfl (jE (t := 95) rfl rfl (jE (t := 95) rfl rfl (jE (t := 95) rfl rfl (qm (t := 92) rfl (vB h20) ?_)))))))))
  refine cX (qQ (.bool (false)) (vB h20) rfl (qb (jG rfl (qx (qc (qa (qd (.bool ((autoB x4 x5 x6 x7 && groundB x4 ((t4.getD i [])) && accT x4 x6 x7 ((t4.getD i []))))) rfl (qd (.bool ((autoB x4 x5 x6 x7 && groundB x4 ((t4.getD i [])) && accT x4 x6 x7 ((t4.getD i []))))) rfl (qm (t := 105) rfl (vB h20) (qm (t := 105) rfl (vB h20) (qm (t := 105) rfl (vB h20) (qm (t := 105) rfl (vB h20) ?_))))))))))))
  refine qm (t := 105) rfl (vB h20) (qm (t := 105) rfl (vB h20) (qm (t := 105) rfl (vB h20) (cX (qQ (.bool (false)) (vB h20) rfl (qb (jG rfl (qx (qa (qd (ii ((i : Int))) rfl (cX (qD (((i + 1 : Nat) : Int)) rfl rfl (by omega) (by omega) (qg (ii (((i + 1 : Nat) : Int))) rfl ?_))))))))))))
  refine qb ?_
  exact ⟨(i + 1, c), _, FLe.refl _, le8, ⟨rfl, rfl, rfl, rfl, rfl, rfl, rfl, rfl, rfl, ⟨⟩⟩, (sC (sC sR)), ⟨rfl, (by (try dsimp only) <;> omega), (by (try dsimp only) <;> omega), (by (try dsimp only); first | (rw [cnt_next (P := (fun u => TakenP x4 x5 x6 x7 u ∧ (u.length : Int) = x8)) (by omega) ⟨htk, hln⟩, ← hct]; done) | (rw [cnt_skip (P := (fun u => TakenP x4 x5 x6 x7 u ∧ (u.length : Int) = x8)) (by omega) (fun k => htk k.1), ← hct]; done) | (rw [cnt_skip (P := (fun u => TakenP x4 x5 x6 x7 u ∧ (u.length : Int) = x8)) (by omega) (fun k => hln k.2), ← hct]; done))⟩, (by omega)⟩
 refine jd (qp (qp (qJ (qc (qa (qd (ii (x8)) rfl (cX (qV rfl rfl (qd (.bool (decide ((x8 : Int) < 1))) rfl ?_)))))))))
 by_cases h24 : (x8 : Int) < 1
 ·refine qm (t := 118) rfl (vT h24) (qm (t := 118) rfl (vT h24) (cX (qL (.bool (true)) (vT h24) rfl (qd (.bool (true)) rfl (qm (t := 122) rfl rfl (qm (t := 122) rfl rfl (qm (t := 122) rfl rfl (qm (t := 122) rfl rfl (cX (qL (.bool (true)) rfl rfl (qd (.bool (true)) rfl ?_)))))))))))
  refine qm (t := 128) rfl rfl (qm (t := 128) rfl rfl (qm (t := 128) rfl rfl (cX (qL (.bool (true)) rfl rfl (qg (.bool (true)) rfl (qb (qC (qv (L' := L) [.bool (true)] (.bool (true)) (.tmp rfl .nil) rfl rF (qj (qj (qj le1 le2) le3) le7) (sD (sD sR)) ?_))))))))
  exact ⟨(vB ((by first | rfl | exact (decide_eq_true (law_end hA9 hsu9 (by omega) (by omega) q6 hok9 (by omega) hct)).symm))), rfl, rfl⟩
 refine qo (t := 118) rfl (vF h24) (qk (ii (x8)) rfl (qo (t := 118) rfl (vF h24) (jw rfl rfl (cX (qQ (.bool (decide ((x8 : Int) > 5))) (vF h24) rfl (qd (.bool (decide ((x8 : Int) > 5))) rfl ?_))))))
 by_cases h25 : (x8 : Int) > 5
 ·refine qm (t := 122) rfl (vT h25) (qm (t := 122) rfl (vT h25) (qm (t := 122) rfl (vT h25) (qm (t := 122) rfl (vT h25) (cX (qL (.bool (true)) (vT h25) rfl (qd (.bool (true)) rfl (qm (t := 128) rfl rfl (qm (t := 128) rfl rfl (qm (t := 128) rfl rfl (cX (qL (.bool (true)) rfl rfl ?_)))))))))))
  refine qg (.bool (true)) rfl (qb (qC (qv (L' := L) [.bool (true)] (.bool (true)) (.tmp rfl .nil) rfl rF (qj (qj (qj le1 le2) le3) le7) (sD (sD sR)) ?_)))
  exact ⟨(vB ((by first | rfl | exact (decide_eq_true (law_end hA9 hsu9 (by omega) (by omega) q6 hok9 (by omega) hct)).symm))), rfl, rfl⟩
 refine qo (t := 122) rfl (vF h25) (qu [x1] qY qI rfl rfl (Rd.ownN [_] rfl rfl) (qo (t := 122) rfl (vF h25) (qu [ii (x5), x2, x3] jc qN rfl rfl (Rd.ownN [] rfl rfl) (qo (t := 122) rfl (vF h25) (qq (args := [.agg #[x1], .agg #[ii (x5), x2, x3]]) call16 rfl (sSureIn_spec hr1 hr2 hr3 (hla := (by omega)) (hlr := (hB9.1)) (hrb := (hB9.2.1)) (hlf := (hB9.2.2))) ?_)))))
 rintro _ _ _ _ ⟨rfl, rfl, rfl⟩
 refine qo (t := 122) rfl (vF h25) (jx rfl (cX (qQ (.bool (!((autoB x4 x5 x6 x7 && surB x6)))) (vF h25) rfl (qd (.bool (!((autoB x4 x5 x6 x7 && surB x6)))) rfl ?_))))
 by_cases h26 : (!((autoB x4 x5 x6 x7 && surB x6))) = true
 ·refine qm (t := 128) rfl (vB h26) (qm (t := 128) rfl (vB h26) (qm (t := 128) rfl (vB h26) (cX (qL (.bool (true)) (vB h26) rfl (qg (.bool (true)) rfl (qb (qC (qv (L' := L) [.bool (true)] (.bool (true)) (.tmp rfl .nil) rfl rF (qj (qj (qj le1 le2) le3) le7) (sD (sD sR)) ?_))))))))
  exact ⟨(vB ((by first | rfl | exact (decide_eq_true (law_end hA9 hsu9 (by omega) (by omega) q6 hok9 (by omega) hct)).symm))), rfl, rfl⟩
 rw [Bool.not_eq_true] at h26
 have hsu9 : (autoB x4 x5 x6 x7 && surB x6) = true := Bool.not_inj (y := true) h26
 refine qo (t := 128) rfl (vB h26) (qk (ii (cntZ x4 x5 x6 x7 x8)) rfl (qo (t := 128) rfl (vB h26) (qk (ii ((c : Int))) rfl (qo (t := 128) rfl (vB h26) (jp rfl rfl (cX (qQ (.bool (decide ((cntZ x4 x5 x6 x7 x8 : Int) = (c : Int)))) (vB h26) rfl (qg (.bool (decide ((cntZ x4 x5 x6 x7 x8 : Int) = (c : Int)))) rfl (qb (qC (qv (L' := L) [.bool (decide ((cntZ x4 x5 x6 x7 x8 : Int) = (c : Int)))] (.bool (decide ((cntZ x4 x5 x6 x7 x8 : Int) = (c : Int)))) (.tmp rfl .nil) rfl rF (qj (qj (qj le1 le2) le3) le7) (sD (sD sR)) ?_)))))))))))
 exact ⟨(vB ((by first | rfl | exact (decide_eq_true (law_end hA9 hsu9 (by omega) (by omega) q6 hok9 (by omega) hct)).symm))), rfl, rfl⟩
end Go.Proofs.Ytgdcboopbmpdoaa
