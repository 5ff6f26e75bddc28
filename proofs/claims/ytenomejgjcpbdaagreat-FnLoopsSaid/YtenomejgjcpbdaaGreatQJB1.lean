/-
  Walks, one after the other (part 2).
-/
import Derived.Test.YtenomejgjcpbdaaGreatQJL1
import Derived.Test.YtenomejgjcpbdaaGreatQJB0
set_option linter.unusedSimpArgs false
set_option linter.unusedVariables false
namespace Go.Proofs.YtenomejgjcpbdaaGreat
open Go X M Tryz

/- spec.l2Gives -/
theorem l2Gives_spec {F : FH} {L : List HP} {sv : Value} {s : List (List Int)} (hs : RowsF F sv s) {i : Nat} (hsl : s.length ≤ 4000000) (hi : i ≤ 4000000) (hsb : (s.getD i []).length ≤ 4000000) :
    Does prog 174 [.agg #[sv], ii ((i : Int))] F (L) (fun v F' L' => F = F' ∧ IsSl v ∧ intsH 2 v (lk s (-1 - (i : Int))) :: L = L') := by
 refine qL func174 rfl rfl rfl (qc (qa (cX (jd [sv] rfl rfl ?_))))
 intro b1
 refine qg (sN) rfl (qb (qc (qc (qa (qd (ii ((i : Int))) rfl (cX (qk (0) qW rfl jk (by decide) rfl rfl (cX (ql jJ rfl (Rd.own [] rfl rfl) (cX (qD qM rfl hs.slv (cX (jf rfl rfl (qd (.bool (decide ((i : Int) < (s.length : Int)))) rfl ?_))))))))))))))
 by_cases h1 : (i : Int) < (s.length : Int)
 ·refine qp (t := 10) rfl (vT h1) (qk (0) qW rfl jk (by decide) rfl rfl (qp (t := 10) rfl (vT h1) (ql jJ rfl (Rd.own [] rfl rfl) (qp (t := 10) rfl (vT h1) (qq (ii ((i : Int))) rfl (qp (t := 10) rfl (vT h1) (qB i qM qu rfl rfl rfl hs.slv (by omega) (Nat.mul_one _) ?_)))))))
  obtain ⟨a1, ha1, hr1⟩ := hs.rd (i := i) (by omega)
  refine qp (t := 10) rfl (vT h1) (ql qZ rfl (hr1 _) (qp (t := 10) rfl (vT h1) (qD qf rfl ha1.slv (qp (t := 10) rfl (vT h1) (jQ rfl rfl (cX (qU (.bool (decide ((((((s.getD i [])).length : Nat) : Int) : Int) > 0))) (vT h1) rfl (qb ?_))))))))
  refine qE (p := (((((s.getD i [])).length : Nat) : Int) : Int) > 0) rfl (fun h2 => ?_) (fun h2 => ?_)
  ·refine qc (qa (cX (qk (0) qW rfl jk (by decide) rfl rfl (cX (ql jJ rfl (Rd.own [] rfl rfl) (qd (ii ((i : Int))) rfl (cX (qB i qM qu rfl rfl rfl hs.slv (by omega) (Nat.mul_one _) (cX (ql qZ rfl (hr1 _) (cX (qo (args := [a1]) call106 rfl (l1Copy_spec ha1 (hlt := (by first | assumption | rfl | omega | simp))) ?_))))))))))))
   rintro v1 _ _ _ ⟨rfl, hs1, rfl⟩
   refine qg (v1) rfl (qb (qw (qm (qs (L' := intsH 2 v1 ((((s.getD i [])))) :: L) [v1] (v1) (.tmp rfl .nil) rfl rF rF (sC (sD sR)) ?_))))
   refine ⟨rfl, hs1, ?_⟩
   have hxs : (lk s (-1 - (i : Int)) : List Int) = (((s.getD i []))) := lk_copy (by omega)
   exact congrArg (fun z => intsH 2 _ z :: L) hxs
  refine qz (qc (qa (qd (ii ((i : Int))) rfl (cX (jF ((-1) - ((i : Int))) rfl rfl (by omega) (by omega) (cX (qx (s := 1) [ii ((-1) - ((i : Int)))] [ii (0)] [(0, [ii ((-1) - ((i : Int)))])] qf qy jh rfl (by decide) rfl (.cons rfl CellsAre.nil) rfl ?_)))))))
  intro v2 hv1
  refine qg (v2) rfl (qb (qw (qs (L' := intsH 2 v2 ([(-1) - ((i : Int))]) :: L) [v2] (v2) (.tmp rfl .nil) rfl rF rF (sC (sD sR)) ?_)))
  refine ⟨rfl, (jv hv1), ?_⟩
  have hxs : (lk s (-1 - (i : Int)) : List Int) = [(-1) - ((i : Int))] := lk_self (by first | omega | (rw [getD_out (by omega)]; simp))
  exact congrArg (fun z => intsH 2 _ z :: L) hxs
 refine qr (t := 10) rfl (vF h1) (qr (t := 10) rfl (vF h1) (qr (t := 10) rfl (vF h1) (qr (t := 10) rfl (vF h1) (qr (t := 10) rfl (vF h1) (qr (t := 10) rfl (vF h1) (qr (t := 10) rfl (vF h1) (cX (qS (.bool (false)) (vF h1) rfl (qb (X.condF rfl ?_))))))))))
 refine qz (qc (qa (qd (ii ((i : Int))) rfl (cX (jF ((-1) - ((i : Int))) rfl rfl (by omega) (by omega) (cX (qx (s := 1) [ii ((-1) - ((i : Int)))] [ii (0)] [(0, [ii ((-1) - ((i : Int)))])] qf qy jh rfl (by decide) rfl (.cons rfl CellsAre.nil) rfl ?_)))))))
 intro v3 hv2
 refine qg (v3) rfl (qb (qw (qs (L' := intsH 2 v3 ([(-1) - ((i : Int))]) :: L) [v3] (v3) (.tmp rfl .nil) rfl rF rF (sC (sD sR)) ?_)))
 refine ⟨rfl, (jv hv2), ?_⟩
 have hxs : (lk s (-1 - (i : Int)) : List Int) = [(-1) - ((i : Int))] := lk_self (by first | omega | (rw [getD_out (by omega)]; simp))
 exact congrArg (fun z => intsH 2 _ z :: L) hxs

/- spec.l2Plain -/
theorem l2Plain_spec {F : FH} {L : List HP} {sv : Value} {s : List (List Int)} (hs : RowsF F sv s) (hsl : s.length ≤ 24) (hsb : ∀ i, (s.getD i []).length ≤ 4000000) :
    Does prog 173 [.agg #[sv]] F (L) (fun v F' L' => ∃ (a : Value), (.agg #[a] : Value) = v ∧ (RowsF F' a (plainL s)) ∧ L = L') := by
 refine qL func173 rfl rfl rfl (qc (qa (cX (jd [sv] rfl rfl ?_))))
 intro b1
 refine cX (jc [sN] jB rfl ?_)
 intro b2
 refine qb (qc (qa (cX (jg [sN] [sN] [(0, 1)] [] qW jB rfl (.cons rfl jk PlacesAre.nil) rfl CellsAre.nil (cX (jc [sN] jB rfl ?_))))))
 intro b3
 refine cX (qC [] _ [sN] qV rfl rfl rfl (qj rfl qK) rfl rfl rfl (qb (qc (qc (qa (qg (ii (0)) rfl (qb (qN (jw (α := Nat × Value × RowL × FH) (fun xQ => [(1, ptr b1 0), (2, ptr b2 0), (3, ptr b3 0), (4, ii (((xQ.1 : Nat) : Int)))]) (fun xQ => rowsH 22 xQ.2.2.2 xQ.2.1 xQ.2.2.1 :: cellsH b3 [xQ.2.1] 115 :: cellsH b2 [sN] 115 :: cellsH b1 [sv] 115 :: L) (fun xQ F' => xQ.2.2.2 = F' ∧ F ≤ xQ.2.2.2 ∧ (IsSl xQ.2.1) ∧ (xQ.2.2.1 = (plainGo 0 s).take xQ.1) ∧ (xQ.1 ≤ s.length)) (fun xQ => s.length - xQ.1) (0, sN, [], F) ⟨rfl, rfl, rfl, rfl, ⟨⟩⟩ (coH.addNil none (sC (sC (sC sR)))) ⟨rfl, FLe.refl _, (⟨_, _, _, rfl⟩), (rfl), (by (try dsimp only) <;> omega)⟩ ?_)))))))))
 rintro ⟨k, ov, os, G1⟩ rE _ _ ⟨rfl, leG, hov, hos, hk⟩
 show X _ _ _ _ (envs [(1, ptr b1 0), (2, ptr b2 0), (3, ptr b3 0), (4, ii ((k : Int)))] rE) _ (rowsH 22 G1 ov os :: cellsH b3 [ov] 115 :: cellsH b2 [sN] 115 :: cellsH b1 [sv] 115 :: L)
 replace leG : F ≤ G1 := leG
 dsimp only at hov hos hk
 have hol : os.length ≤ k := by rw [hos, List.length_take]; omega
 have hsbk := hsb k
 have hlkb : (lk s (-1 - (k : Int))).length ≤ 4000000 := by rw [lk_var]; split <;> simp; exact hsbk
 have leG1 := leG
 replace hs := hs.mono leG1
 refine X.open [] rfl (fun cs1 hc1 => ?_)
 replace hc1 : RowsC G1 cs1 os := hc1
 refine qc (qc (qa (qd (ii ((k : Int))) rfl (cX (qk (0) qW rfl jk (by decide) rfl rfl (cX (ql jJ rfl (Rd.own [_, _, _] rfl rfl) (cX (qD qM rfl hs.slv (cX (jf rfl rfl (qb ?_))))))))))))
 refine qE (p := (k : Int) < (s.length : Int)) rfl (fun h1 => ?_) (fun h1 => ?_)
 ·refine qz (qc (qN (qc (qa (cX (qn [sv] jC qV rfl rfl (Rd.ownN [_, _, _] rfl rfl) (qd (ii ((k : Int))) rfl (cX (yf <| qo (args := [.agg #[sv], ii (k : Int)]) call174 rfl (l2Gives_spec (i := k) hs (hsl := (by first | assumption | rfl | omega | simp)) (hi := (by first | assumption | rfl | omega | simp)) (hsb := (hsb k))) ?_)))))))))
  rintro v1 _ _ _ ⟨rfl, hs1, rfl⟩
  refine ⟨_, _, rfl, fun F1 le1 hz1 => ?_⟩
  replace hc1 := hc1.mono le1
  have hf1 : IntsF F1 v1 ((lk s (-1 - (k : Int)))) := intsH.fz (xs := (lk s (-1 - (k : Int)))) hz1.fz
  refine qg (v1) rfl (qb (qc (qc (qa (qd (v1) rfl (cX (qD qf rfl hf1.slv (cX (jR rfl rfl (qd (.bool (decide ((((((lk s (-1 - (k : Int)))).length : Nat) : Int) : Int) = 1))) rfl ?_))))))))))
  by_cases h2 : (((((lk s (-1 - (k : Int)))).length : Nat) : Int) : Int) = 1
  ·refine qp (t := 20) rfl (vT h2) (qq (v1) rfl (qp (t := 20) rfl (vT h2) (qB 0 qf qy rfl rfl rfl hf1.slv (by omega) (Nat.mul_one _) (qp (t := 20) rfl (vT h2) (ql jt rfl (hf1.rd (by omega)) (qp (t := 20) rfl (vT h2) (qq (ii ((k : Int))) rfl (qp (t := 20) rfl (vT h2) (jF ((-1) - ((k : Int))) rfl rfl (by omega) (by omega) (qp (t := 20) rfl (vT h2) (jR rfl rfl (cX (qU (.bool (decide ((((lk s (-1 - (k : Int)))).getD 0 0 : Int) = (-1) - ((k : Int))))) (vT h2) rfl (qb ?_))))))))))))))
   refine qE (p := (((lk s (-1 - (k : Int)))).getD 0 0 : Int) = (-1) - ((k : Int))) rfl (fun h3 => ?_) (fun h3 => ?_)
   ·refine qa (cX (qx (s := 1) [] [ii (0)] [] qf qy jh rfl (by decide) rfl CellsAre.nil rfl ?_))
    intro v2 hv1
    refine qg (v2) rfl (qb (qa (cX (qk (0) qW rfl jk (by decide) rfl rfl (cX (ql jJ rfl (Rd.own [_, _] rfl rfl) (qd (v2) rfl (cX (qx (s := 1) [v2] [sN] [(0, [v2])] qM qu yi rfl (by decide) rfl (.cons (cells_one (jv hv1)) CellsAre.nil) rfl ?_)))))))))
    intro v3 hv2
    show XL _ _ _ _ _ _ _ (slH 22 1 v3 1 [v2] :: intsH 2 v2 ([] : List Int) :: slH 22 1 ov ((os).length) cs1 :: cellsH b3 [ov] 115 :: cellsH b2 [sN] 115 :: cellsH b1 [sv] 115 :: L)
    refine ym [_] _ _ rfl (fun F2 le2 hz2 => ?_)
    replace hc1 := hc1.mono le2
    replace hf1 := hf1.mono le2
    have hf2 : IntsF F2 v2 ([]) := intsH.fz (xs := []) hz2.fz
    refine cX (jV (m := 1) (bytes := 24) (cs := cs1) [_] _ [v2] qM typeInfo22 rfl rfl rfl rfl rfl rfl rfl (SlV.own [] rfl) rfl (Rd.lit [] rfl) (qj (qJ (qF hf2)) qK) (by (try simp only [List.length_append, List.length_nil, List.length_cons, List.length_singleton]); omega) (by (try simp only [List.length_append, List.length_nil, List.length_cons, List.length_singleton]); omega) ?_)
    intro v4 hs2 hn1 hm1
    have hc2 := RowsC.snoc hc1 hf2
    refine cX (qk (0) qW rfl jk (by decide) rfl rfl (cX (jK [_, _] _ [v4] jk rfl rfl (qJ hs2) rfl rfl rfl (qb (qa (qd (ii ((k : Int))) rfl (cX (qP (((k + 1 : Nat) : Int)) rfl rfl (by omega) (by omega) (qg (ii (((k + 1 : Nat) : Int))) rfl (qb ?_))))))))))
    exact ⟨(k + 1, v4, os ++ [[]], F2), _, (qh (qh leG1 le1) le2), rF, ⟨rfl, rfl, rfl, rfl, ⟨⟩⟩, (sD (coH.close hc2 (by first | rfl | simp) (sC (sC (sC sR))))), ⟨rfl, (qh (qh leG1 le1) le2), (hs2), (by dsimp only; rw [hos, plainGo_take (by omega), plainGo_self (one_eq (by omega) (by omega))]), (by (try dsimp only) <;> omega)⟩, (by omega)⟩
   refine qz (qa (cX (qk (0) qW rfl jk (by decide) rfl rfl (cX (ql jJ rfl (Rd.own [_] rfl rfl) (qd (v1) rfl (cX (qx (s := 1) [v1] [sN] [(0, [v1])] qM qu yi rfl (by decide) rfl (.cons (cells_one (qF hf1)) CellsAre.nil) rfl ?_))))))))
   intro v5 hv3
   refine cX (jV (m := 1) (bytes := 24) (cs := cs1) [_] _ [v1] qM typeInfo22 rfl rfl rfl rfl rfl rfl rfl (SlV.own [] rfl) rfl (Rd.lit [] rfl) (qj (qJ (qF hf1)) qK) (by (try simp only [List.length_append, List.length_nil, List.length_cons, List.length_singleton]); omega) (by (try simp only [List.length_append, List.length_nil, List.length_cons, List.length_singleton]); omega) ?_)
   intro v6 hs3 hn2 hm2
   have hc3 := RowsC.snoc hc1 hf1
   refine cX (qk (0) qW rfl jk (by decide) rfl rfl (cX (jK [_, _] _ [v6] jk rfl rfl (qJ hs3) rfl rfl rfl (qb (qa (qd (ii ((k : Int))) rfl (cX (qP (((k + 1 : Nat) : Int)) rfl rfl (by omega) (by omega) (qg (ii (((k + 1 : Nat) : Int))) rfl (qb ?_))))))))))
   exact ⟨(k + 1, v6, os ++ [(lk s (-1 - (k : Int)))], F1), _, (qh leG1 le1), rF, ⟨rfl, rfl, rfl, rfl, ⟨⟩⟩, (sD (coH.close hc3 (by first | rfl | simp) (sC (sC (sC sR))))), ⟨rfl, (qh leG1 le1), (hs3), (by dsimp only; rw [hos, plainGo_take (by omega), plainGo_other (by intro e; have e1 := congrArg List.length e; have e2 := congrArg (fun l => l.getD 0 0) e; simp only [List.length_singleton, List.getD_cons_zero] at e1 e2; omega)]), (by (try dsimp only) <;> omega)⟩, (by omega)⟩
  refine qr (t := 20) rfl (vF h2) (qr (t := 20) rfl (vF h2) (qr (t := 20) rfl (vF h2) (qr (t := 20) rfl (vF h2) (qr (t := 20) rfl (vF h2) (qr (t := 20) rfl (vF h2) (cX (qS (.bool (false)) (vF h2) rfl (qb (X.condF rfl (qz (qa ?_)))))))))))
  refine cX (qk (0) qW rfl jk (by decide) rfl rfl (cX (ql jJ rfl (Rd.own [_] rfl rfl) (qd (v1) rfl (cX (qx (s := 1) [v1] [sN] [(0, [v1])] qM qu yi rfl (by decide) rfl (.cons (cells_one (qF hf1)) CellsAre.nil) rfl ?_))))))
  intro v7 hv4
  refine cX (jV (m := 1) (bytes := 24) (cs := cs1) [_] _ [v1] qM typeInfo22 rfl rfl rfl rfl rfl rfl rfl (SlV.own [] rfl) rfl (Rd.lit [] rfl) (qj (qJ (qF hf1)) qK) (by (try simp only [List.length_append, List.length_nil, List.length_cons, List.length_singleton]); omega) (by (try simp only [List.length_append, List.length_nil, List.length_cons, List.length_singleton]); omega) ?_)
  intro v8 hs4 hn3 hm3
  have hc4 := RowsC.snoc hc1 hf1
  refine cX (qk (0) qW rfl jk (by decide) rfl rfl (cX (jK [_, _] _ [v8] jk rfl rfl (qJ hs4) rfl rfl rfl (qb (qa (qd (ii ((k : Int))) rfl (cX (qP (((k + 1 : Nat) : Int)) rfl rfl (by omega) (by omega) (qg (ii (((k + 1 : Nat) : Int))) rfl (qb ?_))))))))))
  exact ⟨(k + 1, v8, os ++ [(lk s (-1 - (k : Int)))], F1), _, (qh leG1 le1), rF, ⟨rfl, rfl, rfl, rfl, ⟨⟩⟩, (sD (coH.close hc4 (by first | rfl | simp) (sC (sC (sC sR))))), ⟨rfl, (qh leG1 le1), (hs4), (by dsimp only; rw [hos, plainGo_take (by omega), plainGo_other (by intro e; have e1 := congrArg List.length e; have e2 := congrArg (fun l => l.getD 0 0) e; simp only [List.length_singleton, List.getD_cons_zero] at e1 e2; omega)]), (by (try dsimp only) <;> omega)⟩, (by omega)⟩
 refine jo (qt (qt (qO (qc (qN (jw (α := Value × RowL × FH) (fun xQ => [(2, ptr b2 0), (3, ptr b3 0)]) (fun xQ => rowsH 22 xQ.2.2 xQ.1 xQ.2.1 :: cellsH b3 [xQ.1] 115 :: cellsH b2 [sN] 115 :: cellsH b1 [sv] 115 :: L) (fun xQ F' => xQ.2.2 = F' ∧ G1 ≤ xQ.2.2 ∧ (IsSl xQ.1) ∧ (trim xQ.2.1 = plainL s) ∧ (xQ.2.1.length ≤ 24)) (fun xQ => xQ.2.1.length) (ov, os, G1) ⟨rfl, rfl, ⟨⟩⟩ (coH.close hc1 (by first | rfl | simp) (sC (sC (sC sR)))) ⟨rfl, FLe.refl _, (hov), (by dsimp only; rw [hos, plainL, List.take_of_length_le (by rw [plainGo_length]; omega)]), (by dsimp only; rw [hos, List.length_take, plainGo_length]; omega)⟩ ?_))))))
 rintro ⟨ov2, os2, G2⟩ rE _ _ ⟨rfl, leG, hov2, hos2, hl2⟩
 show X _ _ _ _ (envs [(2, ptr b2 0), (3, ptr b3 0)] rE) _ (rowsH 22 G2 ov2 os2 :: cellsH b3 [ov2] 115 :: cellsH b2 [sN] 115 :: cellsH b1 [sv] 115 :: L)
 replace leG : G1 ≤ G2 := leG
 dsimp only at hov2 hos2 hl2
 have leG2 := leG
 refine X.open [] rfl (fun cs2 hc5 => ?_)
 replace hc5 : RowsC G2 cs2 os2 := hc5
 refine qc (qc (qa (cX (qk (0) qW rfl jk (by decide) rfl rfl (cX (ql jJ rfl (Rd.own [_] rfl rfl) (cX (qD qM rfl (SlV.own [] rfl) (cX (jQ rfl rfl (qd (.bool (decide (((os2.length : Int) : Int) > 0))) rfl ?_)))))))))))
 by_cases h4 : ((os2.length : Int) : Int) > 0
 ·refine qp (t := 39) rfl (vT h4) (qk (0) qW rfl jk (by decide) rfl rfl (qp (t := 39) rfl (vT h4) (ql jJ rfl (Rd.own [_] rfl rfl) (qp (t := 39) rfl (vT h4) (qk (0) qW rfl jk (by decide) rfl rfl (qp (t := 39) rfl (vT h4) (ql jJ rfl (Rd.own [_] rfl rfl) (qp (t := 39) rfl (vT h4) (qD qM rfl (SlV.own [] rfl) (qp (t := 39) rfl (vT h4) (jF (((os2.length - 1 : Nat) : Int)) rfl rfl (by omega) (by omega) (qp (t := 39) rfl (vT h4) (qB (os2.length - 1) qM qu rfl rfl rfl (SlV.own [] rfl) (by omega) (Nat.mul_one _) ?_)))))))))))))
  obtain ⟨a1, ha1, he1⟩ := hc5.get (i := os2.length - 1) (by omega)
  refine qp (t := 39) rfl (vT h4) (ql qZ rfl (Rd.sl [] rfl he1) (qp (t := 39) rfl (vT h4) (qD qf rfl ha1.slv (qp (t := 39) rfl (vT h4) (jR rfl rfl (cX (qU (.bool (decide ((((((os2.getD (os2.length - 1) [])).length : Nat) : Int) : Int) = 0))) (vT h4) rfl (qb ?_))))))))
  refine qE (p := (((((os2.getD (os2.length - 1) [])).length : Nat) : Int) : Int) = 0) rfl (fun h5 => ?_) (fun h5 => ?_)
  ·refine qz (qN (qa (cX (qk (0) qW rfl jk (by decide) rfl rfl (cX (ql jJ rfl (Rd.own [_] rfl rfl) (cX (qk (0) qW rfl jk (by decide) rfl rfl (cX (ql jJ rfl (Rd.own [_] rfl rfl) (cX (qD qM rfl (SlV.own [] rfl) (cX (jF (((os2.length - 1 : Nat) : Int)) rfl rfl (by omega) (by omega) (cX (XOp.sliceOwn (cs := cs2) [] _ (os2.length - 1) qM qu rfl rfl ⟨_, rfl⟩ (by omega) ?_))))))))))))))))
   intro v9 hs5
   have hc6 : RowsC G2 _ _ := CO.take hc5 (k := os2.length - 1) (by omega)
   refine cX (qk (0) qW rfl jk (by decide) rfl rfl (cX (jK [_] _ [v9] jk rfl rfl (qJ hs5) rfl rfl rfl (qb ?_))))
   exact ⟨(v9, (os2.take (os2.length - 1)), G2), _, leG2, rF, ⟨rfl, rfl, ⟨⟩⟩, (coH.close hc6 (by first | rfl | simp) (sC (sC (sC sR)))), ⟨rfl, leG2, (hs5), (by dsimp only; rw [trim_cut (by omega) (List.eq_nil_of_length_eq_zero (by omega))]; exact hos2), (by dsimp only; rw [List.length_take]; omega)⟩, (by dsimp only; rw [List.length_take]; omega)⟩
  refine jo (qt (qt (qO (qc (qa (cX (qn [ov2] jC qV rfl rfl (Rd.ownN [_] rfl rfl) (cX (qC [_, _] _ [ov2] qV rfl rfl rfl (qj (qJ hov2) qK) rfl rfl rfl (qb (je [] _ _ rfl (fun F3 le3 hz3 => ?_))))))))))))
  replace hc5 := hc5.mono le3
  have hf3 : RowsF F3 ov2 os2 := CO.fz hc5 (by first | rfl | omega | (rw [List.length_set]; omega) | (simp; done)) hz3.fz
  refine qw (qs (L' := L) [.agg #[ov2]] (.agg #[ov2]) (.cell rfl (jx [ov2] jC qV rfl (Rd.ownN [_] rfl rfl)) .nil) rfl (qh (qh leG1 leG2) le3) rF (sD (sD (sD sR))) ?_)
  have e : os2 = plainL s := by rw [← hos2]; exact (trim_last (fun h0 e => by have := congrArg List.length e; simp only [List.length_nil] at this; omega)).symm
  exact ⟨_, rfl, by rw [← e]; exact hf3, rfl⟩
 refine qr (t := 39) rfl (vF h4) (qr (t := 39) rfl (vF h4) (qr (t := 39) rfl (vF h4) (qr (t := 39) rfl (vF h4) (qr (t := 39) rfl (vF h4) (qr (t := 39) rfl (vF h4) (qr (t := 39) rfl (vF h4) (qr (t := 39) rfl (vF h4) (qr (t := 39) rfl (vF h4) (qr (t := 39) rfl (vF h4) ?_)))))))))
 refine cX (qS (.bool (false)) (vF h4) rfl (qb (X.condF rfl (jo (qt (qt (qO (qc (qa (cX (qn [ov2] jC qV rfl rfl (Rd.ownN [_] rfl rfl) (cX (qC [_, _] _ [ov2] qV rfl rfl rfl (qj (qJ hov2) qK) rfl rfl rfl (qb (je [] _ _ rfl (fun F4 le4 hz4 => ?_))))))))))))))))
 replace hc5 := hc5.mono le4
 have hf4 : RowsF F4 ov2 os2 := CO.fz hc5 (by first | rfl | omega | (rw [List.length_set]; omega) | (simp; done)) hz4.fz
 refine qw (qs (L' := L) [.agg #[ov2]] (.agg #[ov2]) (.cell rfl (jx [ov2] jC qV rfl (Rd.ownN [_] rfl rfl)) .nil) rfl (qh (qh leG1 leG2) le4) rF (sD (sD (sD sR))) ?_)
 have e : os2 = plainL s := by rw [← hos2]; exact (trim_last (fun h0 e => by have := congrArg List.length e; simp only [List.length_nil] at this; omega)).symm
 exact ⟨_, rfl, by rw [← e]; exact hf4, rfl⟩

/- spec.l4Match -/
theorem l4Match_spec {F : FH} {L : List HP} {arv : Value} {ar : List Int} (har : IntsF F arv ar) {pv : Value} {p : List Int} (hp : IntsF F pv p) {tv : Value} {t : List Int} (ht : IntsF F tv t) (ho : termOk ar t = true) (hpo : termOk ar p = true) :
    Does prog 208 [.agg #[arv], pv, tv] F (L) (fun v F' L' => ∃ (a : Value), (.tuple #[.agg #[a], .bool ((matchB ar p t).isSome)] : Value) = v ∧ (RowsF F' a (matchP ar p t)) ∧ L = L') := by
 refine qL func208 rfl rfl rfl ?_
 have hpl := termOk_len hpo
 have hpg := fun k (hk : k < p.length) => termOk_ge hpo hk
 have htl := termOk_len ho
 have hsl := sigOk_spec (termOk_sig ho)
 refine qc (qa (cX (jd [arv] rfl rfl ?_)))
 intro b1
 refine cX (jc [sN] jB rfl ?_)
 intro b2
 refine qg (.bool (false)) rfl (qb (qc (qa (cX (XOp.makeSlice (n := 24) (bytes := 24) [sN] qM qu typeInfo22 rfl yi rfl rfl rfl rfl (by omega) (by omega) ?_)))))
 intro v1 hv1
 rw [nils]
 have hc1 : RowsC F _ _ := RowsC.nils 24
 refine cX (jg [v1] [sN] [(0, 1)] [(0, [v1])] qW jB rfl (.cons rfl jk PlacesAre.nil) rfl (.cons (cells_one (jv hv1)) CellsAre.nil) (cX (jc [sN] jB rfl ?_)))
 intro b3
 refine cX (qC [] _ [v1] qV rfl rfl rfl (qj (qJ (jv hv1)) qK) rfl rfl rfl (qb (qc (qa (qg (ii (0)) rfl (qb (qc (qc (qa (qg (ii (0)) rfl (qb (qN (jw (α := Nat × Nat × RowL × FH) (fun xQ => [(1, pv), (2, tv), (3, ptr b1 0), (6, ptr b2 0), (8, ptr b3 0), (9, ii (((xQ.2.1 : Nat) : Int))), (10, ii (((xQ.1 : Nat) : Int)))]) (fun xQ => cellsH b3 [v1] 115 :: rowsH 22 xQ.2.2.2 v1 xQ.2.2.1 :: cellsH b2 [sN] 115 :: cellsH b1 [arv] 36 :: L) (fun xQ F' => xQ.2.2.2 = F' ∧ F ≤ xQ.2.2.2 ∧ (xQ.2.2.1.length = 24) ∧ (xQ.1 ≤ p.length) ∧ (xQ.2.1 ≤ t.length) ∧ (matchB ar p t = mGo ar t (p.drop xQ.1) xQ.2.1 xQ.2.2.1)) (fun xQ => p.length - xQ.1) (0, 0, (List.replicate 24 [] : List (List Int)), F) ⟨rfl, rfl, rfl, rfl, rfl, rfl, rfl, ⟨⟩⟩ (sC (coH.close hc1 (by first | rfl | simp) (sC (sC sR)))) ⟨rfl, FLe.refl _, (by simp), (by (try dsimp only) <;> omega), (by (try dsimp only) <;> omega), (rfl)⟩ ?_)))))))))))))
 rintro ⟨k, i, bl, G1⟩ rE _ _ ⟨rfl, leG, hbl, hk, hi, hm⟩
 show X _ _ _ _ (envs [(1, pv), (2, tv), (3, ptr b1 0), (6, ptr b2 0), (8, ptr b3 0), (9, ii ((i : Int))), (10, ii ((k : Int)))] rE) _ (cellsH b3 [v1] 115 :: rowsH 22 G1 v1 bl :: cellsH b2 [sN] 115 :: cellsH b1 [arv] 36 :: L)
 replace leG : F ≤ G1 := leG
 dsimp only at hbl hk hi hm
 have hpk := hpg k
 have hsl2 := fun h => sub_length (p := i) ho h
 have hee := fun h => endN_spec (p := i) ho h
 have leG1 := leG
 replace har := har.mono leG1
 replace hp := hp.mono leG1
 replace ht := ht.mono leG1
 refine X.open [_] rfl (fun cs1 hc2 => ?_)
 replace hc2 : RowsC G1 cs1 bl := hc2
 refine qc (qc (qa (qd (ii ((k : Int))) rfl (qd (pv) rfl (cX (qD qf rfl hp.slv (cX (jf rfl rfl (qb ?_)))))))))
 refine qE (p := (k : Int) < (p.length : Int)) rfl (fun h1 => ?_) (fun h1 => ?_)
 ·refine qz (qc (qN (qc (qc (qa (qd (ii ((i : Int))) rfl (qd (tv) rfl (cX (qD qf rfl ht.slv (cX (ye rfl rfl (qb ?_))))))))))))
  refine qE (p := (i : Int) ≥ (t.length : Int)) rfl (fun h2 => ?_) (fun h2 => ?_)
  ·refine qc (qa (cX (jg [sN] [sN] [(0, 1)] [] qW jB rfl (.cons rfl jk PlacesAre.nil) rfl CellsAre.nil (cX (qC [_, _] _ [sN] qV rfl rfl rfl (qj rfl qK) rfl rfl rfl (qg (.bool (false)) rfl (qb (qw (qm (qI (qm (qm (qI (qm (qs (L' := L) [.agg #[sN], .bool (false)] (.tuple #[.agg #[sN], .bool (false)]) (.cell rfl (jx [sN] jC qV rfl (Rd.ownN [_, _] rfl rfl)) (.tmp rfl .nil)) rfl leG1 rF (sD (sD (sD (sD sR)))) ?_)))))))))))))))
   have hz : matchB ar p t = none := hm.trans (mGo_short (by omega) (by omega))
   exact ⟨_, by rw [hz]; rfl, by rw [matchP, hz]; exact SlOf.nilV, rfl⟩
  refine qz (qc (qc (qa (qd (pv) rfl (qd (ii ((k : Int))) rfl (cX (qB k qf qy rfl rfl rfl hp.slv (by omega) (Nat.mul_one _) (cX (ql jt rfl (hp.rd (by omega)) (cX (ye rfl rfl (qb ?_))))))))))))
  refine qE (p := (p.getD k 0 : Int) ≥ 0) rfl (fun h3 => ?_) (fun h3 => ?_)
  ·refine qc (qc ?_)
   refine jY [cellsH b3 [v1] 115, slH 22 1 v1 ((bl).length) cs1, cellsH b2 [sN] 115, cellsH b1 [arv] 36] L 8 [] [[], [], [0, 1], [2], [], [], [4, 5], [6]] (phiL [qe pv, qe (ii ((k : Int)) : Value), qe (.pointer (some (elemA pv (k)))), qe (ii (p.getD k 0)), qe tv, qe (ii ((i : Int)) : Value), qe (.pointer (some (elemA tv (i)))), qe (ii (t.getD i 0))]) (ownL []) mixed rfl rfl (by kernel_rfl) ?_ ?_
   ·refine pD (fun W R z9 => ?_) ?_
    ·refine qi (qq (pv) rfl ?_)
     exact ⟨rfl, rfl, rfl⟩
    refine pD (fun W R z9 => ?_) ?_
    ·refine qi (qq (ii ((k : Int))) rfl ?_)
     exact ⟨rfl, rfl, rfl⟩
    refine pD (fun W R z9 => ?_) ?_
    ·rw [eS (l := [(0, _), (1, _)]) ⟨z9 0 rfl, z9 1 rfl, ⟨⟩⟩]
     refine qi (qB k qf qy rfl rfl rfl hp.slv (by omega) (Nat.mul_one _) ?_)
     exact ⟨rfl, rfl, rfl⟩
    refine pD (fun W R z9 => ?_) ?_
    ·rw [eS (l := [(2, _)]) ⟨z9 2 rfl, ⟨⟩⟩]
     refine qi (ql jt rfl (hp.rd (by omega)) ?_)
     exact ⟨rfl, rfl, rfl⟩
    refine pD (fun W R z9 => ?_) ?_
    ·refine qi (qq (tv) rfl ?_)
     exact ⟨rfl, rfl, rfl⟩
    refine pD (fun W R z9 => ?_) ?_
    ·refine qi (qq (ii ((i : Int))) rfl ?_)
     exact ⟨rfl, rfl, rfl⟩
    refine pD (fun W R z9 => ?_) ?_
    ·rw [eS (l := [(4, _), (5, _)]) ⟨z9 4 rfl, z9 5 rfl, ⟨⟩⟩]
     refine qi (qB i qf qy rfl rfl rfl ht.slv (by omega) (Nat.mul_one _) ?_)
     exact ⟨rfl, rfl, rfl⟩
    refine pD (fun W R z9 => ?_) ?_
    ·rw [eS (l := [(6, _)]) ⟨z9 6 rfl, ⟨⟩⟩]
     refine qi (ql jt rfl (ht.rd (by omega)) ?_)
     exact ⟨rfl, rfl, rfl⟩
    exact stepsP.nil
   intro W hphi
   rw [eS (l := [(3, _), (7, _)]) ⟨(hphi 3 (by decide)), (hphi 7 (by decide)), ⟨⟩⟩]
   show XL _ _ _ _ _ _ _ (cellsH b3 [v1] 115 :: slH 22 1 v1 ((bl).length) cs1 :: cellsH b2 [sN] 115 :: cellsH b1 [arv] 36 :: L)
   refine cX (XOp.neq rfl rfl (qb ?_))
   refine qE (p := (p.getD k 0 : Int) ≠ t.getD i 0) rfl (fun h4 => ?_) (fun h4 => ?_)
   ·refine qc (qa (cX (jg [sN] [sN] [(0, 1)] [] qW jB rfl (.cons rfl jk PlacesAre.nil) rfl CellsAre.nil (cX (qC [_, _] _ [sN] qV rfl rfl rfl (qj rfl qK) rfl rfl rfl (qg (.bool (false)) rfl (qb (qw (qm (qm (qI (qm (qm (qI (qm (qs (L' := L) [.agg #[sN], .bool (false)] (.tuple #[.agg #[sN], .bool (false)]) (.cell rfl (jx [sN] jC qV rfl (Rd.ownN [_, _] rfl rfl)) (.tmp rfl .nil)) rfl leG1 rF (sD (sD (sD (sD sR)))) ?_))))))))))))))))
    have hz : matchB ar p t = none := hm.trans (mGo_ne (by omega) (by omega) (by omega) (by omega))
    exact ⟨_, by rw [hz]; rfl, by rw [matchP, hz]; exact SlOf.nilV, rfl⟩
   refine qz (qc (qa (qd (ii ((i : Int))) rfl (cX (qP (((i + 1 : Nat) : Int)) rfl rfl (by omega) (by omega) (qg (ii (((i + 1 : Nat) : Int))) rfl (qb (jo (qt (qO (qa (qd (ii ((k : Int))) rfl (cX (qP (((k + 1 : Nat) : Int)) rfl rfl (by omega) (by omega) (qg (ii (((k + 1 : Nat) : Int))) rfl ?_)))))))))))))))
   refine qb ?_
   exact ⟨(k + 1, i + 1, bl, G1), _, leG1, rF, ⟨rfl, rfl, rfl, rfl, rfl, rfl, rfl, ⟨⟩⟩, (sC (coH.close hc2 (by first | rfl | simp) (sC (sC sR)))), ⟨rfl, leG1, (by (try dsimp only); (try simp only [List.length_set]) <;> omega), (by (try dsimp only) <;> omega), (by (try dsimp only) <;> omega), (hm.trans (mGo_sym (by omega) (by omega) (by omega) (by omega)))⟩, (by omega)⟩
  refine qz (qc (qa (cX (qn [arv] js qY rfl rfl (Rd.ownN [_, _, _] rfl rfl) (qd (tv) rfl (qd (ii ((i : Int))) rfl (cX (yf <| qo (args := [.agg #[arv], tv, ii (i : Int)]) call209 rfl (l1Sub_spec (p := i) har ht (ho := (by first | assumption | rfl | omega | simp)) (hp := (by first | assumption | rfl | omega | simp))) ?_))))))))
  rintro v2 _ _ _ ⟨rfl, hs1, rfl⟩
  refine ⟨_, _, rfl, fun F1 le1 hz1 => ?_⟩
  replace hp := hp.mono le1
  replace hc2 := hc2.mono le1
  have hf1 : IntsF F1 v2 ((sub ar t i)) := intsH.fz (xs := (sub ar t i)) hz1.fz
  refine qg (v2) rfl (qb (qc ?_))
  refine jY [cellsH b3 [v1] 115, slH 22 1 v1 ((bl).length) cs1, cellsH b2 [sN] 115, cellsH b1 [arv] 36] L 7 [] [[], [0], [], [], [2, 3], [4], [5]] (phiL [qe (ptr b3 0), qe v1, qe pv, qe (ii ((k : Int)) : Value), qe (.pointer (some (elemA pv (k)))), qe (ii (p.getD k 0)), qe (ii ((-1) - (p.getD k 0)))]) (ownL []) mixed rfl rfl (by kernel_rfl) ?_ ?_
  ·refine pD (fun W R z9 => ?_) ?_
   ·refine qi (qk (0) qW rfl jk (by decide) rfl rfl ?_)
    exact ⟨rfl, rfl, rfl⟩
   refine pD (fun W R z9 => ?_) ?_
   ·rw [eS (l := [(0, _)]) ⟨z9 0 rfl, ⟨⟩⟩]
    refine qi (ql jJ rfl (Rd.own [] rfl rfl) ?_)
    exact ⟨rfl, rfl, rfl⟩
   refine pD (fun W R z9 => ?_) ?_
   ·refine qi (qq (pv) rfl ?_)
    exact ⟨rfl, rfl, rfl⟩
   refine pD (fun W R z9 => ?_) ?_
   ·refine qi (qq (ii ((k : Int))) rfl ?_)
    exact ⟨rfl, rfl, rfl⟩
   refine pD (fun W R z9 => ?_) ?_
   ·rw [eS (l := [(2, _), (3, _)]) ⟨z9 2 rfl, z9 3 rfl, ⟨⟩⟩]
    refine qi (qB k qf qy rfl rfl rfl hp.slv (by omega) (Nat.mul_one _) ?_)
    exact ⟨rfl, rfl, rfl⟩
   refine pD (fun W R z9 => ?_) ?_
   ·rw [eS (l := [(4, _)]) ⟨z9 4 rfl, ⟨⟩⟩]
    refine qi (ql jt rfl (hp.rd (by omega)) ?_)
    exact ⟨rfl, rfl, rfl⟩
   refine pD (fun W R z9 => ?_) ?_
   ·rw [eS (l := [(5, _)]) ⟨z9 5 rfl, ⟨⟩⟩]
    refine qi (jF ((-1) - (p.getD k 0)) rfl rfl (by omega) (by omega) ?_)
    exact ⟨rfl, rfl, rfl⟩
   exact stepsP.nil
  intro W hphi
  rw [eS (l := [(1, _), (6, _)]) ⟨(hphi 1 (by decide)), (hphi 6 (by decide)), ⟨⟩⟩]
  show XL _ _ _ _ _ _ _ (cellsH b3 [v1] 115 :: slH 22 1 v1 ((bl).length) cs1 :: cellsH b2 [sN] 115 :: cellsH b1 [arv] 36 :: L)
  refine cX (qB (((-1) - (p.getD k 0)).toNat) qM qu rfl rfl (by omega) (SlV.own [_] rfl) (by omega) (Nat.mul_one _) ?_)
  obtain ⟨a1, ha1, he1⟩ := hc2.get (i := ((-1) - (p.getD k 0)).toNat) (by omega)
  refine cX (ql qZ rfl (Rd.sl [_] rfl he1) (qg (a1) rfl (qb (qc (qc (qa (qd (a1) rfl (cX (qD qf rfl ha1.slv (cX (jQ rfl rfl (qd (.bool (decide ((((((bl.getD (((-1) - (p.getD k 0)).toNat) [])).length : Nat) : Int) : Int) > 0))) rfl ?_))))))))))))
  by_cases h5 : (((((bl.getD (((-1) - (p.getD k 0)).toNat) [])).length : Nat) : Int) : Int) > 0
  ·refine qp (t := 59) rfl (vT h5) (qq (a1) rfl (qp (t := 59) rfl (vT h5) (qq (v2) rfl (qp (t := 59) rfl (vT h5) (qo (args := [a1, v2]) call32 rfl (SameTerm_spec ha1 hf1 (hbd := (by first | assumption | rfl | omega | (left; simp; done) | (right; simp; done)))) ?_)))))
   rintro _ _ _ _ ⟨rfl, rfl, rfl⟩
   refine qp (t := 59) rfl (vT h5) (yj rfl (cX (qU (.bool (decide (¬(((bl.getD (((-1) - (p.getD k 0)).toNat) [])) = ((sub ar t i)))))) (vT h5) rfl (qb ?_))))
   refine qE (p := ¬(((bl.getD (((-1) - (p.getD k 0)).toNat) [])) = ((sub ar t i)))) rfl (fun h6 => ?_) (fun h6 => ?_)
   ·refine qc (qa (cX (jg [sN] [sN] [(0, 1)] [] qW jB rfl (.cons rfl jk PlacesAre.nil) rfl CellsAre.nil (cX (qC [_, _] _ [sN] qV rfl rfl rfl (qj rfl qK) rfl rfl rfl (qg (.bool (false)) rfl (qb (qw (qm (qI (qm (qm (qI (qm (qs (L' := L) [.agg #[sN], .bool (false)] (.tuple #[.agg #[sN], .bool (false)]) (.cell rfl (jx [sN] jC qV rfl (Rd.ownN [_, _] rfl rfl)) (.tmp rfl .nil)) rfl (qh leG1 le1) rF (sD (sD (sD (sD sR)))) ?_)))))))))))))))
    have hz : matchB ar p t = none := hm.trans (mGo_clash (by omega) (by omega) (by omega) (by intro e; have := congrArg List.length (show bl.getD (-1 - p.getD k 0).toNat [] = [] from e); simp only [List.length_nil] at this; omega) (by assumption))
    exact ⟨_, by rw [hz]; rfl, by rw [matchP, hz]; exact SlOf.nilV, rfl⟩
   refine qz (qc ?_)
   refine jY [cellsH b3 [v1] 115, slH 22 1 v1 ((bl).length) cs1, cellsH b2 [sN] 115, cellsH b1 [arv] 36] L 8 [] [[], [0], [], [], [2, 3], [4], [5]] (phiL [qe (ptr b3 0), qe v1, qe pv, qe (ii ((k : Int)) : Value), qe (.pointer (some (elemA pv (k)))), qe (ii (p.getD k 0)), qe (ii ((-1) - (p.getD k 0))), qe v2]) (ownL []) mixed rfl rfl (by kernel_rfl) ?_ ?_
   ·refine pD (fun W R z9 => ?_) ?_
    ·refine qi (qk (0) qW rfl jk (by decide) rfl rfl ?_)
     exact ⟨rfl, rfl, rfl⟩
    refine pD (fun W R z9 => ?_) ?_
    ·rw [eS (l := [(0, _)]) ⟨z9 0 rfl, ⟨⟩⟩]
     refine qi (ql jJ rfl (Rd.own [] rfl rfl) ?_)
     exact ⟨rfl, rfl, rfl⟩
    refine pD (fun W R z9 => ?_) ?_
    ·refine qi (qq (pv) rfl ?_)
     exact ⟨rfl, rfl, rfl⟩
    refine pD (fun W R z9 => ?_) ?_
    ·refine qi (qq (ii ((k : Int))) rfl ?_)
     exact ⟨rfl, rfl, rfl⟩
    refine pD (fun W R z9 => ?_) ?_
    ·rw [eS (l := [(2, _), (3, _)]) ⟨z9 2 rfl, z9 3 rfl, ⟨⟩⟩]
     refine qi (qB k qf qy rfl rfl rfl hp.slv (by omega) (Nat.mul_one _) ?_)
     exact ⟨rfl, rfl, rfl⟩
    refine pD (fun W R z9 => ?_) ?_
    ·rw [eS (l := [(4, _)]) ⟨z9 4 rfl, ⟨⟩⟩]
     refine qi (ql jt rfl (hp.rd (by omega)) ?_)
     exact ⟨rfl, rfl, rfl⟩
    refine pD (fun W R z9 => ?_) ?_
    ·rw [eS (l := [(5, _)]) ⟨z9 5 rfl, ⟨⟩⟩]
     refine qi (jF ((-1) - (p.getD k 0)) rfl rfl (by omega) (by omega) ?_)
     exact ⟨rfl, rfl, rfl⟩
    refine pD (fun W R z9 => ?_) ?_
    ·refine qi (qq (v2) rfl ?_)
     exact ⟨rfl, rfl, rfl⟩
    exact stepsP.nil
   intro W hphi
   rw [eS (l := [(1, _), (6, _), (7, _)]) ⟨(hphi 1 (by decide)), (hphi 6 (by decide)), (hphi 7 (by decide)), ⟨⟩⟩]
   show XL _ _ _ _ _ _ _ (cellsH b3 [v1] 115 :: slH 22 1 v1 ((bl).length) cs1 :: cellsH b2 [sN] 115 :: cellsH b1 [arv] 36 :: L)
   refine cX (qB (((-1) - (p.getD k 0)).toNat) qM qu rfl rfl (by omega) (SlV.own [_] rfl) (by omega) (Nat.mul_one _) (cX (XOp.storeS (i := ((-1) - (p.getD k 0)).toNat) (cs := cs1) [_] _ qu rfl rfl (qJ (qF hf1)) rfl (by have h9 := CO.len hc2; (try simp only [List.length_set, List.length_replicate] at h9 ⊢) <;> omega) ?_)))
   have hc3 := hc2.set (((-1) - (p.getD k 0)).toNat) hf1
   refine qb (qa (qd (ii ((i : Int))) rfl (qd (v2) rfl (cX (qD qf rfl hf1.slv (cX (qP (((i + (((sub ar t i)).length) : Nat) : Int)) rfl rfl (by omega) (by omega) (qg (ii (((i + (((sub ar t i)).length) : Nat) : Int))) rfl (qb (qa (qd (ii ((k : Int))) rfl (cX (qP (((k + 1 : Nat) : Int)) rfl rfl (by omega) (by omega) (qg (ii (((k + 1 : Nat) : Int))) rfl ?_))))))))))))))
   refine qb ?_
   exact ⟨(k + 1, i + (((sub ar t i)).length), (bl.set (((-1) - (p.getD k 0)).toNat) ((sub ar t i))), F1), _, (qh leG1 le1), rF, ⟨rfl, rfl, rfl, rfl, rfl, rfl, rfl, ⟨⟩⟩, (sC (coH.close hc3 (by first | rfl | simp) (sC (sC sR)))), ⟨rfl, (qh leG1 le1), (by (try dsimp only); (try simp only [List.length_set]) <;> omega), (by (try dsimp only) <;> omega), (by (try dsimp only) <;> omega), (hm.trans (m4_next (by omega) (by omega) (by omega) (by first | (left; exact List.eq_nil_of_length_eq_zero (show (bl.getD (-1 - p.getD k 0).toNat []).length = 0 by omega)) | (right; first | assumption | exact Classical.not_not.1 (by assumption)))))⟩, (by omega)⟩
  refine qr (t := 59) rfl (vF h5) (qr (t := 59) rfl (vF h5) (qr (t := 59) rfl (vF h5) (qr (t := 59) rfl (vF h5) (cX (qS (.bool (false)) (vF h5) rfl (qb (X.condF rfl (qz (qc ?_)))))))))
  refine jY [cellsH b3 [v1] 115, slH 22 1 v1 ((bl).length) cs1, cellsH b2 [sN] 115, cellsH b1 [arv] 36] L 8 [] [[], [0], [], [], [2, 3], [4], [5]] (phiL [qe (ptr b3 0), qe v1, qe pv, qe (ii ((k : Int)) : Value), qe (.pointer (some (elemA pv (k)))), qe (ii (p.getD k 0)), qe (ii ((-1) - (p.getD k 0))), qe v2]) (ownL []) mixed rfl rfl (by kernel_rfl) ?_ ?_
  ·refine pD (fun W R z9 => ?_) ?_
   ·refine qi (qk (0) qW rfl jk (by decide) rfl rfl ?_)
    exact ⟨rfl, rfl, rfl⟩
   refine pD (fun W R z9 => ?_) ?_
   ·rw [eS (l := [(0, _)]) ⟨z9 0 rfl, ⟨⟩⟩]
    refine qi (ql jJ rfl (Rd.own [] rfl rfl) ?_)
    exact ⟨rfl, rfl, rfl⟩
   refine pD (fun W R z9 => ?_) ?_
   ·refine qi (qq (pv) rfl ?_)
    exact ⟨rfl, rfl, rfl⟩
   refine pD (fun W R z9 => ?_) ?_
   ·refine qi (qq (ii ((k : Int))) rfl ?_)
    exact ⟨rfl, rfl, rfl⟩
   refine pD (fun W R z9 => ?_) ?_
   ·rw [eS (l := [(2, _), (3, _)]) ⟨z9 2 rfl, z9 3 rfl, ⟨⟩⟩]
    refine qi (qB k qf qy rfl rfl rfl hp.slv (by omega) (Nat.mul_one _) ?_)
    exact ⟨rfl, rfl, rfl⟩
   refine pD (fun W R z9 => ?_) ?_
   ·rw [eS (l := [(4, _)]) ⟨z9 4 rfl, ⟨⟩⟩]
    refine qi (ql jt rfl (hp.rd (by omega)) ?_)
    exact ⟨rfl, rfl, rfl⟩
   refine pD (fun W R z9 => ?_) ?_
   ·rw [eS (l := [(5, _)]) ⟨z9 5 rfl, ⟨⟩⟩]
    refine qi (jF ((-1) - (p.getD k 0)) rfl rfl (by omega) (by omega) ?_)
    exact ⟨rfl, rfl, rfl⟩
   refine pD (fun W R z9 => ?_) ?_
   ·refine qi (qq (v2) rfl ?_)
    exact ⟨rfl, rfl, rfl⟩
   exact stepsP.nil
  intro W hphi
  rw [eS (l := [(1, _), (6, _), (7, _)]) ⟨(hphi 1 (by decide)), (hphi 6 (by decide)), (hphi 7 (by decide)), ⟨⟩⟩]
  show XL _ _ _ _ _ _ _ (cellsH b3 [v1] 115 :: slH 22 1 v1 ((bl).length) cs1 :: cellsH b2 [sN] 115 :: cellsH b1 [arv] 36 :: L)
  refine cX (qB (((-1) - (p.getD k 0)).toNat) qM qu rfl rfl (by omega) (SlV.own [_] rfl) (by omega) (Nat.mul_one _) (cX (XOp.storeS (i := ((-1) - (p.getD k 0)).toNat) (cs := cs1) [_] _ qu rfl rfl (qJ (qF hf1)) rfl (by have h9 := CO.len hc2; (try simp only [List.length_set, List.length_replicate] at h9 ⊢) <;> omega) ?_)))
  have hc4 := hc2.set (((-1) - (p.getD k 0)).toNat) hf1
  refine qb (qa (qd (ii ((i : Int))) rfl (qd (v2) rfl (cX (qD qf rfl hf1.slv (cX (qP (((i + (((sub ar t i)).length) : Nat) : Int)) rfl rfl (by omega) (by omega) (qg (ii (((i + (((sub ar t i)).length) : Nat) : Int))) rfl (qb (qa (qd (ii ((k : Int))) rfl (cX (qP (((k + 1 : Nat) : Int)) rfl rfl (by omega) (by omega) (qg (ii (((k + 1 : Nat) : Int))) rfl ?_))))))))))))))
  refine qb ?_
  exact ⟨(k + 1, i + (((sub ar t i)).length), (bl.set (((-1) - (p.getD k 0)).toNat) ((sub ar t i))), F1), _, (qh leG1 le1), rF, ⟨rfl, rfl, rfl, rfl, rfl, rfl, rfl, ⟨⟩⟩, (sC (coH.close hc4 (by first | rfl | simp) (sC (sC sR)))), ⟨rfl, (qh leG1 le1), (by (try dsimp only); (try simp only [List.length_set]) <;> omega), (by (try dsimp only) <;> omega), (by (try dsimp only) <;> omega), (hm.trans (m4_next (by omega) (by omega) (by omega) (by first | (left; exact List.eq_nil_of_length_eq_zero (show (bl.getD (-1 - p.getD k 0).toNat []).length = 0 by omega)) | (right; first | assumption | exact Classical.not_not.1 (by assumption)))))⟩, (by omega)⟩
 refine jo (qt (qt (qO (qc (qa (cX (qn [v1] jC qV rfl rfl (Rd.ownN [] rfl rfl) ?_)))))))
 have hmb := (matchB_len (hm.trans (mGo_done (by omega)))).2
 refine ym [_] _ _ rfl (fun F2 le2 hz2 => ?_)
 replace hc2 := hc2.mono le2
 have hf2 : RowsF F2 v1 bl := CO.fz hc2 (by first | rfl | omega | (rw [List.length_set]; omega) | (simp; done)) hz2.fz
 refine cX (qo (args := [.agg #[v1]]) call173 rfl (l2Plain_spec hf2 (hsl := (by omega)) (hsb := (fun j => by have := hmb j; omega))) ?_)
 rintro _ F3 _ le3 ⟨x1, rfl, hr1, rfl⟩
 refine cX (qC [_] _ [x1] qV rfl rfl rfl (qj (qJ (RowsF.isSl hr1)) qK) rfl rfl rfl (qg (.bool (true)) rfl (qb (qw (qs (L' := L) [.agg #[x1], .bool (true)] (.tuple #[.agg #[x1], .bool (true)]) (.cell rfl (jx [x1] jC qV rfl (Rd.ownN [_] rfl rfl)) (.tmp rfl .nil)) rfl (qh (qh leG1 le2) le3) rF (sD (sD (sD sR))) ?_)))))
 have hz : matchB ar p t = some bl := hm.trans (mGo_done (by omega))
 exact ⟨_, by rw [hz]; rfl, by rw [matchP, hz]; exact hr1, rfl⟩
end Go.Proofs.YtenomejgjcpbdaaGreat
set_option linter.unusedSimpArgs false
set_option linter.unusedVariables false
namespace Go.Proofs.YtenomejgjcpbdaaGreat
open Go X M Tryz

/- spec.l7Right -/
theorem l7Right_spec {F : FH} {L : List HP} {arv : Value} {ar : List Int} (har : IntsF F arv ar) {rsv : Value} {rs : List (List Int × List Int)} (hrs : PairsF F rsv rs) {tv : Value} {t : List Int} (ht : IntsF F tv t) (hla : ar.length ≤ 4000000) (hlr : rs.length ≤ 4000000) (hrb : ∀ i, i < rs.length → (rs.getD i ([], [])).1.length ≤ 4000000 ∧ (rs.getD i ([], [])).2.length ≤ 4000000) (hlt : t.length ≤ 4000000) :
    Does prog 108 [.agg #[arv, rsv], tv] F (L) (fun v F' L' => (.bool (rightB ar rs t) : Value) = v ∧ F = F' ∧ L = L') := by
 refine qL func108 rfl rfl rfl (qc (qa (cX (jd [arv, rsv] rfl rfl ?_))))
 intro b1
 refine qg (.bool (false)) rfl (qb (qc (qa (cX (qn [arv, rsv] jr jl rfl rfl (Rd.ownN [] rfl rfl) (cX (qo (args := [.agg #[arv, rsv]]) call84 rfl (sSystemOk_spec har hrs (hla := (by first | assumption | rfl | omega | simp)) (hlr := (by first | assumption | rfl | omega | simp)) (hrb := (by first | assumption | rfl | omega | simp))) ?_)))))))
 rintro _ _ _ _ ⟨rfl, rfl, rfl⟩
 refine qd (.bool (sysOk ar rs)) rfl ?_
 by_cases h1 : (sysOk ar rs) = true
 ·refine qp (t := 7) rfl (vB h1) (qk (0) ja rfl qY (by decide) rfl rfl (qp (t := 7) rfl (vB h1) (qn [arv] js qY rfl rfl (Rd.ownN [] rfl rfl) (qp (t := 7) rfl (vB h1) (qq (tv) rfl (qp (t := 7) rfl (vB h1) (qo (args := [.agg #[arv], tv]) call136 rfl (sTermOk_spec har ht (hla := (by first | assumption | rfl | omega | simp)) (hlt := (by first | assumption | rfl | omega | simp))) ?_)))))))
  rintro _ _ _ _ ⟨rfl, rfl, rfl⟩
  refine cX (qU (.bool (termOk ar t)) (vB h1) rfl (qg (.bool (termOk ar t)) rfl (qb (qw (qs (L' := L) [.bool (termOk ar t)] (.bool (termOk ar t)) (.tmp rfl .nil) rfl rF rF (sD sR) ?_)))))
  exact ⟨(vB (by rw [rightB]; simp_all)), rfl, rfl⟩
 rw [Bool.not_eq_true] at h1
 refine qr (t := 7) rfl (vB h1) (qr (t := 7) rfl (vB h1) (qr (t := 7) rfl (vB h1) (qr (t := 7) rfl (vB h1) (cX (qS (.bool (false)) (vB h1) rfl (qg (.bool (false)) rfl (qb (qw (qs (L' := L) [.bool (false)] (.bool (false)) (.tmp rfl .nil) rfl rF rF (sD sR) ?_)))))))))
 exact ⟨(vB (by rw [rightB]; simp_all)), rfl, rfl⟩
end Go.Proofs.YtenomejgjcpbdaaGreat
set_option linter.unusedSimpArgs false
set_option linter.unusedVariables false
namespace Go.Proofs.YtenomejgjcpbdaaGreat
open Go X M Tryz
end Go.Proofs.YtenomejgjcpbdaaGreat
set_option linter.unusedSimpArgs false
set_option linter.unusedVariables false
namespace Go.Proofs.YtenomejgjcpbdaaGreat
open Go X M Tryz

/- spec.l2Filled -/
theorem l2Filled_spec {F : FH} {L : List HP} {sv : Value} {s : List (List Int)} (hs : RowsF F sv s) {tv : Value} {t : List Int} (ht : IntsF F tv t) (hsl : s.length ≤ 4000000) (hsb : ∀ i, (s.getD i []).length ≤ 4000000) (htl : t.length ≤ 4000000) (htg : ∀ k, k < t.length → -4000000 ≤ t.getD k 0) :
    Does prog 210 [.agg #[sv], tv] F (L) (fun v F' L' => ∃ (a : Value), (.tuple #[a, .bool ((fillL s t).isSome)] : Value) = v ∧ (IntsF F' a ((fillL s t).getD [])) ∧ L = L') := by
 refine qL func210 rfl rfl rfl (qc (qa (cX (jd [sv] rfl rfl ?_))))
 intro b1
 refine qg (sN) rfl (qg (.bool (false)) rfl (qb (qc (qa (cX (qx (s := 1) [] [ii (0)] [] qf qy jh rfl (by decide) rfl CellsAre.nil rfl ?_))))))
 intro v1 hv1
 refine qg (v1) rfl (qb (qc (qc (qa (qg (ii (0)) rfl (qb (qN (jw (α := Nat × Value × List Int) (fun xQ => [(1, tv), (2, ptr b1 0), (6, xQ.2.1), (7, ii (((xQ.1 : Nat) : Int)))]) (fun xQ => intsH 2 xQ.2.1 xQ.2.2 :: cellsH b1 [sv] 115 :: L) (fun xQ F' => F = F' ∧ (IsSl xQ.2.1) ∧ (xQ.1 ≤ t.length) ∧ (fillL s t = fillGo s (t.drop xQ.1) xQ.2.2) ∧ (xQ.2.2.length ≤ 60)) (fun xQ => t.length - xQ.1) (0, v1, []) ⟨rfl, rfl, rfl, rfl, ⟨⟩⟩ (sC (sC sR)) ⟨rfl, ((jv hv1)), (by (try dsimp only) <;> omega), (rfl), (by simp)⟩ ?_))))))))
 rintro ⟨k, ov, os⟩ rE _ _ ⟨rfl, hov, hk, hm, hol⟩
 show X _ _ _ _ (envs [(1, tv), (2, ptr b1 0), (6, ov), (7, ii ((k : Int)))] rE) _ (intsH 2 ov os :: cellsH b1 [sv] 115 :: L)
 dsimp only at hov hk hm hol
 have htk := htg k
 have hlk0 := lk_bound (N := 4000000) (by omega) hsb (-1 - (((-1 - t.getD k 0).toNat : Nat) : Int))
 refine qc (qc (qa (qd (ii ((k : Int))) rfl (qd (tv) rfl (cX (qD qf rfl ht.slv (cX (jf rfl rfl (qb ?_)))))))))
 refine qE (p := (k : Int) < (t.length : Int)) rfl (fun h1 => ?_) (fun h1 => ?_)
 ·refine qz (qc (qN (qc (qc (qa (qd (tv) rfl (qd (ii ((k : Int))) rfl (cX (qB k qf qy rfl rfl rfl ht.slv (by omega) (Nat.mul_one _) (cX (ql jt rfl (ht.rd (by omega)) (cX (jf rfl rfl (qb ?_))))))))))))))
  refine qE (p := (t.getD k 0 : Int) < 0) rfl (fun h2 => ?_) (fun h2 => ?_)
  ·refine jZ [intsH 2 ov os, cellsH b1 [sv] 115] L 8 [] [[], [], [], [], [2, 3], [4], [5], [1, 6]] [] (phiG [pe ov, pe (.agg #[sv]), pe tv, pe (ii ((k : Int)) : Value), pe (.pointer (some (elemA tv (k)))), pe (ii (t.getD k 0)), pe (ii ((-1) - (t.getD k 0))), fun FF us v => ((v) : Value) = v ∧ (IntsF FF (v) (lk s (-1 - ((((-1) - (t.getD k 0)).toNat) : Int))))]) (ownL []) mixed rfl rfl (by kernel_rfl) (by kernel_rfl) (MonoG.get (m1 (m1 (m1 (m1 (m1 (m1 (m1 (mC (fun le h => ⟨h.1, h.2.mono le⟩) MonoG.nil))))))))) ?_ ?_
   ·refine gD (fun W Fs R lF z9 => ?_) ?_
    ·refine qi (qq (ov) rfl ?_)
     exact ⟨rfl, rfl⟩
    refine gD (fun W Fs R lF z9 => ?_) ?_
    ·replace hs := hs.mono lF
     replace ht := ht.mono lF
     refine qi (qn [sv] jC qV rfl rfl (Rd.ownN [_] rfl rfl) ?_)
     exact ⟨rfl, rfl⟩
    refine gD (fun W Fs R lF z9 => ?_) ?_
    ·refine qi (qq (tv) rfl ?_)
     exact ⟨rfl, rfl⟩
    refine gD (fun W Fs R lF z9 => ?_) ?_
    ·refine qi (qq (ii ((k : Int))) rfl ?_)
     exact ⟨rfl, rfl⟩
    refine gD (fun W Fs R lF z9 => ?_) ?_
    ·replace hs := hs.mono lF
     replace ht := ht.mono lF
     rw [eS (l := [(2, _), (3, _)]) ⟨z9 2 rfl, z9 3 rfl, ⟨⟩⟩]
     refine qi (qB k qf qy rfl rfl rfl ht.slv (by omega) (Nat.mul_one _) ?_)
     exact ⟨rfl, rfl⟩
    refine gD (fun W Fs R lF z9 => ?_) ?_
    ·replace hs := hs.mono lF
     replace ht := ht.mono lF
     rw [eS (l := [(4, _)]) ⟨z9 4 rfl, ⟨⟩⟩]
     refine qi (ql jt rfl (ht.rd (by omega)) ?_)
     exact ⟨rfl, rfl⟩
    refine gD (fun W Fs R lF z9 => ?_) ?_
    ·rw [eS (l := [(5, _)]) ⟨z9 5 rfl, ⟨⟩⟩]
     refine qi (jF ((-1) - (t.getD k 0)) rfl rfl (by omega) (by omega) ?_)
     exact ⟨rfl, rfl⟩
    refine gD (fun W Fs R lF z9 => ?_) ?_
    ·replace hs := hs.mono lF
     replace ht := ht.mono lF
     rw [eS (l := [(1, _), (6, _)]) ⟨z9 1 rfl, z9 6 rfl, ⟨⟩⟩]
     refine qi (yf <| qo (args := [.agg #[sv], ii ((((-1) - (t.getD k 0)).toNat : Nat) : Int)]) call174 (by rw [show ((((-1) - (t.getD k 0)).toNat : Nat) : Int) = (-1) - (t.getD k 0) from by omega]; rfl) (l2Gives_spec (i := ((-1) - (t.getD k 0)).toNat) hs (hsl := (by first | assumption | rfl | omega | simp)) (hi := (by first | assumption | rfl | omega | simp)) (hsb := (hsb _))) ?_)
     rintro v3 _ _ _ ⟨rfl, hs2, rfl⟩
     refine ⟨_, _, rfl, fun F1 le1 hz1 => ?_⟩
     replace ht := ht.mono le1
     have hf1 : IntsF F1 v3 ((lk s (-1 - ((((-1) - (t.getD k 0)).toNat) : Int)))) := intsH.fz (xs := (lk s (-1 - ((((-1) - (t.getD k 0)).toNat) : Int)))) hz1.fz
     exact ⟨⟨rfl, hf1⟩, rfl⟩
    exact stepsG.nil
   intro W F2 le2 hphi
   obtain ⟨e7, f7_1ha⟩ := hphi 7 (by decide)
   generalize hu1 : ((W 7)) = u1 at e7 f7_1ha
   rw [eS (l := [(0, _), (7, u1)]) ⟨(hphi 0 (by decide)), hu1, ⟨⟩⟩]
   replace ht := ht.mono le2
   show XL _ _ _ _ _ _ _ (intsH 2 ov os :: cellsH b1 [sv] 115 :: L)
   refine cX (yc [] _ qf typeInfo2 rfl rfl rfl rfl rfl rfl f7_1ha (by (try simp only [List.length_append, List.length_nil, List.length_cons, List.length_singleton, List.length_take, List.length_drop]); omega) ?_)
   intro v4 hs3 hn1 hm1
   refine qg (v4) rfl (qb (qc (qa (qd (v4) rfl (cX (qD qf rfl (intsH.slv [] rfl) (cX (jQ rfl rfl (qb ?_)))))))))
   refine qE (p := ((((os ++ ((lk s (-1 - ((((-1) - (t.getD k 0)).toNat) : Int))))).length : Nat) : Int) : Int) > 60) rfl (fun h3 => ?_) (fun h3 => ?_)
   ·refine qc (qa (cX (qx (s := 1) [] [ii (0)] [] qf qy jh rfl (by decide) rfl CellsAre.nil rfl ?_)))
    intro v5 hv2
    refine qg (v5) rfl (qg (.bool (false)) rfl (qb ?_))
    show X _ _ _ _ _ _ (intsH 2 v5 ([] : List Int) :: intsH 2 v4 (os ++ ((lk s (-1 - ((((-1) - (t.getD k 0)).toNat) : Int))))) :: cellsH b1 [sv] 115 :: L)
    refine je [] _ _ rfl (fun F3 le3 hz2 => ?_)
    replace ht := ht.mono le3
    have hf2 : IntsF F3 v5 ([]) := intsH.fz (xs := []) hz2.fz
    refine qw (qI (qm (qm (qI (qm (qs (L' := L) [v5, .bool (false)] (.tuple #[v5, .bool (false)]) (.tmp rfl (.tmp rfl .nil)) rfl (qh le2 le3) rF (sD (sD sR)) ?_))))))
    have hz : fillL s t = none := hm.trans (fillGo_long (a := os ++ ((lk s (-1 - ((((-1) - (t.getD k 0)).toNat) : Int))))) (by omega) (by rw [show (-1 - (((-1 - t.getD k 0).toNat : Nat) : Int)) = t.getD k 0 from by omega]) (by omega))
    exact ⟨_, by rw [hz]; rfl, by rw [hz]; exact hf2, rfl⟩
   refine qz (qa (qd (ii ((k : Int))) rfl (cX (qP (((k + 1 : Nat) : Int)) rfl rfl (by omega) (by omega) (qg (ii (((k + 1 : Nat) : Int))) rfl (qb ?_))))))
   exact ⟨(k + 1, v4, os ++ ((lk s (-1 - ((((-1) - (t.getD k 0)).toNat) : Int))))), _, FLe.refl _, le2, ⟨rfl, rfl, rfl, rfl, ⟨⟩⟩, (sC (sC sR)), ⟨rfl, (hs3), (by (try dsimp only) <;> omega), (by dsimp only; exact hm.trans (fillGo_next (by omega) (by rw [show (-1 - (((-1 - t.getD k 0).toNat : Nat) : Int)) = t.getD k 0 from by omega]) (by omega))), (by dsimp only; omega)⟩, (by omega)⟩
  refine qa (qd (ov) rfl (qd (tv) rfl (qd (ii ((k : Int))) rfl (cX (qB k qf qy rfl rfl rfl ht.slv (by omega) (Nat.mul_one _) (cX (ql jt rfl (ht.rd (by omega)) (cX (qx (s := 1) [ii (t.getD k 0)] [ii (0)] [(0, [ii (t.getD k 0)])] qf qy jh rfl (by decide) rfl (.cons rfl CellsAre.nil) rfl ?_)))))))))
  intro v6 hv3
  refine cX (XOp.append1 (u := t.getD k 0) [_] _ qf typeInfo2 rfl rfl rfl rfl rfl rfl (SlV.own [] rfl) (Rd.sl [] rfl rfl) (by (try simp only [List.length_append, List.length_nil, List.length_cons, List.length_singleton, List.length_take, List.length_drop]); omega) ?_)
  intro v7 hs4 hn2
  refine qg (v7) rfl (qb (qc (qa (qd (v7) rfl (cX (qD qf rfl (intsH.slv [_] rfl) (cX (jQ rfl rfl (qb ?_)))))))))
  refine qE (p := ((((os ++ [t.getD k 0]).length : Nat) : Int) : Int) > 60) rfl (fun h4 => ?_) (fun h4 => ?_)
  ·refine qc (qa (cX (qx (s := 1) [] [ii (0)] [] qf qy jh rfl (by decide) rfl CellsAre.nil rfl ?_)))
   intro v8 hv4
   refine qg (v8) rfl (qg (.bool (false)) rfl (qb ?_))
   show X _ _ _ _ _ _ (intsH 2 v8 ([] : List Int) :: slH 2 1 v6 1 [ii (t.getD k 0)] :: intsH 2 v7 (os ++ [t.getD k 0]) :: cellsH b1 [sv] 115 :: L)
   refine je [] _ _ rfl (fun F4 le4 hz3 => ?_)
   have hf3 : IntsF F4 v8 ([]) := intsH.fz (xs := []) hz3.fz
   refine qw (qI (qm (qm (qI (qm (qs (L' := L) [v8, .bool (false)] (.tuple #[v8, .bool (false)]) (.tmp rfl (.tmp rfl .nil)) rfl le4 rF (sD (sD (sD sR))) ?_))))))
   have hz : fillL s t = none := hm.trans (fillGo_long (a := os ++ [t.getD k 0]) (by omega) (by rw [lk_sym (by omega)]) (by omega))
   exact ⟨_, by rw [hz]; rfl, by rw [hz]; exact hf3, rfl⟩
  refine qz (qa (qd (ii ((k : Int))) rfl (cX (qP (((k + 1 : Nat) : Int)) rfl rfl (by omega) (by omega) (qg (ii (((k + 1 : Nat) : Int))) rfl (qb ?_))))))
  exact ⟨(k + 1, v7, os ++ [t.getD k 0]), _, FLe.refl _, rF, ⟨rfl, rfl, rfl, rfl, ⟨⟩⟩, (sD (sC (sC sR))), ⟨rfl, (hs4), (by (try dsimp only) <;> omega), (by dsimp only; exact hm.trans (fillGo_next (by omega) (by rw [lk_sym (by omega)]) (by omega))), (by dsimp only; omega)⟩, (by omega)⟩
 refine jo (qt (qt (qO (qc (qa (qd (ov) rfl (qg (ov) rfl (qg (.bool (true)) rfl (qb (je [] _ _ rfl (fun F5 le5 hz4 => ?_)))))))))))
 have hf4 : IntsF F5 ov os := intsH.fz (xs := os) hz4.fz
 refine qw (qs (L' := L) [ov, .bool (true)] (.tuple #[ov, .bool (true)]) (.tmp rfl (.tmp rfl .nil)) rfl le5 rF (sD sR) ?_)
 have hz : fillL s t = some os := hm.trans (fillGo_done (by omega))
 exact ⟨_, by rw [hz]; rfl, by rw [hz]; exact hf4, rfl⟩

/- spec.l3Put -/
theorem l3Put_spec {F : FH} {L : List HP} {arv : Value} {ar : List Int} (har : IntsF F arv ar) {tv : Value} {t : List Int} (ht : IntsF F tv t) {p : Nat} {uv : Value} {u : List Int} (hu : IntsF F uv u) (ho : termOk ar t = true) (hp : p < t.length) (hul : u.length ≤ 4000000) :
    Does prog 211 [.agg #[arv], tv, ii ((p : Int)), uv] F (L) (fun v F' L' => ∃ (a : Value), (.tuple #[a, .bool ((putL ar t p u).isSome)] : Value) = v ∧ (IntsF F' a ((putL ar t p u).getD [])) ∧ L = L') := by
 refine qL func211 rfl rfl rfl ?_
 have hsig := termOk_sig ho
 have hsl := sigOk_spec hsig
 have htl := termOk_len ho
 have hee := endN_spec ho hp
 refine qc (qa (cX (jd [arv] rfl rfl ?_)))
 intro b1
 refine qg (sN) rfl (qg (.bool (false)) rfl (qb (qc (qa (qd (tv) rfl (qd (ii ((p : Int))) rfl (cX (XOp.sliceI 0 p qf qy rfl ht rfl ⟨_, rfl⟩ (by omega) (by omega) ?_))))))))
 intro v1 hv1 hn1
 refine cX (qo (args := [v1]) call106 rfl (l1Copy_spec hv1 (hlt := (by simp; omega))) ?_)
 rintro v2 _ _ _ ⟨rfl, hs1, rfl⟩
 refine qd (uv) rfl (cX (yc [] _ qf typeInfo2 rfl rfl rfl rfl rfl rfl hu (by (try simp only [List.length_append, List.length_nil, List.length_cons, List.length_singleton, List.length_take, List.length_drop]); omega) ?_))
 intro v3 hs2 hn2 hm1
 refine qg (v3) rfl (qb (qc (qa (qd (v3) rfl (qd (tv) rfl (cX (qn [arv] js qY rfl rfl (Rd.ownN [_] rfl rfl) (qd (tv) rfl (qd (ii ((p : Int))) rfl (cX (qo (args := [.agg #[arv], tv, ii (p : Int)]) call196 rfl (l1End_ok (p := p) har ht (ho := (by first | assumption | rfl | omega | (left; simp; done) | (right; simp; done))) (hp := (by first | assumption | rfl | omega | (left; simp; done) | (right; simp; done)))) ?_)))))))))))
 rintro _ _ _ _ ⟨rfl, rfl, rfl⟩
 refine cX (XOp.sliceI (endN ar t p) ((t).length) qf qy rfl ht ⟨_, rfl⟩ rfl (by omega) (by omega) ?_)
 intro v4 hv2 hn3
 refine cX (yc [] _ qf typeInfo2 rfl rfl rfl rfl rfl rfl hv2 (by (try simp only [List.length_append, List.length_nil, List.length_cons, List.length_singleton, List.length_take, List.length_drop]); omega) ?_)
 intro v5 hs3 hn4 hm2
 refine qg (v5) rfl (qb (qc (qc (qa (qd (v5) rfl (cX (qD qf rfl (intsH.slv [] rfl) (cX (jQ rfl rfl (qb ?_))))))))))
 refine qE (p := ((((((((((t.drop 0).take (p - 0))))) ++ u) ++ (((t.drop (endN ar t p)).take (((t).length) - (endN ar t p))))).length : Nat) : Int) : Int) > 60) rfl (fun h1 => ?_) (fun h1 => ?_)
 ·refine qc (qa (cX (qx (s := 1) [] [ii (0)] [] qf qy jh rfl (by decide) rfl CellsAre.nil rfl ?_)))
  intro v6 hv3
  refine qg (v6) rfl (qg (.bool (false)) rfl (qb ?_))
  show X _ _ _ _ _ _ (intsH 2 v6 ([] : List Int) :: intsH 2 v5 (((((((t.drop 0).take (p - 0))))) ++ u) ++ (((t.drop (endN ar t p)).take (((t).length) - (endN ar t p))))) :: cellsH b1 [arv] 36 :: L)
  refine je [] _ _ rfl (fun F1 le1 hz1 => ?_)
  have hf1 : IntsF F1 v6 ([]) := intsH.fz (xs := []) hz1.fz
  refine qw (qm (qs (L' := L) [v6, .bool (false)] (.tuple #[v6, .bool (false)]) (.tmp rfl (.tmp rfl .nil)) rfl le1 rF (sD (sD sR)) ?_))
  have hz : putL ar t p u = none := putL_none put_three (by omega)
  exact ⟨_, by rw [hz]; rfl, by rw [hz]; exact hf1, rfl⟩
 refine qz (qc (qa (qd (v5) rfl (qg (v5) rfl (qg (.bool (true)) rfl (qb (je [] _ _ rfl (fun F2 le2 hz2 => ?_))))))))
 have hf2 : IntsF F2 v5 (((((((t.drop 0).take (p - 0))))) ++ u) ++ (((t.drop (endN ar t p)).take (((t).length) - (endN ar t p))))) := intsH.fz (xs := ((((((t.drop 0).take (p - 0))))) ++ u) ++ (((t.drop (endN ar t p)).take (((t).length) - (endN ar t p))))) hz2.fz
 refine qw (qs (L' := L) [v5, .bool (true)] (.tuple #[v5, .bool (true)]) (.tmp rfl (.tmp rfl .nil)) rfl le2 rF (sD sR) ?_)
 have hz := putL_some (ar := ar) (t := t) (p := p) (u := u) put_three (by omega)
 exact ⟨_, by rw [hz]; rfl, by rw [hz]; exact hf2, rfl⟩

/- spec.l7Step -/
theorem l7Step_spec {F : FH} {L : List HP} {arv : Value} {ar : List Int} (har : IntsF F arv ar) {rsv : Value} {rs : List (List Int × List Int)} (hrs : PairsF F rsv rs) {tv : Value} {t : List Int} (ht : IntsF F tv t) {p : Nat} {r : Nat} (hsys : sysOk ar rs = true) (ho : termOk ar t = true) (hp : p < t.length) (hr : r < rs.length) :
    Does prog 111 [.agg #[arv, rsv], tv, ii ((p : Int)), ii ((r : Int))] F (L) (fun v F' L' => ∃ (a : Value), (.tuple #[a, .bool ((stepL ar rs t p r).isSome)] : Value) = v ∧ (IntsF F' a ((stepL ar rs t p r).getD [])) ∧ L = L') := by
 refine qL func111 rfl rfl rfl ?_
 have hnn := yb ht (by have := termOk_len ho; omega)
 have htl := termOk_len ho
 have hrl := (sysOk_iff.1 hsys).2.1
 have hsig := (sysOk_iff.1 hsys).1
 have hsl := sigOk_spec hsig
 have hR := ruleOk_iff.1 ((sysOk_iff.1 hsys).2.2 r hr)
 have hRl := hR.left
 have hRr := hR.right
 have hso := sub_ok ho hp
 have hsb := sub_length ho hp
 have hee := endN_spec ho hp
 have hRrl := termOk_len hRr
 have hRg := fun k (hk : k < (rs.getD r ([], [])).2.length) => termOk_ge hRr hk
 have hmp := matchP_len (ar := ar) (p := (rs.getD r ([], [])).1) (t := sub ar t p)
 have hmp2 := hmp.2
 have hmp3 := hmp.1
 refine qc (qa (cX (jd [arv, rsv] rfl rfl ?_)))
 intro b1
 refine qg (sN) rfl (qg (.bool (false)) rfl (qb (qc (qa (cX (qk (1) ja rfl yd (by decide) rfl rfl (cX (ql isAgg37 rfl (Rd.own [] rfl rfl) (qd (ii ((r : Int))) rfl (cX (qB r jA jU rfl rfl rfl hrs.slv (by omega) rfl ?_)))))))))))
 obtain ⟨a1, a2, ha1, ha2, hr1, hr2⟩ := hrs.rd (i := r) (by omega)
 refine cX (qn [a1, a2] isAgg76 jU rfl rfl (Rd.two (hr1 _) (hr2 _)) (cX (jc [sN, sN] jM rfl ?_)))
 intro b2
 refine cX (qC [] _ [a1, a2] jU rfl rfl rfl (qj (qJ (qF ha1)) (qj (qJ (qF ha2)) qK)) rfl rfl rfl (qb (qc ?_)))
 refine jZ [cellsH b2 [a1, a2] 76, cellsH b1 [arv, rsv] 39] L 15 [[], [], [], [], [], [], [], [], [], [], [9], [9], [], [], [9, 13]] [[], [0], [], [2], [], [4], [], [], [5, 6, 7], [1, 3, 8], [9], [9, 10], [9, 10], [], [9, 11, 13]] [[], [], [], [], [], [], [], [], [], [], [], [], [], [], [13]] (phiG [pe (ptr b1 0), pe (.agg #[arv]), pe (ptr b2 0), pe a1, pe (ptr b1 0), pe (.agg #[arv]), pe tv, pe (ii ((p : Int)) : Value), fun FF us v => ((v) : Value) = v ∧ (IntsF FF (v) (sub ar t p)), fun FF us v => (.tuple #[.agg #[((aggAt (tupAt v 0) 0))], .bool ((matchB ar ((rs.getD r ([], [])).1) ((sub ar t p))).isSome)] : Value) = v ∧ (RowsF FF ((aggAt (tupAt v 0) 0)) (matchP ar ((rs.getD r ([], [])).1) ((sub ar t p)))), fun FF us v => v = (.tuple #[.agg #[((aggAt (tupAt (us.getD 0 undef) 0) 0))], .bool ((matchB ar ((rs.getD r ([], [])).1) ((sub ar t p))).isSome)] : Value), fun FF us v => v = (.agg #[((aggAt (tupAt (us.getD 0 undef) 0) 0))] : Value), pe (.bool ((matchB ar ((rs.getD r ([], [])).1) ((sub ar t p))).isSome)), fun FF us v => v = ptr (blk v) 0, fun FF us v => True]) (ownL [o0, o0, o0, o0, o0, o0, o0, o0, o0, o0, o0, o0, o0, fun us v => [cellsH (blk v) [sN] 115], fun us v => [cellsH (blk (us.getD 1 undef)) [((aggAt (tupAt (us.getD 0 undef) 0) 0))] 115]]) mixed rfl rfl (by kernel_rfl) (by kernel_rfl) (MonoG.get (m1 (m1 (m1 (m1 (m1 (m1 (m1 (m1 (mC (fun le h => ⟨h.1, h.2.mono le⟩) (mC (fun le h => ⟨h.1, h.2.mono le⟩) (mC (fun le h => h) (mC (fun le h => h) (m1 (mC (fun le h => h) (mC (fun le h => h) MonoG.nil)))))))))))))))) ?_ ?_
 ·refine gD (fun W Fs R lF z9 => ?_) ?_
  ·refine qi (qk (0) ja rfl qY (by decide) rfl rfl ?_)
   exact ⟨rfl, rfl⟩
  refine gD (fun W Fs R lF z9 => ?_) ?_
  ·replace har := har.mono lF
   replace ht := ht.mono lF
   replace ha1 := ha1.mono lF
   replace ha2 := ha2.mono lF
   rw [eS (l := [(0, _)]) ⟨z9 0 rfl, ⟨⟩⟩]
   refine qi (qn [arv] js qY rfl rfl (Rd.ownN [_] rfl rfl) ?_)
   exact ⟨rfl, rfl⟩
  refine gD (fun W Fs R lF z9 => ?_) ?_
  ·refine qi (qk (0) jp rfl qu (by decide) rfl rfl ?_)
   exact ⟨rfl, rfl⟩
  refine gD (fun W Fs R lF z9 => ?_) ?_
  ·replace har := har.mono lF
   replace ht := ht.mono lF
   replace ha1 := ha1.mono lF
   replace ha2 := ha2.mono lF
   rw [eS (l := [(2, _)]) ⟨z9 2 rfl, ⟨⟩⟩]
   refine qi (ql qZ rfl (Rd.own [] rfl rfl) ?_)
   exact ⟨rfl, rfl⟩
  refine gD (fun W Fs R lF z9 => ?_) ?_
  ·refine qi (qk (0) ja rfl qY (by decide) rfl rfl ?_)
   exact ⟨rfl, rfl⟩
  refine gD (fun W Fs R lF z9 => ?_) ?_
  ·replace har := har.mono lF
   replace ht := ht.mono lF
   replace ha1 := ha1.mono lF
   replace ha2 := ha2.mono lF
   rw [eS (l := [(4, _)]) ⟨z9 4 rfl, ⟨⟩⟩]
   refine qi (qn [arv] js qY rfl rfl (Rd.ownN [_] rfl rfl) ?_)
   exact ⟨rfl, rfl⟩
  refine gD (fun W Fs R lF z9 => ?_) ?_
  ·refine qi (qq (tv) rfl ?_)
   exact ⟨rfl, rfl⟩
  refine gD (fun W Fs R lF z9 => ?_) ?_
  ·refine qi (qq (ii ((p : Int))) rfl ?_)
   exact ⟨rfl, rfl⟩
  refine gD (fun W Fs R lF z9 => ?_) ?_
  ·replace har := har.mono lF
   replace ht := ht.mono lF
   replace ha1 := ha1.mono lF
   replace ha2 := ha2.mono lF
   rw [eS (l := [(5, _), (6, _), (7, _)]) ⟨z9 5 rfl, z9 6 rfl, z9 7 rfl, ⟨⟩⟩]
   refine qi (yf <| qo (args := [.agg #[arv], tv, ii (p : Int)]) call209 rfl (l1Sub_spec (p := p) har ht (ho := (by first | assumption | rfl | omega | simp)) (hp := (by first | assumption | rfl | omega | simp))) ?_)
   rintro v2 _ _ _ ⟨rfl, hs2, rfl⟩
   refine ⟨_, _, rfl, fun F2 le2 hz1 => ?_⟩
   replace har := har.mono le2
   replace ht := ht.mono le2
   replace ha1 := ha1.mono le2
   replace ha2 := ha2.mono le2
   have hf1 : IntsF F2 v2 ((sub ar t p)) := intsH.fz (xs := (sub ar t p)) hz1.fz
   exact ⟨⟨rfl, hf1⟩, rfl⟩
  refine gD (fun W Fs R lF z9 => ?_) ?_
  ·obtain ⟨e8, f8_1ha⟩ := z9 8 rfl
   replace har := har.mono lF
   replace ht := ht.mono lF
   replace ha1 := ha1.mono lF
   replace ha2 := ha2.mono lF
   rw [eS (l := [(1, _), (3, _), (8, ((W 8)))]) ⟨z9 1 rfl, z9 3 rfl, (e8).symm, ⟨⟩⟩]
   refine qi (qo (args := [.agg #[arv], a1, ((W 8))]) call208 rfl (l4Match_spec har ha1 f8_1ha (ho := (by first | assumption | rfl | omega | simp)) (hpo := (by first | assumption | rfl | omega | simp))) ?_)
   rintro _ F3 _ le3 ⟨x2, rfl, hr4, rfl⟩
   replace har := har.mono le3
   replace ht := ht.mono le3
   replace ha2 := ha2.mono le3
   replace f8_1ha := f8_1ha.mono le3
   exact ⟨⟨rfl, hr4⟩, rfl⟩
  refine gD (fun W Fs R lF z9 => ?_) ?_
  ·obtain ⟨e9, f9_1hr⟩ := z9 9 rfl
   rw [eS (l := [(9, (.tuple #[.agg #[((aggAt (tupAt (W 9) 0) 0))], .bool ((matchB ar ((rs.getD r ([], [])).1) ((sub ar t p))).isSome)]))]) ⟨(e9).symm, ⟨⟩⟩]
   refine qi (qq (.tuple #[.agg #[((aggAt (tupAt (W 9) 0) 0))], .bool ((matchB ar ((rs.getD r ([], [])).1) ((sub ar t p))).isSome)]) rfl ?_)
   exact ⟨rfl, rfl⟩
  refine gD (fun W Fs R lF z9 => ?_) ?_
  ·obtain ⟨e9, f9_1hr⟩ := z9 9 rfl
   have e10 : W 10 = (.tuple #[.agg #[((aggAt (tupAt (W 9) 0) 0))], .bool ((matchB ar ((rs.getD r ([], [])).1) ((sub ar t p))).isSome)] : Value) := z9 10 rfl
   rw [eS (l := [(9, (.tuple #[.agg #[((aggAt (tupAt (W 9) 0) 0))], .bool ((matchB ar ((rs.getD r ([], [])).1) ((sub ar t p))).isSome)])), (10, (.tuple #[.agg #[((aggAt (tupAt (W 9) 0) 0))], .bool ((matchB ar ((rs.getD r ([], [])).1) ((sub ar t p))).isSome)]))]) ⟨(e9).symm, e10, ⟨⟩⟩]
   refine qi (qQ (.agg #[((aggAt (tupAt (W 9) 0) 0))]) rfl rfl ?_)
   exact ⟨rfl, rfl⟩
  refine gD (fun W Fs R lF z9 => ?_) ?_
  ·obtain ⟨e9, f9_1hr⟩ := z9 9 rfl
   have e10 : W 10 = (.tuple #[.agg #[((aggAt (tupAt (W 9) 0) 0))], .bool ((matchB ar ((rs.getD r ([], [])).1) ((sub ar t p))).isSome)] : Value) := z9 10 rfl
   rw [eS (l := [(9, (.tuple #[.agg #[((aggAt (tupAt (W 9) 0) 0))], .bool ((matchB ar ((rs.getD r ([], [])).1) ((sub ar t p))).isSome)])), (10, (.tuple #[.agg #[((aggAt (tupAt (W 9) 0) 0))], .bool ((matchB ar ((rs.getD r ([], [])).1) ((sub ar t p))).isSome)]))]) ⟨(e9).symm, e10, ⟨⟩⟩]
   refine qi (qQ (.bool ((matchB ar ((rs.getD r ([], [])).1) ((sub ar t p))).isSome)) rfl rfl ?_)
   exact ⟨rfl, rfl⟩
  refine gD (fun W Fs R lF z9 => ?_) ?_
  ·replace har := har.mono lF
   replace ht := ht.mono lF
   replace ha2 := ha2.mono lF
   refine qi (jc [sN] jB rfl ?_)
   intro b4
   exact ⟨rfl, rfl⟩
  refine gD (fun W Fs R lF z9 => ?_) ?_
  ·obtain ⟨e9, f9_1hr⟩ := z9 9 rfl
   have e11 : W 11 = (.agg #[((aggAt (tupAt (W 9) 0) 0))] : Value) := z9 11 rfl
   have e13 : W 13 = ptr (blk (W 13)) 0 := z9 13 rfl
   replace har := har.mono lF
   replace ht := ht.mono lF
   replace ha2 := ha2.mono lF
   rw [eS (l := [(9, (.tuple #[.agg #[((aggAt (tupAt (W 9) 0) 0))], .bool ((matchB ar ((rs.getD r ([], [])).1) ((sub ar t p))).isSome)])), (11, (.agg #[((aggAt (tupAt (W 9) 0) 0))])), (13, ptr (blk (W 13)) 0)]) ⟨(e9).symm, e11, e13, ⟨⟩⟩]
   show XG _ _ _ _ _ (cellsH (blk (W 13)) [sN] 115 :: ([cellsH b2 [a1, a2] 76, cellsH b1 [arv, rsv] 39] ++ R)) _
   refine qi (qC [] _ [((aggAt (tupAt (W 9) 0) 0))] qV rfl rfl rfl (qj (qJ (RowsF.isSl f9_1hr)) qK) rfl rfl rfl ?_)
   exact ⟨trivial, rfl⟩
  exact stepsG.nil
 intro W F4 le4 hphi
 obtain ⟨e8, f8_1ha⟩ := hphi 8 (by decide)
 obtain ⟨e9, f9_1hr⟩ := hphi 9 (by decide)
 have e10 : W 10 = (.tuple #[.agg #[((aggAt (tupAt (W 9) 0) 0))], .bool ((matchB ar ((rs.getD r ([], [])).1) ((sub ar t p))).isSome)] : Value) := hphi 10 (by decide)
 have e11 : W 11 = (.agg #[((aggAt (tupAt (W 9) 0) 0))] : Value) := hphi 11 (by decide)
 have e13 : W 13 = ptr (blk (W 13)) 0 := hphi 13 (by decide)
 generalize hu1 : ((W 8)) = u1 at e8 f8_1ha e9 f9_1hr e10 e11 e13
 generalize hu2 : ((aggAt (tupAt (W 9) 0) 0)) = u2 at e8 f8_1ha e9 f9_1hr e10 e11 e13
 generalize hu3 : blk (W 13) = b5 at e8 f8_1ha e9 f9_1hr e10 e11 e13
 rw [eS (l := [(9, (.tuple #[.agg #[u2], .bool ((matchB ar ((rs.getD r ([], [])).1) ((sub ar t p))).isSome)])), (12, _), (13, ptr b5 0)]) ⟨(e9).symm, (hphi 12 (by decide)), e13, ⟨⟩⟩]
 replace har := har.mono le4
 replace ht := ht.mono le4
 replace ha2 := ha2.mono le4
 show XL _ _ _ _ _ _ _ (cellsH b5 [u2] 115 :: cellsH b2 [a1, a2] 76 :: cellsH b1 [arv, rsv] 39 :: L)
 refine qg (.bool ((matchB ar ((rs.getD r ([], [])).1) ((sub ar t p))).isSome)) rfl (qb (qc (qc (qa (qd (.bool ((matchB ar ((rs.getD r ([], [])).1) ((sub ar t p))).isSome)) rfl (cX (jn rfl (qb ?_))))))))
 refine jN (t := !((matchB ar ((rs.getD r ([], [])).1) ((sub ar t p))).isSome)) rfl (fun h1 => ?_) (fun h1 => ?_)
 ·have hms : (matchB ar (rs.getD r ([], [])).1 (sub ar t p)).isSome = false := by simpa using h1
  refine qc (qa (cX (qx (s := 1) [] [ii (0)] [] qf qy jh rfl (by decide) rfl CellsAre.nil rfl ?_)))
  intro v3 hv1
  refine qg (v3) rfl (qg (.bool (false)) rfl (qb ?_))
  show X _ _ _ _ _ _ (intsH 2 v3 ([] : List Int) :: cellsH b5 [u2] 115 :: cellsH b2 [a1, a2] 76 :: cellsH b1 [arv, rsv] 39 :: L)
  refine je [] _ _ rfl (fun F5 le5 hz2 => ?_)
  replace har := har.mono le5
  replace ht := ht.mono le5
  replace ha2 := ha2.mono le5
  replace f9_1hr := f9_1hr.mono le5
  have hf2 : IntsF F5 v3 ([]) := intsH.fz (xs := []) hz2.fz
  refine qw (qm (qs (L' := L) [v3, .bool (false)] (.tuple #[v3, .bool (false)]) (.tmp rfl (.tmp rfl .nil)) rfl (qh le4 le5) rF (sD (sD (sD sR))) ?_))
  have hz := stepL_nomatch hms
  exact ⟨_, by rw [hz]; rfl, by rw [hz]; exact hf2, rfl⟩
 have hms : (matchB ar (rs.getD r ([], [])).1 (sub ar t p)).isSome = true := by simpa using h1
 refine qz (qc (qa (cX (qn [u2] jC qV rfl rfl (Rd.ownN [] rfl rfl) (cX (qk (1) jp rfl qu (by decide) rfl rfl (cX (ql qZ rfl (Rd.own [_] rfl rfl) (cX (qo (args := [.agg #[u2], a2]) call210 rfl (l2Filled_spec f9_1hr ha2 (hsl := (by first | assumption | rfl | omega | simp)) (hsb := (fun i => by have := hmp2 i; omega)) (htl := (by first | assumption | rfl | omega | simp)) (htg := (fun k hk => by have := hRg k hk; omega))) ?_))))))))))
 rintro _ F6 _ le6 ⟨x3, rfl, hr5, rfl⟩
 replace har := har.mono le6
 replace ht := ht.mono le6
 refine qd (.tuple #[x3, .bool ((fillL (matchP ar ((rs.getD r ([], [])).1) ((sub ar t p))) ((rs.getD r ([], [])).2)).isSome)]) rfl (cX (qQ (x3) rfl rfl (cX (qQ (.bool ((fillL (matchP ar ((rs.getD r ([], [])).1) ((sub ar t p))) ((rs.getD r ([], [])).2)).isSome)) rfl rfl (qg (x3) rfl (qg (.bool ((fillL (matchP ar ((rs.getD r ([], [])).1) ((sub ar t p))) ((rs.getD r ([], [])).2)).isSome)) rfl (qb (qc (qc (qa (qd (.bool ((fillL (matchP ar ((rs.getD r ([], [])).1) ((sub ar t p))) ((rs.getD r ([], [])).2)).isSome)) rfl (cX (jn rfl (qb ?_))))))))))))))
 refine jN (t := !((fillL (matchP ar ((rs.getD r ([], [])).1) ((sub ar t p))) ((rs.getD r ([], [])).2)).isSome)) rfl (fun h2 => ?_) (fun h2 => ?_)
 ·have hfs : (fillL (matchP ar (rs.getD r ([], [])).1 (sub ar t p)) (rs.getD r ([], [])).2).isSome = false := by simpa using h2
  refine qc (qa (cX (qx (s := 1) [] [ii (0)] [] qf qy jh rfl (by decide) rfl CellsAre.nil rfl ?_)))
  intro v4 hv2
  refine qg (v4) rfl (qg (.bool (false)) rfl (qb ?_))
  show X _ _ _ _ _ _ (intsH 2 v4 ([] : List Int) :: cellsH b5 [u2] 115 :: cellsH b2 [a1, a2] 76 :: cellsH b1 [arv, rsv] 39 :: L)
  refine je [] _ _ rfl (fun F7 le7 hz3 => ?_)
  replace har := har.mono le7
  replace ht := ht.mono le7
  replace hr5 := hr5.mono le7
  have hf3 : IntsF F7 v4 ([]) := intsH.fz (xs := []) hz3.fz
  refine qw (qm (qs (L' := L) [v4, .bool (false)] (.tuple #[v4, .bool (false)]) (.tmp rfl (.tmp rfl .nil)) rfl (qh (qh le4 le6) le7) rF (sD (sD (sD sR))) ?_))
  have hz := stepL_nofill hms hfs
  exact ⟨_, by rw [hz]; rfl, by rw [hz]; exact hf3, rfl⟩
 have hfs : (fillL (matchP ar (rs.getD r ([], [])).1 (sub ar t p)) (rs.getD r ([], [])).2).isSome = true := by simpa using h2
 have hfl := fill_getD_len hfs (by omega)
 refine qz (qc (qa (cX (qk (0) ja rfl qY (by decide) rfl rfl (cX (qn [arv] js qY rfl rfl (Rd.ownN [_, _] rfl rfl) (qd (tv) rfl (qd (ii ((p : Int))) rfl (qd (x3) rfl (cX (qo (args := [.agg #[arv], tv, ii (p : Int), x3]) call211 rfl (l3Put_spec (p := p) har ht hr5 (ho := (by first | assumption | rfl | omega | simp)) (hp := (by first | assumption | rfl | omega | simp)) (hul := (by first | assumption | rfl | omega | simp))) ?_)))))))))))
 rintro _ F8 _ le8 ⟨x4, rfl, hr6, rfl⟩
 refine cX (qQ (x4) rfl rfl (cX (qQ (.bool ((putL ar t p ((fillL (matchP ar ((rs.getD r ([], [])).1) ((sub ar t p))) ((rs.getD r ([], [])).2)).getD [])).isSome)) rfl rfl (qg (x4) rfl (qg (.bool ((putL ar t p ((fillL (matchP ar ((rs.getD r ([], [])).1) ((sub ar t p))) ((rs.getD r ([], [])).2)).getD [])).isSome)) rfl (qb (qw (qs (L' := L) [x4, .bool ((putL ar t p ((fillL (matchP ar ((rs.getD r ([], [])).1) ((sub ar t p))) ((rs.getD r ([], [])).2)).getD [])).isSome)] (.tuple #[x4, .bool ((putL ar t p ((fillL (matchP ar ((rs.getD r ([], [])).1) ((sub ar t p))) ((rs.getD r ([], [])).2)).getD [])).isSome)]) (.tmp rfl (.tmp rfl .nil)) rfl (qh (qh le4 le6) le8) rF (sD (sD (sD sR))) ?_))))))))
 have hz := stepL_put hms hfs
 exact ⟨_, by rw [hz], by rw [hz]; exact hr6, rfl⟩
end Go.Proofs.YtenomejgjcpbdaaGreat
set_option linter.unusedSimpArgs false
set_option linter.unusedVariables false
namespace Go.Proofs.YtenomejgjcpbdaaGreat
open Go X M Tryz
end Go.Proofs.YtenomejgjcpbdaaGreat
set_option linter.unusedSimpArgs false
set_option linter.unusedVariables false
namespace Go.Proofs.YtenomejgjcpbdaaGreat
open Go X M Tryz
end Go.Proofs.YtenomejgjcpbdaaGreat
set_option linter.unusedSimpArgs false
set_option linter.unusedVariables false
namespace Go.Proofs.YtenomejgjcpbdaaGreat
open Go X M Tryz
end Go.Proofs.YtenomejgjcpbdaaGreat
set_option linter.unusedSimpArgs false
set_option linter.unusedVariables false
namespace Go.Proofs.YtenomejgjcpbdaaGreat
open Go X M Tryz
end Go.Proofs.YtenomejgjcpbdaaGreat
set_option linter.unusedSimpArgs false
set_option linter.unusedVariables false
namespace Go.Proofs.YtenomejgjcpbdaaGreat
open Go X M Tryz
end Go.Proofs.YtenomejgjcpbdaaGreat
set_option linter.unusedSimpArgs false
set_option linter.unusedVariables false
namespace Go.Proofs.YtenomejgjcpbdaaGreat
open Go X M Tryz

/- impl.stepArgs -/
theorem stepArgs_spec {F : FH} {L : List HP} {arv : Value} {ar : List Int} (har : IntsF F arv ar) {rsv : Value} {rs : List (List Int × List Int)} (hrs : PairsF F rsv rs) {tv : Value} {t : List Int} (ht : IntsF F tv t) {p : Int} {r : Int} :
    Does prog 310 [.agg #[arv, rsv], tv, ii (p), ii (r)] F (L) (fun v F' L' => (.bool (stepAtOk ar rs t p r) : Value) = v ∧ F = F' ∧ L = L') := by
 refine qL func310 rfl rfl rfl (qc (qa (cX (jd [arv, rsv] rfl rfl ?_))))
 intro b1
 refine qg (.bool (false)) rfl (qb (qc (qa (cX (qn [arv, rsv] jr jl rfl rfl (Rd.ownN [] rfl rfl) (cX (qo (args := [.agg #[arv, rsv]]) call131 rfl (SystemOk_spec har hrs) ?_)))))))
 rintro _ _ _ _ ⟨rfl, rfl, rfl⟩
 refine qd (.bool (sysOk ar rs)) rfl ?_
 by_cases h1 : (sysOk ar rs) = true
 ·refine qp (t := 11) rfl (vB h1) (qk (0) ja rfl qY (by decide) rfl rfl (qp (t := 11) rfl (vB h1) (qn [arv] js qY rfl rfl (Rd.ownN [] rfl rfl) (qp (t := 11) rfl (vB h1) (qq (tv) rfl (qp (t := 11) rfl (vB h1) (qq (ii (p)) rfl (qp (t := 11) rfl (vB h1) (qo (args := [.agg #[arv], tv, ii (p)]) call233 rfl (posOk_spec (n := p) har ht) ?_)))))))))
  rintro _ _ _ _ ⟨rfl, rfl, rfl⟩
  refine cX (qU (.bool (posOk ar t p)) (vB h1) rfl (qd (.bool (posOk ar t p)) rfl ?_))
  by_cases h2 : (posOk ar t p) = true
  ·refine qp (t := 18) rfl (vB h2) (qq (ii (r)) rfl (qp (t := 18) rfl (vB h2) (ye rfl rfl (cX (qU (.bool (decide ((r : Int) ≥ 0))) (vB h2) rfl (qd (.bool (decide ((r : Int) ≥ 0))) rfl ?_))))))
   by_cases h3 : (r : Int) ≥ 0
   ·refine qp (t := 22) rfl (vT h3) (qq (ii (r)) rfl (qp (t := 22) rfl (vT h3) (qk (1) ja rfl yd (by decide) rfl rfl (qp (t := 22) rfl (vT h3) (ql isAgg37 rfl (Rd.own [] rfl rfl) (qp (t := 22) rfl (vT h3) (qD jA rfl hrs.slv (qp (t := 22) rfl (vT h3) (jf rfl rfl (cX (qU (.bool (decide ((r : Int) < (rs.length : Int)))) (vT h3) rfl (qg (.bool (decide ((r : Int) < (rs.length : Int)))) rfl (qb (qw (qs (L' := L) [.bool (decide ((r : Int) < (rs.length : Int)))] (.bool (decide ((r : Int) < (rs.length : Int)))) (.tmp rfl .nil) rfl rF rF (sD sR) ?_)))))))))))))))
    exact ⟨(vB (by unfold stepAtOk rightB; cases hA : sysOk ar rs <;> cases hB : termOk ar t <;> simp_all [posOk] <;> omega)), rfl, rfl⟩
   refine qr (t := 22) rfl (vF h3) (qr (t := 22) rfl (vF h3) (qr (t := 22) rfl (vF h3) (qr (t := 22) rfl (vF h3) (qr (t := 22) rfl (vF h3) (cX (qS (.bool (false)) (vF h3) rfl (qg (.bool (false)) rfl (qb (qw (qs (L' := L) [.bool (false)] (.bool (false)) (.tmp rfl .nil) rfl rF rF (sD sR) ?_))))))))))
   exact ⟨(vB (by unfold stepAtOk rightB; cases hA : sysOk ar rs <;> cases hB : termOk ar t <;> simp_all [posOk] <;> omega)), rfl, rfl⟩
  rw [Bool.not_eq_true] at h2
  refine qr (t := 18) rfl (vB h2) (qr (t := 18) rfl (vB h2) (cX (qS (.bool (false)) (vB h2) rfl (qd (.bool (false)) rfl (qr (t := 22) rfl rfl (qr (t := 22) rfl rfl (qr (t := 22) rfl rfl (qr (t := 22) rfl rfl (qr (t := 22) rfl rfl (cX (qS (.bool (false)) rfl rfl ?_)))))))))))
  refine qg (.bool (false)) rfl (qb (qw (qs (L' := L) [.bool (false)] (.bool (false)) (.tmp rfl .nil) rfl rF rF (sD sR) ?_)))
  exact ⟨(vB (by unfold stepAtOk rightB; cases hA : sysOk ar rs <;> cases hB : termOk ar t <;> simp_all [posOk] <;> omega)), rfl, rfl⟩
 rw [Bool.not_eq_true] at h1
 refine qr (t := 11) rfl (vB h1) (qr (t := 11) rfl (vB h1) (qr (t := 11) rfl (vB h1) (qr (t := 11) rfl (vB h1) (qr (t := 11) rfl (vB h1) (cX (qS (.bool (false)) (vB h1) rfl (qd (.bool (false)) rfl (qr (t := 18) rfl rfl (qr (t := 18) rfl rfl (cX (qS (.bool (false)) rfl rfl ?_)))))))))))
 refine qd (.bool (false)) rfl (qr (t := 22) rfl rfl (qr (t := 22) rfl rfl (qr (t := 22) rfl rfl (qr (t := 22) rfl rfl (qr (t := 22) rfl rfl (cX (qS (.bool (false)) rfl rfl (qg (.bool (false)) rfl (qb (qw (qs (L' := L) [.bool (false)] (.bool (false)) (.tmp rfl .nil) rfl rF rF (sD sR) ?_)))))))))))
 exact ⟨(vB (by unfold stepAtOk rightB; cases hA : sysOk ar rs <;> cases hB : termOk ar t <;> simp_all [posOk] <;> omega)), rfl, rfl⟩

/- impl.StepAt -/
theorem StepAt_spec {F : FH} {L : List HP} {arv : Value} {ar : List Int} (har : IntsF F arv ar) {rsv : Value} {rs : List (List Int × List Int)} (hrs : PairsF F rsv rs) {tv : Value} {t : List Int} (ht : IntsF F tv t) {p : Int} {r : Int} :
    Does prog 254 [.agg #[arv, rsv], tv, ii (p), ii (r)] F (L) (fun v F' L' => ∃ (a : Value), (.tuple #[a, .bool ((stepAtL ar rs t p r).isSome)] : Value) = v ∧ (IntsF F' a ((stepAtL ar rs t p r).getD [])) ∧ (Fresh F F' (intsH 2 a ((stepAtL ar rs t p r).getD []))) ∧ L = L') := by
 refine qL func254 rfl rfl rfl (qc (qa (cX (jd [arv, rsv] rfl rfl ?_))))
 intro b1
 refine qg (sN) rfl (qg (.bool (false)) rfl (qb (qc (qc (qa (cX (qn [arv, rsv] jr jl rfl rfl (Rd.ownN [] rfl rfl) (qd (tv) rfl (qd (ii (p)) rfl (qd (ii (r)) rfl (cX (qo (args := [.agg #[arv, rsv], tv, ii (p), ii (r)]) call310 rfl (stepArgs_spec (p := p) (r := r) har hrs ht) ?_))))))))))))
 rintro _ _ _ _ ⟨rfl, rfl, rfl⟩
 refine cX (jn rfl (qb ?_))
 refine jN (t := !(stepAtOk ar rs t p r)) rfl (fun h1 => ?_) (fun h1 => ?_)
 ·have hz0 : stepAtL ar rs t p r = none := by rw [stepAtL, if_neg (by simpa using h1)]
  refine qc (qa (qg (sN) rfl (qg (.bool (false)) rfl (qb (qw (qm (qs (L' := L) [sN, .bool (false)] (.tuple #[sN, .bool (false)]) (.tmp rfl (.tmp rfl .nil)) rfl rF rF (sD sR) ?_)))))))
  exact ⟨_, by rw [hz0]; rfl, by rw [hz0]; exact IntsF.nilV, by rw [hz0]; exact Fresh.ofNil _, rfl⟩
 have hok : stepAtOk ar rs t p r = true := by simpa using h1
 have hok2 := hok
 unfold stepAtOk rightB at hok2
 simp only [Bool.and_eq_true, decide_eq_true_eq] at hok2
 obtain ⟨⟨⟨hsys, ho⟩, hp1⟩, hr1⟩ := hok2
 refine qz (qc (qa (cX (qn [arv, rsv] jr jl rfl rfl (Rd.ownN [] rfl rfl) (qd (tv) rfl (qd (ii (p)) rfl (qd (ii (r)) rfl (cX (qo (args := [.agg #[arv, rsv], tv, ii (((p).toNat : Nat) : Int), ii (((r).toNat : Nat) : Int)]) call225 (by rw [show (((p).toNat : Nat) : Int) = p from by omega, show (((r).toNat : Nat) : Int) = r from by omega]; rfl) (step_spec (p := (p).toNat) (r := (r).toNat) har hrs ht (hsys := (by first | assumption | rfl | omega | simp)) (ho := (by first | assumption | rfl | omega | simp)) (hp := (by first | assumption | rfl | omega | simp)) (hr := (by first | assumption | rfl | omega | simp))) ?_)))))))))
 rintro _ F1 _ le1 ⟨x1, rfl, hr1, hr2, hr3, rfl⟩
 refine cX (qQ (x1) rfl rfl (cX (qQ (.bool ((stepL ar rs t ((p).toNat) ((r).toNat)).isSome)) rfl rfl (qg (x1) rfl (qg (.bool ((stepL ar rs t ((p).toNat) ((r).toNat)).isSome)) rfl (qb (qw (qs (L' := L) [x1, .bool ((stepL ar rs t ((p).toNat) ((r).toNat)).isSome)] (.tuple #[x1, .bool ((stepL ar rs t ((p).toNat) ((r).toNat)).isSome)]) (.tmp rfl (.tmp rfl .nil)) rfl le1 rF (sD sR) ?_))))))))
 have e := show stepAtL ar rs t p r = stepL ar rs t p.toNat r.toNat from by rw [stepAtL, if_pos hok]
 exact ⟨_, by rw [e], by rw [e]; exact hr1, by rw [e]; exact hr3, rfl⟩
end Go.Proofs.YtenomejgjcpbdaaGreat
set_option linter.unusedSimpArgs false
set_option linter.unusedVariables false
namespace Go.Proofs.YtenomejgjcpbdaaGreat
open Go X M Tryz

/- impl.walkOk -/
theorem walkOk_spec {F : FH} {L : List HP} {arv : Value} {ar : List Int} (har : IntsF F arv ar) {rsv : Value} {rs : List (List Int × List Int)} (hrs : PairsF F rsv rs) {fv : Value} {f : List Int} (hf : IntsF F fv f) {ssv : Value} {ss : List StepT} (hss : StepsF F ssv ss) (hlf : f.length ≤ 4000000) (hsb : ∀ i, i < ss.length → (ss.getD i (0, 0, [])).2.2.length ≤ 4000000) :
    Does prog 163 [.agg #[arv, rsv], .agg #[fv, ssv]] F (L) (fun v F' L' => (.bool (((termOk ar f && decide (ss.length ≤ 60)) && goOk ar rs f ss)) : Value) = v ∧ F = F' ∧ L = L') := by
 refine qL func163 rfl rfl rfl (qc (qa (cX (jd [arv, rsv] rfl rfl ?_))))
 intro b1
 refine cX (jd [fv, ssv] rfl rfl ?_)
 intro b2
 refine qg (.bool (false)) rfl (qb (qc (qc (qa (cX (qk (0) ja rfl qY (by decide) rfl rfl (cX (qn [arv] js qY rfl rfl (Rd.ownN [_] rfl rfl) (cX (qk (0) qA rfl qu (by decide) rfl rfl (cX (ql qZ rfl (Rd.own [] rfl rfl) (cX (qo (args := [.agg #[arv], fv]) call113 rfl (TermOk_spec har hf) ?_))))))))))))))
 rintro _ _ _ _ ⟨rfl, rfl, rfl⟩
 refine cX (jn rfl (qd (.bool (!(termOk ar f))) rfl ?_))
 by_cases h1 : (!(termOk ar f)) = true
 ·refine qr (t := 16) rfl (vB h1) (qr (t := 16) rfl (vB h1) (qr (t := 16) rfl (vB h1) (qr (t := 16) rfl (vB h1) (cX (qU (.bool (true)) (vB h1) rfl (qb (jI rfl (qc (qa (qg (.bool (false)) rfl (qb ?_)))))))))))
  refine qw (qm (qs (L' := L) [.bool (false)] (.bool (false)) (.tmp rfl .nil) rfl rF rF (sD (sD sR)) ?_))
  exact ⟨(vB (by simp_all <;> omega)), rfl, rfl⟩
 rw [Bool.not_eq_true] at h1
 refine qp (t := 16) rfl (vB h1) (qk (1) qA rfl jj (by decide) rfl rfl (qp (t := 16) rfl (vB h1) (ql jL rfl (Rd.own [] rfl rfl) (qp (t := 16) rfl (vB h1) (qD qG rfl hss.slv (qp (t := 16) rfl (vB h1) (jQ rfl rfl (cX (qS (.bool (decide (((ss.length : Int) : Int) > 60))) (vB h1) rfl (qb ?_))))))))))
 refine qE (p := ((ss.length : Int) : Int) > 60) rfl (fun h2 => ?_) (fun h2 => ?_)
 ·refine qc (qa (qg (.bool (false)) rfl (qb (qw (qm (qs (L' := L) [.bool (false)] (.bool (false)) (.tmp rfl .nil) rfl rF rF (sD (sD sR)) ?_))))))
  exact ⟨(vB (by simp_all <;> omega)), rfl, rfl⟩
 refine qz (qc (qa (cX (qk (0) qA rfl qu (by decide) rfl rfl (cX (ql qZ rfl (Rd.own [] rfl rfl) (qg (fv) rfl (qb (qc (qc (qa (cX (qk (1) qA rfl jj (by decide) rfl rfl (cX (ql jL rfl (Rd.own [] rfl rfl) (cX (qD qG rfl hss.slv (qd (ii (0)) rfl (qb (qN ?_))))))))))))))))))))
 refine jw (α := Nat × Value × List Int × FH) (fun xQ => [(2, ptr b1 0), (5, xQ.2.1), (25, ssv), (26, ii ((ss.length : Int))), (27, ii (((xQ.1 : Nat) : Int)))]) (fun xQ => cellsH b2 [fv, ssv] 45 :: cellsH b1 [arv, rsv] 39 :: L) (fun xQ F' => xQ.2.2.2 = F' ∧ F ≤ xQ.2.2.2 ∧ (IntsF xQ.2.2.2 xQ.2.1 xQ.2.2.1) ∧ (xQ.1 ≤ ss.length) ∧ (goOk ar rs f ss = goOk ar rs xQ.2.2.1 (ss.drop xQ.1)) ∧ (xQ.2.2.1.length ≤ 4000000)) (fun xQ => ss.length - xQ.1) (0, fv, f, F) ⟨rfl, rfl, rfl, rfl, rfl, ⟨⟩⟩ (sC (sC sR)) ⟨rfl, FLe.refl _, (hf), (by (try dsimp only) <;> omega), (rfl), (hlf)⟩ ?_
 rintro ⟨k, cv, cur, G1⟩ rE _ _ ⟨rfl, leG, hcv, hk, hgo, hcl⟩
 show X _ _ _ _ (envs [(2, ptr b1 0), (5, cv), (25, ssv), (26, ii ((ss.length : Int))), (27, ii ((k : Int)))] rE) _ (cellsH b2 [fv, ssv] 45 :: cellsH b1 [arv, rsv] 39 :: L)
 replace leG : F ≤ G1 := leG
 dsimp only at hcv hk hgo hcl
 have hsk := hsb k
 have leG1 := leG
 replace har := har.mono leG1
 replace hrs := hrs.mono leG1
 replace hss := hss.mono leG1
 refine qc (qa (cX (jf rfl rfl (qb (qc ?_)))))
 refine qE (p := (k : Int) < (ss.length : Int)) rfl (fun h3 => ?_) (fun h3 => ?_)
 ·refine qz (qc (qN (qc (qa (cX (qB k qG ji rfl rfl rfl hss.slv (by omega) rfl ?_))))))
  obtain ⟨a1, ha1, hr1, hr2, hr3⟩ := hss.rd (i := k) (by omega)
  refine cX (qn [ii ((ss.getD k (0, 0, [])).1), ii ((ss.getD k (0, 0, [])).2.1), a1] yl ji rfl rfl (Rd.three (hr1 _) (hr2 _) (hr3 _)) (cX (jc [ii (0), ii (0), sN] jE rfl ?_)))
  intro b3
  refine cX (qC [] _ [ii ((ss.getD k (0, 0, [])).1), ii ((ss.getD k (0, 0, [])).2.1), a1] ji rfl rfl rfl (qj rfl (qj rfl (qj (qJ (qF ha1)) qK))) rfl rfl rfl (qb (qc (qa (cX (qn [arv, rsv] jr jl rfl rfl (Rd.ownN [_, _] rfl rfl) (qd (cv) rfl (cX (qk (0) jm rfl qy (by decide) rfl rfl (cX (ql jt rfl (Rd.own [] rfl rfl) (cX (qk (1) jm rfl qy (by decide) rfl rfl (cX (ql jt rfl (Rd.own [] rfl rfl) (cX (qo (args := [.agg #[arv, rsv], cv, ii ((ss.getD k (0, 0, [])).1), ii ((ss.getD k (0, 0, [])).2.1)]) call254 rfl (StepAt_spec (p := (ss.getD k (0, 0, [])).1) (r := (ss.getD k (0, 0, [])).2.1) har hrs hcv) ?_)))))))))))))))))
  rintro _ F1 _ le1 ⟨x1, rfl, hr4, hr5, rfl⟩
  replace ha1 := ha1.mono le1
  refine qd (.tuple #[x1, .bool ((stepAtL ar rs cur ((ss.getD k (0, 0, [])).1) ((ss.getD k (0, 0, [])).2.1)).isSome)]) rfl (cX (qQ (x1) rfl rfl (cX (qQ (.bool ((stepAtL ar rs cur ((ss.getD k (0, 0, [])).1) ((ss.getD k (0, 0, [])).2.1)).isSome)) rfl rfl (qg (x1) rfl (qg (.bool ((stepAtL ar rs cur ((ss.getD k (0, 0, [])).1) ((ss.getD k (0, 0, [])).2.1)).isSome)) rfl (qb (qc (qc (qa (qd (.bool ((stepAtL ar rs cur ((ss.getD k (0, 0, [])).1) ((ss.getD k (0, 0, [])).2.1)).isSome)) rfl (cX (jn rfl (qd (.bool (!((stepAtL ar rs cur ((ss.getD k (0, 0, [])).1) ((ss.getD k (0, 0, [])).2.1)).isSome))) rfl ?_))))))))))))))
  by_cases h4 : (!((stepAtL ar rs cur ((ss.getD k (0, 0, [])).1) ((ss.getD k (0, 0, [])).2.1)).isSome)) = true
  ·have hu1 : (stepAtL ar rs cur (ss.getD k (0, 0, [])).1 (ss.getD k (0, 0, [])).2.1).isSome = false := by simpa using h4
   refine qr (t := 43) rfl (vB h4) (qr (t := 43) rfl (vB h4) (qr (t := 43) rfl (vB h4) (qr (t := 43) rfl (vB h4) (qr (t := 43) rfl (vB h4) (cX (qU (.bool (true)) (vB h4) rfl (qb (jI rfl (qc (qa (qg (.bool (false)) rfl ?_)))))))))))
   refine qb (qw (qm (qI (qm (qm (qI (qm (qs (L' := L) [.bool (false)] (.bool (false)) (.tmp rfl .nil) rfl rF (qh leG1 le1) (sD (sD (sD sR))) ?_))))))))
   exact ⟨(vB (by have hz := goOk_fail (ar := ar) (rs := rs) (t := cur) (ss := ss) (k := k) (by omega) (by first | exact .inl hu1 | exact .inr hu2); rw [hgo, hz]; simp)), rfl, rfl⟩
  rw [Bool.not_eq_true] at h4
  have hu1 : (stepAtL ar rs cur (ss.getD k (0, 0, [])).1 (ss.getD k (0, 0, [])).2.1).isSome = true := by simpa using h4
  refine qp (t := 43) rfl (vB h4) (qq (x1) rfl (qp (t := 43) rfl (vB h4) (qk (2) jm rfl qu (by decide) rfl rfl (qp (t := 43) rfl (vB h4) (ql qZ rfl (Rd.own [] rfl rfl) (qp (t := 43) rfl (vB h4) (qo (args := [x1, a1]) call156 rfl (Equal_spec hr4 ha1 (hbd := (by first | assumption | rfl | omega | (left; simp; done) | (right; simp; done)))) ?_)))))))
  rintro _ _ _ _ ⟨rfl, rfl, rfl⟩
  refine qp (t := 43) rfl (vB h4) (yj rfl (cX (qS (.bool (decide (¬(((stepAtL ar rs cur ((ss.getD k (0, 0, [])).1) ((ss.getD k (0, 0, [])).2.1)).getD []) = ((ss.getD k (0, 0, [])).2.2))))) (vB h4) rfl (qb ?_))))
  refine qE (p := ¬(((stepAtL ar rs cur ((ss.getD k (0, 0, [])).1) ((ss.getD k (0, 0, [])).2.1)).getD []) = ((ss.getD k (0, 0, [])).2.2))) rfl (fun h5 => ?_) (fun h5 => ?_)
  ·have hu2 : (stepAtL ar rs cur (ss.getD k (0, 0, [])).1 (ss.getD k (0, 0, [])).2.1).getD [] ≠ (ss.getD k (0, 0, [])).2.2 := h5
   refine qc (qa (qg (.bool (false)) rfl (qb (qw (qm (qI (qm (qm (qI (qm (qs (L' := L) [.bool (false)] (.bool (false)) (.tmp rfl .nil) rfl rF (qh leG1 le1) (sD (sD (sD sR))) ?_)))))))))))
   exact ⟨(vB (by have hz := goOk_fail (ar := ar) (rs := rs) (t := cur) (ss := ss) (k := k) (by omega) (by first | exact .inl hu1 | exact .inr hu2); rw [hgo, hz]; simp)), rfl, rfl⟩
  have hu2 : (stepAtL ar rs cur (ss.getD k (0, 0, [])).1 (ss.getD k (0, 0, [])).2.1).getD [] = (ss.getD k (0, 0, [])).2.2 := Classical.not_not.1 h5
  refine qz (qa (qd (x1) rfl (qg (x1) rfl (qb (qa (cX (qP (((k + 1 : Nat) : Int)) rfl rfl (by omega) (by omega) (qd (ii (((k + 1 : Nat) : Int))) rfl (qb ?_)))))))))
  exact ⟨(k + 1, x1, (stepAtL ar rs cur ((ss.getD k (0, 0, [])).1) ((ss.getD k (0, 0, [])).2.1)).getD [], F1), _, (qh leG1 le1), rF, ⟨rfl, rfl, rfl, rfl, rfl, ⟨⟩⟩, (sD (sC (sC sR))), ⟨rfl, (qh leG1 le1), (hr4), (by (try dsimp only) <;> omega), (by (try dsimp only); rw [hgo]; exact goOk_next (by omega) hu1 hu2), (by (try dsimp only); rw [hu2]; exact hsk (by omega))⟩, (by omega)⟩
 refine jo (qt (qt (qO (qc (qa (qg (.bool (true)) rfl (qb (qw (qs (L' := L) [.bool (true)] (.bool (true)) (.tmp rfl .nil) rfl rF leG1 (sD (sD sR)) ?_)))))))))
 exact ⟨(vB (by rw [hgo, goOk_end (by omega)]; simp_all <;> omega)), rfl, rfl⟩

/- impl.WalkOk -/
theorem WalkOk_spec {F : FH} {L : List HP} {arv : Value} {ar : List Int} (har : IntsF F arv ar) {rsv : Value} {rs : List (List Int × List Int)} (hrs : PairsF F rsv rs) {fv : Value} {f : List Int} (hf : IntsF F fv f) {ssv : Value} {ss : List StepT} (hss : StepsF F ssv ss) (hlf : f.length ≤ 4000000) (hsb : ∀ i, i < ss.length → (ss.getD i (0, 0, [])).2.2.length ≤ 4000000) :
    Does prog 77 [.agg #[arv, rsv], .agg #[fv, ssv]] F (L) (fun v F' L' => (.bool (walkOkL ar rs f ss) : Value) = v ∧ F = F' ∧ L = L') := by
 refine qL func77 rfl rfl rfl (qc (qa (cX (jd [arv, rsv] rfl rfl ?_))))
 intro b1
 refine cX (jd [fv, ssv] rfl rfl ?_)
 intro b2
 refine qg (.bool (false)) rfl (qb (qc (qa (cX (qn [arv, rsv] jr jl rfl rfl (Rd.ownN [_] rfl rfl) (cX (qo (args := [.agg #[arv, rsv]]) call131 rfl (SystemOk_spec har hrs) ?_)))))))
 rintro _ _ _ _ ⟨rfl, rfl, rfl⟩
 refine qd (.bool (sysOk ar rs)) rfl ?_
 by_cases h1 : (sysOk ar rs) = true
 ·refine qp (t := 7) rfl (vB h1) (qn [arv, rsv] jr jl rfl rfl (Rd.ownN [_] rfl rfl) (qp (t := 7) rfl (vB h1) (qn [fv, ssv] jy qH rfl rfl (Rd.ownN [] rfl rfl) (qp (t := 7) rfl (vB h1) (qo (args := [.agg #[arv, rsv], .agg #[fv, ssv]]) call163 rfl (walkOk_spec har hrs hf hss (hlf := (by first | assumption | rfl | omega | simp)) (hsb := (by first | assumption | rfl | omega | simp))) ?_)))))
  rintro _ _ _ _ ⟨rfl, rfl, rfl⟩
  refine cX (qU (.bool (((termOk ar f && decide (ss.length ≤ 60)) && goOk ar rs f ss))) (vB h1) rfl (qg (.bool (((termOk ar f && decide (ss.length ≤ 60)) && goOk ar rs f ss))) rfl (qb (qw (qs (L' := L) [.bool (((termOk ar f && decide (ss.length ≤ 60)) && goOk ar rs f ss))] (.bool (((termOk ar f && decide (ss.length ≤ 60)) && goOk ar rs f ss))) (.tmp rfl .nil) rfl rF rF (sD (sD sR)) ?_)))))
  exact ⟨(vB (by rw [walkOkL, rightB]; simp_all [Bool.and_assoc])), rfl, rfl⟩
 rw [Bool.not_eq_true] at h1
 refine qr (t := 7) rfl (vB h1) (qr (t := 7) rfl (vB h1) (qr (t := 7) rfl (vB h1) (cX (qS (.bool (false)) (vB h1) rfl (qg (.bool (false)) rfl (qb (qw (qs (L' := L) [.bool (false)] (.bool (false)) (.tmp rfl .nil) rfl rF rF (sD (sD sR)) ?_))))))))
 exact ⟨(vB (by rw [walkOkL, rightB]; simp_all [Bool.and_assoc])), rfl, rfl⟩

/- (impl.Walk).end -/
theorem walkEnd_spec {F : FH} {L : List HP} {fv : Value} {f : List Int} (hf : IntsF F fv f) {ssv : Value} {ss : List StepT} (hss : StepsF F ssv ss) (hlss : ss.length ≤ 4000000) :
    Does prog 154 [.agg #[fv, ssv]] F (L) (fun v F' L' => F = F' ∧ ∃ (a : Value), (a : Value) = v ∧ (IntsF F' a (endL f ss)) ∧ L = L') := by
 refine qL func154 rfl rfl rfl (qc (qa (cX (jd [fv, ssv] rfl rfl ?_))))
 intro b1
 refine qg (sN) rfl (qb (qc (qc (qa (cX (qk (1) qA rfl jj (by decide) rfl rfl (cX (ql jL rfl (Rd.own [] rfl rfl) (cX (qD qG rfl hss.slv (qg (ii ((ss.length : Int))) rfl (qb (qc (qa (qd (ii ((ss.length : Int))) rfl (cX (jQ rfl rfl (qb ?_))))))))))))))))))
 refine qE (p := ((ss.length : Int) : Int) > 0) rfl (fun h1 => ?_) (fun h1 => ?_)
 ·refine qc (qa (cX (qk (1) qA rfl jj (by decide) rfl rfl (cX (ql jL rfl (Rd.own [] rfl rfl) (qd (ii ((ss.length : Int))) rfl (cX (jF (((((ss).length) - 1 : Nat) : Int)) rfl rfl (by omega) (by omega) (cX (qB (((ss).length) - 1) qG ji rfl rfl rfl hss.slv (by omega) rfl (cX (jW ((((ss).length) - 1) * 3 + 2) jm rfl qu (by decide) rfl rfl ?_))))))))))))
  obtain ⟨a1, ha1, hr1, hr2, hr3⟩ := hss.rd (i := ((ss).length) - 1) (by omega)
  refine cX (ql qZ rfl (hr3 _) (qg (a1) rfl (qb (qw (qm (qs (L' := L) [a1] (a1) (.tmp rfl .nil) rfl rF rF (sD sR) ?_))))))
  exact ⟨rfl, _, rfl, by rw [endL, if_neg (by omega)]; exact ha1, rfl⟩
 refine qz (qc (qa (cX (qk (0) qA rfl qu (by decide) rfl rfl (cX (ql qZ rfl (Rd.own [] rfl rfl) (qg (fv) rfl (qb (qw (qs (L' := L) [fv] (fv) (.tmp rfl .nil) rfl rF rF (sD sR) ?_))))))))))
 exact ⟨rfl, _, rfl, by rw [endL, if_pos (by omega)]; exact hf, rfl⟩

/- spec.StepAt -/
theorem sStepAt_spec {F : FH} {L : List HP} {arv : Value} {ar : List Int} (har : IntsF F arv ar) {rsv : Value} {rs : List (List Int × List Int)} (hrs : PairsF F rsv rs) {tv : Value} {t : List Int} (ht : IntsF F tv t) {p : Int} {r : Int} (hla : ar.length ≤ 4000000) (hlr : rs.length ≤ 4000000) (hrb : ∀ i, i < rs.length → (rs.getD i ([], [])).1.length ≤ 4000000 ∧ (rs.getD i ([], [])).2.length ≤ 4000000) (hlt : t.length ≤ 4000000) :
    Does prog 37 [.agg #[arv, rsv], tv, ii (p), ii (r)] F (L) (fun v F' L' => ∃ (a : Value), (.tuple #[a, .bool ((stepAtL ar rs t p r).isSome)] : Value) = v ∧ (IntsF F' a ((stepAtL ar rs t p r).getD [])) ∧ L = L') := by
 refine qL func37 rfl rfl rfl (qc (qa (cX (jd [arv, rsv] rfl rfl ?_))))
 intro b1
 refine qg (sN) rfl (qg (.bool (false)) rfl (qb (qc (qc (qa (cX (qn [arv, rsv] jr jl rfl rfl (Rd.ownN [] rfl rfl) (qd (tv) rfl (cX (qo (args := [.agg #[arv, rsv], tv]) call108 rfl (l7Right_spec har hrs ht (hla := (by first | assumption | rfl | omega | simp)) (hlr := (by first | assumption | rfl | omega | simp)) (hrb := (by first | assumption | rfl | omega | simp)) (hlt := (by first | assumption | rfl | omega | simp))) ?_))))))))))
 rintro _ _ _ _ ⟨rfl, rfl, rfl⟩
 refine cX (jn rfl (qd (.bool (!(rightB ar rs t))) rfl ?_))
 by_cases h1 : (!(rightB ar rs t)) = true
 ·refine qr (t := 14) rfl (vB h1) (qr (t := 14) rfl (vB h1) (qr (t := 14) rfl (vB h1) (qr (t := 14) rfl (vB h1) (cX (qU (.bool (true)) (vB h1) rfl (qd (.bool (true)) rfl (qr (t := 20) rfl rfl (qr (t := 20) rfl rfl (qr (t := 20) rfl rfl (qr (t := 20) rfl rfl ?_))))))))))
  refine qr (t := 20) rfl rfl (qr (t := 20) rfl rfl (qr (t := 20) rfl rfl (cX (qU (.bool (true)) rfl rfl (qb (jI rfl (qc (qa (cX (qx (s := 1) [] [ii (0)] [] qf qy jh rfl (by decide) rfl CellsAre.nil rfl ?_))))))))))
  intro v1 hv1
  refine qg (v1) rfl (qg (.bool (false)) rfl (qb ?_))
  show X _ _ _ _ _ _ (intsH 2 v1 ([] : List Int) :: cellsH b1 [arv, rsv] 39 :: L)
  refine je [] _ _ rfl (fun F1 le1 hz1 => ?_)
  replace har := har.mono le1
  replace hrs := hrs.mono le1
  replace ht := ht.mono le1
  have hf1 : IntsF F1 v1 ([]) := intsH.fz (xs := []) hz1.fz
  refine qw (qm (qs (L' := L) [v1, .bool (false)] (.tuple #[v1, .bool (false)]) (.tmp rfl (.tmp rfl .nil)) rfl le1 rF (sD sR) ?_))
  have hz0 : stepAtL ar rs t p r = none := by rw [stepAtL, if_neg (by unfold stepAtOk; cases hA : rightB ar rs t <;> simp_all <;> omega)]
  exact ⟨_, by rw [hz0]; rfl, by rw [hz0]; exact hf1, rfl⟩
 rw [Bool.not_eq_true] at h1
 refine qp (t := 14) rfl (vB h1) (qq (tv) rfl (qp (t := 14) rfl (vB h1) (qq (ii (p)) rfl (qp (t := 14) rfl (vB h1) (qo (args := [tv, ii (p)]) call109 rfl (l1There_spec (n := p) ht (hbd := (by first | assumption | rfl | omega | simp))) ?_)))))
 rintro _ _ _ _ ⟨rfl, rfl, rfl⟩
 refine qp (t := 14) rfl (vB h1) (yj rfl (cX (qS (.bool (decide (¬(0 ≤ p ∧ p < (t.length : Int))))) (vB h1) rfl (qd (.bool (decide (¬(0 ≤ p ∧ p < (t.length : Int))))) rfl ?_))))
 by_cases h2 : ¬(0 ≤ p ∧ p < (t.length : Int))
 ·refine qr (t := 20) rfl (vT h2) (qr (t := 20) rfl (vT h2) (qr (t := 20) rfl (vT h2) (qr (t := 20) rfl (vT h2) (qr (t := 20) rfl (vT h2) (qr (t := 20) rfl (vT h2) (qr (t := 20) rfl (vT h2) (cX (qU (.bool (true)) (vT h2) rfl (qb (jI rfl ?_))))))))))
  refine qc (qa (cX (qx (s := 1) [] [ii (0)] [] qf qy jh rfl (by decide) rfl CellsAre.nil rfl ?_)))
  intro v2 hv2
  refine qg (v2) rfl (qg (.bool (false)) rfl (qb ?_))
  show X _ _ _ _ _ _ (intsH 2 v2 ([] : List Int) :: cellsH b1 [arv, rsv] 39 :: L)
  refine je [] _ _ rfl (fun F2 le2 hz2 => ?_)
  replace har := har.mono le2
  replace hrs := hrs.mono le2
  replace ht := ht.mono le2
  have hf2 : IntsF F2 v2 ([]) := intsH.fz (xs := []) hz2.fz
  refine qw (qm (qs (L' := L) [v2, .bool (false)] (.tuple #[v2, .bool (false)]) (.tmp rfl (.tmp rfl .nil)) rfl le2 rF (sD sR) ?_))
  have hz0 : stepAtL ar rs t p r = none := by rw [stepAtL, if_neg (by unfold stepAtOk; cases hA : rightB ar rs t <;> simp_all <;> omega)]
  exact ⟨_, by rw [hz0]; rfl, by rw [hz0]; exact hf2, rfl⟩
 refine qp (t := 20) rfl (vF h2) (qq (ii (r)) rfl (qp (t := 20) rfl (vF h2) (qk (1) ja rfl yd (by decide) rfl rfl (qp (t := 20) rfl (vF h2) (ql isAgg37 rfl (Rd.own [] rfl rfl) (qp (t := 20) rfl (vF h2) (qD jA rfl hrs.slv (qp (t := 20) rfl (vF h2) (jF (((rs.length : Int)) - 1) rfl rfl (by omega) (by omega) (qp (t := 20) rfl (vF h2) (qo (args := [ii (r), ii (0), ii (((rs.length : Int)) - 1)]) call110 rfl (l1In_spec (n := r) (a := 0) (b := ((rs.length : Int)) - 1)) ?_)))))))))))
 rintro _ _ _ _ ⟨rfl, rfl, rfl⟩
 refine qp (t := 20) rfl (vF h2) (yj rfl (cX (qS (.bool (decide (¬(0 ≤ r ∧ r ≤ (((rs.length : Int)) - 1))))) (vF h2) rfl (qb ?_))))
 refine qE (p := ¬(0 ≤ r ∧ r ≤ (((rs.length : Int)) - 1))) rfl (fun h3 => ?_) (fun h3 => ?_)
 ·refine qc (qa (cX (qx (s := 1) [] [ii (0)] [] qf qy jh rfl (by decide) rfl CellsAre.nil rfl ?_)))
  intro v3 hv3
  refine qg (v3) rfl (qg (.bool (false)) rfl (qb ?_))
  show X _ _ _ _ _ _ (intsH 2 v3 ([] : List Int) :: cellsH b1 [arv, rsv] 39 :: L)
  refine je [] _ _ rfl (fun F3 le3 hz3 => ?_)
  replace har := har.mono le3
  replace hrs := hrs.mono le3
  replace ht := ht.mono le3
  have hf3 : IntsF F3 v3 ([]) := intsH.fz (xs := []) hz3.fz
  refine qw (qm (qs (L' := L) [v3, .bool (false)] (.tuple #[v3, .bool (false)]) (.tmp rfl (.tmp rfl .nil)) rfl le3 rF (sD sR) ?_))
  have hz0 : stepAtL ar rs t p r = none := by rw [stepAtL, if_neg (by unfold stepAtOk; cases hA : rightB ar rs t <;> simp_all <;> omega)]
  exact ⟨_, by rw [hz0]; rfl, by rw [hz0]; exact hf3, rfl⟩
 refine qz (qc (qa ?_))
 have hok : stepAtOk ar rs t p r = true := by unfold stepAtOk; cases hA : rightB ar rs t <;> simp_all <;> omega
 have hok2 := hok
 unfold stepAtOk rightB at hok2
 simp only [Bool.and_eq_true, decide_eq_true_eq] at hok2
 obtain ⟨⟨⟨hsys, ho⟩, hp1⟩, hr1⟩ := hok2
 refine cX (qn [arv, rsv] jr jl rfl rfl (Rd.ownN [] rfl rfl) (qd (tv) rfl (qd (ii (p)) rfl (qd (ii (r)) rfl (cX (qo (args := [.agg #[arv, rsv], tv, ii (((p).toNat : Nat) : Int), ii (((r).toNat : Nat) : Int)]) call111 (by rw [show (((p).toNat : Nat) : Int) = p from by omega, show (((r).toNat : Nat) : Int) = r from by omega]; rfl) (l7Step_spec (p := (p).toNat) (r := (r).toNat) har hrs ht (hsys := (by first | assumption | rfl | omega | simp)) (ho := (by first | assumption | rfl | omega | simp)) (hp := (by first | assumption | rfl | omega | simp)) (hr := (by first | assumption | rfl | omega | simp))) ?_))))))
 rintro _ F4 _ le4 ⟨x1, rfl, hr1, rfl⟩
 refine cX (qQ (x1) rfl rfl (cX (qQ (.bool ((stepL ar rs t ((p).toNat) ((r).toNat)).isSome)) rfl rfl (qg (x1) rfl (qg (.bool ((stepL ar rs t ((p).toNat) ((r).toNat)).isSome)) rfl (qb (qw (qs (L' := L) [x1, .bool ((stepL ar rs t ((p).toNat) ((r).toNat)).isSome)] (.tuple #[x1, .bool ((stepL ar rs t ((p).toNat) ((r).toNat)).isSome)]) (.tmp rfl (.tmp rfl .nil)) rfl le4 rF (sD sR) ?_))))))))
 have e := show stepAtL ar rs t p r = stepL ar rs t p.toNat r.toNat from by rw [stepAtL, if_pos hok]
 exact ⟨_, by rw [e], by rw [e]; exact hr1, rfl⟩

/- spec.WalkOk -/
theorem sWalkOk_spec {F : FH} {L : List HP} {arv : Value} {ar : List Int} (har : IntsF F arv ar) {rsv : Value} {rs : List (List Int × List Int)} (hrs : PairsF F rsv rs) {fv : Value} {f : List Int} (hf : IntsF F fv f) {ssv : Value} {ss : List StepT} (hss : StepsF F ssv ss) (hla : ar.length ≤ 4000000) (hlr : rs.length ≤ 4000000) (hrb : ∀ i, i < rs.length → (rs.getD i ([], [])).1.length ≤ 4000000 ∧ (rs.getD i ([], [])).2.length ≤ 4000000) (hlf : f.length ≤ 4000000) (hlss : ss.length ≤ 4000000) (hsb : ∀ i, i < ss.length → (ss.getD i (0, 0, [])).2.2.length ≤ 4000000) :
    Does prog 49 [.agg #[arv, rsv], .agg #[fv, ssv]] F (L) (fun v F' L' => (.bool (walkOkL ar rs f ss) : Value) = v ∧ F = F' ∧ L = L') := by
 refine qL func49 rfl rfl rfl (qc (qa (cX (jd [arv, rsv] rfl rfl ?_))))
 intro b1
 refine cX (jd [fv, ssv] rfl rfl ?_)
 intro b2
 refine qg (.bool (false)) rfl (qb (qc (qc (qa (cX (qn [arv, rsv] jr jl rfl rfl (Rd.ownN [_] rfl rfl) (cX (qk (0) qA rfl qu (by decide) rfl rfl (cX (ql qZ rfl (Rd.own [] rfl rfl) (cX (qo (args := [.agg #[arv, rsv], fv]) call108 rfl (l7Right_spec har hrs hf (hla := (by first | assumption | rfl | omega | simp)) (hlr := (by first | assumption | rfl | omega | simp)) (hrb := (by first | assumption | rfl | omega | simp)) (hlt := (by first | assumption | rfl | omega | simp))) ?_))))))))))))
 rintro _ _ _ _ ⟨rfl, rfl, rfl⟩
 refine cX (jn rfl (qd (.bool (!(rightB ar rs f))) rfl ?_))
 by_cases h1 : (!(rightB ar rs f)) = true
 ·refine qr (t := 14) rfl (vB h1) (qr (t := 14) rfl (vB h1) (qr (t := 14) rfl (vB h1) (qr (t := 14) rfl (vB h1) (cX (qU (.bool (true)) (vB h1) rfl (qb (jI rfl (qc (qa (qg (.bool (false)) rfl (qb ?_)))))))))))
  refine qw (qm (qs (L' := L) [.bool (false)] (.bool (false)) (.tmp rfl .nil) rfl rF rF (sD (sD sR)) ?_))
  exact ⟨(vB (by unfold walkOkL; simp_all <;> omega)), rfl, rfl⟩
 rw [Bool.not_eq_true] at h1
 refine qp (t := 14) rfl (vB h1) (qk (1) qA rfl jj (by decide) rfl rfl (qp (t := 14) rfl (vB h1) (ql jL rfl (Rd.own [] rfl rfl) (qp (t := 14) rfl (vB h1) (qD qG rfl hss.slv (qp (t := 14) rfl (vB h1) (jQ rfl rfl (cX (qS (.bool (decide (((ss.length : Int) : Int) > 60))) (vB h1) rfl (qb ?_))))))))))
 refine qE (p := ((ss.length : Int) : Int) > 60) rfl (fun h2 => ?_) (fun h2 => ?_)
 ·refine qc (qa (qg (.bool (false)) rfl (qb (qw (qm (qs (L' := L) [.bool (false)] (.bool (false)) (.tmp rfl .nil) rfl rF rF (sD (sD sR)) ?_))))))
  exact ⟨(vB (by unfold walkOkL; simp_all <;> omega)), rfl, rfl⟩
 refine qz (qc (qa (cX (qk (0) qA rfl qu (by decide) rfl rfl (cX (ql qZ rfl (Rd.own [] rfl rfl) (qg (fv) rfl (qb (qc (qc (qa (qg (ii (0)) rfl (qb (qN (jw (α := Nat × Value × List Int × FH) (fun xQ => [(2, ptr b1 0), (3, ptr b2 0), (5, xQ.2.1), (6, ii (((xQ.1 : Nat) : Int)))]) (fun xQ => cellsH b2 [fv, ssv] 45 :: cellsH b1 [arv, rsv] 39 :: L) (fun xQ F' => xQ.2.2.2 = F' ∧ F ≤ xQ.2.2.2 ∧ (IntsF xQ.2.2.2 xQ.2.1 xQ.2.2.1) ∧ (xQ.1 ≤ ss.length) ∧ (goOk ar rs f ss = goOk ar rs xQ.2.2.1 (ss.drop xQ.1)) ∧ (xQ.2.2.1.length ≤ 4000000)) (fun xQ => ss.length - xQ.1) (0, fv, f, F) ⟨rfl, rfl, rfl, rfl, ⟨⟩⟩ (sC (sC sR)) ⟨rfl, FLe.refl _, (hf), (by (try dsimp only) <;> omega), (rfl), (hlf)⟩ ?_)))))))))))))))
 rintro ⟨k, cv, cur, G1⟩ rE _ _ ⟨rfl, leG, hcv, hk, hgo, hcl⟩
 show X _ _ _ _ (envs [(2, ptr b1 0), (3, ptr b2 0), (5, cv), (6, ii ((k : Int)))] rE) _ (cellsH b2 [fv, ssv] 45 :: cellsH b1 [arv, rsv] 39 :: L)
 replace leG : F ≤ G1 := leG
 dsimp only at hcv hk hgo hcl
 have hsk := hsb k
 have leG1 := leG
 replace har := har.mono leG1
 replace hrs := hrs.mono leG1
 replace hss := hss.mono leG1
 refine qc (qc (qa (qd (ii ((k : Int))) rfl (cX (qk (1) qA rfl jj (by decide) rfl rfl (cX (ql jL rfl (Rd.own [] rfl rfl) (cX (qD qG rfl hss.slv (cX (jf rfl rfl (qb ?_))))))))))))
 refine qE (p := (k : Int) < (ss.length : Int)) rfl (fun h3 => ?_) (fun h3 => ?_)
 ·refine qz (qc (qN (qc ?_)))
  obtain ⟨a1, ha1, hr1, hr2, hr3⟩ := hss.rd (i := k) (by omega)
  refine jZ [cellsH b2 [fv, ssv] 45, cellsH b1 [arv, rsv] 39] L 19 [[], [], [], [], [], [], [], [], [], [], [], [], [], [], [], [14], [14], [], [14]] [[], [], [], [2], [], [3, 4], [5], [6], [], [8], [], [9, 10], [11], [12], [0, 1, 7, 13], [14], [14, 15], [14, 15], [14, 16]] [] (phiG [pe (.agg #[arv, rsv]), pe cv, pe (ptr b2 1), pe ssv, pe (ii ((k : Int)) : Value), pe (.pointer (some (elemA ssv (k * 3)))), pe (.pointer (some (elemA ssv (k * 3)))), pe (ii ((ss.getD k (0, 0, [])).1)), pe (ptr b2 1), pe ssv, pe (ii ((k : Int)) : Value), pe (.pointer (some (elemA ssv (k * 3)))), pe (.pointer (some (elemA ssv (k * 3 + 1)))), pe (ii ((ss.getD k (0, 0, [])).2.1)), fun FF us v => (.tuple #[((tupAt v 0)), .bool ((stepAtL ar rs cur ((ss.getD k (0, 0, [])).1) ((ss.getD k (0, 0, [])).2.1)).isSome)] : Value) = v ∧ (IntsF FF ((tupAt v 0)) ((stepAtL ar rs cur ((ss.getD k (0, 0, [])).1) ((ss.getD k (0, 0, [])).2.1)).getD [])), fun FF us v => v = (.tuple #[((tupAt (us.getD 0 undef) 0)), .bool ((stepAtL ar rs cur ((ss.getD k (0, 0, [])).1) ((ss.getD k (0, 0, [])).2.1)).isSome)] : Value), fun FF us v => v = ((tupAt (us.getD 0 undef) 0)), pe (.bool ((stepAtL ar rs cur ((ss.getD k (0, 0, [])).1) ((ss.getD k (0, 0, [])).2.1)).isSome)), fun FF us v => v = ((tupAt (us.getD 0 undef) 0))]) (ownL []) mixed rfl rfl (by kernel_rfl) (by kernel_rfl) (MonoG.get (m1 (m1 (m1 (m1 (m1 (m1 (m1 (m1 (m1 (m1 (m1 (m1 (m1 (m1 (mC (fun le h => ⟨h.1, h.2.mono le⟩) (mC (fun le h => h) (mC (fun le h => h) (m1 (mC (fun le h => h) MonoG.nil)))))))))))))))))))) ?_ ?_
  ·refine gD (fun W Fs R lF z9 => ?_) ?_
   ·replace har := har.mono lF
    replace hrs := hrs.mono lF
    replace hss := hss.mono lF
    replace hcv := hcv.mono lF
    replace ha1 := ha1.mono lF
    replace hr1 := Rd.monoA hr1 lF
    replace hr2 := Rd.monoA hr2 lF
    replace hr3 := Rd.monoA hr3 lF
    refine qi (qn [arv, rsv] jr jl rfl rfl (Rd.ownN [_] rfl rfl) ?_)
    exact ⟨rfl, rfl⟩
   refine gD (fun W Fs R lF z9 => ?_) ?_
   ·refine qi (qq (cv) rfl ?_)
    exact ⟨rfl, rfl⟩
   refine gD (fun W Fs R lF z9 => ?_) ?_
   ·refine qi (qk (1) qA rfl jj (by decide) rfl rfl ?_)
    exact ⟨rfl, rfl⟩
   refine gD (fun W Fs R lF z9 => ?_) ?_
   ·replace har := har.mono lF
    replace hrs := hrs.mono lF
    replace hss := hss.mono lF
    replace hcv := hcv.mono lF
    replace ha1 := ha1.mono lF
    replace hr1 := Rd.monoA hr1 lF
    replace hr2 := Rd.monoA hr2 lF
    replace hr3 := Rd.monoA hr3 lF
    rw [eS (l := [(2, _)]) ⟨z9 2 rfl, ⟨⟩⟩]
    refine qi (ql jL rfl (Rd.own [] rfl rfl) ?_)
    exact ⟨rfl, rfl⟩
   refine gD (fun W Fs R lF z9 => ?_) ?_
   ·refine qi (qq (ii ((k : Int))) rfl ?_)
    exact ⟨rfl, rfl⟩
   refine gD (fun W Fs R lF z9 => ?_) ?_
   ·replace har := har.mono lF
    replace hrs := hrs.mono lF
    replace hss := hss.mono lF
    replace hcv := hcv.mono lF
    replace ha1 := ha1.mono lF
    replace hr1 := Rd.monoA hr1 lF
    replace hr2 := Rd.monoA hr2 lF
    replace hr3 := Rd.monoA hr3 lF
    rw [eS (l := [(3, _), (4, _)]) ⟨z9 3 rfl, z9 4 rfl, ⟨⟩⟩]
    refine qi (qB k qG ji rfl rfl rfl hss.slv (by omega) rfl ?_)
    exact ⟨rfl, rfl⟩
   refine gD (fun W Fs R lF z9 => ?_) ?_
   ·rw [eS (l := [(5, _)]) ⟨z9 5 rfl, ⟨⟩⟩]
    refine qi (jW (k * 3) jm rfl qy (by decide) rfl rfl ?_)
    exact ⟨rfl, rfl⟩
   refine gD (fun W Fs R lF z9 => ?_) ?_
   ·replace har := har.mono lF
    replace hrs := hrs.mono lF
    replace hss := hss.mono lF
    replace hcv := hcv.mono lF
    replace ha1 := ha1.mono lF
    replace hr1 := Rd.monoA hr1 lF
    replace hr2 := Rd.monoA hr2 lF
    replace hr3 := Rd.monoA hr3 lF
    rw [eS (l := [(6, _)]) ⟨z9 6 rfl, ⟨⟩⟩]
    refine qi (ql jt rfl (hr1 _) ?_)
    exact ⟨rfl, rfl⟩
   refine gD (fun W Fs R lF z9 => ?_) ?_
   ·refine qi (qk (1) qA rfl jj (by decide) rfl rfl ?_)
    exact ⟨rfl, rfl⟩
   refine gD (fun W Fs R lF z9 => ?_) ?_
   ·replace har := har.mono lF
    replace hrs := hrs.mono lF
    replace hss := hss.mono lF
    replace hcv := hcv.mono lF
    replace ha1 := ha1.mono lF
    replace hr2 := Rd.monoA hr2 lF
    replace hr3 := Rd.monoA hr3 lF
    rw [eS (l := [(8, _)]) ⟨z9 8 rfl, ⟨⟩⟩]
    refine qi (ql jL rfl (Rd.own [] rfl rfl) ?_)
    exact ⟨rfl, rfl⟩
   refine gD (fun W Fs R lF z9 => ?_) ?_
   ·refine qi (qq (ii ((k : Int))) rfl ?_)
    exact ⟨rfl, rfl⟩
   refine gD (fun W Fs R lF z9 => ?_) ?_
   ·replace har := har.mono lF
    replace hrs := hrs.mono lF
    replace hss := hss.mono lF
    replace hcv := hcv.mono lF
    replace ha1 := ha1.mono lF
    replace hr2 := Rd.monoA hr2 lF
    replace hr3 := Rd.monoA hr3 lF
    rw [eS (l := [(9, _), (10, _)]) ⟨z9 9 rfl, z9 10 rfl, ⟨⟩⟩]
    refine qi (qB k qG ji rfl rfl rfl hss.slv (by omega) rfl ?_)
    exact ⟨rfl, rfl⟩
   refine gD (fun W Fs R lF z9 => ?_) ?_
   ·rw [eS (l := [(11, _)]) ⟨z9 11 rfl, ⟨⟩⟩]
    refine qi (jW (k * 3 + 1) jm rfl qy (by decide) rfl rfl ?_)
    exact ⟨rfl, rfl⟩
   refine gD (fun W Fs R lF z9 => ?_) ?_
   ·replace har := har.mono lF
    replace hrs := hrs.mono lF
    replace hss := hss.mono lF
    replace hcv := hcv.mono lF
    replace ha1 := ha1.mono lF
    replace hr2 := Rd.monoA hr2 lF
    replace hr3 := Rd.monoA hr3 lF
    rw [eS (l := [(12, _)]) ⟨z9 12 rfl, ⟨⟩⟩]
    refine qi (ql jt rfl (hr2 _) ?_)
    exact ⟨rfl, rfl⟩
   refine gD (fun W Fs R lF z9 => ?_) ?_
   ·replace har := har.mono lF
    replace hrs := hrs.mono lF
    replace hss := hss.mono lF
    replace hcv := hcv.mono lF
    replace ha1 := ha1.mono lF
    replace hr3 := Rd.monoA hr3 lF
    rw [eS (l := [(0, _), (1, _), (7, _), (13, _)]) ⟨z9 0 rfl, z9 1 rfl, z9 7 rfl, z9 13 rfl, ⟨⟩⟩]
    refine qi (qo (args := [.agg #[arv, rsv], cv, ii ((ss.getD k (0, 0, [])).1), ii ((ss.getD k (0, 0, [])).2.1)]) call37 rfl (sStepAt_spec (p := (ss.getD k (0, 0, [])).1) (r := (ss.getD k (0, 0, [])).2.1) har hrs hcv (hla := (by first | assumption | rfl | omega | simp)) (hlr := (by first | assumption | rfl | omega | simp)) (hrb := (by first | assumption | rfl | omega | simp)) (hlt := (by first | assumption | rfl | omega | simp))) ?_)
    rintro _ F2 _ le2 ⟨x2, rfl, hr5, rfl⟩
    replace hss := hss.mono le2
    replace ha1 := ha1.mono le2
    replace hr3 := Rd.monoA hr3 le2
    exact ⟨⟨rfl, hr5⟩, rfl⟩
   refine gD (fun W Fs R lF z9 => ?_) ?_
   ·obtain ⟨e14, f14_1hr⟩ := z9 14 rfl
    rw [eS (l := [(14, (.tuple #[((tupAt (W 14) 0)), .bool ((stepAtL ar rs cur ((ss.getD k (0, 0, [])).1) ((ss.getD k (0, 0, [])).2.1)).isSome)]))]) ⟨(e14).symm, ⟨⟩⟩]
    refine qi (qq (.tuple #[((tupAt (W 14) 0)), .bool ((stepAtL ar rs cur ((ss.getD k (0, 0, [])).1) ((ss.getD k (0, 0, [])).2.1)).isSome)]) rfl ?_)
    exact ⟨rfl, rfl⟩
   refine gD (fun W Fs R lF z9 => ?_) ?_
   ·obtain ⟨e14, f14_1hr⟩ := z9 14 rfl
    have e15 : W 15 = (.tuple #[((tupAt (W 14) 0)), .bool ((stepAtL ar rs cur ((ss.getD k (0, 0, [])).1) ((ss.getD k (0, 0, [])).2.1)).isSome)] : Value) := z9 15 rfl
    rw [eS (l := [(14, (.tuple #[((tupAt (W 14) 0)), .bool ((stepAtL ar rs cur ((ss.getD k (0, 0, [])).1) ((ss.getD k (0, 0, [])).2.1)).isSome)])), (15, (.tuple #[((tupAt (W 14) 0)), .bool ((stepAtL ar rs cur ((ss.getD k (0, 0, [])).1) ((ss.getD k (0, 0, [])).2.1)).isSome)]))]) ⟨(e14).symm, e15, ⟨⟩⟩]
    refine qi (qQ (((tupAt (W 14) 0))) rfl rfl ?_)
    exact ⟨rfl, rfl⟩
   refine gD (fun W Fs R lF z9 => ?_) ?_
   ·obtain ⟨e14, f14_1hr⟩ := z9 14 rfl
    have e15 : W 15 = (.tuple #[((tupAt (W 14) 0)), .bool ((stepAtL ar rs cur ((ss.getD k (0, 0, [])).1) ((ss.getD k (0, 0, [])).2.1)).isSome)] : Value) := z9 15 rfl
    rw [eS (l := [(14, (.tuple #[((tupAt (W 14) 0)), .bool ((stepAtL ar rs cur ((ss.getD k (0, 0, [])).1) ((ss.getD k (0, 0, [])).2.1)).isSome)])), (15, (.tuple #[((tupAt (W 14) 0)), .bool ((stepAtL ar rs cur ((ss.getD k (0, 0, [])).1) ((ss.getD k (0, 0, [])).2.1)).isSome)]))]) ⟨(e14).symm, e15, ⟨⟩⟩]
    refine qi (qQ (.bool ((stepAtL ar rs cur ((ss.getD k (0, 0, [])).1) ((ss.getD k (0, 0, [])).2.1)).isSome)) rfl rfl ?_)
    exact ⟨rfl, rfl⟩
   refine gD (fun W Fs R lF z9 => ?_) ?_
   ·obtain ⟨e14, f14_1hr⟩ := z9 14 rfl
    have e16 : W 16 = ((tupAt (W 14) 0)) := z9 16 rfl
    rw [eS (l := [(14, (.tuple #[((tupAt (W 14) 0)), .bool ((stepAtL ar rs cur ((ss.getD k (0, 0, [])).1) ((ss.getD k (0, 0, [])).2.1)).isSome)])), (16, ((tupAt (W 14) 0)))]) ⟨(e14).symm, e16, ⟨⟩⟩]
    refine qi (XOp.assign (((tupAt (W 14) 0))) rfl ?_)
    exact ⟨rfl, rfl⟩
   exact stepsG.nil
  intro W F3 le3 hphi
  obtain ⟨e14, f14_1hr⟩ := hphi 14 (by decide)
  have e15 : W 15 = (.tuple #[((tupAt (W 14) 0)), .bool ((stepAtL ar rs cur ((ss.getD k (0, 0, [])).1) ((ss.getD k (0, 0, [])).2.1)).isSome)] : Value) := hphi 15 (by decide)
  have e16 : W 16 = ((tupAt (W 14) 0)) := hphi 16 (by decide)
  have e18 : W 18 = ((tupAt (W 14) 0)) := hphi 18 (by decide)
  generalize hu1 : ((tupAt (W 14) 0)) = u1 at e14 f14_1hr e15 e16 e18
  rw [eS (l := [(14, (.tuple #[u1, .bool ((stepAtL ar rs cur ((ss.getD k (0, 0, [])).1) ((ss.getD k (0, 0, [])).2.1)).isSome)])), (17, _), (18, u1)]) ⟨(e14).symm, (hphi 17 (by decide)), e18, ⟨⟩⟩]
  replace hss := hss.mono le3
  replace ha1 := ha1.mono le3
  replace hr3 := Rd.monoA hr3 le3
  show XL _ _ _ _ _ _ _ (cellsH b2 [fv, ssv] 45 :: cellsH b1 [arv, rsv] 39 :: L)
  refine qg (.bool ((stepAtL ar rs cur ((ss.getD k (0, 0, [])).1) ((ss.getD k (0, 0, [])).2.1)).isSome)) rfl (qb (qc (qc (qa (qd (.bool ((stepAtL ar rs cur ((ss.getD k (0, 0, [])).1) ((ss.getD k (0, 0, [])).2.1)).isSome)) rfl (cX (jn rfl (qd (.bool (!((stepAtL ar rs cur ((ss.getD k (0, 0, [])).1) ((ss.getD k (0, 0, [])).2.1)).isSome))) rfl ?_))))))))
  by_cases h4 : (!((stepAtL ar rs cur ((ss.getD k (0, 0, [])).1) ((ss.getD k (0, 0, [])).2.1)).isSome)) = true
  ·have hu1 : (stepAtL ar rs cur (ss.getD k (0, 0, [])).1 (ss.getD k (0, 0, [])).2.1).isSome = false := by simpa using h4
   refine qr (t := 49) rfl (vB h4) (qr (t := 49) rfl (vB h4) (qr (t := 49) rfl (vB h4) (qr (t := 49) rfl (vB h4) (qr (t := 49) rfl (vB h4) (qr (t := 49) rfl (vB h4) (qr (t := 49) rfl (vB h4) (qr (t := 49) rfl (vB h4) (qr (t := 49) rfl (vB h4) (cX (qU (.bool (true)) (vB h4) rfl ?_))))))))))
   refine qb (jI rfl (qc (qa (qg (.bool (false)) rfl (qb (qw (qm (qI (qm (qm (qI (qm (qs (L' := L) [.bool (false)] (.bool (false)) (.tmp rfl .nil) rfl rF (qh leG1 le3) (sD (sD sR)) ?_)))))))))))))
   exact ⟨(vB (by have hz := goOk_fail (ar := ar) (rs := rs) (t := cur) (ss := ss) (k := k) (by omega) (by first | exact .inl hu1 | exact .inr hu2); rw [walkOkL, hgo, hz]; simp)), rfl, rfl⟩
  rw [Bool.not_eq_true] at h4
  have hu1 : (stepAtL ar rs cur (ss.getD k (0, 0, [])).1 (ss.getD k (0, 0, [])).2.1).isSome = true := by simpa using h4
  refine qp (t := 49) rfl (vB h4) (qq (u1) rfl (qp (t := 49) rfl (vB h4) (qk (1) qA rfl jj (by decide) rfl rfl (qp (t := 49) rfl (vB h4) (ql jL rfl (Rd.own [] rfl rfl) (qp (t := 49) rfl (vB h4) (qq (ii ((k : Int))) rfl (qp (t := 49) rfl (vB h4) (qB k qG ji rfl rfl rfl hss.slv (by omega) rfl (qp (t := 49) rfl (vB h4) (jW (k * 3 + 2) jm rfl qu (by decide) rfl rfl (qp (t := 49) rfl (vB h4) (ql qZ rfl (hr3 _) (qp (t := 49) rfl (vB h4) (qo (args := [u1, a1]) call32 rfl (SameTerm_spec f14_1hr ha1 (hbd := (by first | assumption | rfl | omega | (left; simp; done) | (right; simp; done)))) ?_)))))))))))))))
  rintro _ _ _ _ ⟨rfl, rfl, rfl⟩
  refine qp (t := 49) rfl (vB h4) (yj rfl (cX (qS (.bool (decide (¬(((stepAtL ar rs cur ((ss.getD k (0, 0, [])).1) ((ss.getD k (0, 0, [])).2.1)).getD []) = ((ss.getD k (0, 0, [])).2.2))))) (vB h4) rfl (qb ?_))))
  refine qE (p := ¬(((stepAtL ar rs cur ((ss.getD k (0, 0, [])).1) ((ss.getD k (0, 0, [])).2.1)).getD []) = ((ss.getD k (0, 0, [])).2.2))) rfl (fun h5 => ?_) (fun h5 => ?_)
  ·have hu2 : (stepAtL ar rs cur (ss.getD k (0, 0, [])).1 (ss.getD k (0, 0, [])).2.1).getD [] ≠ (ss.getD k (0, 0, [])).2.2 := h5
   refine qc (qa (qg (.bool (false)) rfl (qb (qw (qm (qI (qm (qm (qI (qm (qs (L' := L) [.bool (false)] (.bool (false)) (.tmp rfl .nil) rfl rF (qh leG1 le3) (sD (sD sR)) ?_)))))))))))
   exact ⟨(vB (by have hz := goOk_fail (ar := ar) (rs := rs) (t := cur) (ss := ss) (k := k) (by omega) (by first | exact .inl hu1 | exact .inr hu2); rw [walkOkL, hgo, hz]; simp)), rfl, rfl⟩
  have hu2 : (stepAtL ar rs cur (ss.getD k (0, 0, [])).1 (ss.getD k (0, 0, [])).2.1).getD [] = (ss.getD k (0, 0, [])).2.2 := Classical.not_not.1 h5
  refine qz (qa (qd (u1) rfl (qg (u1) rfl (qb (qa (qd (ii ((k : Int))) rfl (cX (qP (((k + 1 : Nat) : Int)) rfl rfl (by omega) (by omega) (qg (ii (((k + 1 : Nat) : Int))) rfl (qb ?_))))))))))
  exact ⟨(k + 1, u1, (stepAtL ar rs cur ((ss.getD k (0, 0, [])).1) ((ss.getD k (0, 0, [])).2.1)).getD [], F3), _, (qh leG1 le3), rF, ⟨rfl, rfl, rfl, rfl, ⟨⟩⟩, (sC (sC sR)), ⟨rfl, (qh leG1 le3), (f14_1hr), (by (try dsimp only) <;> omega), (by (try dsimp only); rw [hgo]; exact goOk_next (by omega) hu1 hu2), (by (try dsimp only); rw [hu2]; exact hsk (by omega))⟩, (by omega)⟩
 refine jo (qt (qt (qO (qc (qa (qg (.bool (true)) rfl (qb (qw (qs (L' := L) [.bool (true)] (.bool (true)) (.tmp rfl .nil) rfl rF leG1 (sD (sD sR)) ?_)))))))))
 exact ⟨(vB (by rw [walkOkL, hgo, goOk_end (by omega)]; simp_all <;> omega)), rfl, rfl⟩

/- spec.l7End -/
theorem l7End_spec {F : FH} {L : List HP} {fv : Value} {f : List Int} (hf : IntsF F fv f) {ssv : Value} {ss : List StepT} (hss : StepsF F ssv ss) (hlf : f.length ≤ 4000000) (hlss : ss.length ≤ 4000000) (hsb : ∀ i, i < ss.length → (ss.getD i (0, 0, [])).2.2.length ≤ 4000000) :
    Does prog 140 [.agg #[fv, ssv]] F (L) (fun v F' L' => F = F' ∧ IsSl v ∧ intsH 2 v (endL f ss) :: L = L') := by
 refine qL func140 rfl rfl rfl ?_
 have hsb1 := hsb (ss.length - 1)
 refine qc (qa (cX (jd [fv, ssv] rfl rfl ?_)))
 intro b1
 refine qg (sN) rfl (qb (qc (qc (qa (cX (qk (1) qA rfl jj (by decide) rfl rfl (cX (ql jL rfl (Rd.own [] rfl rfl) (cX (qD qG rfl hss.slv (cX (jR rfl rfl (qb ?_)))))))))))))
 refine qE (p := ((ss.length : Int) : Int) = 0) rfl (fun h1 => ?_) (fun h1 => ?_)
 ·refine qc (qa (cX (qk (0) qA rfl qu (by decide) rfl rfl (cX (ql qZ rfl (Rd.own [] rfl rfl) (cX (qo (args := [fv]) call106 rfl (l1Copy_spec hf (hlt := (by first | assumption | rfl | omega | simp))) ?_)))))))
  rintro v1 _ _ _ ⟨rfl, hs1, rfl⟩
  refine qg (v1) rfl (qb (qw (qm (qs (L' := intsH 2 v1 ((f)) :: L) [v1] (v1) (.tmp rfl .nil) rfl rF rF (sC (sD sR)) ?_))))
  refine ⟨rfl, hs1, ?_⟩
  have hxs : (endL f ss : List Int) = (f) := by rw [endL, if_pos (by omega)]
  exact congrArg (fun z => intsH 2 _ z :: L) hxs
 refine qz (qc (qa (cX (qk (1) qA rfl jj (by decide) rfl rfl (cX (ql jL rfl (Rd.own [] rfl rfl) (cX (qk (1) qA rfl jj (by decide) rfl rfl (cX (ql jL rfl (Rd.own [] rfl rfl) (cX (qD qG rfl hss.slv (cX (jF (((((ss).length) - 1 : Nat) : Int)) rfl rfl (by omega) (by omega) (cX (qB (((ss).length) - 1) qG ji rfl rfl rfl hss.slv (by omega) rfl (cX (jW ((((ss).length) - 1) * 3 + 2) jm rfl qu (by decide) rfl rfl ?_))))))))))))))))))
 obtain ⟨a1, ha1, hr1, hr2, hr3⟩ := hss.rd (i := ((ss).length) - 1) (by omega)
 refine cX (ql qZ rfl (hr3 _) (cX (qo (args := [a1]) call106 rfl (l1Copy_spec ha1 (hlt := (by first | assumption | rfl | omega | simp))) ?_)))
 rintro v2 _ _ _ ⟨rfl, hs2, rfl⟩
 refine qg (v2) rfl (qb (qw (qs (L' := intsH 2 v2 ((((ss.getD (((ss).length) - 1) (0, 0, [])).2.2))) :: L) [v2] (v2) (.tmp rfl .nil) rfl rF rF (sC (sD sR)) ?_)))
 refine ⟨rfl, hs2, ?_⟩
 have hxs : (endL f ss : List Int) = (((ss.getD (((ss).length) - 1) (0, 0, [])).2.2)) := by rw [endL, if_neg (by omega)]
 exact congrArg (fun z => intsH 2 _ z :: L) hxs

/- spec.EndTerm -/
theorem sEndTerm_spec {F : FH} {L : List HP} {arv : Value} {ar : List Int} (har : IntsF F arv ar) {rsv : Value} {rs : List (List Int × List Int)} (hrs : PairsF F rsv rs) {fv : Value} {f : List Int} (hf : IntsF F fv f) {ssv : Value} {ss : List StepT} (hss : StepsF F ssv ss) (hla : ar.length ≤ 4000000) (hlr : rs.length ≤ 4000000) (hrb : ∀ i, i < rs.length → (rs.getD i ([], [])).1.length ≤ 4000000 ∧ (rs.getD i ([], [])).2.length ≤ 4000000) (hlf : f.length ≤ 4000000) (hlss : ss.length ≤ 4000000) (hsb : ∀ i, i < ss.length → (ss.getD i (0, 0, [])).2.2.length ≤ 4000000) :
    Does prog 54 [.agg #[arv, rsv], .agg #[fv, ssv]] F (L) (fun v F' L' => F = F' ∧ IsSl v ∧ intsH 2 v (endT ar rs f ss) :: L = L') := by
 refine qL func54 rfl rfl rfl (qc (qa (cX (jd [arv, rsv] rfl rfl ?_))))
 intro b1
 refine cX (jd [fv, ssv] rfl rfl ?_)
 intro b2
 refine qg (sN) rfl (qb (qc (qc (qa (cX (qn [arv, rsv] jr jl rfl rfl (Rd.ownN [_] rfl rfl) (cX (qn [fv, ssv] jy qH rfl rfl (Rd.ownN [] rfl rfl) (cX (qo (args := [.agg #[arv, rsv], .agg #[fv, ssv]]) call49 rfl (sWalkOk_spec har hrs hf hss (hla := (by first | assumption | rfl | omega | simp)) (hlr := (by first | assumption | rfl | omega | simp)) (hrb := (by first | assumption | rfl | omega | simp)) (hlf := (by first | assumption | rfl | omega | simp)) (hlss := (by first | assumption | rfl | omega | simp)) (hsb := (by first | assumption | rfl | omega | simp))) ?_))))))))))
 rintro _ _ _ _ ⟨rfl, rfl, rfl⟩
 refine cX (jn rfl (qb ?_))
 refine jN (t := !(walkOkL ar rs f ss)) rfl (fun h1 => ?_) (fun h1 => ?_)
 ·refine qc (qa (cX (qx (s := 1) [] [ii (0)] [] qf qy jh rfl (by decide) rfl CellsAre.nil rfl ?_)))
  intro v1 hv1
  refine qg (v1) rfl (qb (qw (qm (qs (L' := intsH 2 v1 ([]) :: L) [v1] (v1) (.tmp rfl .nil) rfl rF rF (sC (sD (sD sR))) ?_))))
  refine ⟨rfl, (jv hv1), ?_⟩
  have hxs : (endT ar rs f ss : List Int) = [] := by rw [endT, if_neg (by simp_all)]
  exact congrArg (fun z => intsH 2 _ z :: L) hxs
 have hwk : walkOkL ar rs f ss = true := by simpa using h1
 have hel := termOk_len (right_iff.1 (walkOk_end hwk)).2
 have hwl := (walkOkL_iff.1 hwk).2.1
 refine qz (qc (qa (cX (qn [fv, ssv] jy qH rfl rfl (Rd.ownN [] rfl rfl) (cX (qo (args := [.agg #[fv, ssv]]) call140 rfl (l7End_spec hf hss (hlf := (by first | assumption | rfl | omega | simp)) (hlss := (by first | assumption | rfl | omega | simp)) (hsb := (by first | assumption | rfl | omega | simp))) ?_))))))
 rintro v2 _ _ _ ⟨rfl, hs1, rfl⟩
 refine qg (v2) rfl (qb (qw (qs (L' := intsH 2 v2 ((endL f ss)) :: L) [v2] (v2) (.tmp rfl .nil) rfl rF rF (sC (sD (sD sR))) ?_)))
 refine ⟨rfl, hs1, ?_⟩
 have hxs : (endT ar rs f ss : List Int) = (endL f ss) := by rw [endT, if_pos hwk]
 exact congrArg (fun z => intsH 2 _ z :: L) hxs
end Go.Proofs.YtenomejgjcpbdaaGreat
set_option linter.unusedSimpArgs false
set_option linter.unusedVariables false
namespace Go.Proofs.YtenomejgjcpbdaaGreat
open Go X M Tryz
end Go.Proofs.YtenomejgjcpbdaaGreat
set_option linter.unusedSimpArgs false
set_option linter.unusedVariables false
namespace Go.Proofs.YtenomejgjcpbdaaGreat
open Go X M Tryz
end Go.Proofs.YtenomejgjcpbdaaGreat
set_option linter.unusedSimpArgs false
set_option linter.unusedVariables false
namespace Go.Proofs.YtenomejgjcpbdaaGreat
open Go X M Tryz

/- impl.SubstOk -/
theorem SubstOk_spec {F : FH} {L : List HP} {arv : Value} {ar : List Int} (har : IntsF F arv ar) {sv : Value} {s : List (List Int)} (hs : RowsF F sv s) :
    Does prog 249 [.agg #[arv], .agg #[sv]] F (L) (fun v F' L' => (.bool (substOk ar s) : Value) = v ∧ F = F' ∧ L = L') := by
 refine qL func249 rfl rfl rfl (qc (qa (cX (jd [arv] rfl rfl ?_))))
 intro b1
 refine cX (jd [sv] rfl rfl ?_)
 intro b2
 refine qg (.bool (false)) rfl (qb (qc (qc (qa (cX (qn [arv] js qY rfl rfl (Rd.ownN [_] rfl rfl) (cX (qo (args := [.agg #[arv]]) call199 rfl (SigOk_spec har) ?_))))))))
 rintro _ _ _ _ ⟨rfl, rfl, rfl⟩
 refine cX (jn rfl (qd (.bool (!(sigOk ar))) rfl ?_))
 by_cases h1 : (!(sigOk ar)) = true
 ·refine qr (t := 10) rfl (vB h1) (qr (t := 10) rfl (vB h1) (qr (t := 10) rfl (vB h1) (qr (t := 10) rfl (vB h1) (cX (qU (.bool (true)) (vB h1) rfl (qb (jI rfl (qc (qa (qg (.bool (false)) rfl (qb ?_)))))))))))
  refine qw (qm (qs (L' := L) [.bool (false)] (.bool (false)) (.tmp rfl .nil) rfl rF rF (sD (sD sR)) ?_))
  exact ⟨(vB (substOk_false (fun h => by have := h.1; have := h.2.1; simp_all <;> omega))), rfl, rfl⟩
 rw [Bool.not_eq_true] at h1
 refine qp (t := 10) rfl (vB h1) (qk (0) qW rfl jk (by decide) rfl rfl (qp (t := 10) rfl (vB h1) (ql jJ rfl (Rd.own [] rfl rfl) (qp (t := 10) rfl (vB h1) (qD qM rfl hs.slv (qp (t := 10) rfl (vB h1) (jQ rfl rfl (cX (qS (.bool (decide (((s.length : Int) : Int) > 24))) (vB h1) rfl (qb ?_))))))))))
 refine qE (p := ((s.length : Int) : Int) > 24) rfl (fun h2 => ?_) (fun h2 => ?_)
 ·refine qc (qa (qg (.bool (false)) rfl (qb (qw (qm (qs (L' := L) [.bool (false)] (.bool (false)) (.tmp rfl .nil) rfl rF rF (sD (sD sR)) ?_))))))
  exact ⟨(vB (substOk_false (fun h => by have := h.1; have := h.2.1; simp_all <;> omega))), rfl, rfl⟩
 refine qz (qc (qc (qa (cX (qk (0) qW rfl jk (by decide) rfl rfl (cX (ql jJ rfl (Rd.own [] rfl rfl) (cX (qD qM rfl hs.slv (qd (ii (0)) rfl (qb (qN (jw (α := Nat) (fun k => [(2, ptr b1 0), (17, sv), (18, ii ((s.length : Int))), (19, ii ((k : Int)))]) (fun k => cellsH b2 [sv] 115 :: cellsH b1 [arv] 36 :: L) (fun k F' => F = F' ∧ (k ≤ s.length) ∧ (∀ i, i < k → s.getD i [] = [] ∨ termOk ar (s.getD i []) = true)) (fun k => s.length - k) 0 ⟨rfl, rfl, rfl, rfl, ⟨⟩⟩ (sC (sC sR)) ⟨rfl, (by (try dsimp only) <;> omega), (fun i hi => absurd hi (by omega))⟩ ?_)))))))))))))
 rintro k rE _ _ ⟨rfl, hk, hall⟩
 show X _ _ _ _ (envs [(2, ptr b1 0), (17, sv), (18, ii ((s.length : Int))), (19, ii ((k : Int)))] rE) _ (cellsH b2 [sv] 115 :: cellsH b1 [arv] 36 :: L)
 refine qc (qa (cX (jf rfl rfl (qb (qc ?_)))))
 refine qE (p := (k : Int) < (s.length : Int)) rfl (fun h3 => ?_) (fun h3 => ?_)
 ·refine qz (qc (qN (qc (qa (cX (qB k qM qu rfl rfl rfl hs.slv (by omega) (Nat.mul_one _) ?_))))))
  obtain ⟨a1, ha1, hr1⟩ := hs.rd (i := k) (by omega)
  refine cX (ql qZ rfl (hr1 _) (qg (a1) rfl (qb (qc (qa (qd (a1) rfl (cX (qD qf rfl ha1.slv (cX (jQ rfl rfl (qd (.bool (decide ((((((s.getD k [])).length : Nat) : Int) : Int) > 0))) rfl ?_)))))))))))
  by_cases h4 : (((((s.getD k [])).length : Nat) : Int) : Int) > 0
  ·refine qp (t := 26) rfl (vT h4) (qn [arv] js qY rfl rfl (Rd.ownN [_] rfl rfl) (qp (t := 26) rfl (vT h4) (qq (a1) rfl (qp (t := 26) rfl (vT h4) (qo (args := [.agg #[arv], a1]) call113 rfl (TermOk_spec har ha1) ?_)))))
   rintro _ _ _ _ ⟨rfl, rfl, rfl⟩
   refine qp (t := 26) rfl (vT h4) (jn rfl (cX (qU (.bool (!(termOk ar ((s.getD k []))))) (vT h4) rfl (qb ?_))))
   refine jN (t := !(termOk ar ((s.getD k [])))) rfl (fun h5 => ?_) (fun h5 => ?_)
   ·refine qc (qa (qg (.bool (false)) rfl (qb (qw (qI (qm (qm (qI (qm (qs (L' := L) [.bool (false)] (.bool (false)) (.tmp rfl .nil) rfl rF rF (sD (sD sR)) ?_))))))))))
    exact ⟨(vB (substOk_false (fun h => by have h9 := h.2.2 k (by omega); rcases h9 with h9 | h9; (have := congrArg List.length h9; simp only [List.length_nil] at this; omega); simp_all))), rfl, rfl⟩
   refine qz (qa (cX (qP (((k + 1 : Nat) : Int)) rfl rfl (by omega) (by omega) (qd (ii (((k + 1 : Nat) : Int))) rfl (qb ?_)))))
   exact ⟨k + 1, _, FLe.refl _, rF, ⟨rfl, rfl, rfl, rfl, ⟨⟩⟩, (sC (sC sR)), ⟨rfl, (by (try dsimp only) <;> omega), (fun i hi => (Nat.lt_or_ge i k).elim (fun h => hall i h) (fun h => by obtain rfl : i = k := (by omega); first | exact .inr (by assumption) | exact .inl (len_nil (by assumption)) | (have := len_nil (by assumption); simp_all) | simp_all))⟩, (by omega)⟩
  refine qr (t := 26) rfl (vF h4) (qr (t := 26) rfl (vF h4) (qr (t := 26) rfl (vF h4) (qr (t := 26) rfl (vF h4) (cX (qS (.bool (false)) (vF h4) rfl (qb (X.condF rfl (qz (qa (cX (qP (((k + 1 : Nat) : Int)) rfl rfl (by omega) (by omega) (qd (ii (((k + 1 : Nat) : Int))) rfl ?_))))))))))))
  refine qb ?_
  exact ⟨k + 1, _, FLe.refl _, rF, ⟨rfl, rfl, rfl, rfl, ⟨⟩⟩, (sC (sC sR)), ⟨rfl, (by (try dsimp only) <;> omega), (fun i hi => (Nat.lt_or_ge i k).elim (fun h => hall i h) (fun h => by obtain rfl : i = k := (by omega); first | exact .inr (by assumption) | exact .inl (len_nil (by assumption)) | (have := len_nil (by assumption); simp_all) | simp_all))⟩, (by omega)⟩
 refine jo (qt (qt (qO (qc (qa (qg (.bool (true)) rfl (qb (qw (qs (L' := L) [.bool (true)] (.bool (true)) (.tmp rfl .nil) rfl rF rF (sD (sD sR)) ?_)))))))))
 exact ⟨(vB (substOk_iff.2 ⟨by simp_all, by omega, fun i hi => hall i (by omega)⟩)), rfl, rfl⟩

/- spec.SubstOk -/
theorem sSubstOk_spec {F : FH} {L : List HP} {arv : Value} {ar : List Int} (har : IntsF F arv ar) {sv : Value} {s : List (List Int)} (hs : RowsF F sv s) (hla : ar.length ≤ 4000000) (hsl : s.length ≤ 4000000) (hsb : ∀ i, i < s.length → (s.getD i []).length ≤ 4000000) :
    Does prog 147 [.agg #[arv], .agg #[sv]] F (L) (fun v F' L' => (.bool (substOk ar s) : Value) = v ∧ F = F' ∧ L = L') := by
 refine qL func147 rfl rfl rfl (qc (qa (cX (jd [arv] rfl rfl ?_))))
 intro b1
 refine cX (jd [sv] rfl rfl ?_)
 intro b2
 refine qg (.bool (false)) rfl (qb (qc (qc (qa (cX (qn [arv] js qY rfl rfl (Rd.ownN [_] rfl rfl) (cX (qo (args := [.agg #[arv]]) call168 rfl (sSigOk_spec har (hla := (by first | assumption | rfl | omega | simp))) ?_))))))))
 rintro _ _ _ _ ⟨rfl, rfl, rfl⟩
 refine cX (jn rfl (qd (.bool (!(sigOk ar))) rfl ?_))
 by_cases h1 : (!(sigOk ar)) = true
 ·refine qr (t := 9) rfl (vB h1) (qr (t := 9) rfl (vB h1) (qr (t := 9) rfl (vB h1) (qr (t := 9) rfl (vB h1) (cX (qU (.bool (true)) (vB h1) rfl (qb (jI rfl (qc (qa (qg (.bool (false)) rfl (qb ?_)))))))))))
  refine qw (qm (qs (L' := L) [.bool (false)] (.bool (false)) (.tmp rfl .nil) rfl rF rF (sD (sD sR)) ?_))
  exact ⟨(vB (substOk_false (fun h => by have := h.1; have := h.2.1; simp_all <;> omega))), rfl, rfl⟩
 rw [Bool.not_eq_true] at h1
 refine qp (t := 9) rfl (vB h1) (qk (0) qW rfl jk (by decide) rfl rfl (qp (t := 9) rfl (vB h1) (ql jJ rfl (Rd.own [] rfl rfl) (qp (t := 9) rfl (vB h1) (qD qM rfl hs.slv (qp (t := 9) rfl (vB h1) (jQ rfl rfl (cX (qS (.bool (decide (((s.length : Int) : Int) > 24))) (vB h1) rfl (qb ?_))))))))))
 refine qE (p := ((s.length : Int) : Int) > 24) rfl (fun h2 => ?_) (fun h2 => ?_)
 ·refine qc (qa (qg (.bool (false)) rfl (qb (qw (qm (qs (L' := L) [.bool (false)] (.bool (false)) (.tmp rfl .nil) rfl rF rF (sD (sD sR)) ?_))))))
  exact ⟨(vB (substOk_false (fun h => by have := h.1; have := h.2.1; simp_all <;> omega))), rfl, rfl⟩
 refine qz (qc (qc (qa (qg (ii (0)) rfl (qb (qN (jw (α := Nat) (fun k => [(2, ptr b1 0), (3, ptr b2 0), (5, ii ((k : Int)))]) (fun k => cellsH b2 [sv] 115 :: cellsH b1 [arv] 36 :: L) (fun k F' => F = F' ∧ (k ≤ s.length) ∧ (∀ i, i < k → s.getD i [] = [] ∨ termOk ar (s.getD i []) = true)) (fun k => s.length - k) 0 ⟨rfl, rfl, rfl, ⟨⟩⟩ (sC (sC sR)) ⟨rfl, (by (try dsimp only) <;> omega), (fun i hi => absurd hi (by omega))⟩ ?_)))))))
 rintro k rE _ _ ⟨rfl, hk, hall⟩
 show X _ _ _ _ (envs [(2, ptr b1 0), (3, ptr b2 0), (5, ii ((k : Int)))] rE) _ (cellsH b2 [sv] 115 :: cellsH b1 [arv] 36 :: L)
 have hsbk := hsb k
 refine qc (qc (qa (qd (ii ((k : Int))) rfl (cX (qk (0) qW rfl jk (by decide) rfl rfl (cX (ql jJ rfl (Rd.own [] rfl rfl) (cX (qD qM rfl hs.slv (cX (jf rfl rfl (qb ?_))))))))))))
 refine qE (p := (k : Int) < (s.length : Int)) rfl (fun h3 => ?_) (fun h3 => ?_)
 ·refine qz (qc (qN (qc ?_)))
  obtain ⟨a1, ha1, hr1⟩ := hs.rd (i := k) (by omega)
  by_cases h4 : (((((s.getD k [])).length : Nat) : Int) : Int) > 0
  ·refine jY [cellsH b2 [sv] 115, cellsH b1 [arv] 36] L 14 [] [[], [0], [], [1, 2], [3], [4], [5], [6], [7], [7], [7, 9], [7], [7, 10, 11], [7, 12]] (phiL [qe (ptr b2 0), qe sv, qe (ii ((k : Int)) : Value), qe (.pointer (some (elemA sv (k)))), qe a1, qe (ii (((((s.getD k [])).length : Nat) : Int)) : Value), qe (.bool (decide ((((((s.getD k [])).length : Nat) : Int) : Int) > 0)) : Value), qe (.bool (decide ((((((s.getD k [])).length : Nat) : Int) : Int) > 0)) : Value), qe (.agg #[arv]), qe (ptr b2 0), qe sv, qe (ii ((k : Int)) : Value), qe (.pointer (some (elemA sv (k)))), qe a1]) (ownL []) mixed rfl rfl (by kernel_rfl) ?_ ?_
   ·refine pD (fun W R z9 => ?_) ?_
    ·refine qi (qk (0) qW rfl jk (by decide) rfl rfl ?_)
     exact ⟨rfl, rfl, rfl⟩
    refine pD (fun W R z9 => ?_) ?_
    ·rw [eS (l := [(0, _)]) ⟨z9 0 rfl, ⟨⟩⟩]
     refine qi (ql jJ rfl (Rd.own [] rfl rfl) ?_)
     exact ⟨rfl, rfl, rfl⟩
    refine pD (fun W R z9 => ?_) ?_
    ·refine qi (qq (ii ((k : Int))) rfl ?_)
     exact ⟨rfl, rfl, rfl⟩
    refine pD (fun W R z9 => ?_) ?_
    ·rw [eS (l := [(1, _), (2, _)]) ⟨z9 1 rfl, z9 2 rfl, ⟨⟩⟩]
     refine qi (qB k qM qu rfl rfl rfl hs.slv (by omega) (Nat.mul_one _) ?_)
     exact ⟨rfl, rfl, rfl⟩
    refine pD (fun W R z9 => ?_) ?_
    ·rw [eS (l := [(3, _)]) ⟨z9 3 rfl, ⟨⟩⟩]
     refine qi (ql qZ rfl (hr1 _) ?_)
     exact ⟨rfl, rfl, rfl⟩
    refine pD (fun W R z9 => ?_) ?_
    ·rw [eS (l := [(4, _)]) ⟨z9 4 rfl, ⟨⟩⟩]
     refine qi (qD qf rfl ha1.slv ?_)
     exact ⟨rfl, rfl, rfl⟩
    refine pD (fun W R z9 => ?_) ?_
    ·rw [eS (l := [(5, _)]) ⟨z9 5 rfl, ⟨⟩⟩]
     refine qi (jQ rfl rfl ?_)
     exact ⟨rfl, rfl, rfl⟩
    refine pD (fun W R z9 => ?_) ?_
    ·rw [eS (l := [(6, _)]) ⟨z9 6 rfl, ⟨⟩⟩]
     refine qi (qq (.bool (decide ((((((s.getD k [])).length : Nat) : Int) : Int) > 0))) rfl ?_)
     exact ⟨rfl, rfl, rfl⟩
    refine pD (fun W R z9 => ?_) ?_
    ·rw [eS (l := [(7, _)]) ⟨z9 7 rfl, ⟨⟩⟩]
     refine jb (t := 29) rfl (vT h4) (qn [arv] js qY rfl rfl (Rd.ownN [_] rfl rfl) ?_)
     exact ⟨rfl, rfl, rfl⟩
    refine pD (fun W R z9 => ?_) ?_
    ·rw [eS (l := [(7, _)]) ⟨z9 7 rfl, ⟨⟩⟩]
     refine jb (t := 29) rfl (vT h4) (qk (0) qW rfl jk (by decide) rfl rfl ?_)
     exact ⟨rfl, rfl, rfl⟩
    refine pD (fun W R z9 => ?_) ?_
    ·rw [eS (l := [(7, _), (9, _)]) ⟨z9 7 rfl, z9 9 rfl, ⟨⟩⟩]
     refine jb (t := 29) rfl (vT h4) (ql jJ rfl (Rd.own [] rfl rfl) ?_)
     exact ⟨rfl, rfl, rfl⟩
    refine pD (fun W R z9 => ?_) ?_
    ·rw [eS (l := [(7, _)]) ⟨z9 7 rfl, ⟨⟩⟩]
     refine jb (t := 29) rfl (vT h4) (qq (ii ((k : Int))) rfl ?_)
     exact ⟨rfl, rfl, rfl⟩
    refine pD (fun W R z9 => ?_) ?_
    ·rw [eS (l := [(7, _), (10, _), (11, _)]) ⟨z9 7 rfl, z9 10 rfl, z9 11 rfl, ⟨⟩⟩]
     refine jb (t := 29) rfl (vT h4) (qB k qM qu rfl rfl rfl hs.slv (by omega) (Nat.mul_one _) ?_)
     exact ⟨rfl, rfl, rfl⟩
    refine pD (fun W R z9 => ?_) ?_
    ·rw [eS (l := [(7, _), (12, _)]) ⟨z9 7 rfl, z9 12 rfl, ⟨⟩⟩]
     refine jb (t := 29) rfl (vT h4) (ql qZ rfl (hr1 _) ?_)
     exact ⟨rfl, rfl, rfl⟩
    exact stepsP.nil
   intro W hphi
   rw [eS (l := [(7, _), (8, _), (13, _)]) ⟨(hphi 7 (by decide)), (hphi 8 (by decide)), (hphi 13 (by decide)), ⟨⟩⟩]
   show XL _ _ _ _ _ _ _ (cellsH b2 [sv] 115 :: cellsH b1 [arv] 36 :: L)
   refine qp (t := 29) rfl (vT h4) (qo (args := [.agg #[arv], a1]) call136 rfl (sTermOk_spec har ha1 (hla := (by first | assumption | rfl | omega | simp)) (hlt := (by first | assumption | rfl | omega | simp))) ?_)
   rintro _ _ _ _ ⟨rfl, rfl, rfl⟩
   refine qp (t := 29) rfl (vT h4) (jn rfl (cX (qU (.bool (!(termOk ar ((s.getD k []))))) (vT h4) rfl (qb ?_))))
   refine jN (t := !(termOk ar ((s.getD k [])))) rfl (fun h5 => ?_) (fun h5 => ?_)
   ·refine qc (qa (qg (.bool (false)) rfl (qb (qw (qI (qm (qm (qI (qm (qs (L' := L) [.bool (false)] (.bool (false)) (.tmp rfl .nil) rfl rF rF (sD (sD sR)) ?_))))))))))
    exact ⟨(vB (substOk_false (fun h => by have h9 := h.2.2 k (by omega); rcases h9 with h9 | h9; (have := congrArg List.length h9; simp only [List.length_nil] at this; omega); simp_all))), rfl, rfl⟩
   refine qz (qa (qd (ii ((k : Int))) rfl (cX (qP (((k + 1 : Nat) : Int)) rfl rfl (by omega) (by omega) (qg (ii (((k + 1 : Nat) : Int))) rfl (qb ?_))))))
   exact ⟨k + 1, _, FLe.refl _, rF, ⟨rfl, rfl, rfl, ⟨⟩⟩, (sC (sC sR)), ⟨rfl, (by (try dsimp only) <;> omega), (fun i hi => (Nat.lt_or_ge i k).elim (fun h => hall i h) (fun h => by obtain rfl : i = k := (by omega); first | exact .inr (by assumption) | exact .inl (len_nil (by assumption)) | (have := len_nil (by assumption); simp_all) | simp_all))⟩, (by omega)⟩
  refine jY [cellsH b2 [sv] 115, cellsH b1 [arv] 36] L 14 [] [[], [0], [], [1, 2], [3], [4], [5], [6], [7], [7], [7, 9], [7], [7, 10, 11], [7, 12]] (phiL [qe (ptr b2 0), qe sv, qe (ii ((k : Int)) : Value), qe (.pointer (some (elemA sv (k)))), qe a1, qe (ii (((((s.getD k [])).length : Nat) : Int)) : Value), qe (.bool (decide ((((((s.getD k [])).length : Nat) : Int) : Int) > 0)) : Value), qe (.bool (decide ((((((s.getD k [])).length : Nat) : Int) : Int) > 0)) : Value), qe undef, qe undef, qe undef, qe undef, qe undef, qe undef]) (ownL []) mixed rfl rfl (by kernel_rfl) ?_ ?_
  ·refine pD (fun W R z9 => ?_) ?_
   ·refine qi (qk (0) qW rfl jk (by decide) rfl rfl ?_)
    exact ⟨rfl, rfl, rfl⟩
   refine pD (fun W R z9 => ?_) ?_
   ·rw [eS (l := [(0, _)]) ⟨z9 0 rfl, ⟨⟩⟩]
    refine qi (ql jJ rfl (Rd.own [] rfl rfl) ?_)
    exact ⟨rfl, rfl, rfl⟩
   refine pD (fun W R z9 => ?_) ?_
   ·refine qi (qq (ii ((k : Int))) rfl ?_)
    exact ⟨rfl, rfl, rfl⟩
   refine pD (fun W R z9 => ?_) ?_
   ·rw [eS (l := [(1, _), (2, _)]) ⟨z9 1 rfl, z9 2 rfl, ⟨⟩⟩]
    refine qi (qB k qM qu rfl rfl rfl hs.slv (by omega) (Nat.mul_one _) ?_)
    exact ⟨rfl, rfl, rfl⟩
   refine pD (fun W R z9 => ?_) ?_
   ·rw [eS (l := [(3, _)]) ⟨z9 3 rfl, ⟨⟩⟩]
    refine qi (ql qZ rfl (hr1 _) ?_)
    exact ⟨rfl, rfl, rfl⟩
   refine pD (fun W R z9 => ?_) ?_
   ·rw [eS (l := [(4, _)]) ⟨z9 4 rfl, ⟨⟩⟩]
    refine qi (qD qf rfl ha1.slv ?_)
    exact ⟨rfl, rfl, rfl⟩
   refine pD (fun W R z9 => ?_) ?_
   ·rw [eS (l := [(5, _)]) ⟨z9 5 rfl, ⟨⟩⟩]
    refine qi (jQ rfl rfl ?_)
    exact ⟨rfl, rfl, rfl⟩
   refine pD (fun W R z9 => ?_) ?_
   ·rw [eS (l := [(6, _)]) ⟨z9 6 rfl, ⟨⟩⟩]
    refine qi (qq (.bool (decide ((((((s.getD k [])).length : Nat) : Int) : Int) > 0))) rfl ?_)
    exact ⟨rfl, rfl, rfl⟩
   refine pD (fun W R z9 => ?_) ?_
   ·rw [eS (l := [(7, _)]) ⟨z9 7 rfl, ⟨⟩⟩]
    exact ju (t := 29) rfl (vF h4) ⟨rfl, rfl, rfl⟩
   refine pD (fun W R z9 => ?_) ?_
   ·rw [eS (l := [(7, _)]) ⟨z9 7 rfl, ⟨⟩⟩]
    exact ju (t := 29) rfl (vF h4) ⟨rfl, rfl, rfl⟩
   refine pD (fun W R z9 => ?_) ?_
   ·rw [eS (l := [(7, _), (9, undef)]) ⟨z9 7 rfl, z9 9 rfl, ⟨⟩⟩]
    exact ju (t := 29) rfl (vF h4) ⟨rfl, rfl, rfl⟩
   refine pD (fun W R z9 => ?_) ?_
   ·rw [eS (l := [(7, _)]) ⟨z9 7 rfl, ⟨⟩⟩]
    exact ju (t := 29) rfl (vF h4) ⟨rfl, rfl, rfl⟩
   refine pD (fun W R z9 => ?_) ?_
   ·rw [eS (l := [(7, _), (10, undef), (11, undef)]) ⟨z9 7 rfl, z9 10 rfl, z9 11 rfl, ⟨⟩⟩]
    exact ju (t := 29) rfl (vF h4) ⟨rfl, rfl, rfl⟩
   refine pD (fun W R z9 => ?_) ?_
   ·rw [eS (l := [(7, _), (12, undef)]) ⟨z9 7 rfl, z9 12 rfl, ⟨⟩⟩]
    exact ju (t := 29) rfl (vF h4) ⟨rfl, rfl, rfl⟩
   exact stepsP.nil
  intro W hphi
  rw [eS (l := [(7, _), (8, undef), (13, undef)]) ⟨(hphi 7 (by decide)), (hphi 8 (by decide)), (hphi 13 (by decide)), ⟨⟩⟩]
  show XL _ _ _ _ _ _ _ (cellsH b2 [sv] 115 :: cellsH b1 [arv] 36 :: L)
  refine qr (t := 29) rfl (vF h4) (qr (t := 29) rfl (vF h4) (cX (qS (.bool (false)) (vF h4) rfl (qb (X.condF rfl (qz (qa (qd (ii ((k : Int))) rfl (cX (qP (((k + 1 : Nat) : Int)) rfl rfl (by omega) (by omega) (qg (ii (((k + 1 : Nat) : Int))) rfl (qb ?_))))))))))))
  exact ⟨k + 1, _, FLe.refl _, rF, ⟨rfl, rfl, rfl, ⟨⟩⟩, (sC (sC sR)), ⟨rfl, (by (try dsimp only) <;> omega), (fun i hi => (Nat.lt_or_ge i k).elim (fun h => hall i h) (fun h => by obtain rfl : i = k := (by omega); first | exact .inr (by assumption) | exact .inl (len_nil (by assumption)) | (have := len_nil (by assumption); simp_all) | simp_all))⟩, (by omega)⟩
 refine jo (qt (qt (qO (qc (qa (qg (.bool (true)) rfl (qb (qw (qs (L' := L) [.bool (true)] (.bool (true)) (.tmp rfl .nil) rfl rF rF (sD (sD sR)) ?_)))))))))
 exact ⟨(vB (substOk_iff.2 ⟨by simp_all, by omega, fun i hi => hall i (by omega)⟩)), rfl, rfl⟩

/- spec.Filled -/
theorem sFilled_spec {F : FH} {L : List HP} {arv : Value} {ar : List Int} (har : IntsF F arv ar) {sv : Value} {s : List (List Int)} (hs : RowsF F sv s) {tv : Value} {t : List Int} (ht : IntsF F tv t) (hla : ar.length ≤ 4000000) (hsl : s.length ≤ 4000000) (hsb : ∀ i, i < s.length → (s.getD i []).length ≤ 4000000) (hlt : t.length ≤ 4000000) :
    Does prog 148 [.agg #[arv], .agg #[sv], tv] F (L) (fun v F' L' => ∃ (a : Value), (.tuple #[a, .bool ((filledL ar s t).isSome)] : Value) = v ∧ (IntsF F' a ((filledL ar s t).getD [])) ∧ L = L') := by
 refine qL func148 rfl rfl rfl (qc (qa (cX (jd [arv] rfl rfl ?_))))
 intro b1
 refine cX (jd [sv] rfl rfl ?_)
 intro b2
 refine qg (sN) rfl (qg (.bool (false)) rfl (qb (qc (qc (qa (cX (qn [arv] js qY rfl rfl (Rd.ownN [_] rfl rfl) (cX (qn [sv] jC qV rfl rfl (Rd.ownN [] rfl rfl) (cX (qo (args := [.agg #[arv], .agg #[sv]]) call147 rfl (sSubstOk_spec har hs (hla := (by first | assumption | rfl | omega | simp)) (hsl := (by first | assumption | rfl | omega | simp)) (hsb := (by first | assumption | rfl | omega | simp))) ?_)))))))))))
 rintro _ _ _ _ ⟨rfl, rfl, rfl⟩
 refine cX (jn rfl (qd (.bool (!(substOk ar s))) rfl ?_))
 by_cases h1 : (!(substOk ar s)) = true
 ·refine qr (t := 12) rfl (vB h1) (qr (t := 12) rfl (vB h1) (qr (t := 12) rfl (vB h1) (qr (t := 12) rfl (vB h1) (cX (qU (.bool (true)) (vB h1) rfl (qb (jI rfl (qc (qa (cX (qx (s := 1) [] [ii (0)] [] qf qy jh rfl (by decide) rfl CellsAre.nil rfl ?_)))))))))))
  intro v1 hv1
  refine qg (v1) rfl (qg (.bool (false)) rfl (qb ?_))
  show X _ _ _ _ _ _ (intsH 2 v1 ([] : List Int) :: cellsH b2 [sv] 115 :: cellsH b1 [arv] 36 :: L)
  refine je [] _ _ rfl (fun F1 le1 hz1 => ?_)
  replace har := har.mono le1
  replace hs := hs.mono le1
  replace ht := ht.mono le1
  have hf1 : IntsF F1 v1 ([]) := intsH.fz (xs := []) hz1.fz
  refine qw (qm (qs (L' := L) [v1, .bool (false)] (.tuple #[v1, .bool (false)]) (.tmp rfl (.tmp rfl .nil)) rfl le1 rF (sD (sD sR)) ?_))
  have e : filledL ar s t = none := by unfold filledL; rw [if_neg (by simp_all)]
  exact ⟨_, by rw [e]; rfl, by rw [e]; exact hf1, rfl⟩
 rw [Bool.not_eq_true] at h1
 have hsk : substOk ar s = true := by simpa using h1
 have hsk2 := substOk_len hsk
 have hsk3 := (substOk_iff.1 hsk).2.1
 refine qp (t := 12) rfl (vB h1) (qn [arv] js qY rfl rfl (Rd.ownN [_] rfl rfl) (qp (t := 12) rfl (vB h1) (qq (tv) rfl (qp (t := 12) rfl (vB h1) (qo (args := [.agg #[arv], tv]) call136 rfl (sTermOk_spec har ht (hla := (by first | assumption | rfl | omega | simp)) (hlt := (by first | assumption | rfl | omega | simp))) ?_)))))
 rintro _ _ _ _ ⟨rfl, rfl, rfl⟩
 refine qp (t := 12) rfl (vB h1) (jn rfl (cX (qS (.bool (!(termOk ar t))) (vB h1) rfl (qb ?_))))
 refine jN (t := !(termOk ar t)) rfl (fun h2 => ?_) (fun h2 => ?_)
 ·refine qc (qa (cX (qx (s := 1) [] [ii (0)] [] qf qy jh rfl (by decide) rfl CellsAre.nil rfl ?_)))
  intro v2 hv2
  refine qg (v2) rfl (qg (.bool (false)) rfl (qb ?_))
  show X _ _ _ _ _ _ (intsH 2 v2 ([] : List Int) :: cellsH b2 [sv] 115 :: cellsH b1 [arv] 36 :: L)
  refine je [] _ _ rfl (fun F2 le2 hz2 => ?_)
  replace hs := hs.mono le2
  replace ht := ht.mono le2
  have hf2 : IntsF F2 v2 ([]) := intsH.fz (xs := []) hz2.fz
  refine qw (qm (qs (L' := L) [v2, .bool (false)] (.tuple #[v2, .bool (false)]) (.tmp rfl (.tmp rfl .nil)) rfl le2 rF (sD (sD sR)) ?_))
  have e : filledL ar s t = none := by unfold filledL; rw [if_neg (by simp_all)]
  exact ⟨_, by rw [e]; rfl, by rw [e]; exact hf2, rfl⟩
 have hto : termOk ar t = true := by simpa using h2
 have htl2 := termOk_len hto
 have htg := fun k (hk : k < t.length) => termOk_ge hto hk
 refine qz (qc (qa (cX (qn [sv] jC qV rfl rfl (Rd.ownN [] rfl rfl) (qd (tv) rfl (cX (qo (args := [.agg #[sv], tv]) call210 rfl (l2Filled_spec hs ht (hsl := (by first | assumption | rfl | omega | simp)) (hsb := (fun i => by have := hsk2 i; omega)) (htl := (by first | assumption | rfl | omega | simp)) (htg := (fun k hk => by have := htg k hk; omega))) ?_)))))))
 rintro _ F3 _ le3 ⟨x1, rfl, hr1, rfl⟩
 refine cX (qQ (x1) rfl rfl (cX (qQ (.bool ((fillL s t).isSome)) rfl rfl (qg (x1) rfl (qg (.bool ((fillL s t).isSome)) rfl (qb (qw (qs (L' := L) [x1, .bool ((fillL s t).isSome)] (.tuple #[x1, .bool ((fillL s t).isSome)]) (.tmp rfl (.tmp rfl .nil)) rfl le3 rF (sD (sD sR)) ?_))))))))
 have e : filledL ar s t = fillL s t := by unfold filledL; rw [if_pos ⟨hsk, hto⟩]
 exact ⟨_, by rw [e], by rw [e]; exact hr1, rfl⟩

/- spec.SubAt -/
theorem sSubAt_spec {F : FH} {L : List HP} {arv : Value} {ar : List Int} (har : IntsF F arv ar) {tv : Value} {t : List Int} (ht : IntsF F tv t) {p : Int} (hla : ar.length ≤ 4000000) (hlt : t.length ≤ 4000000) :
    Does prog 149 [.agg #[arv], tv, ii (p)] F (L) (fun v F' L' => ∃ (a : Value), (a : Value) = v ∧ (IntsF F' a (if posOk ar t p = true then sub ar t p.toNat else [])) ∧ L = L') := by
 refine qL func149 rfl rfl rfl (qc (qa (cX (jd [arv] rfl rfl ?_))))
 intro b1
 refine qg (sN) rfl (qb (qc (qc (qa (cX (qn [arv] js qY rfl rfl (Rd.ownN [] rfl rfl) (qd (tv) rfl (cX (qo (args := [.agg #[arv], tv]) call136 rfl (sTermOk_spec har ht (hla := (by first | assumption | rfl | omega | simp)) (hlt := (by first | assumption | rfl | omega | simp))) ?_)))))))))
 rintro _ _ _ _ ⟨rfl, rfl, rfl⟩
 refine cX (jn rfl (qd (.bool (!(termOk ar t))) rfl ?_))
 by_cases h1 : (!(termOk ar t)) = true
 ·refine qr (t := 11) rfl (vB h1) (qr (t := 11) rfl (vB h1) (qr (t := 11) rfl (vB h1) (qr (t := 11) rfl (vB h1) (cX (qU (.bool (true)) (vB h1) rfl (qb (jI rfl (qc (qa (cX (qx (s := 1) [] [ii (0)] [] qf qy jh rfl (by decide) rfl CellsAre.nil rfl ?_)))))))))))
  intro v1 hv1
  refine qg (v1) rfl (qb ?_)
  show X _ _ _ _ _ _ (intsH 2 v1 ([] : List Int) :: cellsH b1 [arv] 36 :: L)
  refine je [] _ _ rfl (fun F1 le1 hz1 => ?_)
  replace har := har.mono le1
  replace ht := ht.mono le1
  have hf1 : IntsF F1 v1 ([]) := intsH.fz (xs := []) hz1.fz
  refine qw (qm (qs (L' := L) [v1] (v1) (.tmp rfl .nil) rfl le1 rF (sD sR) ?_))
  exact ⟨_, rfl, by rw [if_neg (by rw [posOk_iff]; simp_all <;> omega)]; exact hf1, rfl⟩
 rw [Bool.not_eq_true] at h1
 refine qp (t := 11) rfl (vB h1) (qq (tv) rfl (qp (t := 11) rfl (vB h1) (qq (ii (p)) rfl (qp (t := 11) rfl (vB h1) (qo (args := [tv, ii (p)]) call109 rfl (l1There_spec (n := p) ht (hbd := (by first | assumption | rfl | omega | simp))) ?_)))))
 rintro _ _ _ _ ⟨rfl, rfl, rfl⟩
 refine qp (t := 11) rfl (vB h1) (yj rfl (cX (qS (.bool (decide (¬(0 ≤ p ∧ p < (t.length : Int))))) (vB h1) rfl (qb ?_))))
 refine qE (p := ¬(0 ≤ p ∧ p < (t.length : Int))) rfl (fun h2 => ?_) (fun h2 => ?_)
 ·refine qc (qa (cX (qx (s := 1) [] [ii (0)] [] qf qy jh rfl (by decide) rfl CellsAre.nil rfl ?_)))
  intro v2 hv2
  refine qg (v2) rfl (qb ?_)
  show X _ _ _ _ _ _ (intsH 2 v2 ([] : List Int) :: cellsH b1 [arv] 36 :: L)
  refine je [] _ _ rfl (fun F2 le2 hz2 => ?_)
  replace har := har.mono le2
  replace ht := ht.mono le2
  have hf2 : IntsF F2 v2 ([]) := intsH.fz (xs := []) hz2.fz
  refine qw (qm (qs (L' := L) [v2] (v2) (.tmp rfl .nil) rfl le2 rF (sD sR) ?_))
  exact ⟨_, rfl, by rw [if_neg (by rw [posOk_iff]; simp_all <;> omega)]; exact hf2, rfl⟩
 refine qz (qc (qa ?_))
 have ho : termOk ar t = true := by simp_all
 have hpz : 0 ≤ p ∧ p < (t.length : Int) := by simp_all
 refine cX (qn [arv] js qY rfl rfl (Rd.ownN [] rfl rfl) (qd (tv) rfl (qd (ii (p)) rfl (cX (yf <| qo (args := [.agg #[arv], tv, ii (((p).toNat : Nat) : Int)]) call209 (by rw [show (((p).toNat : Nat) : Int) = p from by omega]; rfl) (l1Sub_spec (p := (p).toNat) har ht (ho := (by first | assumption | rfl | omega | simp)) (hp := (by first | assumption | rfl | omega | simp))) ?_)))))
 rintro v3 _ _ _ ⟨rfl, hs1, rfl⟩
 refine ⟨_, _, rfl, fun F3 le3 hz3 => ?_⟩
 have hf3 : IntsF F3 v3 ((sub ar t ((p).toNat))) := intsH.fz (xs := (sub ar t ((p).toNat))) hz3.fz
 refine qg (v3) rfl (qb (qw (qs (L' := L) [v3] (v3) (.tmp rfl .nil) rfl le3 rF (sD sR) ?_)))
 exact ⟨_, rfl, by rw [if_pos (posOk_iff.2 ⟨ho, hpz⟩)]; exact hf3, rfl⟩

/- impl.loopOk -/
theorem loopOk_spec {F : FH} {L : List HP} {arv : Value} {ar : List Int} (har : IntsF F arv ar) {rsv : Value} {rs : List (List Int × List Int)} (hrs : PairsF F rsv rs) {fv : Value} {f : List Int} (hf : IntsF F fv f) {ssv : Value} {ss : List StepT} (hss : StepsF F ssv ss) {p : Int} {sv : Value} {s : List (List Int)} (hs : RowsF F sv s) (hsys : sysOk ar rs = true) (hlf : f.length ≤ 4000000) (hsb : ∀ i, i < ss.length → (ss.getD i (0, 0, [])).2.2.length ≤ 4000000) (hlss : ss.length ≤ 4000000) :
    Does prog 150 [.agg #[arv, rsv], .agg #[fv, ssv, ii (p), sv]] F (L) (fun v F' L' => (.bool (loopOkL ar rs f ss p s) : Value) = v ∧ F = F' ∧ L = L') := by
 refine qL func150 rfl rfl rfl (qc (qa (cX (jd [arv, rsv] rfl rfl ?_))))
 intro b1
 refine cX (jd [fv, ssv, ii (p), sv] rfl rfl ?_)
 intro b2
 refine qg (.bool (false)) rfl (qb (qc (qc ?_)))
 by_cases h1 : ((ss.length : Int) : Int) = 0
 ·refine jY [cellsH b2 [fv, ssv, ii (p), sv] 117, cellsH b1 [arv, rsv] 39] L 28 [] [[], [0], [1], [2], [3], [4], [5], [5], [5, 7], [5, 6, 8], [5, 9], [5, 10], [11], [12], [12, 13], [12], [12, 15], [12, 16], [12], [12, 18], [12, 14, 17, 19], [12, 20], [12, 21], [22], [23], [23, 24], [23], [23, 26]] (phiL [qe (ptr b2 0), qe (ptr b2 1), qe ssv, qe (ii ((ss.length : Int)) : Value), qe (.bool (decide (((ss.length : Int) : Int) = 0)) : Value), qe (.bool (decide (((ss.length : Int) : Int) = 0)) : Value), qe undef, qe undef, qe undef, qe undef, qe undef, qe (.bool (true)), qe (.bool (true)), qe undef, qe undef, qe undef, qe undef, qe undef, qe undef, qe undef, qe undef, qe undef, qe (.bool (true)), qe (.bool (true)), qe undef, qe undef, qe undef, qe undef]) (ownL []) mixed rfl rfl (by kernel_rfl) ?_ ?_
  ·refine pD (fun W R z9 => ?_) ?_
   ·refine qi (qk (0) qT rfl qH (by decide) rfl rfl ?_)
    exact ⟨rfl, rfl, rfl⟩
   refine pD (fun W R z9 => ?_) ?_
   ·rw [eS (l := [(0, _)]) ⟨z9 0 rfl, ⟨⟩⟩]
    refine qi (qk (1) qA rfl jj (by decide) rfl rfl ?_)
    exact ⟨rfl, rfl, rfl⟩
   refine pD (fun W R z9 => ?_) ?_
   ·rw [eS (l := [(1, _)]) ⟨z9 1 rfl, ⟨⟩⟩]
    refine qi (ql jL rfl (Rd.own [] rfl rfl) ?_)
    exact ⟨rfl, rfl, rfl⟩
   refine pD (fun W R z9 => ?_) ?_
   ·rw [eS (l := [(2, _)]) ⟨z9 2 rfl, ⟨⟩⟩]
    refine qi (qD qG rfl hss.slv ?_)
    exact ⟨rfl, rfl, rfl⟩
   refine pD (fun W R z9 => ?_) ?_
   ·rw [eS (l := [(3, _)]) ⟨z9 3 rfl, ⟨⟩⟩]
    refine qi (jR rfl rfl ?_)
    exact ⟨rfl, rfl, rfl⟩
   refine pD (fun W R z9 => ?_) ?_
   ·rw [eS (l := [(4, _)]) ⟨z9 4 rfl, ⟨⟩⟩]
    refine qi (qq (.bool (decide (((ss.length : Int) : Int) = 0))) rfl ?_)
    exact ⟨rfl, rfl, rfl⟩
   refine pD (fun W R z9 => ?_) ?_
   ·rw [eS (l := [(5, _)]) ⟨z9 5 rfl, ⟨⟩⟩]
    exact ju (t := 12) rfl (vT h1) ⟨rfl, rfl, rfl⟩
   refine pD (fun W R z9 => ?_) ?_
   ·rw [eS (l := [(5, _)]) ⟨z9 5 rfl, ⟨⟩⟩]
    exact ju (t := 12) rfl (vT h1) ⟨rfl, rfl, rfl⟩
   refine pD (fun W R z9 => ?_) ?_
   ·rw [eS (l := [(5, _), (7, undef)]) ⟨z9 5 rfl, z9 7 rfl, ⟨⟩⟩]
    exact ju (t := 12) rfl (vT h1) ⟨rfl, rfl, rfl⟩
   refine pD (fun W R z9 => ?_) ?_
   ·rw [eS (l := [(5, _), (6, undef), (8, undef)]) ⟨z9 5 rfl, z9 6 rfl, z9 8 rfl, ⟨⟩⟩]
    exact ju (t := 12) rfl (vT h1) ⟨rfl, rfl, rfl⟩
   refine pD (fun W R z9 => ?_) ?_
   ·rw [eS (l := [(5, _), (9, undef)]) ⟨z9 5 rfl, z9 9 rfl, ⟨⟩⟩]
    exact ju (t := 12) rfl (vT h1) ⟨rfl, rfl, rfl⟩
   refine pD (fun W R z9 => ?_) ?_
   ·rw [eS (l := [(5, _), (10, undef)]) ⟨z9 5 rfl, z9 10 rfl, ⟨⟩⟩]
    refine qi (qU (.bool (true)) (vT h1) rfl ?_)
    exact ⟨rfl, rfl, rfl⟩
   refine pD (fun W R z9 => ?_) ?_
   ·rw [eS (l := [(11, _)]) ⟨z9 11 rfl, ⟨⟩⟩]
    refine qi (qq (.bool (true)) rfl ?_)
    exact ⟨rfl, rfl, rfl⟩
   refine pD (fun W R z9 => ?_) ?_
   ·rw [eS (l := [(12, _)]) ⟨z9 12 rfl, ⟨⟩⟩]
    exact ju (t := 19) rfl rfl ⟨rfl, rfl, rfl⟩
   refine pD (fun W R z9 => ?_) ?_
   ·rw [eS (l := [(12, _), (13, undef)]) ⟨z9 12 rfl, z9 13 rfl, ⟨⟩⟩]
    exact ju (t := 19) rfl rfl ⟨rfl, rfl, rfl⟩
   refine pD (fun W R z9 => ?_) ?_
   ·rw [eS (l := [(12, _)]) ⟨z9 12 rfl, ⟨⟩⟩]
    exact ju (t := 19) rfl rfl ⟨rfl, rfl, rfl⟩
   refine pD (fun W R z9 => ?_) ?_
   ·rw [eS (l := [(12, _), (15, undef)]) ⟨z9 12 rfl, z9 15 rfl, ⟨⟩⟩]
    exact ju (t := 19) rfl rfl ⟨rfl, rfl, rfl⟩
   refine pD (fun W R z9 => ?_) ?_
   ·rw [eS (l := [(12, _), (16, undef)]) ⟨z9 12 rfl, z9 16 rfl, ⟨⟩⟩]
    exact ju (t := 19) rfl rfl ⟨rfl, rfl, rfl⟩
   refine pD (fun W R z9 => ?_) ?_
   ·rw [eS (l := [(12, _)]) ⟨z9 12 rfl, ⟨⟩⟩]
    exact ju (t := 19) rfl rfl ⟨rfl, rfl, rfl⟩
   refine pD (fun W R z9 => ?_) ?_
   ·rw [eS (l := [(12, _), (18, undef)]) ⟨z9 12 rfl, z9 18 rfl, ⟨⟩⟩]
    exact ju (t := 19) rfl rfl ⟨rfl, rfl, rfl⟩
   refine pD (fun W R z9 => ?_) ?_
   ·rw [eS (l := [(12, _), (14, undef), (17, undef), (19, undef)]) ⟨z9 12 rfl, z9 14 rfl, z9 17 rfl, z9 19 rfl, ⟨⟩⟩]
    exact ju (t := 19) rfl rfl ⟨rfl, rfl, rfl⟩
   refine pD (fun W R z9 => ?_) ?_
   ·rw [eS (l := [(12, _), (20, undef)]) ⟨z9 12 rfl, z9 20 rfl, ⟨⟩⟩]
    exact ju (t := 19) rfl rfl ⟨rfl, rfl, rfl⟩
   refine pD (fun W R z9 => ?_) ?_
   ·rw [eS (l := [(12, _), (21, undef)]) ⟨z9 12 rfl, z9 21 rfl, ⟨⟩⟩]
    refine qi (qU (.bool (true)) rfl rfl ?_)
    exact ⟨rfl, rfl, rfl⟩
   refine pD (fun W R z9 => ?_) ?_
   ·rw [eS (l := [(22, _)]) ⟨z9 22 rfl, ⟨⟩⟩]
    refine qi (qq (.bool (true)) rfl ?_)
    exact ⟨rfl, rfl, rfl⟩
   refine pD (fun W R z9 => ?_) ?_
   ·rw [eS (l := [(23, _)]) ⟨z9 23 rfl, ⟨⟩⟩]
    exact ju (t := 30) rfl rfl ⟨rfl, rfl, rfl⟩
   refine pD (fun W R z9 => ?_) ?_
   ·rw [eS (l := [(23, _), (24, undef)]) ⟨z9 23 rfl, z9 24 rfl, ⟨⟩⟩]
    exact ju (t := 30) rfl rfl ⟨rfl, rfl, rfl⟩
   refine pD (fun W R z9 => ?_) ?_
   ·rw [eS (l := [(23, _)]) ⟨z9 23 rfl, ⟨⟩⟩]
    exact ju (t := 30) rfl rfl ⟨rfl, rfl, rfl⟩
   refine pD (fun W R z9 => ?_) ?_
   ·rw [eS (l := [(23, _), (26, undef)]) ⟨z9 23 rfl, z9 26 rfl, ⟨⟩⟩]
    exact ju (t := 30) rfl rfl ⟨rfl, rfl, rfl⟩
   exact stepsP.nil
  intro W hphi
  rw [eS (l := [(23, _), (25, undef), (27, undef)]) ⟨(hphi 23 (by decide)), (hphi 25 (by decide)), (hphi 27 (by decide)), ⟨⟩⟩]
  show XL _ _ _ _ _ _ _ (cellsH b2 [fv, ssv, ii (p), sv] 117 :: cellsH b1 [arv, rsv] 39 :: L)
  refine qr (t := 30) rfl rfl (qr (t := 30) rfl rfl (cX (qU (.bool (true)) rfl rfl (qb (jI rfl (qc (qa (qg (.bool (false)) rfl (qb (qw (qm (qs (L' := L) [.bool (false)] (.bool (false)) (.tmp rfl .nil) rfl rF rF (sD (sD sR)) ?_))))))))))))
  exact ⟨(vB (loopOkL_no (fun h => by obtain ⟨h1, h2, h3, h4, h5⟩ := h; have h6 := walkOkL_iff.1 h2; have h7 := right_iff.1 h6.1; simp_all <;> omega))), rfl, rfl⟩
 by_cases h2 : (!(((termOk ar f && decide (ss.length ≤ 60)) && goOk ar rs f ss))) = true
 ·refine jY [cellsH b2 [fv, ssv, ii (p), sv] 117, cellsH b1 [arv, rsv] 39] L 28 [] [[], [0], [1], [2], [3], [4], [5], [5], [5, 7], [5, 6, 8], [5, 9], [5, 10], [11], [12], [12, 13], [12], [12, 15], [12, 16], [12], [12, 18], [12, 14, 17, 19], [12, 20], [12, 21], [22], [23], [23, 24], [23], [23, 26]] (phiL [qe (ptr b2 0), qe (ptr b2 1), qe ssv, qe (ii ((ss.length : Int)) : Value), qe (.bool (decide (((ss.length : Int) : Int) = 0)) : Value), qe (.bool (decide (((ss.length : Int) : Int) = 0)) : Value), qe (.agg #[arv, rsv]), qe (ptr b2 0), qe (.agg #[fv, ssv]), qe (.bool (((termOk ar f && decide (ss.length ≤ 60)) && goOk ar rs f ss))), qe (.bool (!(((termOk ar f && decide (ss.length ≤ 60)) && goOk ar rs f ss)))), qe (.bool (!(((termOk ar f && decide (ss.length ≤ 60)) && goOk ar rs f ss)))), qe (.bool (!(((termOk ar f && decide (ss.length ≤ 60)) && goOk ar rs f ss)))), qe undef, qe undef, qe undef, qe undef, qe undef, qe undef, qe undef, qe undef, qe undef, qe (.bool (true)), qe (.bool (true)), qe undef, qe undef, qe undef, qe undef]) (ownL []) mixed rfl rfl (by kernel_rfl) ?_ ?_
  ·refine pD (fun W R z9 => ?_) ?_
   ·refine qi (qk (0) qT rfl qH (by decide) rfl rfl ?_)
    exact ⟨rfl, rfl, rfl⟩
   refine pD (fun W R z9 => ?_) ?_
   ·rw [eS (l := [(0, _)]) ⟨z9 0 rfl, ⟨⟩⟩]
    refine qi (qk (1) qA rfl jj (by decide) rfl rfl ?_)
    exact ⟨rfl, rfl, rfl⟩
   refine pD (fun W R z9 => ?_) ?_
   ·rw [eS (l := [(1, _)]) ⟨z9 1 rfl, ⟨⟩⟩]
    refine qi (ql jL rfl (Rd.own [] rfl rfl) ?_)
    exact ⟨rfl, rfl, rfl⟩
   refine pD (fun W R z9 => ?_) ?_
   ·rw [eS (l := [(2, _)]) ⟨z9 2 rfl, ⟨⟩⟩]
    refine qi (qD qG rfl hss.slv ?_)
    exact ⟨rfl, rfl, rfl⟩
   refine pD (fun W R z9 => ?_) ?_
   ·rw [eS (l := [(3, _)]) ⟨z9 3 rfl, ⟨⟩⟩]
    refine qi (jR rfl rfl ?_)
    exact ⟨rfl, rfl, rfl⟩
   refine pD (fun W R z9 => ?_) ?_
   ·rw [eS (l := [(4, _)]) ⟨z9 4 rfl, ⟨⟩⟩]
    refine qi (qq (.bool (decide (((ss.length : Int) : Int) = 0))) rfl ?_)
    exact ⟨rfl, rfl, rfl⟩
   refine pD (fun W R z9 => ?_) ?_
   ·rw [eS (l := [(5, _)]) ⟨z9 5 rfl, ⟨⟩⟩]
    refine jb (t := 12) rfl (vF h1) (qn [arv, rsv] jr jl rfl rfl (Rd.ownN [_] rfl rfl) ?_)
    exact ⟨rfl, rfl, rfl⟩
   refine pD (fun W R z9 => ?_) ?_
   ·rw [eS (l := [(5, _)]) ⟨z9 5 rfl, ⟨⟩⟩]
    refine jb (t := 12) rfl (vF h1) (qk (0) qT rfl qH (by decide) rfl rfl ?_)
    exact ⟨rfl, rfl, rfl⟩
   refine pD (fun W R z9 => ?_) ?_
   ·rw [eS (l := [(5, _), (7, _)]) ⟨z9 5 rfl, z9 7 rfl, ⟨⟩⟩]
    refine jb (t := 12) rfl (vF h1) (qn [fv, ssv] jy qH rfl rfl (Rd.ownN [] rfl rfl) ?_)
    exact ⟨rfl, rfl, rfl⟩
   refine pD (fun W R z9 => ?_) ?_
   ·rw [eS (l := [(5, _), (6, _), (8, _)]) ⟨z9 5 rfl, z9 6 rfl, z9 8 rfl, ⟨⟩⟩]
    refine jb (t := 12) rfl (vF h1) (qo (args := [.agg #[arv, rsv], .agg #[fv, ssv]]) call163 rfl (walkOk_spec har hrs hf hss (hlf := (by first | assumption | rfl | omega | simp)) (hsb := (by first | assumption | rfl | omega | simp))) ?_)
    rintro _ _ _ _ ⟨rfl, rfl, rfl⟩
    exact ⟨rfl, rfl, rfl⟩
   refine pD (fun W R z9 => ?_) ?_
   ·rw [eS (l := [(5, _), (9, _)]) ⟨z9 5 rfl, z9 9 rfl, ⟨⟩⟩]
    refine jb (t := 12) rfl (vF h1) (jn rfl ?_)
    exact ⟨rfl, rfl, rfl⟩
   refine pD (fun W R z9 => ?_) ?_
   ·rw [eS (l := [(5, _), (10, _)]) ⟨z9 5 rfl, z9 10 rfl, ⟨⟩⟩]
    refine qi (qS (.bool (!(((termOk ar f && decide (ss.length ≤ 60)) && goOk ar rs f ss)))) (vF h1) rfl ?_)
    exact ⟨rfl, rfl, rfl⟩
   refine pD (fun W R z9 => ?_) ?_
   ·rw [eS (l := [(11, _)]) ⟨z9 11 rfl, ⟨⟩⟩]
    refine qi (qq (.bool (!(((termOk ar f && decide (ss.length ≤ 60)) && goOk ar rs f ss)))) rfl ?_)
    exact ⟨rfl, rfl, rfl⟩
   refine pD (fun W R z9 => ?_) ?_
   ·rw [eS (l := [(12, _)]) ⟨z9 12 rfl, ⟨⟩⟩]
    exact ju (t := 19) rfl (vB h2) ⟨rfl, rfl, rfl⟩
   refine pD (fun W R z9 => ?_) ?_
   ·rw [eS (l := [(12, _), (13, undef)]) ⟨z9 12 rfl, z9 13 rfl, ⟨⟩⟩]
    exact ju (t := 19) rfl (vB h2) ⟨rfl, rfl, rfl⟩
   refine pD (fun W R z9 => ?_) ?_
   ·rw [eS (l := [(12, _)]) ⟨z9 12 rfl, ⟨⟩⟩]
    exact ju (t := 19) rfl (vB h2) ⟨rfl, rfl, rfl⟩
   refine pD (fun W R z9 => ?_) ?_
   ·rw [eS (l := [(12, _), (15, undef)]) ⟨z9 12 rfl, z9 15 rfl, ⟨⟩⟩]
    exact ju (t := 19) rfl (vB h2) ⟨rfl, rfl, rfl⟩
   refine pD (fun W R z9 => ?_) ?_
   ·rw [eS (l := [(12, _), (16, undef)]) ⟨z9 12 rfl, z9 16 rfl, ⟨⟩⟩]
    exact ju (t := 19) rfl (vB h2) ⟨rfl, rfl, rfl⟩
   refine pD (fun W R z9 => ?_) ?_
   ·rw [eS (l := [(12, _)]) ⟨z9 12 rfl, ⟨⟩⟩]
    exact ju (t := 19) rfl (vB h2) ⟨rfl, rfl, rfl⟩
   refine pD (fun W R z9 => ?_) ?_
   ·rw [eS (l := [(12, _), (18, undef)]) ⟨z9 12 rfl, z9 18 rfl, ⟨⟩⟩]
    exact ju (t := 19) rfl (vB h2) ⟨rfl, rfl, rfl⟩
   refine pD (fun W R z9 => ?_) ?_
   ·rw [eS (l := [(12, _), (14, undef), (17, undef), (19, undef)]) ⟨z9 12 rfl, z9 14 rfl, z9 17 rfl, z9 19 rfl, ⟨⟩⟩]
    exact ju (t := 19) rfl (vB h2) ⟨rfl, rfl, rfl⟩
   refine pD (fun W R z9 => ?_) ?_
   ·rw [eS (l := [(12, _), (20, undef)]) ⟨z9 12 rfl, z9 20 rfl, ⟨⟩⟩]
    exact ju (t := 19) rfl (vB h2) ⟨rfl, rfl, rfl⟩
   refine pD (fun W R z9 => ?_) ?_
   ·rw [eS (l := [(12, _), (21, undef)]) ⟨z9 12 rfl, z9 21 rfl, ⟨⟩⟩]
    refine qi (qU (.bool (true)) (vB h2) rfl ?_)
    exact ⟨rfl, rfl, rfl⟩
   refine pD (fun W R z9 => ?_) ?_
   ·rw [eS (l := [(22, _)]) ⟨z9 22 rfl, ⟨⟩⟩]
    refine qi (qq (.bool (true)) rfl ?_)
    exact ⟨rfl, rfl, rfl⟩
   refine pD (fun W R z9 => ?_) ?_
   ·rw [eS (l := [(23, _)]) ⟨z9 23 rfl, ⟨⟩⟩]
    exact ju (t := 30) rfl rfl ⟨rfl, rfl, rfl⟩
   refine pD (fun W R z9 => ?_) ?_
   ·rw [eS (l := [(23, _), (24, undef)]) ⟨z9 23 rfl, z9 24 rfl, ⟨⟩⟩]
    exact ju (t := 30) rfl rfl ⟨rfl, rfl, rfl⟩
   refine pD (fun W R z9 => ?_) ?_
   ·rw [eS (l := [(23, _)]) ⟨z9 23 rfl, ⟨⟩⟩]
    exact ju (t := 30) rfl rfl ⟨rfl, rfl, rfl⟩
   refine pD (fun W R z9 => ?_) ?_
   ·rw [eS (l := [(23, _), (26, undef)]) ⟨z9 23 rfl, z9 26 rfl, ⟨⟩⟩]
    exact ju (t := 30) rfl rfl ⟨rfl, rfl, rfl⟩
   exact stepsP.nil
  intro W hphi
  rw [eS (l := [(23, _), (25, undef), (27, undef)]) ⟨(hphi 23 (by decide)), (hphi 25 (by decide)), (hphi 27 (by decide)), ⟨⟩⟩]
  show XL _ _ _ _ _ _ _ (cellsH b2 [fv, ssv, ii (p), sv] 117 :: cellsH b1 [arv, rsv] 39 :: L)
  refine qr (t := 30) rfl rfl (qr (t := 30) rfl rfl (cX (qU (.bool (true)) rfl rfl (qb (jI rfl (qc (qa (qg (.bool (false)) rfl (qb (qw (qm (qs (L' := L) [.bool (false)] (.bool (false)) (.tmp rfl .nil) rfl rF rF (sD (sD sR)) ?_))))))))))))
  exact ⟨(vB (loopOkL_no (fun h => by obtain ⟨h1, h2, h3, h4, h5⟩ := h; have h6 := walkOkL_iff.1 h2; have h7 := right_iff.1 h6.1; simp_all <;> omega))), rfl, rfl⟩
 rw [Bool.not_eq_true] at h2
 have hw1 : ((termOk ar f && decide (ss.length ≤ 60)) && goOk ar rs f ss) = true := by simpa using h2
 have hwk : walkOkL ar rs f ss = true := by rw [walkOkL, rightB, hsys]; simpa using hw1
 have hel := (right_iff.1 (walkOk_end hwk)).2
 have hel2 := termOk_len hel
 have hfo := (right_iff.1 (walkOkL_iff.1 hwk).1).2
 have hfl := termOk_len hfo
 have hfg := fun k (hk : k < f.length) => termOk_ge hfo hk
 have hwl := (walkOkL_iff.1 hwk).2.1
 by_cases h3 : (!(posOk ar (endL f ss) p)) = true
 ·refine jZ [cellsH b2 [fv, ssv, ii (p), sv] 117, cellsH b1 [arv, rsv] 39] L 28 [] [[], [0], [1], [2], [3], [4], [5], [5], [5, 7], [5, 6, 8], [5, 9], [5, 10], [11], [12], [12, 13], [12], [12, 15], [12, 16], [12], [12, 18], [12, 14, 17, 19], [12, 20], [12, 21], [22], [23], [23, 24], [23], [23, 26]] [] (phiG [pe (ptr b2 0), pe (ptr b2 1), pe ssv, pe (ii ((ss.length : Int)) : Value), pe (.bool (decide (((ss.length : Int) : Int) = 0)) : Value), pe (.bool (decide (((ss.length : Int) : Int) = 0)) : Value), pe (.agg #[arv, rsv]), pe (ptr b2 0), pe (.agg #[fv, ssv]), pe (.bool (((termOk ar f && decide (ss.length ≤ 60)) && goOk ar rs f ss))), pe (.bool (!(((termOk ar f && decide (ss.length ≤ 60)) && goOk ar rs f ss)))), pe (.bool (!(((termOk ar f && decide (ss.length ≤ 60)) && goOk ar rs f ss)))), pe (.bool (!(((termOk ar f && decide (ss.length ≤ 60)) && goOk ar rs f ss)))), pe (ptr b1 0), pe (.agg #[arv]), pe (ptr b2 0), pe (.agg #[fv, ssv]), fun FF us v => ((v) : Value) = v ∧ (IntsF FF (v) (endL f ss)), pe (ptr b2 2), pe (ii (p)), pe (.bool (posOk ar (endL f ss) p)), pe (.bool (!(posOk ar (endL f ss) p))), pe (.bool (!(posOk ar (endL f ss) p))), pe (.bool (!(posOk ar (endL f ss) p))), pe undef, pe undef, pe undef, pe undef]) (ownL []) mixed rfl rfl (by kernel_rfl) (by kernel_rfl) (MonoG.get (m1 (m1 (m1 (m1 (m1 (m1 (m1 (m1 (m1 (m1 (m1 (m1 (m1 (m1 (m1 (m1 (m1 (mC (fun le h => ⟨h.1, h.2.mono le⟩) (m1 (m1 (m1 (m1 (m1 (m1 (m1 (m1 (m1 (m1 MonoG.nil))))))))))))))))))))))))))))) ?_ ?_
  ·refine gD (fun W Fs R lF z9 => ?_) ?_
   ·refine qi (qk (0) qT rfl qH (by decide) rfl rfl ?_)
    exact ⟨rfl, rfl⟩
   refine gD (fun W Fs R lF z9 => ?_) ?_
   ·rw [eS (l := [(0, _)]) ⟨z9 0 rfl, ⟨⟩⟩]
    refine qi (qk (1) qA rfl jj (by decide) rfl rfl ?_)
    exact ⟨rfl, rfl⟩
   refine gD (fun W Fs R lF z9 => ?_) ?_
   ·replace har := har.mono lF
    replace hrs := hrs.mono lF
    replace hf := hf.mono lF
    replace hss := hss.mono lF
    replace hs := hs.mono lF
    rw [eS (l := [(1, _)]) ⟨z9 1 rfl, ⟨⟩⟩]
    refine qi (ql jL rfl (Rd.own [] rfl rfl) ?_)
    exact ⟨rfl, rfl⟩
   refine gD (fun W Fs R lF z9 => ?_) ?_
   ·replace har := har.mono lF
    replace hrs := hrs.mono lF
    replace hf := hf.mono lF
    replace hss := hss.mono lF
    replace hs := hs.mono lF
    rw [eS (l := [(2, _)]) ⟨z9 2 rfl, ⟨⟩⟩]
    refine qi (qD qG rfl hss.slv ?_)
    exact ⟨rfl, rfl⟩
   refine gD (fun W Fs R lF z9 => ?_) ?_
   ·rw [eS (l := [(3, _)]) ⟨z9 3 rfl, ⟨⟩⟩]
    refine qi (jR rfl rfl ?_)
    exact ⟨rfl, rfl⟩
   refine gD (fun W Fs R lF z9 => ?_) ?_
   ·rw [eS (l := [(4, _)]) ⟨z9 4 rfl, ⟨⟩⟩]
    refine qi (qq (.bool (decide (((ss.length : Int) : Int) = 0))) rfl ?_)
    exact ⟨rfl, rfl⟩
   refine gD (fun W Fs R lF z9 => ?_) ?_
   ·replace har := har.mono lF
    replace hrs := hrs.mono lF
    replace hf := hf.mono lF
    replace hss := hss.mono lF
    replace hs := hs.mono lF
    rw [eS (l := [(5, _)]) ⟨z9 5 rfl, ⟨⟩⟩]
    refine jb (t := 12) rfl (vF h1) (qn [arv, rsv] jr jl rfl rfl (Rd.ownN [_] rfl rfl) ?_)
    exact ⟨rfl, rfl⟩
   refine gD (fun W Fs R lF z9 => ?_) ?_
   ·rw [eS (l := [(5, _)]) ⟨z9 5 rfl, ⟨⟩⟩]
    refine jb (t := 12) rfl (vF h1) (qk (0) qT rfl qH (by decide) rfl rfl ?_)
    exact ⟨rfl, rfl⟩
   refine gD (fun W Fs R lF z9 => ?_) ?_
   ·replace har := har.mono lF
    replace hrs := hrs.mono lF
    replace hf := hf.mono lF
    replace hss := hss.mono lF
    replace hs := hs.mono lF
    rw [eS (l := [(5, _), (7, _)]) ⟨z9 5 rfl, z9 7 rfl, ⟨⟩⟩]
    refine jb (t := 12) rfl (vF h1) (qn [fv, ssv] jy qH rfl rfl (Rd.ownN [] rfl rfl) ?_)
    exact ⟨rfl, rfl⟩
   refine gD (fun W Fs R lF z9 => ?_) ?_
   ·replace har := har.mono lF
    replace hrs := hrs.mono lF
    replace hf := hf.mono lF
    replace hss := hss.mono lF
    replace hs := hs.mono lF
    rw [eS (l := [(5, _), (6, _), (8, _)]) ⟨z9 5 rfl, z9 6 rfl, z9 8 rfl, ⟨⟩⟩]
    refine jb (t := 12) rfl (vF h1) (qo (args := [.agg #[arv, rsv], .agg #[fv, ssv]]) call163 rfl (walkOk_spec har hrs hf hss (hlf := (by first | assumption | rfl | omega | simp)) (hsb := (by first | assumption | rfl | omega | simp))) ?_)
    rintro _ _ _ _ ⟨rfl, rfl, rfl⟩
    exact ⟨rfl, rfl⟩
   refine gD (fun W Fs R lF z9 => ?_) ?_
   ·rw [eS (l := [(5, _), (9, _)]) ⟨z9 5 rfl, z9 9 rfl, ⟨⟩⟩]
    refine jb (t := 12) rfl (vF h1) (jn rfl ?_)
    exact ⟨rfl, rfl⟩
   refine gD (fun W Fs R lF z9 => ?_) ?_
   ·rw [eS (l := [(5, _), (10, _)]) ⟨z9 5 rfl, z9 10 rfl, ⟨⟩⟩]
    refine qi (qS (.bool (!(((termOk ar f && decide (ss.length ≤ 60)) && goOk ar rs f ss)))) (vF h1) rfl ?_)
    exact ⟨rfl, rfl⟩
   refine gD (fun W Fs R lF z9 => ?_) ?_
   ·rw [eS (l := [(11, _)]) ⟨z9 11 rfl, ⟨⟩⟩]
    refine qi (qq (.bool (!(((termOk ar f && decide (ss.length ≤ 60)) && goOk ar rs f ss)))) rfl ?_)
    exact ⟨rfl, rfl⟩
   refine gD (fun W Fs R lF z9 => ?_) ?_
   ·rw [eS (l := [(12, _)]) ⟨z9 12 rfl, ⟨⟩⟩]
    refine jb (t := 19) rfl (vB h2) (qk (0) ja rfl qY (by decide) rfl rfl ?_)
    exact ⟨rfl, rfl⟩
   refine gD (fun W Fs R lF z9 => ?_) ?_
   ·replace har := har.mono lF
    replace hrs := hrs.mono lF
    replace hf := hf.mono lF
    replace hss := hss.mono lF
    replace hs := hs.mono lF
    rw [eS (l := [(12, _), (13, _)]) ⟨z9 12 rfl, z9 13 rfl, ⟨⟩⟩]
    refine jb (t := 19) rfl (vB h2) (qn [arv] js qY rfl rfl (Rd.ownN [_] rfl rfl) ?_)
    exact ⟨rfl, rfl⟩
   refine gD (fun W Fs R lF z9 => ?_) ?_
   ·rw [eS (l := [(12, _)]) ⟨z9 12 rfl, ⟨⟩⟩]
    refine jb (t := 19) rfl (vB h2) (qk (0) qT rfl qH (by decide) rfl rfl ?_)
    exact ⟨rfl, rfl⟩
   refine gD (fun W Fs R lF z9 => ?_) ?_
   ·replace har := har.mono lF
    replace hrs := hrs.mono lF
    replace hf := hf.mono lF
    replace hss := hss.mono lF
    replace hs := hs.mono lF
    rw [eS (l := [(12, _), (15, _)]) ⟨z9 12 rfl, z9 15 rfl, ⟨⟩⟩]
    refine jb (t := 19) rfl (vB h2) (qn [fv, ssv] jy qH rfl rfl (Rd.ownN [] rfl rfl) ?_)
    exact ⟨rfl, rfl⟩
   refine gD (fun W Fs R lF z9 => ?_) ?_
   ·replace har := har.mono lF
    replace hrs := hrs.mono lF
    replace hf := hf.mono lF
    replace hss := hss.mono lF
    replace hs := hs.mono lF
    rw [eS (l := [(12, _), (16, _)]) ⟨z9 12 rfl, z9 16 rfl, ⟨⟩⟩]
    refine jb (t := 19) rfl (vB h2) (qo (args := [.agg #[fv, ssv]]) call154 rfl (walkEnd_spec hf hss (hlss := (by first | assumption | rfl | omega | simp))) ?_)
    rintro _ _ _ _ ⟨rfl, x3, rfl, hr3, rfl⟩
    exact ⟨⟨rfl, hr3⟩, rfl⟩
   refine gD (fun W Fs R lF z9 => ?_) ?_
   ·rw [eS (l := [(12, _)]) ⟨z9 12 rfl, ⟨⟩⟩]
    refine jb (t := 19) rfl (vB h2) (qk (2) qT rfl qy (by decide) rfl rfl ?_)
    exact ⟨rfl, rfl⟩
   refine gD (fun W Fs R lF z9 => ?_) ?_
   ·replace har := har.mono lF
    replace hrs := hrs.mono lF
    replace hf := hf.mono lF
    replace hss := hss.mono lF
    replace hs := hs.mono lF
    rw [eS (l := [(12, _), (18, _)]) ⟨z9 12 rfl, z9 18 rfl, ⟨⟩⟩]
    refine jb (t := 19) rfl (vB h2) (ql jt rfl (Rd.own [] rfl rfl) ?_)
    exact ⟨rfl, rfl⟩
   refine gD (fun W Fs R lF z9 => ?_) ?_
   ·obtain ⟨e17, f17_6hr⟩ := z9 17 rfl
    replace har := har.mono lF
    replace hrs := hrs.mono lF
    replace hf := hf.mono lF
    replace hss := hss.mono lF
    replace hs := hs.mono lF
    rw [eS (l := [(12, _), (14, _), (17, ((W 17))), (19, _)]) ⟨z9 12 rfl, z9 14 rfl, (e17).symm, z9 19 rfl, ⟨⟩⟩]
    refine jb (t := 19) rfl (vB h2) (qo (args := [.agg #[arv], ((W 17)), ii (p)]) call233 rfl (posOk_spec (n := p) har f17_6hr) ?_)
    rintro _ _ _ _ ⟨rfl, rfl, rfl⟩
    exact ⟨rfl, rfl⟩
   refine gD (fun W Fs R lF z9 => ?_) ?_
   ·rw [eS (l := [(12, _), (20, _)]) ⟨z9 12 rfl, z9 20 rfl, ⟨⟩⟩]
    refine jb (t := 19) rfl (vB h2) (jn rfl ?_)
    exact ⟨rfl, rfl⟩
   refine gD (fun W Fs R lF z9 => ?_) ?_
   ·rw [eS (l := [(12, _), (21, _)]) ⟨z9 12 rfl, z9 21 rfl, ⟨⟩⟩]
    refine qi (qS (.bool (!(posOk ar (endL f ss) p))) (vB h2) rfl ?_)
    exact ⟨rfl, rfl⟩
   refine gD (fun W Fs R lF z9 => ?_) ?_
   ·rw [eS (l := [(22, _)]) ⟨z9 22 rfl, ⟨⟩⟩]
    refine qi (qq (.bool (!(posOk ar (endL f ss) p))) rfl ?_)
    exact ⟨rfl, rfl⟩
   refine gD (fun W Fs R lF z9 => ?_) ?_
   ·rw [eS (l := [(23, _)]) ⟨z9 23 rfl, ⟨⟩⟩]
    exact ju (t := 30) rfl (vB h3) ⟨rfl, rfl⟩
   refine gD (fun W Fs R lF z9 => ?_) ?_
   ·replace har := har.mono lF
    replace hrs := hrs.mono lF
    replace hf := hf.mono lF
    replace hss := hss.mono lF
    replace hs := hs.mono lF
    rw [eS (l := [(23, _), (24, undef)]) ⟨z9 23 rfl, z9 24 rfl, ⟨⟩⟩]
    exact ju (t := 30) rfl (vB h3) ⟨rfl, rfl⟩
   refine gD (fun W Fs R lF z9 => ?_) ?_
   ·rw [eS (l := [(23, _)]) ⟨z9 23 rfl, ⟨⟩⟩]
    exact ju (t := 30) rfl (vB h3) ⟨rfl, rfl⟩
   refine gD (fun W Fs R lF z9 => ?_) ?_
   ·replace har := har.mono lF
    replace hrs := hrs.mono lF
    replace hf := hf.mono lF
    replace hss := hss.mono lF
    replace hs := hs.mono lF
    rw [eS (l := [(23, _), (26, undef)]) ⟨z9 23 rfl, z9 26 rfl, ⟨⟩⟩]
    exact ju (t := 30) rfl (vB h3) ⟨rfl, rfl⟩
   exact stepsG.nil
  intro W F4 le4 hphi
  obtain ⟨e17, f17_6hr⟩ := hphi 17 (by decide)
  generalize hu1 : ((W 17)) = u1 at e17 f17_6hr
  rw [eS (l := [(23, _), (25, undef), (27, undef)]) ⟨(hphi 23 (by decide)), (hphi 25 (by decide)), (hphi 27 (by decide)), ⟨⟩⟩]
  replace har := har.mono le4
  replace hrs := hrs.mono le4
  replace hf := hf.mono le4
  replace hss := hss.mono le4
  replace hs := hs.mono le4
  show XL _ _ _ _ _ _ _ (cellsH b2 [fv, ssv, ii (p), sv] 117 :: cellsH b1 [arv, rsv] 39 :: L)
  refine qr (t := 30) rfl (vB h3) (qr (t := 30) rfl (vB h3) (cX (qU (.bool (true)) (vB h3) rfl (qb (jI rfl (qc (qa (qg (.bool (false)) rfl (qb (qw (qm (qs (L' := L) [.bool (false)] (.bool (false)) (.tmp rfl .nil) rfl rF le4 (sD (sD sR)) ?_))))))))))))
  exact ⟨(vB (loopOkL_no (fun h => by obtain ⟨h1, h2, h3, h4, h5⟩ := h; have h6 := walkOkL_iff.1 h2; have h7 := right_iff.1 h6.1; simp_all <;> omega))), rfl, rfl⟩
 rw [Bool.not_eq_true] at h3
 have hpo : posOk ar (endL f ss) p = true := by simpa using h3
 have hpo2 := posOk_iff.1 hpo
 have hso := sub_ok hpo2.1 (p := p.toNat) (by omega)
 have hsol := termOk_len hso
 refine jZ [cellsH b2 [fv, ssv, ii (p), sv] 117, cellsH b1 [arv, rsv] 39] L 28 [] [[], [0], [1], [2], [3], [4], [5], [5], [5, 7], [5, 6, 8], [5, 9], [5, 10], [11], [12], [12, 13], [12], [12, 15], [12, 16], [12], [12, 18], [12, 14, 17, 19], [12, 20], [12, 21], [22], [23], [23, 24], [23], [23, 26]] [] (phiG [pe (ptr b2 0), pe (ptr b2 1), pe ssv, pe (ii ((ss.length : Int)) : Value), pe (.bool (decide (((ss.length : Int) : Int) = 0)) : Value), pe (.bool (decide (((ss.length : Int) : Int) = 0)) : Value), pe (.agg #[arv, rsv]), pe (ptr b2 0), pe (.agg #[fv, ssv]), pe (.bool (((termOk ar f && decide (ss.length ≤ 60)) && goOk ar rs f ss))), pe (.bool (!(((termOk ar f && decide (ss.length ≤ 60)) && goOk ar rs f ss)))), pe (.bool (!(((termOk ar f && decide (ss.length ≤ 60)) && goOk ar rs f ss)))), pe (.bool (!(((termOk ar f && decide (ss.length ≤ 60)) && goOk ar rs f ss)))), pe (ptr b1 0), pe (.agg #[arv]), pe (ptr b2 0), pe (.agg #[fv, ssv]), fun FF us v => ((v) : Value) = v ∧ (IntsF FF (v) (endL f ss)), pe (ptr b2 2), pe (ii (p)), pe (.bool (posOk ar (endL f ss) p)), pe (.bool (!(posOk ar (endL f ss) p))), pe (.bool (!(posOk ar (endL f ss) p))), pe (.bool (!(posOk ar (endL f ss) p))), pe (ptr b1 0), pe (.agg #[arv]), pe (ptr b2 3), pe (.agg #[sv])]) (ownL []) mixed rfl rfl (by kernel_rfl) (by kernel_rfl) (MonoG.get (m1 (m1 (m1 (m1 (m1 (m1 (m1 (m1 (m1 (m1 (m1 (m1 (m1 (m1 (m1 (m1 (m1 (mC (fun le h => ⟨h.1, h.2.mono le⟩) (m1 (m1 (m1 (m1 (m1 (m1 (m1 (m1 (m1 (m1 MonoG.nil))))))))))))))))))))))))))))) ?_ ?_
 ·refine gD (fun W Fs R lF z9 => ?_) ?_
  ·refine qi (qk (0) qT rfl qH (by decide) rfl rfl ?_)
   exact ⟨rfl, rfl⟩
  refine gD (fun W Fs R lF z9 => ?_) ?_
  ·rw [eS (l := [(0, _)]) ⟨z9 0 rfl, ⟨⟩⟩]
   refine qi (qk (1) qA rfl jj (by decide) rfl rfl ?_)
   exact ⟨rfl, rfl⟩
  refine gD (fun W Fs R lF z9 => ?_) ?_
  ·replace har := har.mono lF
   replace hrs := hrs.mono lF
   replace hf := hf.mono lF
   replace hss := hss.mono lF
   replace hs := hs.mono lF
   rw [eS (l := [(1, _)]) ⟨z9 1 rfl, ⟨⟩⟩]
   refine qi (ql jL rfl (Rd.own [] rfl rfl) ?_)
   exact ⟨rfl, rfl⟩
  refine gD (fun W Fs R lF z9 => ?_) ?_
  ·replace har := har.mono lF
   replace hrs := hrs.mono lF
   replace hf := hf.mono lF
   replace hss := hss.mono lF
   replace hs := hs.mono lF
   rw [eS (l := [(2, _)]) ⟨z9 2 rfl, ⟨⟩⟩]
   refine qi (qD qG rfl hss.slv ?_)
   exact ⟨rfl, rfl⟩
  refine gD (fun W Fs R lF z9 => ?_) ?_
  ·rw [eS (l := [(3, _)]) ⟨z9 3 rfl, ⟨⟩⟩]
   refine qi (jR rfl rfl ?_)
   exact ⟨rfl, rfl⟩
  refine gD (fun W Fs R lF z9 => ?_) ?_
  ·rw [eS (l := [(4, _)]) ⟨z9 4 rfl, ⟨⟩⟩]
   refine qi (qq (.bool (decide (((ss.length : Int) : Int) = 0))) rfl ?_)
   exact ⟨rfl, rfl⟩
  refine gD (fun W Fs R lF z9 => ?_) ?_
  ·replace har := har.mono lF
   replace hrs := hrs.mono lF
   replace hf := hf.mono lF
   replace hss := hss.mono lF
   replace hs := hs.mono lF
   rw [eS (l := [(5, _)]) ⟨z9 5 rfl, ⟨⟩⟩]
   refine jb (t := 12) rfl (vF h1) (qn [arv, rsv] jr jl rfl rfl (Rd.ownN [_] rfl rfl) ?_)
   exact ⟨rfl, rfl⟩
  refine gD (fun W Fs R lF z9 => ?_) ?_
  ·rw [eS (l := [(5, _)]) ⟨z9 5 rfl, ⟨⟩⟩]
   refine jb (t := 12) rfl (vF h1) (qk (0) qT rfl qH (by decide) rfl rfl ?_)
   exact ⟨rfl, rfl⟩
  refine gD (fun W Fs R lF z9 => ?_) ?_
  ·replace har := har.mono lF
   replace hrs := hrs.mono lF
   replace hf := hf.mono lF
   replace hss := hss.mono lF
   replace hs := hs.mono lF
   rw [eS (l := [(5, _), (7, _)]) ⟨z9 5 rfl, z9 7 rfl, ⟨⟩⟩]
   refine jb (t := 12) rfl (vF h1) (qn [fv, ssv] jy qH rfl rfl (Rd.ownN [] rfl rfl) ?_)
   exact ⟨rfl, rfl⟩
  refine gD (fun W Fs R lF z9 => ?_) ?_
  ·replace har := har.mono lF
   replace hrs := hrs.mono lF
   replace hf := hf.mono lF
   replace hss := hss.mono lF
   replace hs := hs.mono lF
   rw [eS (l := [(5, _), (6, _), (8, _)]) ⟨z9 5 rfl, z9 6 rfl, z9 8 rfl, ⟨⟩⟩]
   refine jb (t := 12) rfl (vF h1) (qo (args := [.agg #[arv, rsv], .agg #[fv, ssv]]) call163 rfl (walkOk_spec har hrs hf hss (hlf := (by first | assumption | rfl | omega | simp)) (hsb := (by first | assumption | rfl | omega | simp))) ?_)
   rintro _ _ _ _ ⟨rfl, rfl, rfl⟩
   exact ⟨rfl, rfl⟩
  refine gD (fun W Fs R lF z9 => ?_) ?_
  ·rw [eS (l := [(5, _), (9, _)]) ⟨z9 5 rfl, z9 9 rfl, ⟨⟩⟩]
   refine jb (t := 12) rfl (vF h1) (jn rfl ?_)
   exact ⟨rfl, rfl⟩
  refine gD (fun W Fs R lF z9 => ?_) ?_
  ·rw [eS (l := [(5, _), (10, _)]) ⟨z9 5 rfl, z9 10 rfl, ⟨⟩⟩]
   refine qi (qS (.bool (!(((termOk ar f && decide (ss.length ≤ 60)) && goOk ar rs f ss)))) (vF h1) rfl ?_)
   exact ⟨rfl, rfl⟩
  refine gD (fun W Fs R lF z9 => ?_) ?_
  ·rw [eS (l := [(11, _)]) ⟨z9 11 rfl, ⟨⟩⟩]
   refine qi (qq (.bool (!(((termOk ar f && decide (ss.length ≤ 60)) && goOk ar rs f ss)))) rfl ?_)
   exact ⟨rfl, rfl⟩
  refine gD (fun W Fs R lF z9 => ?_) ?_
  ·rw [eS (l := [(12, _)]) ⟨z9 12 rfl, ⟨⟩⟩]
   refine jb (t := 19) rfl (vB h2) (qk (0) ja rfl qY (by decide) rfl rfl ?_)
   exact ⟨rfl, rfl⟩
  refine gD (fun W Fs R lF z9 => ?_) ?_
  ·replace har := har.mono lF
   replace hf := hf.mono lF
   replace hss := hss.mono lF
   replace hs := hs.mono lF
   rw [eS (l := [(12, _), (13, _)]) ⟨z9 12 rfl, z9 13 rfl, ⟨⟩⟩]
   refine jb (t := 19) rfl (vB h2) (qn [arv] js qY rfl rfl (Rd.ownN [_] rfl rfl) ?_)
   exact ⟨rfl, rfl⟩
  refine gD (fun W Fs R lF z9 => ?_) ?_
  ·rw [eS (l := [(12, _)]) ⟨z9 12 rfl, ⟨⟩⟩]
   refine jb (t := 19) rfl (vB h2) (qk (0) qT rfl qH (by decide) rfl rfl ?_)
   exact ⟨rfl, rfl⟩
  refine gD (fun W Fs R lF z9 => ?_) ?_
  ·replace har := har.mono lF
   replace hf := hf.mono lF
   replace hss := hss.mono lF
   replace hs := hs.mono lF
   rw [eS (l := [(12, _), (15, _)]) ⟨z9 12 rfl, z9 15 rfl, ⟨⟩⟩]
   refine jb (t := 19) rfl (vB h2) (qn [fv, ssv] jy qH rfl rfl (Rd.ownN [] rfl rfl) ?_)
   exact ⟨rfl, rfl⟩
  refine gD (fun W Fs R lF z9 => ?_) ?_
  ·replace har := har.mono lF
   replace hf := hf.mono lF
   replace hss := hss.mono lF
   replace hs := hs.mono lF
   rw [eS (l := [(12, _), (16, _)]) ⟨z9 12 rfl, z9 16 rfl, ⟨⟩⟩]
   refine jb (t := 19) rfl (vB h2) (qo (args := [.agg #[fv, ssv]]) call154 rfl (walkEnd_spec hf hss (hlss := (by first | assumption | rfl | omega | simp))) ?_)
   rintro _ _ _ _ ⟨rfl, x5, rfl, hr5, rfl⟩
   exact ⟨⟨rfl, hr5⟩, rfl⟩
  refine gD (fun W Fs R lF z9 => ?_) ?_
  ·rw [eS (l := [(12, _)]) ⟨z9 12 rfl, ⟨⟩⟩]
   refine jb (t := 19) rfl (vB h2) (qk (2) qT rfl qy (by decide) rfl rfl ?_)
   exact ⟨rfl, rfl⟩
  refine gD (fun W Fs R lF z9 => ?_) ?_
  ·replace har := har.mono lF
   replace hf := hf.mono lF
   replace hss := hss.mono lF
   replace hs := hs.mono lF
   rw [eS (l := [(12, _), (18, _)]) ⟨z9 12 rfl, z9 18 rfl, ⟨⟩⟩]
   refine jb (t := 19) rfl (vB h2) (ql jt rfl (Rd.own [] rfl rfl) ?_)
   exact ⟨rfl, rfl⟩
  refine gD (fun W Fs R lF z9 => ?_) ?_
  ·obtain ⟨e17, f17_7hr⟩ := z9 17 rfl
   replace har := har.mono lF
   replace hf := hf.mono lF
   replace hss := hss.mono lF
   replace hs := hs.mono lF
   rw [eS (l := [(12, _), (14, _), (17, ((W 17))), (19, _)]) ⟨z9 12 rfl, z9 14 rfl, (e17).symm, z9 19 rfl, ⟨⟩⟩]
   refine jb (t := 19) rfl (vB h2) (qo (args := [.agg #[arv], ((W 17)), ii (p)]) call233 rfl (posOk_spec (n := p) har f17_7hr) ?_)
   rintro _ _ _ _ ⟨rfl, rfl, rfl⟩
   exact ⟨rfl, rfl⟩
  refine gD (fun W Fs R lF z9 => ?_) ?_
  ·rw [eS (l := [(12, _), (20, _)]) ⟨z9 12 rfl, z9 20 rfl, ⟨⟩⟩]
   refine jb (t := 19) rfl (vB h2) (jn rfl ?_)
   exact ⟨rfl, rfl⟩
  refine gD (fun W Fs R lF z9 => ?_) ?_
  ·rw [eS (l := [(12, _), (21, _)]) ⟨z9 12 rfl, z9 21 rfl, ⟨⟩⟩]
   refine qi (qS (.bool (!(posOk ar (endL f ss) p))) (vB h2) rfl ?_)
   exact ⟨rfl, rfl⟩
  refine gD (fun W Fs R lF z9 => ?_) ?_
  ·rw [eS (l := [(22, _)]) ⟨z9 22 rfl, ⟨⟩⟩]
   refine qi (qq (.bool (!(posOk ar (endL f ss) p))) rfl ?_)
   exact ⟨rfl, rfl⟩
  refine gD (fun W Fs R lF z9 => ?_) ?_
  ·rw [eS (l := [(23, _)]) ⟨z9 23 rfl, ⟨⟩⟩]
   refine jb (t := 30) rfl (vB h3) (qk (0) ja rfl qY (by decide) rfl rfl ?_)
   exact ⟨rfl, rfl⟩
  refine gD (fun W Fs R lF z9 => ?_) ?_
  ·replace har := har.mono lF
   replace hf := hf.mono lF
   replace hss := hss.mono lF
   replace hs := hs.mono lF
   rw [eS (l := [(23, _), (24, _)]) ⟨z9 23 rfl, z9 24 rfl, ⟨⟩⟩]
   refine jb (t := 30) rfl (vB h3) (qn [arv] js qY rfl rfl (Rd.ownN [_] rfl rfl) ?_)
   exact ⟨rfl, rfl⟩
  refine gD (fun W Fs R lF z9 => ?_) ?_
  ·rw [eS (l := [(23, _)]) ⟨z9 23 rfl, ⟨⟩⟩]
   refine jb (t := 30) rfl (vB h3) (qk (3) qT rfl qV (by decide) rfl rfl ?_)
   exact ⟨rfl, rfl⟩
  refine gD (fun W Fs R lF z9 => ?_) ?_
  ·replace har := har.mono lF
   replace hf := hf.mono lF
   replace hss := hss.mono lF
   replace hs := hs.mono lF
   rw [eS (l := [(23, _), (26, _)]) ⟨z9 23 rfl, z9 26 rfl, ⟨⟩⟩]
   refine jb (t := 30) rfl (vB h3) (qn [sv] jC qV rfl rfl (Rd.ownN [] rfl rfl) ?_)
   exact ⟨rfl, rfl⟩
  exact stepsG.nil
 intro W F7 le7 hphi
 obtain ⟨e17, f17_7hr⟩ := hphi 17 (by decide)
 generalize hu2 : ((W 17)) = u2 at e17 f17_7hr
 rw [eS (l := [(23, _), (25, _), (27, _)]) ⟨(hphi 23 (by decide)), (hphi 25 (by decide)), (hphi 27 (by decide)), ⟨⟩⟩]
 replace har := har.mono le7
 replace hf := hf.mono le7
 replace hss := hss.mono le7
 replace hs := hs.mono le7
 show XL _ _ _ _ _ _ _ (cellsH b2 [fv, ssv, ii (p), sv] 117 :: cellsH b1 [arv, rsv] 39 :: L)
 refine qp (t := 30) rfl (vB h3) (qo (args := [.agg #[arv], .agg #[sv]]) call249 rfl (SubstOk_spec har hs) ?_)
 rintro _ _ _ _ ⟨rfl, rfl, rfl⟩
 refine qp (t := 30) rfl (vB h3) (jn rfl (cX (qS (.bool (!(substOk ar s))) (vB h3) rfl (qb ?_))))
 refine jN (t := !(substOk ar s)) rfl (fun h4 => ?_) (fun h4 => ?_)
 ·refine qc (qa (qg (.bool (false)) rfl (qb (qw (qm (qs (L' := L) [.bool (false)] (.bool (false)) (.tmp rfl .nil) rfl rF le7 (sD (sD sR)) ?_))))))
  exact ⟨(vB (loopOkL_no (fun h => by obtain ⟨h1, h2, h3, h4, h5⟩ := h; have h6 := walkOkL_iff.1 h2; have h7 := right_iff.1 h6.1; simp_all <;> omega))), rfl, rfl⟩
 have hsk : substOk ar s = true := by simpa using h4
 have hsk2 := substOk_len hsk
 have hsk3 := (substOk_iff.1 hsk).2.1
 refine qz (qc (qa (cX (qk (3) qT rfl qV (by decide) rfl rfl (cX (qn [sv] jC qV rfl rfl (Rd.ownN [] rfl rfl) (cX (qk (0) qT rfl qH (by decide) rfl rfl (cX (qk (0) qA rfl qu (by decide) rfl rfl (cX (ql qZ rfl (Rd.own [] rfl rfl) (cX (qo (args := [.agg #[sv], fv]) call205 rfl (fill_spec hs hf (hsl := (by first | assumption | rfl | omega | simp)) (hsb := (fun i => by have := hsk2 i; omega)) (htl := (by first | assumption | rfl | omega | simp)) (htg := (fun k hk => by have := hfg k hk; omega))) ?_))))))))))))))
 rintro _ F8 _ le8 ⟨x6, rfl, hr6, hr7, rfl⟩
 replace har := har.mono le8
 replace hf := hf.mono le8
 replace hss := hss.mono le8
 refine qd (.tuple #[x6, .bool ((fillL s f).isSome)]) rfl (cX (qQ (x6) rfl rfl (cX (qQ (.bool ((fillL s f).isSome)) rfl rfl (qg (x6) rfl (qg (.bool ((fillL s f).isSome)) rfl (qb (qc ?_))))))))
 by_cases h5 : ((fillL s f).isSome) = true
 ·have hfs := h5
  refine jZ [cellsH b2 [fv, ssv, ii (p), sv] 117, cellsH b1 [arv, rsv] 39] L 11 [] [[], [0], [1], [1], [1, 3], [1], [1, 5], [1, 6], [1], [1, 8], [1, 4, 7, 9]] [] (phiG [pe (.bool ((fillL s f).isSome)), pe (.bool ((fillL s f).isSome)), pe x6, pe (ptr b1 0), pe (.agg #[arv]), pe (ptr b2 0), pe (.agg #[fv, ssv]), fun FF us v => ((v) : Value) = v ∧ (IntsF FF (v) (endL f ss)), pe (ptr b2 2), pe (ii (p)), fun FF us v => ((v) : Value) = v ∧ (IntsF FF (v) (sub ar (endL f ss) ((p).toNat))) ∧ (isNil (v) = false)]) (ownL []) mixed rfl rfl (by kernel_rfl) (by kernel_rfl) (MonoG.get (m1 (m1 (m1 (m1 (m1 (m1 (m1 (mC (fun le h => ⟨h.1, h.2.mono le⟩) (m1 (m1 (mC (fun le h => ⟨h.1, h.2.1.mono le, h.2.2⟩) MonoG.nil)))))))))))) ?_ ?_
  ·refine gD (fun W Fs R lF z9 => ?_) ?_
   ·refine qi (qq (.bool ((fillL s f).isSome)) rfl ?_)
    exact ⟨rfl, rfl⟩
   refine gD (fun W Fs R lF z9 => ?_) ?_
   ·rw [eS (l := [(0, _)]) ⟨z9 0 rfl, ⟨⟩⟩]
    refine qi (qq (.bool ((fillL s f).isSome)) rfl ?_)
    exact ⟨rfl, rfl⟩
   refine gD (fun W Fs R lF z9 => ?_) ?_
   ·rw [eS (l := [(1, _)]) ⟨z9 1 rfl, ⟨⟩⟩]
    refine jb (t := 48) rfl (vB h5) (qq (x6) rfl ?_)
    exact ⟨rfl, rfl⟩
   refine gD (fun W Fs R lF z9 => ?_) ?_
   ·rw [eS (l := [(1, _)]) ⟨z9 1 rfl, ⟨⟩⟩]
    refine jb (t := 48) rfl (vB h5) (qk (0) ja rfl qY (by decide) rfl rfl ?_)
    exact ⟨rfl, rfl⟩
   refine gD (fun W Fs R lF z9 => ?_) ?_
   ·replace har := har.mono lF
    replace hf := hf.mono lF
    replace hss := hss.mono lF
    replace hr6 := hr6.mono lF
    rw [eS (l := [(1, _), (3, _)]) ⟨z9 1 rfl, z9 3 rfl, ⟨⟩⟩]
    refine jb (t := 48) rfl (vB h5) (qn [arv] js qY rfl rfl (Rd.ownN [_] rfl rfl) ?_)
    exact ⟨rfl, rfl⟩
   refine gD (fun W Fs R lF z9 => ?_) ?_
   ·rw [eS (l := [(1, _)]) ⟨z9 1 rfl, ⟨⟩⟩]
    refine jb (t := 48) rfl (vB h5) (qk (0) qT rfl qH (by decide) rfl rfl ?_)
    exact ⟨rfl, rfl⟩
   refine gD (fun W Fs R lF z9 => ?_) ?_
   ·replace har := har.mono lF
    replace hf := hf.mono lF
    replace hss := hss.mono lF
    replace hr6 := hr6.mono lF
    rw [eS (l := [(1, _), (5, _)]) ⟨z9 1 rfl, z9 5 rfl, ⟨⟩⟩]
    refine jb (t := 48) rfl (vB h5) (qn [fv, ssv] jy qH rfl rfl (Rd.ownN [] rfl rfl) ?_)
    exact ⟨rfl, rfl⟩
   refine gD (fun W Fs R lF z9 => ?_) ?_
   ·replace har := har.mono lF
    replace hf := hf.mono lF
    replace hss := hss.mono lF
    replace hr6 := hr6.mono lF
    rw [eS (l := [(1, _), (6, _)]) ⟨z9 1 rfl, z9 6 rfl, ⟨⟩⟩]
    refine jb (t := 48) rfl (vB h5) (qo (args := [.agg #[fv, ssv]]) call154 rfl (walkEnd_spec hf hss (hlss := (by first | assumption | rfl | omega | simp))) ?_)
    rintro _ _ _ _ ⟨rfl, x8, rfl, hr9, rfl⟩
    exact ⟨⟨rfl, hr9⟩, rfl⟩
   refine gD (fun W Fs R lF z9 => ?_) ?_
   ·rw [eS (l := [(1, _)]) ⟨z9 1 rfl, ⟨⟩⟩]
    refine jb (t := 48) rfl (vB h5) (qk (2) qT rfl qy (by decide) rfl rfl ?_)
    exact ⟨rfl, rfl⟩
   refine gD (fun W Fs R lF z9 => ?_) ?_
   ·replace har := har.mono lF
    replace hr6 := hr6.mono lF
    rw [eS (l := [(1, _), (8, _)]) ⟨z9 1 rfl, z9 8 rfl, ⟨⟩⟩]
    refine jb (t := 48) rfl (vB h5) (ql jt rfl (Rd.own [] rfl rfl) ?_)
    exact ⟨rfl, rfl⟩
   refine gD (fun W Fs R lF z9 => ?_) ?_
   ·obtain ⟨e7, f7_9hr⟩ := z9 7 rfl
    replace har := har.mono lF
    replace hr6 := hr6.mono lF
    rw [eS (l := [(1, _), (4, _), (7, ((W 7))), (9, _)]) ⟨z9 1 rfl, z9 4 rfl, (e7).symm, z9 9 rfl, ⟨⟩⟩]
    refine jb (t := 48) rfl (vB h5) (qo (args := [.agg #[arv], ((W 7)), ii (((p).toNat : Nat) : Int)]) call204 (by rw [show (((p).toNat : Nat) : Int) = p from by omega]; rfl) (subAt_spec (p := (p).toNat) har f7_9hr (ho := (hel)) (hp := (by omega)) (hnn := (by first | exact yb (F := Fs) (xs := endL f ss) (by assumption) (by omega) | exact yb (F := F) (xs := endL f ss) (by assumption) (by omega)))) ?_)
    rintro v2 _ _ _ ⟨rfl, rfl, hv2, hn2⟩
    exact ⟨⟨rfl, hv2, hn2⟩, rfl⟩
   exact stepsG.nil
  intro W F11 le11 hphi
  obtain ⟨e7, f7_9hr⟩ := hphi 7 (by decide)
  obtain ⟨e10, f10_9ha, f10_9hn⟩ := hphi 10 (by decide)
  generalize hu3 : ((W 7)) = u3 at e7 f7_9hr e10 f10_9ha f10_9hn
  generalize hu4 : ((W 10)) = u4 at e7 f7_9hr e10 f10_9ha f10_9hn
  rw [eS (l := [(1, _), (2, _), (10, u4)]) ⟨(hphi 1 (by decide)), (hphi 2 (by decide)), hu4, ⟨⟩⟩]
  replace hr6 := hr6.mono le11
  show XL _ _ _ _ _ _ _ (cellsH b2 [fv, ssv, ii (p), sv] 117 :: cellsH b1 [arv, rsv] 39 :: L)
  refine qp (t := 48) rfl (vB h5) (qo (args := [x6, u4]) call156 rfl (Equal_spec hr6 f10_9ha (hbd := (by first | assumption | rfl | omega | (left; simp; done) | (right; simp; done)))) ?_)
  rintro _ _ _ _ ⟨rfl, rfl, rfl⟩
  refine cX (qU (.bool (decide (((fillL s f).getD []) = ((sub ar (endL f ss) ((p).toNat)))))) (vB h5) rfl (qg (.bool (decide (((fillL s f).getD []) = ((sub ar (endL f ss) ((p).toNat)))))) rfl (qb (qw (qs (L' := L) [.bool (decide (((fillL s f).getD []) = ((sub ar (endL f ss) ((p).toNat)))))] (.bool (decide (((fillL s f).getD []) = ((sub ar (endL f ss) ((p).toNat)))))) (.tmp rfl .nil) rfl rF (qh (qh le7 le8) le11) (sD (sD sR)) ?_)))))
  exact ⟨(vB (by rw [Bool.eq_iff_iff, loopOkL_iff]; simp only [decide_eq_true_eq]; exact ⟨fun h => (fill_eq hfs).1 h.2.2.2.2, fun h => ⟨by omega, hwk, hpo, hsk, (fill_eq hfs).2 h⟩⟩)), rfl, rfl⟩
 rw [Bool.not_eq_true] at h5
 have hfs := h5
 refine jY [cellsH b2 [fv, ssv, ii (p), sv] 117, cellsH b1 [arv, rsv] 39] L 11 [] [[], [0], [1], [1], [1, 3], [1], [1, 5], [1, 6], [1], [1, 8], [1, 4, 7, 9]] (phiL [qe (.bool ((fillL s f).isSome)), qe (.bool ((fillL s f).isSome)), qe undef, qe undef, qe undef, qe undef, qe undef, qe undef, qe undef, qe undef, qe undef]) (ownL []) mixed rfl rfl (by kernel_rfl) ?_ ?_
 ·refine pD (fun W R z9 => ?_) ?_
  ·refine qi (qq (.bool ((fillL s f).isSome)) rfl ?_)
   exact ⟨rfl, rfl, rfl⟩
  refine pD (fun W R z9 => ?_) ?_
  ·rw [eS (l := [(0, _)]) ⟨z9 0 rfl, ⟨⟩⟩]
   refine qi (qq (.bool ((fillL s f).isSome)) rfl ?_)
   exact ⟨rfl, rfl, rfl⟩
  refine pD (fun W R z9 => ?_) ?_
  ·rw [eS (l := [(1, _)]) ⟨z9 1 rfl, ⟨⟩⟩]
   exact ju (t := 48) rfl (vB h5) ⟨rfl, rfl, rfl⟩
  refine pD (fun W R z9 => ?_) ?_
  ·rw [eS (l := [(1, _)]) ⟨z9 1 rfl, ⟨⟩⟩]
   exact ju (t := 48) rfl (vB h5) ⟨rfl, rfl, rfl⟩
  refine pD (fun W R z9 => ?_) ?_
  ·rw [eS (l := [(1, _), (3, undef)]) ⟨z9 1 rfl, z9 3 rfl, ⟨⟩⟩]
   exact ju (t := 48) rfl (vB h5) ⟨rfl, rfl, rfl⟩
  refine pD (fun W R z9 => ?_) ?_
  ·rw [eS (l := [(1, _)]) ⟨z9 1 rfl, ⟨⟩⟩]
   exact ju (t := 48) rfl (vB h5) ⟨rfl, rfl, rfl⟩
  refine pD (fun W R z9 => ?_) ?_
  ·rw [eS (l := [(1, _), (5, undef)]) ⟨z9 1 rfl, z9 5 rfl, ⟨⟩⟩]
   exact ju (t := 48) rfl (vB h5) ⟨rfl, rfl, rfl⟩
  refine pD (fun W R z9 => ?_) ?_
  ·rw [eS (l := [(1, _), (6, undef)]) ⟨z9 1 rfl, z9 6 rfl, ⟨⟩⟩]
   exact ju (t := 48) rfl (vB h5) ⟨rfl, rfl, rfl⟩
  refine pD (fun W R z9 => ?_) ?_
  ·rw [eS (l := [(1, _)]) ⟨z9 1 rfl, ⟨⟩⟩]
   exact ju (t := 48) rfl (vB h5) ⟨rfl, rfl, rfl⟩
  refine pD (fun W R z9 => ?_) ?_
  ·rw [eS (l := [(1, _), (8, undef)]) ⟨z9 1 rfl, z9 8 rfl, ⟨⟩⟩]
   exact ju (t := 48) rfl (vB h5) ⟨rfl, rfl, rfl⟩
  refine pD (fun W R z9 => ?_) ?_
  ·rw [eS (l := [(1, _), (4, undef), (7, undef), (9, undef)]) ⟨z9 1 rfl, z9 4 rfl, z9 7 rfl, z9 9 rfl, ⟨⟩⟩]
   exact ju (t := 48) rfl (vB h5) ⟨rfl, rfl, rfl⟩
  exact stepsP.nil
 intro W hphi
 rw [eS (l := [(1, _), (2, undef), (10, undef)]) ⟨(hphi 1 (by decide)), (hphi 2 (by decide)), (hphi 10 (by decide)), ⟨⟩⟩]
 show XL _ _ _ _ _ _ _ (cellsH b2 [fv, ssv, ii (p), sv] 117 :: cellsH b1 [arv, rsv] 39 :: L)
 refine qr (t := 48) rfl (vB h5) (cX (qS (.bool (false)) (vB h5) rfl (qg (.bool (false)) rfl (qb (qw (qs (L' := L) [.bool (false)] (.bool (false)) (.tmp rfl .nil) rfl rF (qh le7 le8) (sD (sD sR)) ?_))))))
 exact ⟨(vB (loopOkL_no (fun h => fill_none (by assumption) h.2.2.2.2))), rfl, rfl⟩

/- impl.LoopOk -/
theorem LoopOk_spec {F : FH} {L : List HP} {arv : Value} {ar : List Int} (har : IntsF F arv ar) {rsv : Value} {rs : List (List Int × List Int)} (hrs : PairsF F rsv rs) {fv : Value} {f : List Int} (hf : IntsF F fv f) {ssv : Value} {ss : List StepT} (hss : StepsF F ssv ss) {p : Int} {sv : Value} {s : List (List Int)} (hs : RowsF F sv s) (hlf : f.length ≤ 4000000) (hsb : ∀ i, i < ss.length → (ss.getD i (0, 0, [])).2.2.length ≤ 4000000) (hlss : ss.length ≤ 4000000) :
    Does prog 61 [.agg #[arv, rsv], .agg #[fv, ssv, ii (p), sv]] F (L) (fun v F' L' => (.bool ((sysOk ar rs && loopOkL ar rs f ss p s)) : Value) = v ∧ F = F' ∧ L = L') := by
 refine qL func61 rfl rfl rfl (qc (qa (cX (jd [arv, rsv] rfl rfl ?_))))
 intro b1
 refine cX (jd [fv, ssv, ii (p), sv] rfl rfl ?_)
 intro b2
 refine qg (.bool (false)) rfl (qb (qc (qa (cX (qn [arv, rsv] jr jl rfl rfl (Rd.ownN [_] rfl rfl) (cX (qo (args := [.agg #[arv, rsv]]) call131 rfl (SystemOk_spec har hrs) ?_)))))))
 rintro _ _ _ _ ⟨rfl, rfl, rfl⟩
 refine qd (.bool (sysOk ar rs)) rfl ?_
 by_cases h1 : (sysOk ar rs) = true
 ·refine qp (t := 7) rfl (vB h1) (qn [arv, rsv] jr jl rfl rfl (Rd.ownN [_] rfl rfl) (qp (t := 7) rfl (vB h1) (qn [fv, ssv, ii (p), sv] jX jz rfl rfl (Rd.ownN [] rfl rfl) (qp (t := 7) rfl (vB h1) (qo (args := [.agg #[arv, rsv], .agg #[fv, ssv, ii (p), sv]]) call150 rfl (loopOk_spec har hrs hf hss hs (hsys := (by first | assumption | rfl | omega | simp)) (hlf := (by first | assumption | rfl | omega | simp)) (hsb := (by first | assumption | rfl | omega | simp)) (hlss := (by first | assumption | rfl | omega | simp))) ?_)))))
  rintro _ _ _ _ ⟨rfl, rfl, rfl⟩
  refine cX (qU (.bool (loopOkL ar rs f ss p s)) (vB h1) rfl (qg (.bool (loopOkL ar rs f ss p s)) rfl (qb (qw (qs (L' := L) [.bool (loopOkL ar rs f ss p s)] (.bool (loopOkL ar rs f ss p s)) (.tmp rfl .nil) rfl rF rF (sD (sD sR)) ?_)))))
  exact ⟨(vB (by simp_all)), rfl, rfl⟩
 rw [Bool.not_eq_true] at h1
 refine qr (t := 7) rfl (vB h1) (qr (t := 7) rfl (vB h1) (qr (t := 7) rfl (vB h1) (cX (qS (.bool (false)) (vB h1) rfl (qg (.bool (false)) rfl (qb (qw (qs (L' := L) [.bool (false)] (.bool (false)) (.tmp rfl .nil) rfl rF rF (sD (sD sR)) ?_))))))))
 exact ⟨(vB (by simp_all)), rfl, rfl⟩

/- impl.CycleIn -/
theorem CycleIn_spec {F : FH} {L : List HP} {arv : Value} {ar : List Int} (har : IntsF F arv ar) {rsv : Value} {rs : List (List Int × List Int)} (hrs : PairsF F rsv rs) {fv : Value} {f : List Int} (hf : IntsF F fv f) {ssv : Value} {ss : List StepT} (hss : StepsF F ssv ss) {p : Int} {sv : Value} {s : List (List Int)} (hs : RowsF F sv s) (hlf : f.length ≤ 4000000) (hsb : ∀ i, i < ss.length → (ss.getD i (0, 0, [])).2.2.length ≤ 4000000) (hlss : ss.length ≤ 4000000) :
    Does prog 65 [.agg #[arv, rsv], .agg #[fv, ssv, ii (p), sv]] F (L) (fun v F' L' => (.bool (((sysOk ar rs && loopOkL ar rs f ss p s) && decide (endL f ss = f))) : Value) = v ∧ F = F' ∧ L = L') := by
 refine qL func65 rfl rfl rfl (qc (qa (cX (jd [arv, rsv] rfl rfl ?_))))
 intro b1
 refine cX (jd [fv, ssv, ii (p), sv] rfl rfl ?_)
 intro b2
 refine qg (.bool (false)) rfl (qb (qc ?_))
 by_cases h1 : ((sysOk ar rs && loopOkL ar rs f ss p s)) = true
 ·refine jZ [cellsH b2 [fv, ssv, ii (p), sv] 117, cellsH b1 [arv, rsv] 39] L 10 [] [[], [], [0, 1], [2], [3], [3, 4], [3, 5], [3], [3, 7], [3, 8]] [] (phiG [pe (.agg #[arv, rsv]), pe (.agg #[fv, ssv, ii (p), sv]), pe (.bool ((sysOk ar rs && loopOkL ar rs f ss p s))), pe (.bool ((sysOk ar rs && loopOkL ar rs f ss p s))), pe (ptr b2 0), pe (.agg #[fv, ssv]), fun FF us v => ((v) : Value) = v ∧ (IntsF FF (v) (endL f ss)), pe (ptr b2 0), pe (ptr b2 0), pe fv]) (ownL []) mixed rfl rfl (by kernel_rfl) (by kernel_rfl) (MonoG.get (m1 (m1 (m1 (m1 (m1 (m1 (mC (fun le h => ⟨h.1, h.2.mono le⟩) (m1 (m1 (m1 MonoG.nil))))))))))) ?_ ?_
  ·refine gD (fun W Fs R lF z9 => ?_) ?_
   ·replace har := har.mono lF
    replace hrs := hrs.mono lF
    replace hf := hf.mono lF
    replace hss := hss.mono lF
    replace hs := hs.mono lF
    refine qi (qn [arv, rsv] jr jl rfl rfl (Rd.ownN [_] rfl rfl) ?_)
    exact ⟨rfl, rfl⟩
   refine gD (fun W Fs R lF z9 => ?_) ?_
   ·replace har := har.mono lF
    replace hrs := hrs.mono lF
    replace hf := hf.mono lF
    replace hss := hss.mono lF
    replace hs := hs.mono lF
    refine qi (qn [fv, ssv, ii (p), sv] jX jz rfl rfl (Rd.ownN [] rfl rfl) ?_)
    exact ⟨rfl, rfl⟩
   refine gD (fun W Fs R lF z9 => ?_) ?_
   ·replace har := har.mono lF
    replace hrs := hrs.mono lF
    replace hf := hf.mono lF
    replace hss := hss.mono lF
    replace hs := hs.mono lF
    rw [eS (l := [(0, _), (1, _)]) ⟨z9 0 rfl, z9 1 rfl, ⟨⟩⟩]
    refine qi (qo (args := [.agg #[arv, rsv], .agg #[fv, ssv, ii (p), sv]]) call61 rfl (LoopOk_spec har hrs hf hss hs (hlf := (by first | assumption | rfl | omega | simp)) (hsb := (by first | assumption | rfl | omega | simp)) (hlss := (by first | assumption | rfl | omega | simp))) ?_)
    rintro _ _ _ _ ⟨rfl, rfl, rfl⟩
    exact ⟨rfl, rfl⟩
   refine gD (fun W Fs R lF z9 => ?_) ?_
   ·rw [eS (l := [(2, _)]) ⟨z9 2 rfl, ⟨⟩⟩]
    refine qi (qq (.bool ((sysOk ar rs && loopOkL ar rs f ss p s))) rfl ?_)
    exact ⟨rfl, rfl⟩
   refine gD (fun W Fs R lF z9 => ?_) ?_
   ·rw [eS (l := [(3, _)]) ⟨z9 3 rfl, ⟨⟩⟩]
    refine jb (t := 8) rfl (vB h1) (qk (0) qT rfl qH (by decide) rfl rfl ?_)
    exact ⟨rfl, rfl⟩
   refine gD (fun W Fs R lF z9 => ?_) ?_
   ·replace har := har.mono lF
    replace hrs := hrs.mono lF
    replace hf := hf.mono lF
    replace hss := hss.mono lF
    replace hs := hs.mono lF
    rw [eS (l := [(3, _), (4, _)]) ⟨z9 3 rfl, z9 4 rfl, ⟨⟩⟩]
    refine jb (t := 8) rfl (vB h1) (qn [fv, ssv] jy qH rfl rfl (Rd.ownN [] rfl rfl) ?_)
    exact ⟨rfl, rfl⟩
   refine gD (fun W Fs R lF z9 => ?_) ?_
   ·replace har := har.mono lF
    replace hrs := hrs.mono lF
    replace hf := hf.mono lF
    replace hss := hss.mono lF
    replace hs := hs.mono lF
    rw [eS (l := [(3, _), (5, _)]) ⟨z9 3 rfl, z9 5 rfl, ⟨⟩⟩]
    refine jb (t := 8) rfl (vB h1) (qo (args := [.agg #[fv, ssv]]) call154 rfl (walkEnd_spec hf hss (hlss := (by first | assumption | rfl | omega | simp))) ?_)
    rintro _ _ _ _ ⟨rfl, x2, rfl, hr2, rfl⟩
    exact ⟨⟨rfl, hr2⟩, rfl⟩
   refine gD (fun W Fs R lF z9 => ?_) ?_
   ·rw [eS (l := [(3, _)]) ⟨z9 3 rfl, ⟨⟩⟩]
    refine jb (t := 8) rfl (vB h1) (qk (0) qT rfl qH (by decide) rfl rfl ?_)
    exact ⟨rfl, rfl⟩
   refine gD (fun W Fs R lF z9 => ?_) ?_
   ·rw [eS (l := [(3, _), (7, _)]) ⟨z9 3 rfl, z9 7 rfl, ⟨⟩⟩]
    refine jb (t := 8) rfl (vB h1) (qk (0) qA rfl qu (by decide) rfl rfl ?_)
    exact ⟨rfl, rfl⟩
   refine gD (fun W Fs R lF z9 => ?_) ?_
   ·replace har := har.mono lF
    replace hrs := hrs.mono lF
    replace hf := hf.mono lF
    replace hss := hss.mono lF
    replace hs := hs.mono lF
    rw [eS (l := [(3, _), (8, _)]) ⟨z9 3 rfl, z9 8 rfl, ⟨⟩⟩]
    refine jb (t := 8) rfl (vB h1) (ql qZ rfl (Rd.own [] rfl rfl) ?_)
    exact ⟨rfl, rfl⟩
   exact stepsG.nil
  intro W F3 le3 hphi
  obtain ⟨e6, f6_2hr⟩ := hphi 6 (by decide)
  generalize hu1 : ((W 6)) = u1 at e6 f6_2hr
  rw [eS (l := [(3, _), (6, u1), (9, _)]) ⟨(hphi 3 (by decide)), hu1, (hphi 9 (by decide)), ⟨⟩⟩]
  replace har := har.mono le3
  replace hrs := hrs.mono le3
  replace hf := hf.mono le3
  replace hss := hss.mono le3
  replace hs := hs.mono le3
  show XL _ _ _ _ _ _ _ (cellsH b2 [fv, ssv, ii (p), sv] 117 :: cellsH b1 [arv, rsv] 39 :: L)
  refine qp (t := 8) rfl (vB h1) (qo (args := [u1, fv]) call156 rfl (Equal_spec f6_2hr hf (hbd := (by first | assumption | rfl | omega | (left; simp; done) | (right; simp; done)))) ?_)
  rintro _ _ _ _ ⟨rfl, rfl, rfl⟩
  refine cX (qU (.bool (decide ((endL f ss) = f))) (vB h1) rfl (qg (.bool (decide ((endL f ss) = f))) rfl (qb (qw (qs (L' := L) [.bool (decide ((endL f ss) = f))] (.bool (decide ((endL f ss) = f))) (.tmp rfl .nil) rfl rF le3 (sD (sD sR)) ?_)))))
  exact ⟨(vB (by simp_all)), rfl, rfl⟩
 rw [Bool.not_eq_true] at h1
 refine jY [cellsH b2 [fv, ssv, ii (p), sv] 117, cellsH b1 [arv, rsv] 39] L 10 [] [[], [], [0, 1], [2], [3], [3, 4], [3, 5], [3], [3, 7], [3, 8]] (phiL [qe (.agg #[arv, rsv]), qe (.agg #[fv, ssv, ii (p), sv]), qe (.bool ((sysOk ar rs && loopOkL ar rs f ss p s))), qe (.bool ((sysOk ar rs && loopOkL ar rs f ss p s))), qe undef, qe undef, qe undef, qe undef, qe undef, qe undef]) (ownL []) mixed rfl rfl (by kernel_rfl) ?_ ?_
 ·refine pD (fun W R z9 => ?_) ?_
  ·refine qi (qn [arv, rsv] jr jl rfl rfl (Rd.ownN [_] rfl rfl) ?_)
   exact ⟨rfl, rfl, rfl⟩
  refine pD (fun W R z9 => ?_) ?_
  ·refine qi (qn [fv, ssv, ii (p), sv] jX jz rfl rfl (Rd.ownN [] rfl rfl) ?_)
   exact ⟨rfl, rfl, rfl⟩
  refine pD (fun W R z9 => ?_) ?_
  ·rw [eS (l := [(0, _), (1, _)]) ⟨z9 0 rfl, z9 1 rfl, ⟨⟩⟩]
   refine qi (qo (args := [.agg #[arv, rsv], .agg #[fv, ssv, ii (p), sv]]) call61 rfl (LoopOk_spec har hrs hf hss hs (hlf := (by first | assumption | rfl | omega | simp)) (hsb := (by first | assumption | rfl | omega | simp)) (hlss := (by first | assumption | rfl | omega | simp))) ?_)
   rintro _ _ _ _ ⟨rfl, rfl, rfl⟩
   exact ⟨rfl, rfl, rfl⟩
  refine pD (fun W R z9 => ?_) ?_
  ·rw [eS (l := [(2, _)]) ⟨z9 2 rfl, ⟨⟩⟩]
   refine qi (qq (.bool ((sysOk ar rs && loopOkL ar rs f ss p s))) rfl ?_)
   exact ⟨rfl, rfl, rfl⟩
  refine pD (fun W R z9 => ?_) ?_
  ·rw [eS (l := [(3, _)]) ⟨z9 3 rfl, ⟨⟩⟩]
   exact ju (t := 8) rfl (vB h1) ⟨rfl, rfl, rfl⟩
  refine pD (fun W R z9 => ?_) ?_
  ·rw [eS (l := [(3, _), (4, undef)]) ⟨z9 3 rfl, z9 4 rfl, ⟨⟩⟩]
   exact ju (t := 8) rfl (vB h1) ⟨rfl, rfl, rfl⟩
  refine pD (fun W R z9 => ?_) ?_
  ·rw [eS (l := [(3, _), (5, undef)]) ⟨z9 3 rfl, z9 5 rfl, ⟨⟩⟩]
   exact ju (t := 8) rfl (vB h1) ⟨rfl, rfl, rfl⟩
  refine pD (fun W R z9 => ?_) ?_
  ·rw [eS (l := [(3, _)]) ⟨z9 3 rfl, ⟨⟩⟩]
   exact ju (t := 8) rfl (vB h1) ⟨rfl, rfl, rfl⟩
  refine pD (fun W R z9 => ?_) ?_
  ·rw [eS (l := [(3, _), (7, undef)]) ⟨z9 3 rfl, z9 7 rfl, ⟨⟩⟩]
   exact ju (t := 8) rfl (vB h1) ⟨rfl, rfl, rfl⟩
  refine pD (fun W R z9 => ?_) ?_
  ·rw [eS (l := [(3, _), (8, undef)]) ⟨z9 3 rfl, z9 8 rfl, ⟨⟩⟩]
   exact ju (t := 8) rfl (vB h1) ⟨rfl, rfl, rfl⟩
  exact stepsP.nil
 intro W hphi
 rw [eS (l := [(3, _), (6, undef), (9, undef)]) ⟨(hphi 3 (by decide)), (hphi 6 (by decide)), (hphi 9 (by decide)), ⟨⟩⟩]
 show XL _ _ _ _ _ _ _ (cellsH b2 [fv, ssv, ii (p), sv] 117 :: cellsH b1 [arv, rsv] 39 :: L)
 refine qr (t := 8) rfl (vB h1) (cX (qS (.bool (false)) (vB h1) rfl (qg (.bool (false)) rfl (qb (qw (qs (L' := L) [.bool (false)] (.bool (false)) (.tmp rfl .nil) rfl rF rF (sD (sD sR)) ?_))))))
 exact ⟨(vB (by simp_all)), rfl, rfl⟩

/- spec.LoopOk -/
theorem sLoopOk_spec {F : FH} {L : List HP} {arv : Value} {ar : List Int} (har : IntsF F arv ar) {rsv : Value} {rs : List (List Int × List Int)} (hrs : PairsF F rsv rs) {fv : Value} {f : List Int} (hf : IntsF F fv f) {ssv : Value} {ss : List StepT} (hss : StepsF F ssv ss) {p : Int} {sv : Value} {s : List (List Int)} (hs : RowsF F sv s) (hla : ar.length ≤ 4000000) (hlr : rs.length ≤ 4000000) (hrb : ∀ i, i < rs.length → (rs.getD i ([], [])).1.length ≤ 4000000 ∧ (rs.getD i ([], [])).2.length ≤ 4000000) (hlf : f.length ≤ 4000000) (hlss : ss.length ≤ 4000000) (hsb : ∀ i, i < ss.length → (ss.getD i (0, 0, [])).2.2.length ≤ 4000000) (hlrow : s.length ≤ 4000000) (hrowb : ∀ i, i < s.length → (s.getD i []).length ≤ 4000000) :
    Does prog 60 [.agg #[arv, rsv], .agg #[fv, ssv, ii (p), sv]] F (L) (fun v F' L' => (.bool ((sysOk ar rs && loopOkL ar rs f ss p s)) : Value) = v ∧ F = F' ∧ L = L') := by
 refine qL func60 rfl rfl rfl (qc (qa (cX (jd [arv, rsv] rfl rfl ?_))))
 intro b1
 refine cX (jd [fv, ssv, ii (p), sv] rfl rfl ?_)
 intro b2
 refine qg (.bool (false)) rfl (qb (qc (qc (qa (cX (qn [arv, rsv] jr jl rfl rfl (Rd.ownN [_] rfl rfl) (cX (qk (0) qT rfl qH (by decide) rfl rfl (cX (qn [fv, ssv] jy qH rfl rfl (Rd.ownN [] rfl rfl) (cX (qo (args := [.agg #[arv, rsv], .agg #[fv, ssv]]) call49 rfl (sWalkOk_spec har hrs hf hss (hla := (by first | assumption | rfl | omega | simp)) (hlr := (by first | assumption | rfl | omega | simp)) (hrb := (by first | assumption | rfl | omega | simp)) (hlf := (by first | assumption | rfl | omega | simp)) (hlss := (by first | assumption | rfl | omega | simp)) (hsb := (by first | assumption | rfl | omega | simp))) ?_))))))))))))
 rintro _ _ _ _ ⟨rfl, rfl, rfl⟩
 refine cX (jn rfl (qd (.bool (!(walkOkL ar rs f ss))) rfl ?_))
 by_cases h1 : (!(walkOkL ar rs f ss)) = true
 ·refine qr (t := 13) rfl (vB h1) (qr (t := 13) rfl (vB h1) (qr (t := 13) rfl (vB h1) (qr (t := 13) rfl (vB h1) (qr (t := 13) rfl (vB h1) (cX (qU (.bool (true)) (vB h1) rfl (qd (.bool (true)) rfl (qr (t := 20) rfl rfl (qr (t := 20) rfl rfl (qr (t := 20) rfl rfl ?_))))))))))
  refine qr (t := 20) rfl rfl (qr (t := 20) rfl rfl (qr (t := 20) rfl rfl (cX (qU (.bool (true)) rfl rfl (qb (jI rfl (qc (qa (qg (.bool (false)) rfl (qb (qw (qm (qs (L' := L) [.bool (false)] (.bool (false)) (.tmp rfl .nil) rfl rF rF (sD (sD sR)) ?_)))))))))))))
  exact ⟨(vB (by rw [loopOkL_no]; simp; intro h; simp_all <;> omega)), rfl, rfl⟩
 rw [Bool.not_eq_true] at h1
 refine qp (t := 13) rfl (vB h1) (qk (0) qT rfl qH (by decide) rfl rfl (qp (t := 13) rfl (vB h1) (qk (1) qA rfl jj (by decide) rfl rfl (qp (t := 13) rfl (vB h1) (ql jL rfl (Rd.own [] rfl rfl) (qp (t := 13) rfl (vB h1) (qD qG rfl hss.slv (qp (t := 13) rfl (vB h1) (jR rfl rfl (cX (qS (.bool (decide (((ss.length : Int) : Int) = 0))) (vB h1) rfl (qd (.bool (decide (((ss.length : Int) : Int) = 0))) rfl ?_))))))))))))
 by_cases h2 : ((ss.length : Int) : Int) = 0
 ·refine qr (t := 20) rfl (vT h2) (qr (t := 20) rfl (vT h2) (qr (t := 20) rfl (vT h2) (qr (t := 20) rfl (vT h2) (qr (t := 20) rfl (vT h2) (qr (t := 20) rfl (vT h2) (cX (qU (.bool (true)) (vT h2) rfl (qb (jI rfl (qc (qa ?_)))))))))))
  refine qg (.bool (false)) rfl (qb (qw (qm (qs (L' := L) [.bool (false)] (.bool (false)) (.tmp rfl .nil) rfl rF rF (sD (sD sR)) ?_))))
  exact ⟨(vB (by rw [loopOkL_no]; simp; intro h; simp_all <;> omega)), rfl, rfl⟩
 refine qp (t := 20) rfl (vF h2) (qk (0) ja rfl qY (by decide) rfl rfl (qp (t := 20) rfl (vF h2) (qn [arv] js qY rfl rfl (Rd.ownN [_] rfl rfl) (qp (t := 20) rfl (vF h2) (qk (3) qT rfl qV (by decide) rfl rfl (qp (t := 20) rfl (vF h2) (qn [sv] jC qV rfl rfl (Rd.ownN [] rfl rfl) (qp (t := 20) rfl (vF h2) (qo (args := [.agg #[arv], .agg #[sv]]) call147 rfl (sSubstOk_spec har hs (hla := (by first | assumption | rfl | omega | simp)) (hsl := (by first | assumption | rfl | omega | simp)) (hsb := (by first | assumption | rfl | omega | simp))) ?_)))))))))
 rintro _ _ _ _ ⟨rfl, rfl, rfl⟩
 refine qp (t := 20) rfl (vF h2) (jn rfl (cX (qS (.bool (!(substOk ar s))) (vF h2) rfl (qb ?_))))
 refine jN (t := !(substOk ar s)) rfl (fun h3 => ?_) (fun h3 => ?_)
 ·refine qc (qa (qg (.bool (false)) rfl (qb (qw (qm (qs (L' := L) [.bool (false)] (.bool (false)) (.tmp rfl .nil) rfl rF rF (sD (sD sR)) ?_))))))
  exact ⟨(vB (by rw [loopOkL_no]; simp; intro h; simp_all <;> omega)), rfl, rfl⟩
 refine qz (qc (qa ?_))
 have hwk : walkOkL ar rs f ss = true := by simp_all
 have hsk : substOk ar s = true := by simp_all
 have hne : ss.length ≠ 0 := by omega
 have hsys : sysOk ar rs = true := (right_iff.1 (walkOkL_iff.1 hwk).1).1
 have het : endT ar rs f ss = endL f ss := by rw [endT, if_pos hwk]
 have hel := (right_iff.1 (walkOk_end hwk)).2
 have hel2 := termOk_len hel
 have hfo := (right_iff.1 (walkOkL_iff.1 hwk).1).2
 have hel3 : (endT ar rs f ss).length ≤ 60 := by rw [het]; exact hel2.2
 have hfe : filledL ar s f = fillL s f := by unfold filledL; rw [if_pos ⟨hsk, hfo⟩]
 refine cX (qn [arv, rsv] jr jl rfl rfl (Rd.ownN [_] rfl rfl) (cX (qk (0) qT rfl qH (by decide) rfl rfl (cX (qn [fv, ssv] jy qH rfl rfl (Rd.ownN [] rfl rfl) (cX (yf <| qo (args := [.agg #[arv, rsv], .agg #[fv, ssv]]) call54 rfl (sEndTerm_spec har hrs hf hss (hla := (by first | assumption | rfl | omega | simp)) (hlr := (by first | assumption | rfl | omega | simp)) (hrb := (by first | assumption | rfl | omega | simp)) (hlf := (by first | assumption | rfl | omega | simp)) (hlss := (by first | assumption | rfl | omega | simp)) (hsb := (by first | assumption | rfl | omega | simp))) ?_)))))))
 rintro v1 _ _ _ ⟨rfl, hs1, rfl⟩
 refine ⟨_, _, rfl, fun F1 le1 hz1 => ?_⟩
 replace har := har.mono le1
 replace hf := hf.mono le1
 replace hs := hs.mono le1
 have hf1 : IntsF F1 v1 ((endT ar rs f ss)) := intsH.fz (xs := (endT ar rs f ss)) hz1.fz
 refine qg (v1) rfl (qb (qc (qc (qa (cX (qk (2) qT rfl qy (by decide) rfl rfl (cX (ql jt rfl (Rd.own [] rfl rfl) (qd (v1) rfl (cX (qD qf rfl hf1.slv (cX (jF ((((((endT ar rs f ss)).length : Nat) : Int)) - 1) rfl rfl (by omega) (by omega) (cX (qo (args := [ii (p), ii (0), ii ((((((endT ar rs f ss)).length : Nat) : Int)) - 1)]) call110 rfl (l1In_spec (n := p) (a := 0) (b := (((((endT ar rs f ss)).length : Nat) : Int)) - 1)) ?_)))))))))))))))
 rintro _ _ _ _ ⟨rfl, rfl, rfl⟩
 refine cX (yj rfl (qb ?_))
 refine qE (p := ¬(0 ≤ p ∧ p ≤ ((((((endT ar rs f ss)).length : Nat) : Int)) - 1))) rfl (fun h4 => ?_) (fun h4 => ?_)
 ·refine qc (qa (qg (.bool (false)) rfl (qb (qw (qm (qs (L' := L) [.bool (false)] (.bool (false)) (.tmp rfl .nil) rfl rF le1 (sD (sD sR)) ?_))))))
  exact ⟨(vB (by rw [loopOkL_no]; simp; intro h; have := posOk_iff.1 h.2.2.1; rw [← het] at this; omega)), rfl, rfl⟩
 refine qz (qc (qa ?_))
 have hpo : posOk ar (endL f ss) p = true := posOk_iff.2 ⟨hel, by rw [← het]; omega⟩
 refine cX (qk (0) ja rfl qY (by decide) rfl rfl (cX (qn [arv] js qY rfl rfl (Rd.ownN [_] rfl rfl) (cX (qk (3) qT rfl qV (by decide) rfl rfl (cX (qn [sv] jC qV rfl rfl (Rd.ownN [] rfl rfl) (cX (qk (0) qT rfl qH (by decide) rfl rfl (cX (qk (0) qA rfl qu (by decide) rfl rfl (cX (ql qZ rfl (Rd.own [] rfl rfl) (cX (qo (args := [.agg #[arv], .agg #[sv], fv]) call148 rfl (sFilled_spec har hs hf (hla := (by first | assumption | rfl | omega | simp)) (hsl := (by first | assumption | rfl | omega | simp)) (hsb := (by first | assumption | rfl | omega | simp)) (hlt := (by first | assumption | rfl | omega | simp))) ?_)))))))))))))))
 rintro _ F2 _ le2 ⟨x1, rfl, hr1, rfl⟩
 replace har := har.mono le2
 replace hf1 := hf1.mono le2
 refine qd (.tuple #[x1, .bool ((filledL ar s f).isSome)]) rfl (cX (qQ (x1) rfl rfl (cX (qQ (.bool ((filledL ar s f).isSome)) rfl rfl (qg (x1) rfl (qg (.bool ((filledL ar s f).isSome)) rfl (qb (qc (qa (qd (.bool ((filledL ar s f).isSome)) rfl (qd (.bool ((filledL ar s f).isSome)) rfl ?_)))))))))))
 by_cases h5 : ((filledL ar s f).isSome) = true
 ·refine qp (t := 51) rfl (vB h5) (qq (x1) rfl (qp (t := 51) rfl (vB h5) (qk (0) ja rfl qY (by decide) rfl rfl (qp (t := 51) rfl (vB h5) (qn [arv] js qY rfl rfl (Rd.ownN [_] rfl rfl) (qp (t := 51) rfl (vB h5) (qq (v1) rfl (qp (t := 51) rfl (vB h5) (qk (2) qT rfl qy (by decide) rfl rfl (qp (t := 51) rfl (vB h5) (ql jt rfl (Rd.own [] rfl rfl) (qp (t := 51) rfl (vB h5) (qo (args := [.agg #[arv], v1, ii (p)]) call149 rfl (sSubAt_spec (p := p) har hf1 (hla := (by first | assumption | rfl | omega | simp)) (hlt := (by first | assumption | rfl | omega | simp))) ?_)))))))))))))
  rintro _ F3 _ le3 ⟨x2, rfl, hr2, rfl⟩
  replace hr1 := hr1.mono le3
  refine qp (t := 51) rfl (vB h5) (qo (args := [x1, x2]) call32 rfl (SameTerm_spec hr1 hr2 (hbd := (.inr (by rw [het, if_pos hpo]; have := termOk_len (sub_ok hel (p := p.toNat) (by have := posOk_iff.1 hpo; omega)); omega)))) ?_)
  rintro _ _ _ _ ⟨rfl, rfl, rfl⟩
  refine cX (qU (.bool (decide (((filledL ar s f).getD []) = (if posOk ar ((endT ar rs f ss)) p = true then sub ar ((endT ar rs f ss)) p.toNat else [])))) (vB h5) rfl (qg (.bool (decide (((filledL ar s f).getD []) = (if posOk ar ((endT ar rs f ss)) p = true then sub ar ((endT ar rs f ss)) p.toNat else [])))) rfl (qb (qw (qs (L' := L) [.bool (decide (((filledL ar s f).getD []) = (if posOk ar ((endT ar rs f ss)) p = true then sub ar ((endT ar rs f ss)) p.toNat else [])))] (.bool (decide (((filledL ar s f).getD []) = (if posOk ar ((endT ar rs f ss)) p = true then sub ar ((endT ar rs f ss)) p.toNat else [])))) (.tmp rfl .nil) rfl rF (qh (qh le1 le2) le3) (sD (sD sR)) ?_)))))
  exact ⟨(vB (by rw [hsys, Bool.true_and, het, if_pos hpo, hfe, Bool.eq_iff_iff, loopOkL_iff, decide_eq_true_eq, ← fill_eq (by rw [← hfe]; assumption)]; exact ⟨fun h => h.2.2.2.2, fun h => ⟨hne, hwk, hpo, hsk, h⟩⟩)), rfl, rfl⟩
 rw [Bool.not_eq_true] at h5
 refine qr (t := 51) rfl (vB h5) (qr (t := 51) rfl (vB h5) (qr (t := 51) rfl (vB h5) (qr (t := 51) rfl (vB h5) (qr (t := 51) rfl (vB h5) (qr (t := 51) rfl (vB h5) (qr (t := 51) rfl (vB h5) (qr (t := 51) rfl (vB h5) (cX (qS (.bool (false)) (vB h5) rfl (qg (.bool (false)) rfl ?_))))))))))
 refine qb (qw (qs (L' := L) [.bool (false)] (.bool (false)) (.tmp rfl .nil) rfl rF (qh le1 le2) (sD (sD sR)) ?_))
 exact ⟨(vB (by rw [loopOkL_no, Bool.and_false]; exact fun h => fill_none (by rw [← hfe]; assumption) h.2.2.2.2)), rfl, rfl⟩
end Go.Proofs.YtenomejgjcpbdaaGreat
set_option linter.unusedSimpArgs false
set_option linter.unusedVariables false
namespace Go.Proofs.YtenomejgjcpbdaaGreat
open Go X M Tryz

/- laws.big -/
theorem big_spec {F : FH} {L : List HP} {bsv : Value} {bs : List Int} (hbs : BytesF F bsv bs) :
    Does prog 26 [bsv] F (L) (fun v F' L' => (.bool (decide ((bs.length : Int) > 4096)) : Value) = v ∧ F = F' ∧ L = L') := by
 refine qL func26 rfl rfl rfl (qc (qa (qg (.bool (false)) rfl (qb (qc (qa (qd (bsv) rfl (cX (qD runUnderlying60 rfl hbs.slv (cX (jQ rfl rfl (qg (.bool (decide (((bs.length : Int) : Int) > 4096))) rfl (qb (qw (qs (L' := L) [.bool (decide (((bs.length : Int) : Int) > 4096))] (.bool (decide (((bs.length : Int) : Int) > 4096))) (.tmp rfl .nil) rfl rF rF sR ?_)))))))))))))))
 exact ⟨rfl, rfl, rfl⟩

/- laws.roll -/
theorem roll_spec {F : FH} {L : List HP} {bsv : Value} {bs : List Int} (hbs : BytesF F bsv bs) (hlb : bs.length ≤ 4000000) {s : Int} :
    Does prog 55 [bsv, .int .u64 (s)] F (L) (fun v F' L' => ∃ cb : Nat, (ptr cb 0 : Value) = v ∧ F = F' ∧ curH .u64 194 cb bsv bs.length :: L = L') := by
 refine qL func55 rfl rfl rfl (qc (qa (qg ((.pointer none)) rfl (qb (qc (qa (qd (bsv) rfl (qd (.int .u64 (s)) rfl (cX (XOp.mulW (a := s) (b := 7919) rfl rfl ?_))))))))))
 intro r1
 refine qd (bsv) rfl (cX (qD runUnderlying60 rfl hbs.slv (cX (XOp.convW (k' := .i64) (a := (bs.length : Int)) runUnderlying3 runUnderlying111 rfl ?_))))
 intro r2
 refine cX (XOp.addW (a := r1) (b := r2) rfl rfl ?_)
 intro r3
 refine cX (jg [bsv, ii (0), .int .u64 (r3)] [sN, ii (0), .int .u64 (0)] [(0, 1), (1, 1), (2, 1)] [(0, [bsv]), (2, [.int .u64 (r3)])] ya zeroValue194 rfl (.cons rfl sizeOf60 (.cons rfl sizeOf3 (.cons rfl sizeOf111 PlacesAre.nil))) rfl (.cons (cells_one (BytesF.isSl hbs)) (.cons rfl CellsAre.nil)) (cX (jd [bsv, ii (0), .int .u64 (r3)] rfl rfl ?_)))
 intro b1
 refine qg (ptr b1 0) rfl (qb (qc (qc (qa (qg (ii (0)) rfl (qb (qN (jw (α := Nat × Int) (fun xQ => [(0, bsv), (5, ptr b1 0), (6, ii (((xQ.1 : Nat) : Int)))]) (fun xQ => cellsH b1 [bsv, ii (0), .int .u64 (xQ.2)] 194 :: L) (fun xQ F' => F = F' ∧ (xQ.1 ≤ bs.length)) (fun xQ => bs.length - xQ.1) (0, r3) ⟨rfl, rfl, rfl, ⟨⟩⟩ (sC sR) ⟨rfl, (Nat.zero_le _)⟩ ?_))))))))
 rintro ⟨k, h⟩ rE _ _ ⟨rfl, hk⟩
 show X _ _ _ _ (envs [(0, bsv), (5, ptr b1 0), (6, ii ((k : Int)))] rE) _ (cellsH b1 [bsv, ii (0), .int .u64 (h)] 194 :: L)
 dsimp only at hk
 refine qc (qc (qa (qd (ii ((k : Int))) rfl (qd (bsv) rfl (cX (qD runUnderlying60 rfl hbs.slv (cX (jf rfl rfl (qb ?_)))))))))
 refine qE (p := (k : Int) < (bs.length : Int)) rfl (fun h1 => ?_) (fun h1 => ?_)
 ·refine qz (qc (qN ?_))
  refine jZ [cellsH b1 [bsv, ii (0), .int .u64 (h)] 194] L 13 [] [[], [], [1], [2], [3], [4], [], [], [6, 7], [8], [9], [5, 10], [11]] [] (phiG [pe (ptr b1 0), pe (ptr b1 0), pe (ptr b1 0), pe (ptr b1 2), pe (.int .u64 (h)), fun FF us v => (.int .u64 ((intAt v)) : Value) = v, pe bsv, pe (ii ((k : Int)) : Value), pe (.pointer (some (elemA bsv (k)))), pe (.int .u8 (bs.getD k 0)), fun FF us v => (.int .u64 ((intAt v)) : Value) = v, fun FF us v => (.int .u64 ((intAt v)) : Value) = v, fun FF us v => (.int .u64 ((intAt v)) : Value) = v]) (ownL []) mixed rfl rfl (by kernel_rfl) (by kernel_rfl) (MonoG.get (m1 (m1 (m1 (m1 (m1 (mC (fun le h => h) (m1 (m1 (m1 (m1 (mC (fun le h => h) (mC (fun le h => h) (mC (fun le h => h) MonoG.nil)))))))))))))) ?_ ?_
  ·refine gD (fun W Fs R lF z9 => ?_) ?_
   ·refine qi (qq (ptr b1 0) rfl ?_)
    exact ⟨rfl, rfl⟩
   refine gD (fun W Fs R lF z9 => ?_) ?_
   ·refine qi (qq (ptr b1 0) rfl ?_)
    exact ⟨rfl, rfl⟩
   refine gD (fun W Fs R lF z9 => ?_) ?_
   ·replace hbs := hbs.mono lF
    rw [eS (l := [(1, _)]) ⟨z9 1 rfl, ⟨⟩⟩]
    refine qi (jG rfl ?_)
    exact ⟨rfl, rfl⟩
   refine gD (fun W Fs R lF z9 => ?_) ?_
   ·rw [eS (l := [(2, _)]) ⟨z9 2 rfl, ⟨⟩⟩]
    refine qi (qk (2) ya rfl sizeOf111 (by decide) rfl rfl ?_)
    exact ⟨rfl, rfl⟩
   refine gD (fun W Fs R lF z9 => ?_) ?_
   ·replace hbs := hbs.mono lF
    rw [eS (l := [(3, _)]) ⟨z9 3 rfl, ⟨⟩⟩]
    refine qi (ql isAgg111 rfl (Rd.own [] rfl rfl) ?_)
    exact ⟨rfl, rfl⟩
   refine gD (fun W Fs R lF z9 => ?_) ?_
   ·rw [eS (l := [(4, _)]) ⟨z9 4 rfl, ⟨⟩⟩]
    refine qi (XOp.mulW (a := h) (b := 1099511628211) rfl rfl ?_)
    intro r8
    exact ⟨rfl, rfl⟩
   refine gD (fun W Fs R lF z9 => ?_) ?_
   ·refine qi (qq (bsv) rfl ?_)
    exact ⟨rfl, rfl⟩
   refine gD (fun W Fs R lF z9 => ?_) ?_
   ·refine qi (qq (ii ((k : Int))) rfl ?_)
    exact ⟨rfl, rfl⟩
   refine gD (fun W Fs R lF z9 => ?_) ?_
   ·replace hbs := hbs.mono lF
    rw [eS (l := [(6, _), (7, _)]) ⟨z9 6 rfl, z9 7 rfl, ⟨⟩⟩]
    refine qi (qB k runUnderlying60 sizeOf5 rfl rfl rfl hbs.slv (by omega) (Nat.mul_one _) ?_)
    exact ⟨rfl, rfl⟩
   refine gD (fun W Fs R lF z9 => ?_) ?_
   ·replace hbs := hbs.mono lF
    rw [eS (l := [(8, _)]) ⟨z9 8 rfl, ⟨⟩⟩]
    refine qi (ql isAgg5 rfl (hbs.rd (by omega) _) ?_)
    exact ⟨rfl, rfl⟩
   refine gD (fun W Fs R lF z9 => ?_) ?_
   ·replace hbs := hbs.mono lF
    rw [eS (l := [(9, _)]) ⟨z9 9 rfl, ⟨⟩⟩]
    refine qi (XOp.convW (k' := .u8) (a := bs.getD k 0) runUnderlying5 runUnderlying111 rfl ?_)
    intro r9
    exact ⟨rfl, rfl⟩
   refine gD (fun W Fs R lF z9 => ?_) ?_
   ·have e5 : (.int .u64 ((intAt (W 5))) : Value) = (W 5) := z9 5 rfl
    have e10 : (.int .u64 ((intAt (W 10))) : Value) = (W 10) := z9 10 rfl
    rw [eS (l := [(5, (.int .u64 ((intAt (W 5))))), (10, (.int .u64 ((intAt (W 10)))))]) ⟨(e5).symm, (e10).symm, ⟨⟩⟩]
    refine qi (XOp.addW (a := (intAt (W 5))) (b := (intAt (W 10))) rfl rfl ?_)
    intro r10
    exact ⟨rfl, rfl⟩
   refine gD (fun W Fs R lF z9 => ?_) ?_
   ·have e11 : (.int .u64 ((intAt (W 11))) : Value) = (W 11) := z9 11 rfl
    rw [eS (l := [(11, (.int .u64 ((intAt (W 11)))))]) ⟨(e11).symm, ⟨⟩⟩]
    refine qi (XOp.addW (a := (intAt (W 11))) (b := 3) rfl rfl ?_)
    intro r11
    exact ⟨rfl, rfl⟩
   exact stepsG.nil
  intro W F1 le1 hphi
  have e5 : (.int .u64 ((intAt (W 5))) : Value) = (W 5) := hphi 5 (by decide)
  have e10 : (.int .u64 ((intAt (W 10))) : Value) = (W 10) := hphi 10 (by decide)
  have e11 : (.int .u64 ((intAt (W 11))) : Value) = (W 11) := hphi 11 (by decide)
  have e12 : (.int .u64 ((intAt (W 12))) : Value) = (W 12) := hphi 12 (by decide)
  generalize hu1 : (intAt (W 5)) = u1 at e5 e10 e11 e12
  generalize hu2 : (intAt (W 10)) = u2 at e5 e10 e11 e12
  generalize hu3 : (intAt (W 11)) = u3 at e5 e10 e11 e12
  generalize hu4 : (intAt (W 12)) = u4 at e5 e10 e11 e12
  rw [eS (l := [(0, _), (12, (.int .u64 (u4)))]) ⟨(hphi 0 (by decide)), (e12).symm, ⟨⟩⟩]
  show XL _ _ _ _ _ _ _ (cellsH b1 [bsv, ii (0), .int .u64 (h)] 194 :: L)
  refine cX (jG rfl (cX (qk (2) ya rfl sizeOf111 (by decide) rfl rfl (cX (jK [] _ [bsv, ii (0), .int .u64 (u4)] sizeOf111 rfl rfl rfl rfl rfl rfl (qb (qa (qd (ii ((k : Int))) rfl (cX (qP (((k + 1 : Nat) : Int)) rfl rfl (by omega) (by omega) (qg (ii (((k + 1 : Nat) : Int))) rfl (qb ?_))))))))))))
  exact ⟨(k + 1, u4), _, FLe.refl _, le1, ⟨rfl, rfl, rfl, ⟨⟩⟩, (sC sR), ⟨rfl, (by (try dsimp only) <;> omega)⟩, (by omega)⟩
 refine jo (qt (qt (qO (qc (qa (qd (ptr b1 0) rfl (qg (ptr b1 0) rfl (qb (qw (qs (L' := curH .u64 194 b1 bsv bs.length :: L) [ptr b1 0] (ptr b1 0) (.tmp rfl .nil) rfl rF rF (Sub.keep (curH.of (by omega) (by omega)) sR) ?_))))))))))
 exact ⟨_, rfl, rfl, rfl⟩

/- (*laws.dice).below -/
theorem below_spec0 {F : FH} {L : List HP} {cb : Nat} {bsv : Value} {bs : List Int} (hbs : BytesF F bsv bs) (hbl : bs.length ≤ 4000000) {i h n : Int} (h0 : 0 ≤ i) (h1 : i ≤ bs.length) (hn : 1 ≤ n ∧ n ≤ 1000000) :
    Does prog 57 [ptr cb 0, ii (n)] F (cellsH cb [bsv, ii (i), .int .u64 (h)] 194 :: L) (fun v F' L' => (F = F' ∧ ∃ x : Int, (.int .i64 x : Value) = v ∧ (0 ≤ x ∧ x < n)) ∧ ∃ i' h' : Int, 0 ≤ i' ∧ i' ≤ bs.length ∧ cellsH cb [bsv, ii (i'), .int .u64 (h')] 194 :: L = L') := by
 refine qL func57 rfl rfl rfl (qc (qa (qg (ii (0)) rfl (qb (qc (qa (qd (ptr cb 0) rfl (qd (ptr cb 0) rfl (cX (jG rfl (cX (qk (2) ya rfl sizeOf111 (by decide) rfl rfl (cX (ql isAgg111 rfl (Rd.own [] rfl rfl) (cX (XOp.mulW (a := h) (b := 6364136223846793005) rfl rfl ?_))))))))))))))))
 intro r1
 refine cX (XOp.addW (a := r1) (b := 1442695040888963407) rfl rfl ?_)
 intro r2
 refine cX (jG rfl (cX (qk (2) ya rfl sizeOf111 (by decide) rfl rfl (cX (jK [] _ [bsv, ii (i), .int .u64 (r2)] sizeOf111 rfl rfl rfl rfl rfl rfl (qb (qc (qa (qd (ptr cb 0) rfl (cX (jG rfl (cX (qk (2) ya rfl sizeOf111 (by decide) rfl rfl (cX (ql isAgg111 rfl (Rd.own [] rfl rfl) (cX (XOp.shrW (a := r2) (b := 33) rfl rfl (by decide) ?_)))))))))))))))))
 intro r3
 refine cX (XOp.andW (a := r3) (b := 16777215) rfl rfl rfl (by decide) ?_)
 intro r4 hr1
 refine cX (XOp.convI (k' := .u64) (a := r4) (r4) runUnderlying111 runUnderlying2 rfl (IntWalk.i64_in _ (by omega)) (qg (ii (r4)) rfl (qb (qc (qc ?_)))))
 refine jY [cellsH cb [bsv, ii (i), .int .u64 (r2)] 194] L 9 [] [[], [0], [1], [2], [], [4], [5], [6], [7]] (phiL [qe (ptr cb 0), qe (ptr cb 0), qe (ptr cb 1), qe (ii (i)), qe (ptr cb 0), qe (ptr cb 0), qe (ptr cb 0), qe bsv, qe (ii ((bs.length : Int)) : Value)]) (ownL []) mixed rfl rfl (by kernel_rfl) ?_ ?_
 ·refine pD (fun W R z9 => ?_) ?_
  ·refine qi (qq (ptr cb 0) rfl ?_)
   exact ⟨rfl, rfl, rfl⟩
  refine pD (fun W R z9 => ?_) ?_
  ·rw [eS (l := [(0, _)]) ⟨z9 0 rfl, ⟨⟩⟩]
   refine qi (jG rfl ?_)
   exact ⟨rfl, rfl, rfl⟩
  refine pD (fun W R z9 => ?_) ?_
  ·rw [eS (l := [(1, _)]) ⟨z9 1 rfl, ⟨⟩⟩]
   refine qi (qk (1) ya rfl sizeOf3 (by decide) rfl rfl ?_)
   exact ⟨rfl, rfl, rfl⟩
  refine pD (fun W R z9 => ?_) ?_
  ·rw [eS (l := [(2, _)]) ⟨z9 2 rfl, ⟨⟩⟩]
   refine qi (ql isAgg3 rfl (Rd.own [] rfl rfl) ?_)
   exact ⟨rfl, rfl, rfl⟩
  refine pD (fun W R z9 => ?_) ?_
  ·refine qi (qq (ptr cb 0) rfl ?_)
   exact ⟨rfl, rfl, rfl⟩
  refine pD (fun W R z9 => ?_) ?_
  ·rw [eS (l := [(4, _)]) ⟨z9 4 rfl, ⟨⟩⟩]
   refine qi (jG rfl ?_)
   exact ⟨rfl, rfl, rfl⟩
  refine pD (fun W R z9 => ?_) ?_
  ·rw [eS (l := [(5, _)]) ⟨z9 5 rfl, ⟨⟩⟩]
   refine qi (qk (0) ya rfl sizeOf60 (by decide) rfl rfl ?_)
   exact ⟨rfl, rfl, rfl⟩
  refine pD (fun W R z9 => ?_) ?_
  ·rw [eS (l := [(6, _)]) ⟨z9 6 rfl, ⟨⟩⟩]
   refine qi (ql isAgg60 rfl (Rd.own [] rfl rfl) ?_)
   exact ⟨rfl, rfl, rfl⟩
  refine pD (fun W R z9 => ?_) ?_
  ·rw [eS (l := [(7, _)]) ⟨z9 7 rfl, ⟨⟩⟩]
   refine qi (qD runUnderlying60 rfl hbs.slv ?_)
   exact ⟨rfl, rfl, rfl⟩
  exact stepsP.nil
 intro W hphi
 rw [eS (l := [(3, _), (8, _)]) ⟨(hphi 3 (by decide)), (hphi 8 (by decide)), ⟨⟩⟩]
 show XL _ _ _ _ _ _ _ (cellsH cb [bsv, ii (i), .int .u64 (r2)] 194 :: L)
 refine cX (jf rfl rfl (qb ?_))
 refine qE (p := (i : Int) < (bs.length : Int)) rfl (fun h1 => ?_) (fun h1 => ?_)
 ·have hrg := hbs.range (i := i.toNat) (by omega)
  refine qc ?_
  refine jY [cellsH cb [bsv, ii (i), .int .u64 (r2)] 194] L 12 [] [[], [], [1], [2], [3], [], [5], [6], [7], [4, 8], [9], [10]] (phiL [qe (ii (r4)), qe (ptr cb 0), qe (ptr cb 0), qe (ptr cb 0), qe bsv, qe (ptr cb 0), qe (ptr cb 0), qe (ptr cb 1), qe (ii (i)), qe (.pointer (some (elemA bsv ((i).toNat)))), qe (.int .u8 (bs.getD ((i).toNat) 0)), qe (ii (bs.getD ((i).toNat) 0))]) (ownL []) mixed rfl rfl (by kernel_rfl) ?_ ?_
  ·refine pD (fun W R z9 => ?_) ?_
   ·refine qi (qq (ii (r4)) rfl ?_)
    exact ⟨rfl, rfl, rfl⟩
   refine pD (fun W R z9 => ?_) ?_
   ·refine qi (qq (ptr cb 0) rfl ?_)
    exact ⟨rfl, rfl, rfl⟩
   refine pD (fun W R z9 => ?_) ?_
   ·rw [eS (l := [(1, _)]) ⟨z9 1 rfl, ⟨⟩⟩]
    refine qi (jG rfl ?_)
    exact ⟨rfl, rfl, rfl⟩
   refine pD (fun W R z9 => ?_) ?_
   ·rw [eS (l := [(2, _)]) ⟨z9 2 rfl, ⟨⟩⟩]
    refine qi (qk (0) ya rfl sizeOf60 (by decide) rfl rfl ?_)
    exact ⟨rfl, rfl, rfl⟩
   refine pD (fun W R z9 => ?_) ?_
   ·rw [eS (l := [(3, _)]) ⟨z9 3 rfl, ⟨⟩⟩]
    refine qi (ql isAgg60 rfl (Rd.own [] rfl rfl) ?_)
    exact ⟨rfl, rfl, rfl⟩
   refine pD (fun W R z9 => ?_) ?_
   ·refine qi (qq (ptr cb 0) rfl ?_)
    exact ⟨rfl, rfl, rfl⟩
   refine pD (fun W R z9 => ?_) ?_
   ·rw [eS (l := [(5, _)]) ⟨z9 5 rfl, ⟨⟩⟩]
    refine qi (jG rfl ?_)
    exact ⟨rfl, rfl, rfl⟩
   refine pD (fun W R z9 => ?_) ?_
   ·rw [eS (l := [(6, _)]) ⟨z9 6 rfl, ⟨⟩⟩]
    refine qi (qk (1) ya rfl sizeOf3 (by decide) rfl rfl ?_)
    exact ⟨rfl, rfl, rfl⟩
   refine pD (fun W R z9 => ?_) ?_
   ·rw [eS (l := [(7, _)]) ⟨z9 7 rfl, ⟨⟩⟩]
    refine qi (ql isAgg3 rfl (Rd.own [] rfl rfl) ?_)
    exact ⟨rfl, rfl, rfl⟩
   refine pD (fun W R z9 => ?_) ?_
   ·rw [eS (l := [(4, _), (8, _)]) ⟨z9 4 rfl, z9 8 rfl, ⟨⟩⟩]
    refine qi (qB ((i).toNat) runUnderlying60 sizeOf5 rfl rfl (by omega) hbs.slv (by omega) (Nat.mul_one _) ?_)
    exact ⟨rfl, rfl, rfl⟩
   refine pD (fun W R z9 => ?_) ?_
   ·rw [eS (l := [(9, _)]) ⟨z9 9 rfl, ⟨⟩⟩]
    refine qi (ql isAgg5 rfl (hbs.rd (by omega) _) ?_)
    exact ⟨rfl, rfl, rfl⟩
   refine pD (fun W R z9 => ?_) ?_
   ·rw [eS (l := [(10, _)]) ⟨z9 10 rfl, ⟨⟩⟩]
    refine qi (XOp.convI (k' := .u8) (a := bs.getD ((i).toNat) 0) (bs.getD ((i).toNat) 0) runUnderlying5 runUnderlying2 rfl (IntWalk.i64_in _ (by omega)) ?_)
    exact ⟨rfl, rfl, rfl⟩
   exact stepsP.nil
  intro W hphi
  rw [eS (l := [(0, _), (11, _)]) ⟨(hphi 0 (by decide)), (hphi 11 (by decide)), ⟨⟩⟩]
  show XL _ _ _ _ _ _ _ (cellsH cb [bsv, ii (i), .int .u64 (r2)] 194 :: L)
  refine cX (qP (r4 + (bs.getD ((i).toNat) 0)) rfl rfl (by omega) (by omega) (qg (ii (r4 + (bs.getD ((i).toNat) 0))) rfl (qb (qa (qd (ptr cb 0) rfl (qd (ptr cb 0) rfl (cX (jG rfl (cX (qk (1) ya rfl sizeOf3 (by decide) rfl rfl (cX (ql isAgg3 rfl (Rd.own [] rfl rfl) (cX (qP (i + 1) rfl rfl (by omega) (by omega) (cX (jG rfl ?_))))))))))))))))
  refine cX (qk (1) ya rfl sizeOf3 (by decide) rfl rfl (cX (jK [] _ [bsv, ii (i + 1), .int .u64 (r2)] sizeOf3 rfl rfl rfl rfl rfl rfl (qb (qc (qa (qd (ii (r4 + (bs.getD ((i).toNat) 0))) rfl (qd (ii (n)) rfl (cX (XOp.remV (a := r4 + (bs.getD ((i).toNat) 0)) (b := n) rfl rfl (by omega) (by omega) ?_))))))))))
  intro r5 hr2
  refine qg (ii (r5)) rfl (qb (qw (qs (L' := cellsH cb [bsv, ii (i + 1), .int .u64 (r2)] 194 :: L) [ii (r5)] (ii (r5)) (.tmp rfl .nil) rfl rF rF (sC sR) ?_)))
  exact ⟨⟨rfl, _, rfl, hr2⟩, _, _, by omega, by omega, rfl⟩
 refine qz (qc (qa (qd (ii (r4)) rfl (qd (ii (n)) rfl (cX (XOp.remV (a := r4) (b := n) rfl rfl (by omega) (by omega) ?_))))))
 intro r6 hr3
 refine qg (ii (r6)) rfl (qb (qw (qs (L' := cellsH cb [bsv, ii (i), .int .u64 (r2)] 194 :: L) [ii (r6)] (ii (r6)) (.tmp rfl .nil) rfl rF rF (sC sR) ?_)))
 exact ⟨⟨rfl, _, rfl, hr3⟩, _, _, by omega, by omega, rfl⟩
theorem below_spec {F : FH} {L : List HP} {cb : Nat} {bsv : Value} {bs : List Int} (hbs : BytesF F bsv bs) (hbl : bs.length ≤ 4000000) {n : Int} (hn : 1 ≤ n ∧ n ≤ 1000000) : Does prog 57 [ptr cb 0, .int .i64 n] F (curH .u64 194 cb bsv bs.length :: L) (fun v F' L' => (F = F' ∧ ∃ (x : Int), (.int .i64 x : Value) = v ∧ (0 ≤ x ∧ x < n)) ∧ curH .u64 194 cb bsv bs.length :: L = L') :=
  Does.cur (Q := fun v F' => F = F' ∧ ∃ (x : Int), (.int .i64 x : Value) = v ∧ (0 ≤ x ∧ x < n)) fun i h h0 h1 => below_spec0 hbs hbl h0 h1 hn

end Go.Proofs.YtenomejgjcpbdaaGreat
