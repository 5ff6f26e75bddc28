/-
  Walks, one after the other (part 2).
-/
import Derived.Test.YtjpfankibmeaaaaGreatQADL1
import Derived.Test.YtjpfankibmeaaaaGreatQADB0
set_option linter.unusedSimpArgs false
set_option linter.unusedVariables false
namespace Go.Proofs.YtjpfankibmeaaaaGreat
open Go X M Tryz

/- spec.l2Gives -/
theorem l2Gives_spec {F : FH} {L : List HP} {sv : Value} {s : List (List Int)} (hs : RowsF F sv s) {i : Nat} (hsl : s.length ≤ 4000000) (hi : i ≤ 4000000) (hsb : (s.getD i []).length ≤ 4000000) :
    Does prog 184 [.agg #[sv], ii ((i : Int))] F (L) (fun v F' L' => F = F' ∧ IsSl v ∧ intsH 2 v (lk s (-1 - (i : Int))) :: L = L') := by
 refine qz func184 rfl rfl rfl (qc (qa (cX (qW [sv] rfl rfl ?_))))
 intro b1
 refine qf (sN) rfl (qb (qc (qc (qa (qd (ii ((i : Int))) rfl (cX (qk (0) qO rfl qP (by decide) rfl rfl (cX (qh jg rfl (Rd.own [] rfl rfl) (cX (qA qs rfl hs.slv (cX (qT rfl rfl (qd (.bool (decide ((i : Int) < (s.length : Int)))) rfl ?_))))))))))))))
 by_cases h1 : (i : Int) < (s.length : Int)
 ·refine qu (t := 10) rfl (vT h1) (qk (0) qO rfl qP (by decide) rfl rfl (qu (t := 10) rfl (vT h1) (qh jg rfl (Rd.own [] rfl rfl) (qu (t := 10) rfl (vT h1) (qr (ii ((i : Int))) rfl (qu (t := 10) rfl (vT h1) (qy i qs qt rfl rfl rfl hs.slv (by omega) (Nat.mul_one _) ?_)))))))
  obtain ⟨a1, ha1, hr1⟩ := hs.rd (i := i) (by omega)
  refine qu (t := 10) rfl (vT h1) (qh qM rfl (hr1 _) (qu (t := 10) rfl (vT h1) (qA qg rfl ha1.slv (qu (t := 10) rfl (vT h1) (jX rfl rfl (cX (jk (.bool (decide ((((((s.getD i [])).length : Nat) : Int) : Int) > 0))) (vT h1) rfl (qb ?_))))))))
  refine qx (p := (((((s.getD i [])).length : Nat) : Int) : Int) > 0) rfl (fun h2 => ?_) (fun h2 => ?_)
  ·refine qc (qa (cX (qk (0) qO rfl qP (by decide) rfl rfl (cX (qh jg rfl (Rd.own [] rfl rfl) (qd (ii ((i : Int))) rfl (cX (qy i qs qt rfl rfl rfl hs.slv (by omega) (Nat.mul_one _) (cX (qh qM rfl (hr1 _) (cX (qn (args := [a1]) call105 rfl (l1Copy_spec ha1 (hlt := (by first | assumption | rfl | omega | simp))) ?_))))))))))))
   rintro v1 _ _ _ ⟨rfl, hs1, rfl⟩
   refine qf (v1) rfl (qb (qv (ql (qp (L' := intsH 2 v1 ((((s.getD i [])))) :: L) [v1] (v1) (.tmp rfl .nil) rfl rF rF (sC (sD sR)) ?_))))
   refine ⟨rfl, hs1, ?_⟩
   have hxs : (lk s (-1 - (i : Int)) : List Int) = (((s.getD i []))) := lk_copy (by omega)
   exact congrArg (fun z => intsH 2 _ z :: L) hxs
  refine qw (qc (qa (qd (ii ((i : Int))) rfl (cX (jG ((-1) - ((i : Int))) rfl rfl (by omega) (by omega) (cX (qL (s := 1) [ii ((-1) - ((i : Int)))] [ii (0)] [(0, [ii ((-1) - ((i : Int)))])] qg qJ jC rfl (by decide) rfl (.cons rfl CellsAre.nil) rfl ?_)))))))
  intro v2 hv1
  refine qf (v2) rfl (qb (qv (qp (L' := intsH 2 v2 ([(-1) - ((i : Int))]) :: L) [v2] (v2) (.tmp rfl .nil) rfl rF rF (sC (sD sR)) ?_)))
  refine ⟨rfl, (jD hv1), ?_⟩
  have hxs : (lk s (-1 - (i : Int)) : List Int) = [(-1) - ((i : Int))] := lk_self (by first | omega | (rw [getD_out (by omega)]; simp))
  exact congrArg (fun z => intsH 2 _ z :: L) hxs
 refine qE (t := 10) rfl (vF h1) (qE (t := 10) rfl (vF h1) (qE (t := 10) rfl (vF h1) (qE (t := 10) rfl (vF h1) (qE (t := 10) rfl (vF h1) (qE (t := 10) rfl (vF h1) (qE (t := 10) rfl (vF h1) (cX (ja (.bool (false)) (vF h1) rfl (qb (X.condF rfl ?_))))))))))
 refine qw (qc (qa (qd (ii ((i : Int))) rfl (cX (jG ((-1) - ((i : Int))) rfl rfl (by omega) (by omega) (cX (qL (s := 1) [ii ((-1) - ((i : Int)))] [ii (0)] [(0, [ii ((-1) - ((i : Int)))])] qg qJ jC rfl (by decide) rfl (.cons rfl CellsAre.nil) rfl ?_)))))))
 intro v3 hv2
 refine qf (v3) rfl (qb (qv (qp (L' := intsH 2 v3 ([(-1) - ((i : Int))]) :: L) [v3] (v3) (.tmp rfl .nil) rfl rF rF (sC (sD sR)) ?_)))
 refine ⟨rfl, (jD hv2), ?_⟩
 have hxs : (lk s (-1 - (i : Int)) : List Int) = [(-1) - ((i : Int))] := lk_self (by first | omega | (rw [getD_out (by omega)]; simp))
 exact congrArg (fun z => intsH 2 _ z :: L) hxs

/- spec.l2Plain -/
theorem l2Plain_spec {F : FH} {L : List HP} {sv : Value} {s : List (List Int)} (hs : RowsF F sv s) (hsl : s.length ≤ 24) (hsb : ∀ i, (s.getD i []).length ≤ 4000000) :
    Does prog 183 [.agg #[sv]] F (L) (fun v F' L' => ∃ (a : Value), (.agg #[a] : Value) = v ∧ (RowsF F' a (plainL s)) ∧ L = L') := by
 refine qz func183 rfl rfl rfl (qc (qa (cX (qW [sv] rfl rfl ?_))))
 intro b1
 refine cX (qS [sN] ji rfl ?_)
 intro b2
 refine qb (qc (qa (cX (jf [sN] [sN] [(0, 1)] [] qO ji rfl (.cons rfl qP PlacesAre.nil) rfl CellsAre.nil (cX (qS [sN] ji rfl ?_))))))
 intro b3
 refine cX (qD [] _ [sN] qR rfl rfl rfl (qi rfl qH) rfl rfl rfl (qb (qc (qc (qa (qf (ii (0)) rfl (qb (qG (jc (α := Nat × Value × RowL × FH) (fun xQ => [(1, ptr b1 0), (2, ptr b2 0), (3, ptr b3 0), (4, ii (((xQ.1 : Nat) : Int)))]) (fun xQ => rowsH 22 xQ.2.2.2 xQ.2.1 xQ.2.2.1 :: cellsH b3 [xQ.2.1] 137 :: cellsH b2 [sN] 137 :: cellsH b1 [sv] 137 :: L) (fun xQ F' => xQ.2.2.2 = F' ∧ F ≤ xQ.2.2.2 ∧ (IsSl xQ.2.1) ∧ (xQ.2.2.1 = (plainGo 0 s).take xQ.1) ∧ (xQ.1 ≤ s.length)) (fun xQ => s.length - xQ.1) (0, sN, [], F) ⟨rfl, rfl, rfl, rfl, ⟨⟩⟩ (coH.addNil none (sC (sC (sC sR)))) ⟨rfl, FLe.refl _, (⟨_, _, _, rfl⟩), (rfl), (by (try dsimp only) <;> omega)⟩ ?_)))))))))
 rintro ⟨k, ov, os, G1⟩ rE _ _ ⟨rfl, leG, hov, hos, hk⟩
 show X _ _ _ _ (envs [(1, ptr b1 0), (2, ptr b2 0), (3, ptr b3 0), (4, ii ((k : Int)))] rE) _ (rowsH 22 G1 ov os :: cellsH b3 [ov] 137 :: cellsH b2 [sN] 137 :: cellsH b1 [sv] 137 :: L)
 replace leG : F ≤ G1 := leG
 dsimp only at hov hos hk
 have hol : os.length ≤ k := by rw [hos, List.length_take]; omega
 have hsbk := hsb k
 have hlkb : (lk s (-1 - (k : Int))).length ≤ 4000000 := by rw [lk_var]; split <;> simp; exact hsbk
 have leG1 := leG
 replace hs := hs.mono leG1
 refine X.open [] rfl (fun cs1 hc1 => ?_)
 replace hc1 : RowsC G1 cs1 os := hc1
 refine qc (qc (qa (qd (ii ((k : Int))) rfl (cX (qk (0) qO rfl qP (by decide) rfl rfl (cX (qh jg rfl (Rd.own [_, _, _] rfl rfl) (cX (qA qs rfl hs.slv (cX (qT rfl rfl (qb ?_))))))))))))
 refine qx (p := (k : Int) < (s.length : Int)) rfl (fun h1 => ?_) (fun h1 => ?_)
 ·refine qw (qc (qG (qc (qa (cX (qq [sv] jv qR rfl rfl (Rd.ownN [_, _, _] rfl rfl) (qd (ii ((k : Int))) rfl (cX (jM <| qn (args := [.agg #[sv], ii (k : Int)]) call184 rfl (l2Gives_spec (i := k) hs (hsl := (by first | assumption | rfl | omega | simp)) (hi := (by first | assumption | rfl | omega | simp)) (hsb := (hsb k))) ?_)))))))))
  rintro v1 _ _ _ ⟨rfl, hs1, rfl⟩
  refine ⟨_, _, rfl, fun F1 le1 hz1 => ?_⟩
  replace hc1 := hc1.mono le1
  have hf1 : IntsF F1 v1 ((lk s (-1 - (k : Int)))) := intsH.fz (xs := (lk s (-1 - (k : Int)))) hz1.fz
  refine qf (v1) rfl (qb (qc (qc (qa (qd (v1) rfl (cX (qA qg rfl hf1.slv (cX (XOp.eql rfl rfl (qd (.bool (decide ((((((lk s (-1 - (k : Int)))).length : Nat) : Int) : Int) = 1))) rfl ?_))))))))))
  by_cases h2 : (((((lk s (-1 - (k : Int)))).length : Nat) : Int) : Int) = 1
  ·refine qu (t := 20) rfl (vT h2) (qr (v1) rfl (qu (t := 20) rfl (vT h2) (qy 0 qg qJ rfl rfl rfl hf1.slv (by omega) (Nat.mul_one _) (qu (t := 20) rfl (vT h2) (qh jn rfl (hf1.rd (by omega)) (qu (t := 20) rfl (vT h2) (qr (ii ((k : Int))) rfl (qu (t := 20) rfl (vT h2) (jG ((-1) - ((k : Int))) rfl rfl (by omega) (by omega) (qu (t := 20) rfl (vT h2) (XOp.eql rfl rfl (cX (jk (.bool (decide ((((lk s (-1 - (k : Int)))).getD 0 0 : Int) = (-1) - ((k : Int))))) (vT h2) rfl (qb ?_))))))))))))))
   refine qx (p := (((lk s (-1 - (k : Int)))).getD 0 0 : Int) = (-1) - ((k : Int))) rfl (fun h3 => ?_) (fun h3 => ?_)
   ·refine qa (cX (qL (s := 1) [] [ii (0)] [] qg qJ jC rfl (by decide) rfl CellsAre.nil rfl ?_))
    intro v2 hv1
    refine qf (v2) rfl (qb (qa (cX (qk (0) qO rfl qP (by decide) rfl rfl (cX (qh jg rfl (Rd.own [_, _] rfl rfl) (qd (v2) rfl (cX (qL (s := 1) [v2] [sN] [(0, [v2])] qs qt jP rfl (by decide) rfl (.cons (cells_one (jD hv1)) CellsAre.nil) rfl ?_)))))))))
    intro v3 hv2
    show XL _ _ _ _ _ _ _ (slH 22 1 v3 1 [v2] :: intsH 2 v2 ([] : List Int) :: slH 22 1 ov ((os).length) cs1 :: cellsH b3 [ov] 137 :: cellsH b2 [sN] 137 :: cellsH b1 [sv] 137 :: L)
    refine XL.freezeF [_] _ _ rfl (fun F2 le2 hz2 => ?_)
    replace hc1 := hc1.mono le2
    replace hf1 := hf1.mono le2
    have hf2 : IntsF F2 v2 ([]) := intsH.fz (xs := []) hz2.fz
    refine cX (jQ (m := 1) (bytes := 24) (cs := cs1) [_] _ [v2] qs typeInfo22 rfl rfl rfl rfl rfl rfl rfl (SlV.own [] rfl) rfl (Rd.lit [] rfl) (qi (qC (qB hf2)) qH) (by (try simp only [List.length_append, List.length_nil, List.length_cons, List.length_singleton]); omega) (by (try simp only [List.length_append, List.length_nil, List.length_cons, List.length_singleton]); omega) ?_)
    intro v4 hs2 hn1 hm1
    have hc2 := RowsC.snoc hc1 hf2
    refine cX (qk (0) qO rfl qP (by decide) rfl rfl (cX (jw [_, _] _ [v4] qP rfl rfl (qC hs2) rfl rfl rfl (qb (qa (qd (ii ((k : Int))) rfl (cX (qN (((k + 1 : Nat) : Int)) rfl rfl (by omega) (by omega) (qf (ii (((k + 1 : Nat) : Int))) rfl (qb ?_))))))))))
    exact ⟨(k + 1, v4, os ++ [[]], F2), _, (qm (qm leG1 le1) le2), rF, ⟨rfl, rfl, rfl, rfl, ⟨⟩⟩, (sD (coH.close hc2 (by first | rfl | simp) (sC (sC (sC sR))))), ⟨rfl, (qm (qm leG1 le1) le2), (hs2), (by dsimp only; rw [hos, plainGo_take (by omega), plainGo_self (one_eq (by omega) (by omega))]), (by (try dsimp only) <;> omega)⟩, (by omega)⟩
   refine qw (qa (cX (qk (0) qO rfl qP (by decide) rfl rfl (cX (qh jg rfl (Rd.own [_] rfl rfl) (qd (v1) rfl (cX (qL (s := 1) [v1] [sN] [(0, [v1])] qs qt jP rfl (by decide) rfl (.cons (cells_one (qB hf1)) CellsAre.nil) rfl ?_))))))))
   intro v5 hv3
   refine cX (jQ (m := 1) (bytes := 24) (cs := cs1) [_] _ [v1] qs typeInfo22 rfl rfl rfl rfl rfl rfl rfl (SlV.own [] rfl) rfl (Rd.lit [] rfl) (qi (qC (qB hf1)) qH) (by (try simp only [List.length_append, List.length_nil, List.length_cons, List.length_singleton]); omega) (by (try simp only [List.length_append, List.length_nil, List.length_cons, List.length_singleton]); omega) ?_)
   intro v6 hs3 hn2 hm2
   have hc3 := RowsC.snoc hc1 hf1
   refine cX (qk (0) qO rfl qP (by decide) rfl rfl (cX (jw [_, _] _ [v6] qP rfl rfl (qC hs3) rfl rfl rfl (qb (qa (qd (ii ((k : Int))) rfl (cX (qN (((k + 1 : Nat) : Int)) rfl rfl (by omega) (by omega) (qf (ii (((k + 1 : Nat) : Int))) rfl (qb ?_))))))))))
   exact ⟨(k + 1, v6, os ++ [(lk s (-1 - (k : Int)))], F1), _, (qm leG1 le1), rF, ⟨rfl, rfl, rfl, rfl, ⟨⟩⟩, (sD (coH.close hc3 (by first | rfl | simp) (sC (sC (sC sR))))), ⟨rfl, (qm leG1 le1), (hs3), (by dsimp only; rw [hos, plainGo_take (by omega), plainGo_other (by intro e; have e1 := congrArg List.length e; have e2 := congrArg (fun l => l.getD 0 0) e; simp only [List.length_singleton, List.getD_cons_zero] at e1 e2; omega)]), (by (try dsimp only) <;> omega)⟩, (by omega)⟩
  refine qE (t := 20) rfl (vF h2) (qE (t := 20) rfl (vF h2) (qE (t := 20) rfl (vF h2) (qE (t := 20) rfl (vF h2) (qE (t := 20) rfl (vF h2) (qE (t := 20) rfl (vF h2) (cX (ja (.bool (false)) (vF h2) rfl (qb (X.condF rfl (qw (qa ?_)))))))))))
  refine cX (qk (0) qO rfl qP (by decide) rfl rfl (cX (qh jg rfl (Rd.own [_] rfl rfl) (qd (v1) rfl (cX (qL (s := 1) [v1] [sN] [(0, [v1])] qs qt jP rfl (by decide) rfl (.cons (cells_one (qB hf1)) CellsAre.nil) rfl ?_))))))
  intro v7 hv4
  refine cX (jQ (m := 1) (bytes := 24) (cs := cs1) [_] _ [v1] qs typeInfo22 rfl rfl rfl rfl rfl rfl rfl (SlV.own [] rfl) rfl (Rd.lit [] rfl) (qi (qC (qB hf1)) qH) (by (try simp only [List.length_append, List.length_nil, List.length_cons, List.length_singleton]); omega) (by (try simp only [List.length_append, List.length_nil, List.length_cons, List.length_singleton]); omega) ?_)
  intro v8 hs4 hn3 hm3
  have hc4 := RowsC.snoc hc1 hf1
  refine cX (qk (0) qO rfl qP (by decide) rfl rfl (cX (jw [_, _] _ [v8] qP rfl rfl (qC hs4) rfl rfl rfl (qb (qa (qd (ii ((k : Int))) rfl (cX (qN (((k + 1 : Nat) : Int)) rfl rfl (by omega) (by omega) (qf (ii (((k + 1 : Nat) : Int))) rfl (qb ?_))))))))))
  exact ⟨(k + 1, v8, os ++ [(lk s (-1 - (k : Int)))], F1), _, (qm leG1 le1), rF, ⟨rfl, rfl, rfl, rfl, ⟨⟩⟩, (sD (coH.close hc4 (by first | rfl | simp) (sC (sC (sC sR))))), ⟨rfl, (qm leG1 le1), (hs4), (by dsimp only; rw [hos, plainGo_take (by omega), plainGo_other (by intro e; have e1 := congrArg List.length e; have e2 := congrArg (fun l => l.getD 0 0) e; simp only [List.length_singleton, List.getD_cons_zero] at e1 e2; omega)]), (by (try dsimp only) <;> omega)⟩, (by omega)⟩
 refine jb (qo (qo (qI (qc (qG (jc (α := Value × RowL × FH) (fun xQ => [(2, ptr b2 0), (3, ptr b3 0)]) (fun xQ => rowsH 22 xQ.2.2 xQ.1 xQ.2.1 :: cellsH b3 [xQ.1] 137 :: cellsH b2 [sN] 137 :: cellsH b1 [sv] 137 :: L) (fun xQ F' => xQ.2.2 = F' ∧ G1 ≤ xQ.2.2 ∧ (IsSl xQ.1) ∧ (trim xQ.2.1 = plainL s) ∧ (xQ.2.1.length ≤ 24)) (fun xQ => xQ.2.1.length) (ov, os, G1) ⟨rfl, rfl, ⟨⟩⟩ (coH.close hc1 (by first | rfl | simp) (sC (sC (sC sR)))) ⟨rfl, FLe.refl _, (hov), (by dsimp only; rw [hos, plainL, List.take_of_length_le (by rw [plainGo_length]; omega)]), (by dsimp only; rw [hos, List.length_take, plainGo_length]; omega)⟩ ?_))))))
 rintro ⟨ov2, os2, G2⟩ rE _ _ ⟨rfl, leG, hov2, hos2, hl2⟩
 show X _ _ _ _ (envs [(2, ptr b2 0), (3, ptr b3 0)] rE) _ (rowsH 22 G2 ov2 os2 :: cellsH b3 [ov2] 137 :: cellsH b2 [sN] 137 :: cellsH b1 [sv] 137 :: L)
 replace leG : G1 ≤ G2 := leG
 dsimp only at hov2 hos2 hl2
 have leG2 := leG
 refine X.open [] rfl (fun cs2 hc5 => ?_)
 replace hc5 : RowsC G2 cs2 os2 := hc5
 refine qc (qc (qa (cX (qk (0) qO rfl qP (by decide) rfl rfl (cX (qh jg rfl (Rd.own [_] rfl rfl) (cX (qA qs rfl (SlV.own [] rfl) (cX (jX rfl rfl (qd (.bool (decide (((os2.length : Int) : Int) > 0))) rfl ?_)))))))))))
 by_cases h4 : ((os2.length : Int) : Int) > 0
 ·refine qu (t := 39) rfl (vT h4) (qk (0) qO rfl qP (by decide) rfl rfl (qu (t := 39) rfl (vT h4) (qh jg rfl (Rd.own [_] rfl rfl) (qu (t := 39) rfl (vT h4) (qk (0) qO rfl qP (by decide) rfl rfl (qu (t := 39) rfl (vT h4) (qh jg rfl (Rd.own [_] rfl rfl) (qu (t := 39) rfl (vT h4) (qA qs rfl (SlV.own [] rfl) (qu (t := 39) rfl (vT h4) (jG (((os2.length - 1 : Nat) : Int)) rfl rfl (by omega) (by omega) (qu (t := 39) rfl (vT h4) (qy (os2.length - 1) qs qt rfl rfl rfl (SlV.own [] rfl) (by omega) (Nat.mul_one _) ?_)))))))))))))
  obtain ⟨a1, ha1, he1⟩ := hc5.get (i := os2.length - 1) (by omega)
  refine qu (t := 39) rfl (vT h4) (qh qM rfl (Rd.sl [] rfl he1) (qu (t := 39) rfl (vT h4) (qA qg rfl ha1.slv (qu (t := 39) rfl (vT h4) (XOp.eql rfl rfl (cX (jk (.bool (decide ((((((os2.getD (os2.length - 1) [])).length : Nat) : Int) : Int) = 0))) (vT h4) rfl (qb ?_))))))))
  refine qx (p := (((((os2.getD (os2.length - 1) [])).length : Nat) : Int) : Int) = 0) rfl (fun h5 => ?_) (fun h5 => ?_)
  ·refine qw (qG (qa (cX (qk (0) qO rfl qP (by decide) rfl rfl (cX (qh jg rfl (Rd.own [_] rfl rfl) (cX (qk (0) qO rfl qP (by decide) rfl rfl (cX (qh jg rfl (Rd.own [_] rfl rfl) (cX (qA qs rfl (SlV.own [] rfl) (cX (jG (((os2.length - 1 : Nat) : Int)) rfl rfl (by omega) (by omega) (cX (XOp.sliceOwn (cs := cs2) [] _ (os2.length - 1) qs qt rfl rfl ⟨_, rfl⟩ (by omega) ?_))))))))))))))))
   intro v9 hs5
   have hc6 : RowsC G2 _ _ := CO.take hc5 (k := os2.length - 1) (by omega)
   refine cX (qk (0) qO rfl qP (by decide) rfl rfl (cX (jw [_] _ [v9] qP rfl rfl (qC hs5) rfl rfl rfl (qb ?_))))
   exact ⟨(v9, (os2.take (os2.length - 1)), G2), _, leG2, rF, ⟨rfl, rfl, ⟨⟩⟩, (coH.close hc6 (by first | rfl | simp) (sC (sC (sC sR)))), ⟨rfl, leG2, (hs5), (by dsimp only; rw [trim_cut (by omega) (List.eq_nil_of_length_eq_zero (by omega))]; exact hos2), (by dsimp only; rw [List.length_take]; omega)⟩, (by dsimp only; rw [List.length_take]; omega)⟩
  refine jb (qo (qo (qI (qc (qa (cX (qq [ov2] jv qR rfl rfl (Rd.ownN [_] rfl rfl) (cX (qD [_, _] _ [ov2] qR rfl rfl rfl (qi (qC hov2) qH) rfl rfl rfl (qb (jl [] _ _ rfl (fun F3 le3 hz3 => ?_))))))))))))
  replace hc5 := hc5.mono le3
  have hf3 : RowsF F3 ov2 os2 := CO.fz hc5 (by first | rfl | omega | (rw [List.length_set]; omega) | (simp; done)) hz3.fz
  refine qv (qp (L' := L) [.agg #[ov2]] (.agg #[ov2]) (.cell rfl (jo [ov2] jv qR rfl (Rd.ownN [_] rfl rfl)) .nil) rfl (qm (qm leG1 leG2) le3) rF (sD (sD (sD sR))) ?_)
  have e : os2 = plainL s := by rw [← hos2]; exact (trim_last (fun h0 e => by have := congrArg List.length e; simp only [List.length_nil] at this; omega)).symm
  exact ⟨_, rfl, by rw [← e]; exact hf3, rfl⟩
 refine qE (t := 39) rfl (vF h4) (qE (t := 39) rfl (vF h4) (qE (t := 39) rfl (vF h4) (qE (t := 39) rfl (vF h4) (qE (t := 39) rfl (vF h4) (qE (t := 39) rfl (vF h4) (qE (t := 39) rfl (vF h4) (qE (t := 39) rfl (vF h4) (qE (t := 39) rfl (vF h4) (qE (t := 39) rfl (vF h4) ?_)))))))))
 refine cX (ja (.bool (false)) (vF h4) rfl (qb (X.condF rfl (jb (qo (qo (qI (qc (qa (cX (qq [ov2] jv qR rfl rfl (Rd.ownN [_] rfl rfl) (cX (qD [_, _] _ [ov2] qR rfl rfl rfl (qi (qC hov2) qH) rfl rfl rfl (qb (jl [] _ _ rfl (fun F4 le4 hz4 => ?_))))))))))))))))
 replace hc5 := hc5.mono le4
 have hf4 : RowsF F4 ov2 os2 := CO.fz hc5 (by first | rfl | omega | (rw [List.length_set]; omega) | (simp; done)) hz4.fz
 refine qv (qp (L' := L) [.agg #[ov2]] (.agg #[ov2]) (.cell rfl (jo [ov2] jv qR rfl (Rd.ownN [_] rfl rfl)) .nil) rfl (qm (qm leG1 leG2) le4) rF (sD (sD (sD sR))) ?_)
 have e : os2 = plainL s := by rw [← hos2]; exact (trim_last (fun h0 e => by have := congrArg List.length e; simp only [List.length_nil] at this; omega)).symm
 exact ⟨_, rfl, by rw [← e]; exact hf4, rfl⟩

/- spec.l4Match -/
theorem l4Match_spec {F : FH} {L : List HP} {arv : Value} {ar : List Int} (har : IntsF F arv ar) {pv : Value} {p : List Int} (hp : IntsF F pv p) {tv : Value} {t : List Int} (ht : IntsF F tv t) (ho : termOk ar t = true) (hpo : termOk ar p = true) :
    Does prog 216 [.agg #[arv], pv, tv] F (L) (fun v F' L' => ∃ (a : Value), (.tuple #[.agg #[a], .bool ((matchB ar p t).isSome)] : Value) = v ∧ (RowsF F' a (matchP ar p t)) ∧ L = L') := by
 refine qz func216 rfl rfl rfl ?_
 have hpl := termOk_len hpo
 have hpg := fun k (hk : k < p.length) => termOk_ge hpo hk
 have htl := termOk_len ho
 have hsl := sigOk_spec (termOk_sig ho)
 refine qc (qa (cX (qW [arv] rfl rfl ?_)))
 intro b1
 refine cX (qS [sN] ji rfl ?_)
 intro b2
 refine qf (.bool (false)) rfl (qb (qc (qa (cX (XOp.makeSlice (n := 24) (bytes := 24) [sN] qs qt typeInfo22 rfl jP rfl rfl rfl rfl (by omega) (by omega) ?_)))))
 intro v1 hv1
 rw [nils]
 have hc1 : RowsC F _ _ := RowsC.nils 24
 refine cX (jf [v1] [sN] [(0, 1)] [(0, [v1])] qO ji rfl (.cons rfl qP PlacesAre.nil) rfl (.cons (cells_one (jD hv1)) CellsAre.nil) (cX (qS [sN] ji rfl ?_)))
 intro b3
 refine cX (qD [] _ [v1] qR rfl rfl rfl (qi (qC (jD hv1)) qH) rfl rfl rfl (qb (qc (qa (qf (ii (0)) rfl (qb (qc (qc (qa (qf (ii (0)) rfl (qb (qG (jc (α := Nat × Nat × RowL × FH) (fun xQ => [(1, pv), (2, tv), (3, ptr b1 0), (6, ptr b2 0), (8, ptr b3 0), (9, ii (((xQ.2.1 : Nat) : Int))), (10, ii (((xQ.1 : Nat) : Int)))]) (fun xQ => cellsH b3 [v1] 137 :: rowsH 22 xQ.2.2.2 v1 xQ.2.2.1 :: cellsH b2 [sN] 137 :: cellsH b1 [arv] 36 :: L) (fun xQ F' => xQ.2.2.2 = F' ∧ F ≤ xQ.2.2.2 ∧ (xQ.2.2.1.length = 24) ∧ (xQ.1 ≤ p.length) ∧ (xQ.2.1 ≤ t.length) ∧ (matchB ar p t = mGo ar t (p.drop xQ.1) xQ.2.1 xQ.2.2.1)) (fun xQ => p.length - xQ.1) (0, 0, (List.replicate 24 [] : List (List Int)), F) ⟨rfl, rfl, rfl, rfl, rfl, rfl, rfl, ⟨⟩⟩ (sC (coH.close hc1 (by first | rfl | simp) (sC (sC sR)))) ⟨rfl, FLe.refl _, (by simp), (by (try dsimp only) <;> omega), (by (try dsimp only) <;> omega), (rfl)⟩ ?_)))))))))))))
 rintro ⟨k, i, bl, G1⟩ rE _ _ ⟨rfl, leG, hbl, hk, hi, hm⟩
 show X _ _ _ _ (envs [(1, pv), (2, tv), (3, ptr b1 0), (6, ptr b2 0), (8, ptr b3 0), (9, ii ((i : Int))), (10, ii ((k : Int)))] rE) _ (cellsH b3 [v1] 137 :: rowsH 22 G1 v1 bl :: cellsH b2 [sN] 137 :: cellsH b1 [arv] 36 :: L)
 replace leG : F ≤ G1 := leG
 dsimp only at hbl hk hi hm
 have hpk := hpg k
 have hsl2 := fun h => sub_length (p := i) ho h
 have hee := fun h => endN_spec (p := i) ho h
 have leG1 := leG
 replace har := har.mono leG1
 replace hp := hp.mono leG1
 replace ht := ht.mono leG1
 refine X.open [_] rfl (fun cs1 hc2 => ?_)
 replace hc2 : RowsC G1 cs1 bl := hc2
 refine qc (qc (qa (qd (ii ((k : Int))) rfl (qd (pv) rfl (cX (qA qg rfl hp.slv (cX (qT rfl rfl (qb ?_)))))))))
 refine qx (p := (k : Int) < (p.length : Int)) rfl (fun h1 => ?_) (fun h1 => ?_)
 ·refine qw (qc (qG (qc (qc (qa (qd (ii ((i : Int))) rfl (qd (tv) rfl (cX (qA qg rfl ht.slv (cX (jY rfl rfl (qb ?_))))))))))))
  refine qx (p := (i : Int) ≥ (t.length : Int)) rfl (fun h2 => ?_) (fun h2 => ?_)
  ·refine qc (qa (cX (jf [sN] [sN] [(0, 1)] [] qO ji rfl (.cons rfl qP PlacesAre.nil) rfl CellsAre.nil (cX (qD [_, _] _ [sN] qR rfl rfl rfl (qi rfl qH) rfl rfl rfl (qf (.bool (false)) rfl (qb (qv (ql (qF (ql (ql (qF (ql (qp (L' := L) [.agg #[sN], .bool (false)] (.tuple #[.agg #[sN], .bool (false)]) (.cell rfl (jo [sN] jv qR rfl (Rd.ownN [_, _] rfl rfl)) (.tmp rfl .nil)) rfl leG1 rF (sD (sD (sD (sD sR)))) ?_)))))))))))))))
   have hz : matchB ar p t = none := hm.trans (mGo_short (by omega) (by omega))
   exact ⟨_, by rw [hz]; rfl, by rw [matchP, hz]; exact SlOf.nilV, rfl⟩
  refine qw (qc (qc (qa (qd (pv) rfl (qd (ii ((k : Int))) rfl (cX (qy k qg qJ rfl rfl rfl hp.slv (by omega) (Nat.mul_one _) (cX (qh jn rfl (hp.rd (by omega)) (cX (jY rfl rfl (qb ?_))))))))))))
  refine qx (p := (p.getD k 0 : Int) ≥ 0) rfl (fun h3 => ?_) (fun h3 => ?_)
  ·refine qc (qc ?_)
   refine jV [cellsH b3 [v1] 137, slH 22 1 v1 ((bl).length) cs1, cellsH b2 [sN] 137, cellsH b1 [arv] 36] L 8 [] [[], [], [0, 1], [2], [], [], [4, 5], [6]] (phiL [qe pv, qe (ii ((k : Int)) : Value), qe (.pointer (some (elemA pv (k)))), qe (ii (p.getD k 0)), qe tv, qe (ii ((i : Int)) : Value), qe (.pointer (some (elemA tv (i)))), qe (ii (t.getD i 0))]) (ownL []) mixed rfl rfl (by kernel_rfl) ?_ ?_
   ·refine pD (fun W R z9 => ?_) ?_
    ·refine qj (qr (pv) rfl ?_)
     exact ⟨rfl, rfl, rfl⟩
    refine pD (fun W R z9 => ?_) ?_
    ·refine qj (qr (ii ((k : Int))) rfl ?_)
     exact ⟨rfl, rfl, rfl⟩
    refine pD (fun W R z9 => ?_) ?_
    ·rw [zB 0 1 (z9 0 rfl) (z9 1 rfl)]
     refine qj (qy k qg qJ rfl rfl rfl hp.slv (by omega) (Nat.mul_one _) ?_)
     exact ⟨rfl, rfl, rfl⟩
    refine pD (fun W R z9 => ?_) ?_
    ·rw [zA 2 (z9 2 rfl)]
     refine qj (qh jn rfl (hp.rd (by omega)) ?_)
     exact ⟨rfl, rfl, rfl⟩
    refine pD (fun W R z9 => ?_) ?_
    ·refine qj (qr (tv) rfl ?_)
     exact ⟨rfl, rfl, rfl⟩
    refine pD (fun W R z9 => ?_) ?_
    ·refine qj (qr (ii ((i : Int))) rfl ?_)
     exact ⟨rfl, rfl, rfl⟩
    refine pD (fun W R z9 => ?_) ?_
    ·rw [zB 4 5 (z9 4 rfl) (z9 5 rfl)]
     refine qj (qy i qg qJ rfl rfl rfl ht.slv (by omega) (Nat.mul_one _) ?_)
     exact ⟨rfl, rfl, rfl⟩
    refine pD (fun W R z9 => ?_) ?_
    ·rw [zA 6 (z9 6 rfl)]
     refine qj (qh jn rfl (ht.rd (by omega)) ?_)
     exact ⟨rfl, rfl, rfl⟩
    exact stepsP.nil
   intro W hphi
   rw [zB 3 7 (hphi 3 (by decide)) (hphi 7 (by decide))]
   show XL _ _ _ _ _ _ _ (cellsH b3 [v1] 137 :: slH 22 1 v1 ((bl).length) cs1 :: cellsH b2 [sN] 137 :: cellsH b1 [arv] 36 :: L)
   refine cX (XOp.neq rfl rfl (qb ?_))
   refine qx (p := (p.getD k 0 : Int) ≠ t.getD i 0) rfl (fun h4 => ?_) (fun h4 => ?_)
   ·refine qc (qa (cX (jf [sN] [sN] [(0, 1)] [] qO ji rfl (.cons rfl qP PlacesAre.nil) rfl CellsAre.nil (cX (qD [_, _] _ [sN] qR rfl rfl rfl (qi rfl qH) rfl rfl rfl (qf (.bool (false)) rfl (qb (qv (ql (ql (qF (ql (ql (qF (ql (qp (L' := L) [.agg #[sN], .bool (false)] (.tuple #[.agg #[sN], .bool (false)]) (.cell rfl (jo [sN] jv qR rfl (Rd.ownN [_, _] rfl rfl)) (.tmp rfl .nil)) rfl leG1 rF (sD (sD (sD (sD sR)))) ?_))))))))))))))))
    have hz : matchB ar p t = none := hm.trans (mGo_ne (by omega) (by omega) (by omega) (by omega))
    exact ⟨_, by rw [hz]; rfl, by rw [matchP, hz]; exact SlOf.nilV, rfl⟩
   refine qw (qc (qa (qd (ii ((i : Int))) rfl (cX (qN (((i + 1 : Nat) : Int)) rfl rfl (by omega) (by omega) (qf (ii (((i + 1 : Nat) : Int))) rfl (qb (jb (qo (qI (qa (qd (ii ((k : Int))) rfl (cX (qN (((k + 1 : Nat) : Int)) rfl rfl (by omega) (by omega) (qf (ii (((k + 1 : Nat) : Int))) rfl ?_)))))))))))))))
   refine qb ?_
   exact ⟨(k + 1, i + 1, bl, G1), _, leG1, rF, ⟨rfl, rfl, rfl, rfl, rfl, rfl, rfl, ⟨⟩⟩, (sC (coH.close hc2 (by first | rfl | simp) (sC (sC sR)))), ⟨rfl, leG1, (by (try dsimp only); (try simp only [List.length_set]) <;> omega), (by (try dsimp only) <;> omega), (by (try dsimp only) <;> omega), (hm.trans (mGo_sym (by omega) (by omega) (by omega) (by omega)))⟩, (by omega)⟩
  refine qw (qc (qa (cX (qq [arv] jq qX rfl rfl (Rd.ownN [_, _, _] rfl rfl) (qd (tv) rfl (qd (ii ((i : Int))) rfl (cX (jM <| qn (args := [.agg #[arv], tv, ii (i : Int)]) call150 rfl (l1Sub_spec (p := i) har ht (ho := (by first | assumption | rfl | omega | simp)) (hp := (by first | assumption | rfl | omega | simp))) ?_))))))))
  rintro v2 _ _ _ ⟨rfl, hs1, rfl⟩
  refine ⟨_, _, rfl, fun F1 le1 hz1 => ?_⟩
  replace hp := hp.mono le1
  replace hc2 := hc2.mono le1
  have hf1 : IntsF F1 v2 ((sub ar t i)) := intsH.fz (xs := (sub ar t i)) hz1.fz
  refine qf (v2) rfl (qb (qc ?_))
  refine jV [cellsH b3 [v1] 137, slH 22 1 v1 ((bl).length) cs1, cellsH b2 [sN] 137, cellsH b1 [arv] 36] L 7 [] [[], [0], [], [], [2, 3], [4], [5]] (phiL [qe (ptr b3 0), qe v1, qe pv, qe (ii ((k : Int)) : Value), qe (.pointer (some (elemA pv (k)))), qe (ii (p.getD k 0)), qe (ii ((-1) - (p.getD k 0)))]) (ownL []) mixed rfl rfl (by kernel_rfl) ?_ ?_
  ·refine pD (fun W R z9 => ?_) ?_
   ·refine qj (qk (0) qO rfl qP (by decide) rfl rfl ?_)
    exact ⟨rfl, rfl, rfl⟩
   refine pD (fun W R z9 => ?_) ?_
   ·rw [zA 0 (z9 0 rfl)]
    refine qj (qh jg rfl (Rd.own [] rfl rfl) ?_)
    exact ⟨rfl, rfl, rfl⟩
   refine pD (fun W R z9 => ?_) ?_
   ·refine qj (qr (pv) rfl ?_)
    exact ⟨rfl, rfl, rfl⟩
   refine pD (fun W R z9 => ?_) ?_
   ·refine qj (qr (ii ((k : Int))) rfl ?_)
    exact ⟨rfl, rfl, rfl⟩
   refine pD (fun W R z9 => ?_) ?_
   ·rw [zB 2 3 (z9 2 rfl) (z9 3 rfl)]
    refine qj (qy k qg qJ rfl rfl rfl hp.slv (by omega) (Nat.mul_one _) ?_)
    exact ⟨rfl, rfl, rfl⟩
   refine pD (fun W R z9 => ?_) ?_
   ·rw [zA 4 (z9 4 rfl)]
    refine qj (qh jn rfl (hp.rd (by omega)) ?_)
    exact ⟨rfl, rfl, rfl⟩
   refine pD (fun W R z9 => ?_) ?_
   ·rw [zA 5 (z9 5 rfl)]
    refine qj (jG ((-1) - (p.getD k 0)) rfl rfl (by omega) (by omega) ?_)
    exact ⟨rfl, rfl, rfl⟩
   exact stepsP.nil
  intro W hphi
  rw [zB 1 6 (hphi 1 (by decide)) (hphi 6 (by decide))]
  show XL _ _ _ _ _ _ _ (cellsH b3 [v1] 137 :: slH 22 1 v1 ((bl).length) cs1 :: cellsH b2 [sN] 137 :: cellsH b1 [arv] 36 :: L)
  refine cX (qy (((-1) - (p.getD k 0)).toNat) qs qt rfl rfl (by omega) (SlV.own [_] rfl) (by omega) (Nat.mul_one _) ?_)
  obtain ⟨a1, ha1, he1⟩ := hc2.get (i := ((-1) - (p.getD k 0)).toNat) (by omega)
  refine cX (qh qM rfl (Rd.sl [_] rfl he1) (qf (a1) rfl (qb (qc (qc (qa (qd (a1) rfl (cX (qA qg rfl ha1.slv (cX (jX rfl rfl (qd (.bool (decide ((((((bl.getD (((-1) - (p.getD k 0)).toNat) [])).length : Nat) : Int) : Int) > 0))) rfl ?_))))))))))))
  by_cases h5 : (((((bl.getD (((-1) - (p.getD k 0)).toNat) [])).length : Nat) : Int) : Int) > 0
  ·refine qu (t := 59) rfl (vT h5) (qr (a1) rfl (qu (t := 59) rfl (vT h5) (qr (v2) rfl (qu (t := 59) rfl (vT h5) (qn (args := [a1, v2]) call32 rfl (SameTerm_spec ha1 hf1 (hbd := (by first | assumption | rfl | omega | (left; simp; done) | (right; simp; done)))) ?_)))))
   rintro _ _ _ _ ⟨rfl, rfl, rfl⟩
   refine qu (t := 59) rfl (vT h5) (jH rfl (cX (jk (.bool (decide (¬(((bl.getD (((-1) - (p.getD k 0)).toNat) [])) = ((sub ar t i)))))) (vT h5) rfl (qb ?_))))
   refine qx (p := ¬(((bl.getD (((-1) - (p.getD k 0)).toNat) [])) = ((sub ar t i)))) rfl (fun h6 => ?_) (fun h6 => ?_)
   ·refine qc (qa (cX (jf [sN] [sN] [(0, 1)] [] qO ji rfl (.cons rfl qP PlacesAre.nil) rfl CellsAre.nil (cX (qD [_, _] _ [sN] qR rfl rfl rfl (qi rfl qH) rfl rfl rfl (qf (.bool (false)) rfl (qb (qv (ql (qF (ql (ql (qF (ql (qp (L' := L) [.agg #[sN], .bool (false)] (.tuple #[.agg #[sN], .bool (false)]) (.cell rfl (jo [sN] jv qR rfl (Rd.ownN [_, _] rfl rfl)) (.tmp rfl .nil)) rfl (qm leG1 le1) rF (sD (sD (sD (sD sR)))) ?_)))))))))))))))
    have hz : matchB ar p t = none := hm.trans (mGo_clash (by omega) (by omega) (by omega) (by intro e; have := congrArg List.length (show bl.getD (-1 - p.getD k 0).toNat [] = [] from e); simp only [List.length_nil] at this; omega) (by assumption))
    exact ⟨_, by rw [hz]; rfl, by rw [matchP, hz]; exact SlOf.nilV, rfl⟩
   refine qw (qc ?_)
   refine jV [cellsH b3 [v1] 137, slH 22 1 v1 ((bl).length) cs1, cellsH b2 [sN] 137, cellsH b1 [arv] 36] L 8 [] [[], [0], [], [], [2, 3], [4], [5]] (phiL [qe (ptr b3 0), qe v1, qe pv, qe (ii ((k : Int)) : Value), qe (.pointer (some (elemA pv (k)))), qe (ii (p.getD k 0)), qe (ii ((-1) - (p.getD k 0))), qe v2]) (ownL []) mixed rfl rfl (by kernel_rfl) ?_ ?_
   ·refine pD (fun W R z9 => ?_) ?_
    ·refine qj (qk (0) qO rfl qP (by decide) rfl rfl ?_)
     exact ⟨rfl, rfl, rfl⟩
    refine pD (fun W R z9 => ?_) ?_
    ·rw [zA 0 (z9 0 rfl)]
     refine qj (qh jg rfl (Rd.own [] rfl rfl) ?_)
     exact ⟨rfl, rfl, rfl⟩
    refine pD (fun W R z9 => ?_) ?_
    ·refine qj (qr (pv) rfl ?_)
     exact ⟨rfl, rfl, rfl⟩
    refine pD (fun W R z9 => ?_) ?_
    ·refine qj (qr (ii ((k : Int))) rfl ?_)
     exact ⟨rfl, rfl, rfl⟩
    refine pD (fun W R z9 => ?_) ?_
    ·rw [zB 2 3 (z9 2 rfl) (z9 3 rfl)]
     refine qj (qy k qg qJ rfl rfl rfl hp.slv (by omega) (Nat.mul_one _) ?_)
     exact ⟨rfl, rfl, rfl⟩
    refine pD (fun W R z9 => ?_) ?_
    ·rw [zA 4 (z9 4 rfl)]
     refine qj (qh jn rfl (hp.rd (by omega)) ?_)
     exact ⟨rfl, rfl, rfl⟩
    refine pD (fun W R z9 => ?_) ?_
    ·rw [zA 5 (z9 5 rfl)]
     refine qj (jG ((-1) - (p.getD k 0)) rfl rfl (by omega) (by omega) ?_)
     exact ⟨rfl, rfl, rfl⟩
    refine pD (fun W R z9 => ?_) ?_
    ·refine qj (qr (v2) rfl ?_)
     exact ⟨rfl, rfl, rfl⟩
    exact stepsP.nil
   intro W hphi
   rw [eS (l := [(1, _), (6, _), (7, _)]) ⟨(hphi 1 (by decide)), (hphi 6 (by decide)), (hphi 7 (by decide)), ⟨⟩⟩]
   show XL _ _ _ _ _ _ _ (cellsH b3 [v1] 137 :: slH 22 1 v1 ((bl).length) cs1 :: cellsH b2 [sN] 137 :: cellsH b1 [arv] 36 :: L)
   refine cX (qy (((-1) - (p.getD k 0)).toNat) qs qt rfl rfl (by omega) (SlV.own [_] rfl) (by omega) (Nat.mul_one _) (cX (XOp.storeS (i := ((-1) - (p.getD k 0)).toNat) (cs := cs1) [_] _ qt rfl rfl (qC (qB hf1)) rfl (by have h9 := CO.len hc2; (try simp only [List.length_set, List.length_replicate] at h9 ⊢) <;> omega) ?_)))
   have hc3 := hc2.set (((-1) - (p.getD k 0)).toNat) hf1
   refine qb (qa (qd (ii ((i : Int))) rfl (qd (v2) rfl (cX (qA qg rfl hf1.slv (cX (qN (((i + (((sub ar t i)).length) : Nat) : Int)) rfl rfl (by omega) (by omega) (qf (ii (((i + (((sub ar t i)).length) : Nat) : Int))) rfl (qb (qa (qd (ii ((k : Int))) rfl (cX (qN (((k + 1 : Nat) : Int)) rfl rfl (by omega) (by omega) (qf (ii (((k + 1 : Nat) : Int))) rfl ?_))))))))))))))
   refine qb ?_
   exact ⟨(k + 1, i + (((sub ar t i)).length), (bl.set (((-1) - (p.getD k 0)).toNat) ((sub ar t i))), F1), _, (qm leG1 le1), rF, ⟨rfl, rfl, rfl, rfl, rfl, rfl, rfl, ⟨⟩⟩, (sC (coH.close hc3 (by first | rfl | simp) (sC (sC sR)))), ⟨rfl, (qm leG1 le1), (by (try dsimp only); (try simp only [List.length_set]) <;> omega), (by (try dsimp only) <;> omega), (by (try dsimp only) <;> omega), (hm.trans (m4_next (by omega) (by omega) (by omega) (by first | (left; exact List.eq_nil_of_length_eq_zero (show (bl.getD (-1 - p.getD k 0).toNat []).length = 0 by omega)) | (right; first | assumption | exact Classical.not_not.1 (by assumption)))))⟩, (by omega)⟩
  refine qE (t := 59) rfl (vF h5) (qE (t := 59) rfl (vF h5) (qE (t := 59) rfl (vF h5) (qE (t := 59) rfl (vF h5) (cX (ja (.bool (false)) (vF h5) rfl (qb (X.condF rfl (qw (qc ?_)))))))))
  refine jV [cellsH b3 [v1] 137, slH 22 1 v1 ((bl).length) cs1, cellsH b2 [sN] 137, cellsH b1 [arv] 36] L 8 [] [[], [0], [], [], [2, 3], [4], [5]] (phiL [qe (ptr b3 0), qe v1, qe pv, qe (ii ((k : Int)) : Value), qe (.pointer (some (elemA pv (k)))), qe (ii (p.getD k 0)), qe (ii ((-1) - (p.getD k 0))), qe v2]) (ownL []) mixed rfl rfl (by kernel_rfl) ?_ ?_
  ·refine pD (fun W R z9 => ?_) ?_
   ·refine qj (qk (0) qO rfl qP (by decide) rfl rfl ?_)
    exact ⟨rfl, rfl, rfl⟩
   refine pD (fun W R z9 => ?_) ?_
   ·rw [zA 0 (z9 0 rfl)]
    refine qj (qh jg rfl (Rd.own [] rfl rfl) ?_)
    exact ⟨rfl, rfl, rfl⟩
   refine pD (fun W R z9 => ?_) ?_
   ·refine qj (qr (pv) rfl ?_)
    exact ⟨rfl, rfl, rfl⟩
   refine pD (fun W R z9 => ?_) ?_
   ·refine qj (qr (ii ((k : Int))) rfl ?_)
    exact ⟨rfl, rfl, rfl⟩
   refine pD (fun W R z9 => ?_) ?_
   ·rw [zB 2 3 (z9 2 rfl) (z9 3 rfl)]
    refine qj (qy k qg qJ rfl rfl rfl hp.slv (by omega) (Nat.mul_one _) ?_)
    exact ⟨rfl, rfl, rfl⟩
   refine pD (fun W R z9 => ?_) ?_
   ·rw [zA 4 (z9 4 rfl)]
    refine qj (qh jn rfl (hp.rd (by omega)) ?_)
    exact ⟨rfl, rfl, rfl⟩
   refine pD (fun W R z9 => ?_) ?_
   ·rw [zA 5 (z9 5 rfl)]
    refine qj (jG ((-1) - (p.getD k 0)) rfl rfl (by omega) (by omega) ?_)
    exact ⟨rfl, rfl, rfl⟩
   refine pD (fun W R z9 => ?_) ?_
   ·refine qj (qr (v2) rfl ?_)
    exact ⟨rfl, rfl, rfl⟩
   exact stepsP.nil
  intro W hphi
  rw [eS (l := [(1, _), (6, _), (7, _)]) ⟨(hphi 1 (by decide)), (hphi 6 (by decide)), (hphi 7 (by decide)), ⟨⟩⟩]
  show XL _ _ _ _ _ _ _ (cellsH b3 [v1] 137 :: slH 22 1 v1 ((bl).length) cs1 :: cellsH b2 [sN] 137 :: cellsH b1 [arv] 36 :: L)
  refine cX (qy (((-1) - (p.getD k 0)).toNat) qs qt rfl rfl (by omega) (SlV.own [_] rfl) (by omega) (Nat.mul_one _) (cX (XOp.storeS (i := ((-1) - (p.getD k 0)).toNat) (cs := cs1) [_] _ qt rfl rfl (qC (qB hf1)) rfl (by have h9 := CO.len hc2; (try simp only [List.length_set, List.length_replicate] at h9 ⊢) <;> omega) ?_)))
  have hc4 := hc2.set (((-1) - (p.getD k 0)).toNat) hf1
  refine qb (qa (qd (ii ((i : Int))) rfl (qd (v2) rfl (cX (qA qg rfl hf1.slv (cX (qN (((i + (((sub ar t i)).length) : Nat) : Int)) rfl rfl (by omega) (by omega) (qf (ii (((i + (((sub ar t i)).length) : Nat) : Int))) rfl (qb (qa (qd (ii ((k : Int))) rfl (cX (qN (((k + 1 : Nat) : Int)) rfl rfl (by omega) (by omega) (qf (ii (((k + 1 : Nat) : Int))) rfl ?_))))))))))))))
  refine qb ?_
  exact ⟨(k + 1, i + (((sub ar t i)).length), (bl.set (((-1) - (p.getD k 0)).toNat) ((sub ar t i))), F1), _, (qm leG1 le1), rF, ⟨rfl, rfl, rfl, rfl, rfl, rfl, rfl, ⟨⟩⟩, (sC (coH.close hc4 (by first | rfl | simp) (sC (sC sR)))), ⟨rfl, (qm leG1 le1), (by (try dsimp only); (try simp only [List.length_set]) <;> omega), (by (try dsimp only) <;> omega), (by (try dsimp only) <;> omega), (hm.trans (m4_next (by omega) (by omega) (by omega) (by first | (left; exact List.eq_nil_of_length_eq_zero (show (bl.getD (-1 - p.getD k 0).toNat []).length = 0 by omega)) | (right; first | assumption | exact Classical.not_not.1 (by assumption)))))⟩, (by omega)⟩
 refine jb (qo (qo (qI (qc (qa (cX (qq [v1] jv qR rfl rfl (Rd.ownN [] rfl rfl) ?_)))))))
 have hmb := (matchB_len (hm.trans (mGo_done (by omega)))).2
 refine XL.freezeF [_] _ _ rfl (fun F2 le2 hz2 => ?_)
 replace hc2 := hc2.mono le2
 have hf2 : RowsF F2 v1 bl := CO.fz hc2 (by first | rfl | omega | (rw [List.length_set]; omega) | (simp; done)) hz2.fz
 refine cX (qn (args := [.agg #[v1]]) call183 rfl (l2Plain_spec hf2 (hsl := (by omega)) (hsb := (fun j => by have := hmb j; omega))) ?_)
 rintro _ F3 _ le3 ⟨x1, rfl, hr1, rfl⟩
 refine cX (qD [_] _ [x1] qR rfl rfl rfl (qi (qC (RowsF.isSl hr1)) qH) rfl rfl rfl (qf (.bool (true)) rfl (qb (qv (qp (L' := L) [.agg #[x1], .bool (true)] (.tuple #[.agg #[x1], .bool (true)]) (.cell rfl (jo [x1] jv qR rfl (Rd.ownN [_] rfl rfl)) (.tmp rfl .nil)) rfl (qm (qm leG1 le2) le3) rF (sD (sD (sD sR))) ?_)))))
 have hz : matchB ar p t = some bl := hm.trans (mGo_done (by omega))
 exact ⟨_, by rw [hz]; rfl, by rw [matchP, hz]; exact hr1, rfl⟩

/- spec.l7Right -/
theorem l7Right_spec {F : FH} {L : List HP} {arv : Value} {ar : List Int} (har : IntsF F arv ar) {rsv : Value} {rs : List (List Int × List Int)} (hrs : PairsF F rsv rs) {tv : Value} {t : List Int} (ht : IntsF F tv t) (hla : ar.length ≤ 4000000) (hlr : rs.length ≤ 4000000) (hrb : ∀ i, i < rs.length → (rs.getD i ([], [])).1.length ≤ 4000000 ∧ (rs.getD i ([], [])).2.length ≤ 4000000) (hlt : t.length ≤ 4000000) :
    Does prog 107 [.agg #[arv, rsv], tv] F (L) (fun v F' L' => (.bool (rightB ar rs t) : Value) = v ∧ F = F' ∧ L = L') := by
 refine qz func107 rfl rfl rfl (qc (qa (cX (qW [arv, rsv] rfl rfl ?_))))
 intro b1
 refine qf (.bool (false)) rfl (qb (qc (qa (cX (qq [arv, rsv] jL jy rfl rfl (Rd.ownN [] rfl rfl) (cX (qn (args := [.agg #[arv, rsv]]) call82 rfl (sSystemOk_spec har hrs (hla := (by first | assumption | rfl | omega | simp)) (hlr := (by first | assumption | rfl | omega | simp)) (hrb := (by first | assumption | rfl | omega | simp))) ?_)))))))
 rintro _ _ _ _ ⟨rfl, rfl, rfl⟩
 refine qd (.bool (sysOk ar rs)) rfl ?_
 by_cases h1 : (sysOk ar rs) = true
 ·refine qu (t := 7) rfl (vB h1) (qk (0) qY rfl qX (by decide) rfl rfl (qu (t := 7) rfl (vB h1) (qq [arv] jq qX rfl rfl (Rd.ownN [] rfl rfl) (qu (t := 7) rfl (vB h1) (qr (tv) rfl (qu (t := 7) rfl (vB h1) (qn (args := [.agg #[arv], tv]) call202 rfl (sTermOk_spec har ht (hla := (by first | assumption | rfl | omega | simp)) (hlt := (by first | assumption | rfl | omega | simp))) ?_)))))))
  rintro _ _ _ _ ⟨rfl, rfl, rfl⟩
  refine cX (jk (.bool (termOk ar t)) (vB h1) rfl (qf (.bool (termOk ar t)) rfl (qb (qv (qp (L' := L) [.bool (termOk ar t)] (.bool (termOk ar t)) (.tmp rfl .nil) rfl rF rF (sD sR) ?_)))))
  exact ⟨(vB (by rw [rightB]; simp_all)), rfl, rfl⟩
 rw [Bool.not_eq_true] at h1
 refine qE (t := 7) rfl (vB h1) (qE (t := 7) rfl (vB h1) (qE (t := 7) rfl (vB h1) (qE (t := 7) rfl (vB h1) (cX (ja (.bool (false)) (vB h1) rfl (qf (.bool (false)) rfl (qb (qv (qp (L' := L) [.bool (false)] (.bool (false)) (.tmp rfl .nil) rfl rF rF (sD sR) ?_)))))))))
 exact ⟨(vB (by rw [rightB]; simp_all)), rfl, rfl⟩

/- spec.l2Filled -/
theorem l2Filled_spec {F : FH} {L : List HP} {sv : Value} {s : List (List Int)} (hs : RowsF F sv s) {tv : Value} {t : List Int} (ht : IntsF F tv t) (hsl : s.length ≤ 4000000) (hsb : ∀ i, (s.getD i []).length ≤ 4000000) (htl : t.length ≤ 4000000) (htg : ∀ k, k < t.length → -4000000 ≤ t.getD k 0) :
    Does prog 154 [.agg #[sv], tv] F (L) (fun v F' L' => ∃ (a : Value), (.tuple #[a, .bool ((fillL s t).isSome)] : Value) = v ∧ (IntsF F' a ((fillL s t).getD [])) ∧ L = L') := by
 refine qz func154 rfl rfl rfl (qc (qa (cX (qW [sv] rfl rfl ?_))))
 intro b1
 refine qf (sN) rfl (qf (.bool (false)) rfl (qb (qc (qa (cX (qL (s := 1) [] [ii (0)] [] qg qJ jC rfl (by decide) rfl CellsAre.nil rfl ?_))))))
 intro v1 hv1
 refine qf (v1) rfl (qb (qc (qc (qa (qf (ii (0)) rfl (qb (qG (jc (α := Nat × Value × List Int) (fun xQ => [(1, tv), (2, ptr b1 0), (6, xQ.2.1), (7, ii (((xQ.1 : Nat) : Int)))]) (fun xQ => intsH 2 xQ.2.1 xQ.2.2 :: cellsH b1 [sv] 137 :: L) (fun xQ F' => F = F' ∧ (IsSl xQ.2.1) ∧ (xQ.1 ≤ t.length) ∧ (fillL s t = fillGo s (t.drop xQ.1) xQ.2.2) ∧ (xQ.2.2.length ≤ 60)) (fun xQ => t.length - xQ.1) (0, v1, []) ⟨rfl, rfl, rfl, rfl, ⟨⟩⟩ (sC (sC sR)) ⟨rfl, ((jD hv1)), (by (try dsimp only) <;> omega), (rfl), (by simp)⟩ ?_))))))))
 rintro ⟨k, ov, os⟩ rE _ _ ⟨rfl, hov, hk, hm, hol⟩
 show X _ _ _ _ (envs [(1, tv), (2, ptr b1 0), (6, ov), (7, ii ((k : Int)))] rE) _ (intsH 2 ov os :: cellsH b1 [sv] 137 :: L)
 dsimp only at hov hk hm hol
 have htk := htg k
 have hlk0 := lk_bound (N := 4000000) (by omega) hsb (-1 - (((-1 - t.getD k 0).toNat : Nat) : Int))
 refine qc (qc (qa (qd (ii ((k : Int))) rfl (qd (tv) rfl (cX (qA qg rfl ht.slv (cX (qT rfl rfl (qb ?_)))))))))
 refine qx (p := (k : Int) < (t.length : Int)) rfl (fun h1 => ?_) (fun h1 => ?_)
 ·refine qw (qc (qG (qc (qc (qa (qd (tv) rfl (qd (ii ((k : Int))) rfl (cX (qy k qg qJ rfl rfl rfl ht.slv (by omega) (Nat.mul_one _) (cX (qh jn rfl (ht.rd (by omega)) (cX (qT rfl rfl (qb ?_))))))))))))))
  refine qx (p := (t.getD k 0 : Int) < 0) rfl (fun h2 => ?_) (fun h2 => ?_)
  ·refine yd [intsH 2 ov os, cellsH b1 [sv] 137] L 8 [] [[], [], [], [], [2, 3], [4], [5], [1, 6]] [] (phiG [pe ov, pe (.agg #[sv]), pe tv, pe (ii ((k : Int)) : Value), pe (.pointer (some (elemA tv (k)))), pe (ii (t.getD k 0)), pe (ii ((-1) - (t.getD k 0))), fun FF us v => ((v) : Value) = v ∧ (IntsF FF (v) (lk s (-1 - ((((-1) - (t.getD k 0)).toNat) : Int))))]) (ownL []) mixed rfl rfl (by kernel_rfl) (by kernel_rfl) (MonoG.get (m1 (m1 (m1 (m1 (m1 (m1 (m1 (mC (fun le h => ⟨h.1, h.2.mono le⟩) MonoG.nil))))))))) ?_ ?_
   ·refine gD (fun W Fs R lF z9 => ?_) ?_
    ·refine qj (qr (ov) rfl ?_)
     exact ⟨rfl, rfl⟩
    refine gD (fun W Fs R lF z9 => ?_) ?_
    ·replace hs := hs.mono lF
     replace ht := ht.mono lF
     refine qj (qq [sv] jv qR rfl rfl (Rd.ownN [_] rfl rfl) ?_)
     exact ⟨rfl, rfl⟩
    refine gD (fun W Fs R lF z9 => ?_) ?_
    ·refine qj (qr (tv) rfl ?_)
     exact ⟨rfl, rfl⟩
    refine gD (fun W Fs R lF z9 => ?_) ?_
    ·refine qj (qr (ii ((k : Int))) rfl ?_)
     exact ⟨rfl, rfl⟩
    refine gD (fun W Fs R lF z9 => ?_) ?_
    ·replace hs := hs.mono lF
     replace ht := ht.mono lF
     rw [zB 2 3 (z9 2 rfl) (z9 3 rfl)]
     refine qj (qy k qg qJ rfl rfl rfl ht.slv (by omega) (Nat.mul_one _) ?_)
     exact ⟨rfl, rfl⟩
    refine gD (fun W Fs R lF z9 => ?_) ?_
    ·replace hs := hs.mono lF
     replace ht := ht.mono lF
     rw [zA 4 (z9 4 rfl)]
     refine qj (qh jn rfl (ht.rd (by omega)) ?_)
     exact ⟨rfl, rfl⟩
    refine gD (fun W Fs R lF z9 => ?_) ?_
    ·rw [zA 5 (z9 5 rfl)]
     refine qj (jG ((-1) - (t.getD k 0)) rfl rfl (by omega) (by omega) ?_)
     exact ⟨rfl, rfl⟩
    refine gD (fun W Fs R lF z9 => ?_) ?_
    ·replace hs := hs.mono lF
     replace ht := ht.mono lF
     rw [zB 1 6 (z9 1 rfl) (z9 6 rfl)]
     refine qj (jM <| qn (args := [.agg #[sv], ii ((((-1) - (t.getD k 0)).toNat : Nat) : Int)]) call184 (by rw [show ((((-1) - (t.getD k 0)).toNat : Nat) : Int) = (-1) - (t.getD k 0) from by omega]; rfl) (l2Gives_spec (i := ((-1) - (t.getD k 0)).toNat) hs (hsl := (by first | assumption | rfl | omega | simp)) (hi := (by first | assumption | rfl | omega | simp)) (hsb := (hsb _))) ?_)
     rintro v3 _ _ _ ⟨rfl, hs2, rfl⟩
     refine ⟨_, _, rfl, fun F1 le1 hz1 => ?_⟩
     replace ht := ht.mono le1
     have hf1 : IntsF F1 v3 ((lk s (-1 - ((((-1) - (t.getD k 0)).toNat) : Int)))) := intsH.fz (xs := (lk s (-1 - ((((-1) - (t.getD k 0)).toNat) : Int)))) hz1.fz
     exact ⟨⟨rfl, hf1⟩, rfl⟩
    exact stepsG.nil
   intro W F2 le2 hphi
   obtain ⟨e7, f7_1ha⟩ := hphi 7 (by decide)
   generalize hu1 : ((W 7)) = u1 at e7 f7_1ha
   rw [eS (l := [(0, _), (7, u1)]) ⟨(hphi 0 (by decide)), hu1, ⟨⟩⟩]
   replace ht := ht.mono le2
   show XL _ _ _ _ _ _ _ (intsH 2 ov os :: cellsH b1 [sv] 137 :: L)
   refine cX (XOp.appendI [] _ qg typeInfo2 rfl rfl rfl rfl rfl rfl f7_1ha (by (try simp only [List.length_append, List.length_nil, List.length_cons, List.length_singleton, List.length_take, List.length_drop]); omega) ?_)
   intro v4 hs3 hn1 hm1
   refine qf (v4) rfl (qb (qc (qa (qd (v4) rfl (cX (qA qg rfl (intsH.slv [] rfl) (cX (jX rfl rfl (qb ?_)))))))))
   refine qx (p := ((((os ++ ((lk s (-1 - ((((-1) - (t.getD k 0)).toNat) : Int))))).length : Nat) : Int) : Int) > 60) rfl (fun h3 => ?_) (fun h3 => ?_)
   ·refine qc (qa (cX (qL (s := 1) [] [ii (0)] [] qg qJ jC rfl (by decide) rfl CellsAre.nil rfl ?_)))
    intro v5 hv2
    refine qf (v5) rfl (qf (.bool (false)) rfl (qb ?_))
    show X _ _ _ _ _ _ (intsH 2 v5 ([] : List Int) :: intsH 2 v4 (os ++ ((lk s (-1 - ((((-1) - (t.getD k 0)).toNat) : Int))))) :: cellsH b1 [sv] 137 :: L)
    refine jl [] _ _ rfl (fun F3 le3 hz2 => ?_)
    replace ht := ht.mono le3
    have hf2 : IntsF F3 v5 ([]) := intsH.fz (xs := []) hz2.fz
    refine qv (qF (ql (ql (qF (ql (qp (L' := L) [v5, .bool (false)] (.tuple #[v5, .bool (false)]) (.tmp rfl (.tmp rfl .nil)) rfl (qm le2 le3) rF (sD (sD sR)) ?_))))))
    have hz : fillL s t = none := hm.trans (fillGo_long (a := os ++ ((lk s (-1 - ((((-1) - (t.getD k 0)).toNat) : Int))))) (by omega) (by rw [show (-1 - (((-1 - t.getD k 0).toNat : Nat) : Int)) = t.getD k 0 from by omega]) (by omega))
    exact ⟨_, by rw [hz]; rfl, by rw [hz]; exact hf2, rfl⟩
   refine qw (qa (qd (ii ((k : Int))) rfl (cX (qN (((k + 1 : Nat) : Int)) rfl rfl (by omega) (by omega) (qf (ii (((k + 1 : Nat) : Int))) rfl (qb ?_))))))
   exact ⟨(k + 1, v4, os ++ ((lk s (-1 - ((((-1) - (t.getD k 0)).toNat) : Int))))), _, FLe.refl _, le2, ⟨rfl, rfl, rfl, rfl, ⟨⟩⟩, (sC (sC sR)), ⟨rfl, (hs3), (by (try dsimp only) <;> omega), (by dsimp only; exact hm.trans (fillGo_next (by omega) (by rw [show (-1 - (((-1 - t.getD k 0).toNat : Nat) : Int)) = t.getD k 0 from by omega]) (by omega))), (by dsimp only; omega)⟩, (by omega)⟩
  refine qa (qd (ov) rfl (qd (tv) rfl (qd (ii ((k : Int))) rfl (cX (qy k qg qJ rfl rfl rfl ht.slv (by omega) (Nat.mul_one _) (cX (qh jn rfl (ht.rd (by omega)) (cX (qL (s := 1) [ii (t.getD k 0)] [ii (0)] [(0, [ii (t.getD k 0)])] qg qJ jC rfl (by decide) rfl (.cons rfl CellsAre.nil) rfl ?_)))))))))
  intro v6 hv3
  refine cX (XOp.append1 (u := t.getD k 0) [_] _ qg typeInfo2 rfl rfl rfl rfl rfl rfl (SlV.own [] rfl) (Rd.sl [] rfl rfl) (by (try simp only [List.length_append, List.length_nil, List.length_cons, List.length_singleton, List.length_take, List.length_drop]); omega) ?_)
  intro v7 hs4 hn2
  refine qf (v7) rfl (qb (qc (qa (qd (v7) rfl (cX (qA qg rfl (intsH.slv [_] rfl) (cX (jX rfl rfl (qb ?_)))))))))
  refine qx (p := ((((os ++ [t.getD k 0]).length : Nat) : Int) : Int) > 60) rfl (fun h4 => ?_) (fun h4 => ?_)
  ·refine qc (qa (cX (qL (s := 1) [] [ii (0)] [] qg qJ jC rfl (by decide) rfl CellsAre.nil rfl ?_)))
   intro v8 hv4
   refine qf (v8) rfl (qf (.bool (false)) rfl (qb ?_))
   show X _ _ _ _ _ _ (intsH 2 v8 ([] : List Int) :: slH 2 1 v6 1 [ii (t.getD k 0)] :: intsH 2 v7 (os ++ [t.getD k 0]) :: cellsH b1 [sv] 137 :: L)
   refine jl [] _ _ rfl (fun F4 le4 hz3 => ?_)
   have hf3 : IntsF F4 v8 ([]) := intsH.fz (xs := []) hz3.fz
   refine qv (qF (ql (ql (qF (ql (qp (L' := L) [v8, .bool (false)] (.tuple #[v8, .bool (false)]) (.tmp rfl (.tmp rfl .nil)) rfl le4 rF (sD (sD (sD sR))) ?_))))))
   have hz : fillL s t = none := hm.trans (fillGo_long (a := os ++ [t.getD k 0]) (by omega) (by rw [lk_sym (by omega)]) (by omega))
   exact ⟨_, by rw [hz]; rfl, by rw [hz]; exact hf3, rfl⟩
  refine qw (qa (qd (ii ((k : Int))) rfl (cX (qN (((k + 1 : Nat) : Int)) rfl rfl (by omega) (by omega) (qf (ii (((k + 1 : Nat) : Int))) rfl (qb ?_))))))
  exact ⟨(k + 1, v7, os ++ [t.getD k 0]), _, FLe.refl _, rF, ⟨rfl, rfl, rfl, rfl, ⟨⟩⟩, (sD (sC (sC sR))), ⟨rfl, (hs4), (by (try dsimp only) <;> omega), (by dsimp only; exact hm.trans (fillGo_next (by omega) (by rw [lk_sym (by omega)]) (by omega))), (by dsimp only; omega)⟩, (by omega)⟩
 refine jb (qo (qo (qI (qc (qa (qd (ov) rfl (qf (ov) rfl (qf (.bool (true)) rfl (qb (jl [] _ _ rfl (fun F5 le5 hz4 => ?_)))))))))))
 have hf4 : IntsF F5 ov os := intsH.fz (xs := os) hz4.fz
 refine qv (qp (L' := L) [ov, .bool (true)] (.tuple #[ov, .bool (true)]) (.tmp rfl (.tmp rfl .nil)) rfl le5 rF (sD sR) ?_)
 have hz : fillL s t = some os := hm.trans (fillGo_done (by omega))
 exact ⟨_, by rw [hz]; rfl, by rw [hz]; exact hf4, rfl⟩

/- spec.l3Put -/
theorem l3Put_spec {F : FH} {L : List HP} {arv : Value} {ar : List Int} (har : IntsF F arv ar) {tv : Value} {t : List Int} (ht : IntsF F tv t) {p : Nat} {uv : Value} {u : List Int} (hu : IntsF F uv u) (ho : termOk ar t = true) (hp : p < t.length) (hul : u.length ≤ 4000000) :
    Does prog 155 [.agg #[arv], tv, ii ((p : Int)), uv] F (L) (fun v F' L' => ∃ (a : Value), (.tuple #[a, .bool ((putL ar t p u).isSome)] : Value) = v ∧ (IntsF F' a ((putL ar t p u).getD [])) ∧ L = L') := by
 refine qz func155 rfl rfl rfl ?_
 have hsig := termOk_sig ho
 have hsl := sigOk_spec hsig
 have htl := termOk_len ho
 have hee := endN_spec ho hp
 refine qc (qa (cX (qW [arv] rfl rfl ?_)))
 intro b1
 refine qf (sN) rfl (qf (.bool (false)) rfl (qb (qc (qa (qd (tv) rfl (qd (ii ((p : Int))) rfl (cX (XOp.sliceI 0 p qg qJ rfl ht rfl ⟨_, rfl⟩ (by omega) (by omega) ?_))))))))
 intro v1 hv1 hn1
 refine cX (qn (args := [v1]) call105 rfl (l1Copy_spec hv1 (hlt := (by simp; omega))) ?_)
 rintro v2 _ _ _ ⟨rfl, hs1, rfl⟩
 refine qd (uv) rfl (cX (XOp.appendI [] _ qg typeInfo2 rfl rfl rfl rfl rfl rfl hu (by (try simp only [List.length_append, List.length_nil, List.length_cons, List.length_singleton, List.length_take, List.length_drop]); omega) ?_))
 intro v3 hs2 hn2 hm1
 refine qf (v3) rfl (qb (qc (qa (qd (v3) rfl (qd (tv) rfl (cX (qq [arv] jq qX rfl rfl (Rd.ownN [_] rfl rfl) (qd (tv) rfl (qd (ii ((p : Int))) rfl (cX (qn (args := [.agg #[arv], tv, ii (p : Int)]) call208 rfl (l1End_ok (p := p) har ht (ho := (by first | assumption | rfl | omega | (left; simp; done) | (right; simp; done))) (hp := (by first | assumption | rfl | omega | (left; simp; done) | (right; simp; done)))) ?_)))))))))))
 rintro _ _ _ _ ⟨rfl, rfl, rfl⟩
 refine cX (XOp.sliceI (endN ar t p) ((t).length) qg qJ rfl ht ⟨_, rfl⟩ rfl (by omega) (by omega) ?_)
 intro v4 hv2 hn3
 refine cX (XOp.appendI [] _ qg typeInfo2 rfl rfl rfl rfl rfl rfl hv2 (by (try simp only [List.length_append, List.length_nil, List.length_cons, List.length_singleton, List.length_take, List.length_drop]); omega) ?_)
 intro v5 hs3 hn4 hm2
 refine qf (v5) rfl (qb (qc (qc (qa (qd (v5) rfl (cX (qA qg rfl (intsH.slv [] rfl) (cX (jX rfl rfl (qb ?_))))))))))
 refine qx (p := ((((((((((t.drop 0).take (p - 0))))) ++ u) ++ (((t.drop (endN ar t p)).take (((t).length) - (endN ar t p))))).length : Nat) : Int) : Int) > 60) rfl (fun h1 => ?_) (fun h1 => ?_)
 ·refine qc (qa (cX (qL (s := 1) [] [ii (0)] [] qg qJ jC rfl (by decide) rfl CellsAre.nil rfl ?_)))
  intro v6 hv3
  refine qf (v6) rfl (qf (.bool (false)) rfl (qb ?_))
  show X _ _ _ _ _ _ (intsH 2 v6 ([] : List Int) :: intsH 2 v5 (((((((t.drop 0).take (p - 0))))) ++ u) ++ (((t.drop (endN ar t p)).take (((t).length) - (endN ar t p))))) :: cellsH b1 [arv] 36 :: L)
  refine jl [] _ _ rfl (fun F1 le1 hz1 => ?_)
  have hf1 : IntsF F1 v6 ([]) := intsH.fz (xs := []) hz1.fz
  refine qv (ql (qp (L' := L) [v6, .bool (false)] (.tuple #[v6, .bool (false)]) (.tmp rfl (.tmp rfl .nil)) rfl le1 rF (sD (sD sR)) ?_))
  have hz : putL ar t p u = none := putL_none put_three (by omega)
  exact ⟨_, by rw [hz]; rfl, by rw [hz]; exact hf1, rfl⟩
 refine qw (qc (qa (qd (v5) rfl (qf (v5) rfl (qf (.bool (true)) rfl (qb (jl [] _ _ rfl (fun F2 le2 hz2 => ?_))))))))
 have hf2 : IntsF F2 v5 (((((((t.drop 0).take (p - 0))))) ++ u) ++ (((t.drop (endN ar t p)).take (((t).length) - (endN ar t p))))) := intsH.fz (xs := ((((((t.drop 0).take (p - 0))))) ++ u) ++ (((t.drop (endN ar t p)).take (((t).length) - (endN ar t p))))) hz2.fz
 refine qv (qp (L' := L) [v5, .bool (true)] (.tuple #[v5, .bool (true)]) (.tmp rfl (.tmp rfl .nil)) rfl le2 rF (sD sR) ?_)
 have hz := putL_some (ar := ar) (t := t) (p := p) (u := u) put_three (by omega)
 exact ⟨_, by rw [hz]; rfl, by rw [hz]; exact hf2, rfl⟩

/- spec.l7Step -/
theorem l7Step_spec {F : FH} {L : List HP} {arv : Value} {ar : List Int} (har : IntsF F arv ar) {rsv : Value} {rs : List (List Int × List Int)} (hrs : PairsF F rsv rs) {tv : Value} {t : List Int} (ht : IntsF F tv t) {p : Nat} {r : Nat} (hsys : sysOk ar rs = true) (ho : termOk ar t = true) (hp : p < t.length) (hr : r < rs.length) :
    Does prog 110 [.agg #[arv, rsv], tv, ii ((p : Int)), ii ((r : Int))] F (L) (fun v F' L' => ∃ (a : Value), (.tuple #[a, .bool ((stepL ar rs t p r).isSome)] : Value) = v ∧ (IntsF F' a ((stepL ar rs t p r).getD [])) ∧ L = L') := by
 refine qz func110 rfl rfl rfl ?_
 have hnn := yb ht (by have := termOk_len ho; omega)
 have htl := termOk_len ho
 have hrl := (sysOk_iff.1 hsys).2.1
 have hsig := (sysOk_iff.1 hsys).1
 have hsl := sigOk_spec hsig
 have hR := ruleOk_iff.1 ((sysOk_iff.1 hsys).2.2 r hr)
 have hRl := hR.left
 have hRr := hR.right
 have hso := sub_ok ho hp
 have hsb := sub_length ho hp
 have hee := endN_spec ho hp
 have hRrl := termOk_len hRr
 have hRg := fun k (hk : k < (rs.getD r ([], [])).2.length) => termOk_ge hRr hk
 have hmp := matchP_len (ar := ar) (p := (rs.getD r ([], [])).1) (t := sub ar t p)
 have hmp2 := hmp.2
 have hmp3 := hmp.1
 refine qc (qa (cX (qW [arv, rsv] rfl rfl ?_)))
 intro b1
 refine qf (sN) rfl (qf (.bool (false)) rfl (qb (qc (qa (cX (qk (1) qY rfl yc (by decide) rfl rfl (cX (qh isAgg37 rfl (Rd.own [] rfl rfl) (qd (ii ((r : Int))) rfl (cX (qy r jj jO rfl rfl rfl hrs.slv (by omega) rfl ?_)))))))))))
 obtain ⟨a1, a2, ha1, ha2, hr1, hr2⟩ := hrs.rd (i := r) (by omega)
 refine cX (qq [a1, a2] isAgg76 jO rfl rfl (Rd.two (hr1 _) (hr2 _)) (cX (qS [sN, sN] zeroValue76 rfl ?_)))
 intro b2
 refine cX (qD [] _ [a1, a2] jO rfl rfl rfl (qi (qC (qB ha1)) (qi (qC (qB ha2)) qH)) rfl rfl rfl (qb (qc ?_)))
 refine yd [cellsH b2 [a1, a2] 76, cellsH b1 [arv, rsv] 39] L 15 [[], [], [], [], [], [], [], [], [], [], [9], [9], [], [], [9, 13]] [[], [0], [], [2], [], [4], [], [], [5, 6, 7], [1, 3, 8], [9], [9, 10], [9, 10], [], [9, 11, 13]] [[], [], [], [], [], [], [], [], [], [], [], [], [], [], [13]] (phiG [pe (ptr b1 0), pe (.agg #[arv]), pe (ptr b2 0), pe a1, pe (ptr b1 0), pe (.agg #[arv]), pe tv, pe (ii ((p : Int)) : Value), fun FF us v => ((v) : Value) = v ∧ (IntsF FF (v) (sub ar t p)), fun FF us v => (.tuple #[.agg #[((aggAt (tupAt v 0) 0))], .bool ((matchB ar ((rs.getD r ([], [])).1) ((sub ar t p))).isSome)] : Value) = v ∧ (RowsF FF ((aggAt (tupAt v 0) 0)) (matchP ar ((rs.getD r ([], [])).1) ((sub ar t p)))), fun FF us v => v = (.tuple #[.agg #[((aggAt (tupAt (us.getD 0 undef) 0) 0))], .bool ((matchB ar ((rs.getD r ([], [])).1) ((sub ar t p))).isSome)] : Value), fun FF us v => v = (.agg #[((aggAt (tupAt (us.getD 0 undef) 0) 0))] : Value), pe (.bool ((matchB ar ((rs.getD r ([], [])).1) ((sub ar t p))).isSome)), fun FF us v => v = ptr (blk v) 0, fun FF us v => True]) (ownL [o0, o0, o0, o0, o0, o0, o0, o0, o0, o0, o0, o0, o0, fun us v => [cellsH (blk v) [sN] 137], fun us v => [cellsH (blk (us.getD 1 undef)) [((aggAt (tupAt (us.getD 0 undef) 0) 0))] 137]]) mixed rfl rfl (by kernel_rfl) (by kernel_rfl) (MonoG.get (m1 (m1 (m1 (m1 (m1 (m1 (m1 (m1 (mC (fun le h => ⟨h.1, h.2.mono le⟩) (mC (fun le h => ⟨h.1, h.2.mono le⟩) (mC (fun le h => h) (mC (fun le h => h) (m1 (mC (fun le h => h) (mC (fun le h => h) MonoG.nil)))))))))))))))) ?_ ?_
 ·refine gD (fun W Fs R lF z9 => ?_) ?_
  ·refine qj (qk (0) qY rfl qX (by decide) rfl rfl ?_)
   exact ⟨rfl, rfl⟩
  refine gD (fun W Fs R lF z9 => ?_) ?_
  ·replace har := har.mono lF
   replace ht := ht.mono lF
   replace ha1 := ha1.mono lF
   replace ha2 := ha2.mono lF
   rw [zA 0 (z9 0 rfl)]
   refine qj (qq [arv] jq qX rfl rfl (Rd.ownN [_] rfl rfl) ?_)
   exact ⟨rfl, rfl⟩
  refine gD (fun W Fs R lF z9 => ?_) ?_
  ·refine qj (qk (0) je rfl qt (by decide) rfl rfl ?_)
   exact ⟨rfl, rfl⟩
  refine gD (fun W Fs R lF z9 => ?_) ?_
  ·replace har := har.mono lF
   replace ht := ht.mono lF
   replace ha1 := ha1.mono lF
   replace ha2 := ha2.mono lF
   rw [zA 2 (z9 2 rfl)]
   refine qj (qh qM rfl (Rd.own [] rfl rfl) ?_)
   exact ⟨rfl, rfl⟩
  refine gD (fun W Fs R lF z9 => ?_) ?_
  ·refine qj (qk (0) qY rfl qX (by decide) rfl rfl ?_)
   exact ⟨rfl, rfl⟩
  refine gD (fun W Fs R lF z9 => ?_) ?_
  ·replace har := har.mono lF
   replace ht := ht.mono lF
   replace ha1 := ha1.mono lF
   replace ha2 := ha2.mono lF
   rw [zA 4 (z9 4 rfl)]
   refine qj (qq [arv] jq qX rfl rfl (Rd.ownN [_] rfl rfl) ?_)
   exact ⟨rfl, rfl⟩
  refine gD (fun W Fs R lF z9 => ?_) ?_
  ·refine qj (qr (tv) rfl ?_)
   exact ⟨rfl, rfl⟩
  refine gD (fun W Fs R lF z9 => ?_) ?_
  ·refine qj (qr (ii ((p : Int))) rfl ?_)
   exact ⟨rfl, rfl⟩
  refine gD (fun W Fs R lF z9 => ?_) ?_
  ·replace har := har.mono lF
   replace ht := ht.mono lF
   replace ha1 := ha1.mono lF
   replace ha2 := ha2.mono lF
   rw [eS (l := [(5, _), (6, _), (7, _)]) ⟨z9 5 rfl, z9 6 rfl, z9 7 rfl, ⟨⟩⟩]
   refine qj (jM <| qn (args := [.agg #[arv], tv, ii (p : Int)]) call150 rfl (l1Sub_spec (p := p) har ht (ho := (by first | assumption | rfl | omega | simp)) (hp := (by first | assumption | rfl | omega | simp))) ?_)
   rintro v2 _ _ _ ⟨rfl, hs2, rfl⟩
   refine ⟨_, _, rfl, fun F2 le2 hz1 => ?_⟩
   replace har := har.mono le2
   replace ht := ht.mono le2
   replace ha1 := ha1.mono le2
   replace ha2 := ha2.mono le2
   have hf1 : IntsF F2 v2 ((sub ar t p)) := intsH.fz (xs := (sub ar t p)) hz1.fz
   exact ⟨⟨rfl, hf1⟩, rfl⟩
  refine gD (fun W Fs R lF z9 => ?_) ?_
  ·obtain ⟨e8, f8_1ha⟩ := z9 8 rfl
   replace har := har.mono lF
   replace ht := ht.mono lF
   replace ha1 := ha1.mono lF
   replace ha2 := ha2.mono lF
   rw [eS (l := [(1, _), (3, _), (8, ((W 8)))]) ⟨z9 1 rfl, z9 3 rfl, (e8).symm, ⟨⟩⟩]
   refine qj (qn (args := [.agg #[arv], a1, ((W 8))]) call216 rfl (l4Match_spec har ha1 f8_1ha (ho := (by first | assumption | rfl | omega | simp)) (hpo := (by first | assumption | rfl | omega | simp))) ?_)
   rintro _ F3 _ le3 ⟨x2, rfl, hr4, rfl⟩
   replace har := har.mono le3
   replace ht := ht.mono le3
   replace ha2 := ha2.mono le3
   replace f8_1ha := f8_1ha.mono le3
   exact ⟨⟨rfl, hr4⟩, rfl⟩
  refine gD (fun W Fs R lF z9 => ?_) ?_
  ·obtain ⟨e9, f9_1hr⟩ := z9 9 rfl
   rw [eS (l := [(9, (.tuple #[.agg #[((aggAt (tupAt (W 9) 0) 0))], .bool ((matchB ar ((rs.getD r ([], [])).1) ((sub ar t p))).isSome)]))]) ⟨(e9).symm, ⟨⟩⟩]
   refine qj (qr (.tuple #[.agg #[((aggAt (tupAt (W 9) 0) 0))], .bool ((matchB ar ((rs.getD r ([], [])).1) ((sub ar t p))).isSome)]) rfl ?_)
   exact ⟨rfl, rfl⟩
  refine gD (fun W Fs R lF z9 => ?_) ?_
  ·obtain ⟨e9, f9_1hr⟩ := z9 9 rfl
   have e10 : W 10 = (.tuple #[.agg #[((aggAt (tupAt (W 9) 0) 0))], .bool ((matchB ar ((rs.getD r ([], [])).1) ((sub ar t p))).isSome)] : Value) := z9 10 rfl
   rw [eS (l := [(9, (.tuple #[.agg #[((aggAt (tupAt (W 9) 0) 0))], .bool ((matchB ar ((rs.getD r ([], [])).1) ((sub ar t p))).isSome)])), (10, (.tuple #[.agg #[((aggAt (tupAt (W 9) 0) 0))], .bool ((matchB ar ((rs.getD r ([], [])).1) ((sub ar t p))).isSome)]))]) ⟨(e9).symm, e10, ⟨⟩⟩]
   refine qj (qU (.agg #[((aggAt (tupAt (W 9) 0) 0))]) rfl rfl ?_)
   exact ⟨rfl, rfl⟩
  refine gD (fun W Fs R lF z9 => ?_) ?_
  ·obtain ⟨e9, f9_1hr⟩ := z9 9 rfl
   have e10 : W 10 = (.tuple #[.agg #[((aggAt (tupAt (W 9) 0) 0))], .bool ((matchB ar ((rs.getD r ([], [])).1) ((sub ar t p))).isSome)] : Value) := z9 10 rfl
   rw [eS (l := [(9, (.tuple #[.agg #[((aggAt (tupAt (W 9) 0) 0))], .bool ((matchB ar ((rs.getD r ([], [])).1) ((sub ar t p))).isSome)])), (10, (.tuple #[.agg #[((aggAt (tupAt (W 9) 0) 0))], .bool ((matchB ar ((rs.getD r ([], [])).1) ((sub ar t p))).isSome)]))]) ⟨(e9).symm, e10, ⟨⟩⟩]
   refine qj (qU (.bool ((matchB ar ((rs.getD r ([], [])).1) ((sub ar t p))).isSome)) rfl rfl ?_)
   exact ⟨rfl, rfl⟩
  refine gD (fun W Fs R lF z9 => ?_) ?_
  ·replace har := har.mono lF
   replace ht := ht.mono lF
   replace ha2 := ha2.mono lF
   refine qj (qS [sN] ji rfl ?_)
   intro b4
   exact ⟨rfl, rfl⟩
  refine gD (fun W Fs R lF z9 => ?_) ?_
  ·obtain ⟨e9, f9_1hr⟩ := z9 9 rfl
   have e11 : W 11 = (.agg #[((aggAt (tupAt (W 9) 0) 0))] : Value) := z9 11 rfl
   have e13 : W 13 = ptr (blk (W 13)) 0 := z9 13 rfl
   replace har := har.mono lF
   replace ht := ht.mono lF
   replace ha2 := ha2.mono lF
   rw [eS (l := [(9, (.tuple #[.agg #[((aggAt (tupAt (W 9) 0) 0))], .bool ((matchB ar ((rs.getD r ([], [])).1) ((sub ar t p))).isSome)])), (11, (.agg #[((aggAt (tupAt (W 9) 0) 0))])), (13, ptr (blk (W 13)) 0)]) ⟨(e9).symm, e11, e13, ⟨⟩⟩]
   show XG _ _ _ _ _ (cellsH (blk (W 13)) [sN] 137 :: ([cellsH b2 [a1, a2] 76, cellsH b1 [arv, rsv] 39] ++ R)) _
   refine qj (qD [] _ [((aggAt (tupAt (W 9) 0) 0))] qR rfl rfl rfl (qi (qC (RowsF.isSl f9_1hr)) qH) rfl rfl rfl ?_)
   exact ⟨trivial, rfl⟩
  exact stepsG.nil
 intro W F4 le4 hphi
 obtain ⟨e8, f8_1ha⟩ := hphi 8 (by decide)
 obtain ⟨e9, f9_1hr⟩ := hphi 9 (by decide)
 have e10 : W 10 = (.tuple #[.agg #[((aggAt (tupAt (W 9) 0) 0))], .bool ((matchB ar ((rs.getD r ([], [])).1) ((sub ar t p))).isSome)] : Value) := hphi 10 (by decide)
 have e11 : W 11 = (.agg #[((aggAt (tupAt (W 9) 0) 0))] : Value) := hphi 11 (by decide)
 have e13 : W 13 = ptr (blk (W 13)) 0 := hphi 13 (by decide)
 generalize hu1 : ((W 8)) = u1 at e8 f8_1ha e9 f9_1hr e10 e11 e13
 generalize hu2 : ((aggAt (tupAt (W 9) 0) 0)) = u2 at e8 f8_1ha e9 f9_1hr e10 e11 e13
 generalize hu3 : blk (W 13) = b5 at e8 f8_1ha e9 f9_1hr e10 e11 e13
 rw [eS (l := [(9, (.tuple #[.agg #[u2], .bool ((matchB ar ((rs.getD r ([], [])).1) ((sub ar t p))).isSome)])), (12, _), (13, ptr b5 0)]) ⟨(e9).symm, (hphi 12 (by decide)), e13, ⟨⟩⟩]
 replace har := har.mono le4
 replace ht := ht.mono le4
 replace ha2 := ha2.mono le4
 show XL _ _ _ _ _ _ _ (cellsH b5 [u2] 137 :: cellsH b2 [a1, a2] 76 :: cellsH b1 [arv, rsv] 39 :: L)
 refine qf (.bool ((matchB ar ((rs.getD r ([], [])).1) ((sub ar t p))).isSome)) rfl (qb (qc (qc (qa (qd (.bool ((matchB ar ((rs.getD r ([], [])).1) ((sub ar t p))).isSome)) rfl (cX (jx rfl (qb ?_))))))))
 refine ya (t := !((matchB ar ((rs.getD r ([], [])).1) ((sub ar t p))).isSome)) rfl (fun h1 => ?_) (fun h1 => ?_)
 ·have hms : (matchB ar (rs.getD r ([], [])).1 (sub ar t p)).isSome = false := by simpa using h1
  refine qc (qa (cX (qL (s := 1) [] [ii (0)] [] qg qJ jC rfl (by decide) rfl CellsAre.nil rfl ?_)))
  intro v3 hv1
  refine qf (v3) rfl (qf (.bool (false)) rfl (qb ?_))
  show X _ _ _ _ _ _ (intsH 2 v3 ([] : List Int) :: cellsH b5 [u2] 137 :: cellsH b2 [a1, a2] 76 :: cellsH b1 [arv, rsv] 39 :: L)
  refine jl [] _ _ rfl (fun F5 le5 hz2 => ?_)
  replace har := har.mono le5
  replace ht := ht.mono le5
  replace ha2 := ha2.mono le5
  replace f9_1hr := f9_1hr.mono le5
  have hf2 : IntsF F5 v3 ([]) := intsH.fz (xs := []) hz2.fz
  refine qv (ql (qp (L' := L) [v3, .bool (false)] (.tuple #[v3, .bool (false)]) (.tmp rfl (.tmp rfl .nil)) rfl (qm le4 le5) rF (sD (sD (sD sR))) ?_))
  have hz := stepL_nomatch hms
  exact ⟨_, by rw [hz]; rfl, by rw [hz]; exact hf2, rfl⟩
 have hms : (matchB ar (rs.getD r ([], [])).1 (sub ar t p)).isSome = true := by simpa using h1
 refine qw (qc (qa (cX (qq [u2] jv qR rfl rfl (Rd.ownN [] rfl rfl) (cX (qk (1) je rfl qt (by decide) rfl rfl (cX (qh qM rfl (Rd.own [_] rfl rfl) (cX (qn (args := [.agg #[u2], a2]) call154 rfl (l2Filled_spec f9_1hr ha2 (hsl := (by first | assumption | rfl | omega | simp)) (hsb := (fun i => by have := hmp2 i; omega)) (htl := (by first | assumption | rfl | omega | simp)) (htg := (fun k hk => by have := hRg k hk; omega))) ?_))))))))))
 rintro _ F6 _ le6 ⟨x3, rfl, hr5, rfl⟩
 replace har := har.mono le6
 replace ht := ht.mono le6
 refine qd (.tuple #[x3, .bool ((fillL (matchP ar ((rs.getD r ([], [])).1) ((sub ar t p))) ((rs.getD r ([], [])).2)).isSome)]) rfl (cX (qU (x3) rfl rfl (cX (qU (.bool ((fillL (matchP ar ((rs.getD r ([], [])).1) ((sub ar t p))) ((rs.getD r ([], [])).2)).isSome)) rfl rfl (qf (x3) rfl (qf (.bool ((fillL (matchP ar ((rs.getD r ([], [])).1) ((sub ar t p))) ((rs.getD r ([], [])).2)).isSome)) rfl (qb (qc (qc (qa (qd (.bool ((fillL (matchP ar ((rs.getD r ([], [])).1) ((sub ar t p))) ((rs.getD r ([], [])).2)).isSome)) rfl (cX (jx rfl (qb ?_))))))))))))))
 refine ya (t := !((fillL (matchP ar ((rs.getD r ([], [])).1) ((sub ar t p))) ((rs.getD r ([], [])).2)).isSome)) rfl (fun h2 => ?_) (fun h2 => ?_)
 ·have hfs : (fillL (matchP ar (rs.getD r ([], [])).1 (sub ar t p)) (rs.getD r ([], [])).2).isSome = false := by simpa using h2
  refine qc (qa (cX (qL (s := 1) [] [ii (0)] [] qg qJ jC rfl (by decide) rfl CellsAre.nil rfl ?_)))
  intro v4 hv2
  refine qf (v4) rfl (qf (.bool (false)) rfl (qb ?_))
  show X _ _ _ _ _ _ (intsH 2 v4 ([] : List Int) :: cellsH b5 [u2] 137 :: cellsH b2 [a1, a2] 76 :: cellsH b1 [arv, rsv] 39 :: L)
  refine jl [] _ _ rfl (fun F7 le7 hz3 => ?_)
  replace har := har.mono le7
  replace ht := ht.mono le7
  replace hr5 := hr5.mono le7
  have hf3 : IntsF F7 v4 ([]) := intsH.fz (xs := []) hz3.fz
  refine qv (ql (qp (L' := L) [v4, .bool (false)] (.tuple #[v4, .bool (false)]) (.tmp rfl (.tmp rfl .nil)) rfl (qm (qm le4 le6) le7) rF (sD (sD (sD sR))) ?_))
  have hz := stepL_nofill hms hfs
  exact ⟨_, by rw [hz]; rfl, by rw [hz]; exact hf3, rfl⟩
 have hfs : (fillL (matchP ar (rs.getD r ([], [])).1 (sub ar t p)) (rs.getD r ([], [])).2).isSome = true := by simpa using h2
 have hfl := fill_getD_len hfs (by omega)
 refine qw (qc (qa (cX (qk (0) qY rfl qX (by decide) rfl rfl (cX (qq [arv] jq qX rfl rfl (Rd.ownN [_, _] rfl rfl) (qd (tv) rfl (qd (ii ((p : Int))) rfl (qd (x3) rfl (cX (qn (args := [.agg #[arv], tv, ii (p : Int), x3]) call155 rfl (l3Put_spec (p := p) har ht hr5 (ho := (by first | assumption | rfl | omega | simp)) (hp := (by first | assumption | rfl | omega | simp)) (hul := (by first | assumption | rfl | omega | simp))) ?_)))))))))))
 rintro _ F8 _ le8 ⟨x4, rfl, hr6, rfl⟩
 refine cX (qU (x4) rfl rfl (cX (qU (.bool ((putL ar t p ((fillL (matchP ar ((rs.getD r ([], [])).1) ((sub ar t p))) ((rs.getD r ([], [])).2)).getD [])).isSome)) rfl rfl (qf (x4) rfl (qf (.bool ((putL ar t p ((fillL (matchP ar ((rs.getD r ([], [])).1) ((sub ar t p))) ((rs.getD r ([], [])).2)).getD [])).isSome)) rfl (qb (qv (qp (L' := L) [x4, .bool ((putL ar t p ((fillL (matchP ar ((rs.getD r ([], [])).1) ((sub ar t p))) ((rs.getD r ([], [])).2)).getD [])).isSome)] (.tuple #[x4, .bool ((putL ar t p ((fillL (matchP ar ((rs.getD r ([], [])).1) ((sub ar t p))) ((rs.getD r ([], [])).2)).getD [])).isSome)]) (.tmp rfl (.tmp rfl .nil)) rfl (qm (qm le4 le6) le8) rF (sD (sD (sD sR))) ?_))))))))
 have hz := stepL_put hms hfs
 exact ⟨_, by rw [hz], by rw [hz]; exact hr6, rfl⟩

/- laws.szInt64S -/
theorem szInt64S_spec {F : FH} {L : List HP} {xsv : Value} {xs : List Int} (hxs : IntsF F xsv xs) {z : Int} (hz : 0 ≤ z ∧ z ≤ 4000000) (hlx : xs.length ≤ 9223372036854775807) :
    Does prog 65 [xsv, ii (z)] F (L) (fun v F' L' => (ii (dec z xs.length) : Value) = v ∧ F = F' ∧ L = L') := by
 refine qz func65 rfl rfl rfl (qc (qa (qf (ii (0)) rfl (qb (qc (qa (qd (ii (z)) rfl (qd (xsv) rfl (cX (qA qg rfl hxs.slv (cX (jG (z - ((xs.length : Int))) rfl rfl (by omega) (by omega) (qf (ii (z - ((xs.length : Int)))) rfl (qb (qc (qc (qa ?_)))))))))))))))))
 refine qd (ii (z - ((xs.length : Int)))) rfl (cX (qT rfl rfl (qb ?_)))
 refine qx (p := (z - ((xs.length : Int)) : Int) < 0) rfl (fun h1 => ?_) (fun h1 => ?_)
 ·refine qc (qa (qf (ii (-1)) rfl (qb (qv (ql (qp (L' := L) [ii (-1)] (ii (-1)) (.tmp rfl .nil) rfl rF rF sR ?_))))))
  exact ⟨(vI (dec_neg (by omega))), rfl, rfl⟩
 refine qw (qc (qa (qd (ii (z - ((xs.length : Int)))) rfl (qf (ii (z - ((xs.length : Int)))) rfl (qb (qv (qp (L' := L) [ii (z - ((xs.length : Int)))] (ii (z - ((xs.length : Int)))) (.tmp rfl .nil) rfl rF rF sR ?_)))))))
 exact ⟨(vI (dec_pos (by omega))), rfl, rfl⟩

/- laws.szSig -/
theorem szSig_spec {F : FH} {L : List HP} {xsv : Value} {xs : List Int} (hxs : IntsF F xsv xs) {z : Int} (hz : 0 ≤ z ∧ z ≤ 4000000) (hlx : xs.length ≤ 9223372036854775807) :
    Does prog 62 [.agg #[xsv], ii (z)] F (L) (fun v F' L' => (ii (dec z xs.length) : Value) = v ∧ F = F' ∧ L = L') := by
 refine qz func62 rfl rfl rfl ?_
 have hdr := dec_range z xs.length
 refine qc (qa (cX (qW [xsv] rfl rfl ?_)))
 intro b1
 refine qf (ii (0)) rfl (qb (qc (qa (cX (qk (0) runUnderlying24 rfl qt (by decide) rfl rfl (cX (qh qM rfl (Rd.own [] rfl rfl) (qd (ii (z)) rfl (cX (qn (args := [xsv, ii (z)]) call65 rfl (szInt64S_spec (z := z) hxs (hz := (by first | assumption | rfl | omega | simp)) (hlx := (by first | assumption | rfl | omega | simp))) ?_))))))))))
 rintro _ _ _ _ ⟨rfl, rfl, rfl⟩
 refine qf (ii (dec z xs.length)) rfl (qb (qc (qc (qa (qd (ii (dec z xs.length)) rfl (cX (qT rfl rfl (qb ?_))))))))
 refine qx (p := (dec z xs.length : Int) < 0) rfl (fun h1 => ?_) (fun h1 => ?_)
 ·refine qc (qa (qf (ii (-1)) rfl (qb (qv (ql (qp (L' := L) [ii (-1)] (ii (-1)) (.tmp rfl .nil) rfl rF rF (sD sR) ?_))))))
  exact ⟨(vI (by omega)), rfl, rfl⟩
 refine qw (qc (qa (qd (ii (dec z xs.length)) rfl (qf (ii (dec z xs.length)) rfl (qb (qv (qp (L' := L) [ii (dec z xs.length)] (ii (dec z xs.length)) (.tmp rfl .nil) rfl rF rF (sD sR) ?_)))))))
 exact ⟨rfl, rfl, rfl⟩

/- laws.szRule -/
theorem szRule_spec {F : FH} {L : List HP} {lv : Value} {l : List Int} (hl : IntsF F lv l) {rv : Value} {r : List Int} (hr : IntsF F rv r) {z : Int} (hz : 0 ≤ z ∧ z ≤ 4000000) (hll : l.length ≤ 9223372036854775807) (hlr : r.length ≤ 9223372036854775807) :
    Does prog 166 [.agg #[lv, rv], ii (z)] F (L) (fun v F' L' => (ii (dec z (l.length + r.length)) : Value) = v ∧ F = F' ∧ L = L') := by
 refine qz func166 rfl rfl rfl ?_
 have hdr := dec_range z l.length
 refine qc (qa (cX (qW [lv, rv] rfl rfl ?_)))
 intro b1
 refine qf (ii (0)) rfl (qb (qc (qa (cX (qk (0) runUnderlying224 rfl qt (by decide) rfl rfl (cX (qh qM rfl (Rd.own [] rfl rfl) (qd (ii (z)) rfl (cX (qn (args := [lv, ii (z)]) call65 rfl (szInt64S_spec (z := z) hl (hz := (by first | assumption | rfl | omega | simp)) (hlx := (by first | assumption | rfl | omega | simp))) ?_))))))))))
 rintro _ _ _ _ ⟨rfl, rfl, rfl⟩
 refine qf (ii (dec z l.length)) rfl (qb (qc (qc (qa (qd (ii (dec z l.length)) rfl (cX (qT rfl rfl (qb ?_))))))))
 refine qx (p := (dec z l.length : Int) < 0) rfl (fun h1 => ?_) (fun h1 => ?_)
 ·refine qc (qa (qf (ii (-1)) rfl (qb (qv (ql (qp (L' := L) [ii (-1)] (ii (-1)) (.tmp rfl .nil) rfl rF rF (sD sR) ?_))))))
  exact ⟨(vI (dec_out (by omega))), rfl, rfl⟩
 refine qw (qc (qa (cX (qk (1) runUnderlying224 rfl qt (by decide) rfl rfl (cX (qh qM rfl (Rd.own [] rfl rfl) (qd (ii (dec z l.length)) rfl (cX (qn (args := [rv, ii (dec z l.length)]) call65 rfl (szInt64S_spec (z := dec z l.length) hr (hz := (by first | assumption | rfl | omega | simp)) (hlx := (by first | assumption | rfl | omega | simp))) ?_)))))))))
 rintro _ _ _ _ ⟨rfl, rfl, rfl⟩
 refine qf (ii (dec (dec z l.length) r.length)) rfl (qb (qc (qc (qa (qd (ii (dec (dec z l.length) r.length)) rfl (cX (qT rfl rfl (qb ?_))))))))
 refine qx (p := (dec (dec z l.length) r.length : Int) < 0) rfl (fun h2 => ?_) (fun h2 => ?_)
 ·refine qc (qa (qf (ii (-1)) rfl (qb (qv (ql (qp (L' := L) [ii (-1)] (ii (-1)) (.tmp rfl .nil) rfl rF rF (sD sR) ?_))))))
  exact ⟨(vI (by rw [← dec_dec (by omega)]; have := (dec_range (dec z l.length) r.length).1; omega)), rfl, rfl⟩
 refine qw (qc (qa (qd (ii (dec (dec z l.length) r.length)) rfl (qf (ii (dec (dec z l.length) r.length)) rfl (qb (qv (qp (L' := L) [ii (dec (dec z l.length) r.length)] (ii (dec (dec z l.length) r.length)) (.tmp rfl .nil) rfl rF rF (sD sR) ?_)))))))
 exact ⟨(vI ((dec_dec (by omega)).symm)), rfl, rfl⟩

/- laws.eqSig -/
theorem eqSig_spec {F : FH} {L : List HP} {av : Value} {a : List Int} (ha : IntsF F av a) {bv : Value} {b : List Int} (hb : IntsF F bv b) (hbd : a.length ≤ 9223372036854775807 ∨ b.length ≤ 9223372036854775807) :
    Does prog 76 [.agg #[av], .agg #[bv]] F (L) (fun v F' L' => (.bool (decide (a = b)) : Value) = v ∧ F = F' ∧ L = L') := by
 refine qz func76 rfl rfl rfl (qc (qa (cX (qW [av] rfl rfl ?_))))
 intro b1
 refine cX (qW [bv] rfl rfl ?_)
 intro b2
 refine qf (.bool (false)) rfl (qb (qc (qc (qa (cX (qk (0) jS rfl qt (by decide) rfl rfl (cX (qh qM rfl (Rd.own [_] rfl rfl) (cX (qk (0) jS rfl qt (by decide) rfl rfl (cX (qh qM rfl (Rd.own [] rfl rfl) (cX (qn (args := [av, bv]) call79 rfl (eqInt64S_spec ha hb (hbd := (by first | assumption | rfl | omega | (left; simp; done) | (right; simp; done)))) ?_))))))))))))))
 rintro _ _ _ _ ⟨rfl, rfl, rfl⟩
 refine cX (jH rfl (qb ?_))
 refine qx (p := ¬(a = b)) rfl (fun h1 => ?_) (fun h1 => ?_)
 ·refine qc (qa (qf (.bool (false)) rfl (qb (qv (ql (qp (L' := L) [.bool (false)] (.bool (false)) (.tmp rfl .nil) rfl rF rF (sD (sD sR)) ?_))))))
  exact ⟨(vB (decide_eq_false (by assumption))), rfl, rfl⟩
 refine qw (qc (qa (qf (.bool (true)) rfl (qb (qv (qp (L' := L) [.bool (true)] (.bool (true)) (.tmp rfl .nil) rfl rF rF (sD (sD sR)) ?_))))))
 exact ⟨(vB (decide_eq_true (by first | assumption | exact Classical.not_not.1 (by assumption)))), rfl, rfl⟩

/- laws.eqRule -/
theorem eqRule_spec {F : FH} {L : List HP} {av : Value} {a : List Int} (ha : IntsF F av a) {bv : Value} {b : List Int} (hb : IntsF F bv b) {cv : Value} {c : List Int} (hc : IntsF F cv c) {dv : Value} {d : List Int} (hd : IntsF F dv d) (hbd : a.length ≤ 9223372036854775807 ∨ c.length ≤ 9223372036854775807) (hbe : b.length ≤ 9223372036854775807 ∨ d.length ≤ 9223372036854775807) :
    Does prog 176 [.agg #[av, bv], .agg #[cv, dv]] F (L) (fun v F' L' => (.bool (decide ((a, b) = (c, d))) : Value) = v ∧ F = F' ∧ L = L') := by
 refine qz func176 rfl rfl rfl (qc (qa (cX (qW [av, bv] rfl rfl ?_))))
 intro b1
 refine cX (qW [cv, dv] rfl rfl ?_)
 intro b2
 refine qf (.bool (false)) rfl (qb (qc (qc (qa (cX (qk (0) je rfl qt (by decide) rfl rfl (cX (qh qM rfl (Rd.own [_] rfl rfl) (cX (qk (0) je rfl qt (by decide) rfl rfl (cX (qh qM rfl (Rd.own [] rfl rfl) (cX (qn (args := [av, cv]) call79 rfl (eqInt64S_spec ha hc (hbd := (by first | assumption | rfl | omega | (left; simp; done) | (right; simp; done)))) ?_))))))))))))))
 rintro _ _ _ _ ⟨rfl, rfl, rfl⟩
 refine cX (jH rfl (qb ?_))
 refine qx (p := ¬(a = c)) rfl (fun h1 => ?_) (fun h1 => ?_)
 ·refine qc (qa (qf (.bool (false)) rfl (qb (qv (ql (qp (L' := L) [.bool (false)] (.bool (false)) (.tmp rfl .nil) rfl rF rF (sD (sD sR)) ?_))))))
  exact ⟨(vB (decide_eq_false (by intro e; simp_all))), rfl, rfl⟩
 refine qw (qc (qc (qa (cX (qk (1) je rfl qt (by decide) rfl rfl (cX (qh qM rfl (Rd.own [_] rfl rfl) (cX (qk (1) je rfl qt (by decide) rfl rfl (cX (qh qM rfl (Rd.own [] rfl rfl) (cX (qn (args := [bv, dv]) call79 rfl (eqInt64S_spec hb hd (hbd := (by first | assumption | rfl | omega | (left; simp; done) | (right; simp; done)))) ?_)))))))))))))
 rintro _ _ _ _ ⟨rfl, rfl, rfl⟩
 refine cX (jH rfl (qb ?_))
 refine qx (p := ¬(b = d)) rfl (fun h2 => ?_) (fun h2 => ?_)
 ·refine qc (qa (qf (.bool (false)) rfl (qb (qv (ql (qp (L' := L) [.bool (false)] (.bool (false)) (.tmp rfl .nil) rfl rF rF (sD (sD sR)) ?_))))))
  exact ⟨(vB (decide_eq_false (by intro e; simp_all))), rfl, rfl⟩
 refine qw (qc (qa (qf (.bool (true)) rfl (qb (qv (qp (L' := L) [.bool (true)] (.bool (true)) (.tmp rfl .nil) rfl rF rF (sD (sD sR)) ?_))))))
 exact ⟨(vB (decide_eq_true (by simp_all))), rfl, rfl⟩

/- laws.szRuleS -/
theorem szRuleS_spec {F : FH} {L : List HP} {rsv : Value} {rs : List (List Int × List Int)} (hrs : PairsF F rsv rs) {z : Int} (hz : 0 ≤ z ∧ z ≤ 4000000) (hrl : rs.length ≤ 9223372036854775807) (hrb : ∀ i, i < rs.length → (rs.getD i ([], [])).1.length ≤ 9223372036854775807 ∧ (rs.getD i ([], [])).2.length ≤ 9223372036854775807) :
    Does prog 63 [rsv, ii (z)] F (L) (fun v F' L' => (ii (dec z (szR rs)) : Value) = v ∧ F = F' ∧ L = L') := by
 refine qz func63 rfl rfl rfl (qc (qa (qf (ii (0)) rfl (qb (qc (qa (qd (ii (z)) rfl (qd (rsv) rfl (cX (qA runUnderlying25 rfl hrs.slv (cX (jG (z - ((rs.length : Int))) rfl rfl (by omega) (by omega) (qf (ii (z - ((rs.length : Int)))) rfl (qb (qc (qc (qa ?_)))))))))))))))))
 refine qd (ii (z - ((rs.length : Int)))) rfl (cX (qT rfl rfl (qb ?_)))
 refine qx (p := (z - ((rs.length : Int)) : Int) < 0) rfl (fun h1 => ?_) (fun h1 => ?_)
 ·refine qc (qa (qf (ii (-1)) rfl (qb (qv (ql (qp (L' := L) [ii (-1)] (ii (-1)) (.tmp rfl .nil) rfl rF rF sR ?_))))))
  exact ⟨(vI (dec_mono (n := rs.length) (by rw [dec_neg (by omega)]; omega) (by unfold szR; omega))), rfl, rfl⟩
 refine qw (qc (qc (qa (qf (ii (0)) rfl (qb (qG (jc (α := Nat) (fun k => [(0, rsv), (1, ii (dec z (rs.length + szTo rs k))), (5, ii ((k : Int)))]) (fun k => L) (fun k F' => F = F' ∧ (k ≤ rs.length) ∧ (0 ≤ dec z (rs.length + szTo rs k))) (fun k => rs.length - k) 0 ⟨rfl, (vI (by show z - rs.length = dec z (rs.length + 0); rw [Nat.add_zero, dec_pos (by omega)])), rfl, ⟨⟩⟩ sR ⟨rfl, (by (try dsimp only) <;> omega), (by show 0 ≤ dec z (rs.length + 0); rw [Nat.add_zero, dec_pos (by omega)]; omega)⟩ ?_)))))))
 rintro k rE _ _ ⟨rfl, hk, hnn⟩
 show X _ _ _ _ (envs [(0, rsv), (1, ii (dec z (rs.length + szTo rs k))), (5, ii ((k : Int)))] rE) _ (L)
 have hdr := dec_range z (rs.length + szTo rs k)
 have hrk := hrb k
 refine qc (qc (qa (qd (ii ((k : Int))) rfl (qd (rsv) rfl (cX (qA runUnderlying25 rfl hrs.slv (cX (qT rfl rfl (qb ?_)))))))))
 refine qx (p := (k : Int) < (rs.length : Int)) rfl (fun h2 => ?_) (fun h2 => ?_)
 ·refine qw (qc (qG (qc (qa (qd (rsv) rfl (qd (ii ((k : Int))) rfl (cX (qy k runUnderlying25 sizeOf224 rfl rfl rfl hrs.slv (by omega) rfl ?_))))))))
  obtain ⟨a1, a2, ha1, ha2, hr1, hr2⟩ := hrs.rd (i := k) (by omega)
  refine cX (qq [a1, a2] isAgg224 sizeOf224 rfl rfl (Rd.two (hr1 _) (hr2 _)) (qd (ii (dec z (rs.length + szTo rs k))) rfl (cX (qn (args := [.agg #[a1, a2], ii (dec z (rs.length + szTo rs k))]) call166 rfl (szRule_spec (z := dec z (rs.length + szTo rs k)) ha1 ha2 (hz := (by first | assumption | rfl | omega | simp)) (hll := (by first | assumption | rfl | omega | simp)) (hlr := (by first | assumption | rfl | omega | simp))) ?_))))
  rintro _ _ _ _ ⟨rfl, rfl, rfl⟩
  refine qf (ii (dec (dec z (rs.length + szTo rs k)) (((rs.getD k ([], [])).1).length + ((rs.getD k ([], [])).2).length))) rfl (qb (qc (qa (qd (ii (dec (dec z (rs.length + szTo rs k)) (((rs.getD k ([], [])).1).length + ((rs.getD k ([], [])).2).length))) rfl (cX (qT rfl rfl (qb ?_)))))))
  refine qx (p := (dec (dec z (rs.length + szTo rs k)) (((rs.getD k ([], [])).1).length + ((rs.getD k ([], [])).2).length) : Int) < 0) rfl (fun h3 => ?_) (fun h3 => ?_)
  ·refine qc (qa (qf (ii (-1)) rfl (qb (qv (qF (ql (ql (qF (ql (qp (L' := L) [ii (-1)] (ii (-1)) (.tmp rfl .nil) rfl rF rF sR ?_))))))))))
   exact ⟨(vI (by have h9 := szTo_le (rs := rs) (k + 1) rs.length (by omega) (Nat.le_refl _); refine dec_mono (n := rs.length + szTo rs (k + 1)) ?_ (by unfold szR; omega); rw [← szTo_succ (by omega), ← Nat.add_assoc, ← dec_dec (by omega)]; omega)), rfl, rfl⟩
  refine qw (qa (qd (ii ((k : Int))) rfl (cX (qN (((k + 1 : Nat) : Int)) rfl rfl (by omega) (by omega) (qf (ii (((k + 1 : Nat) : Int))) rfl (qb ?_))))))
  exact ⟨k + 1, _, FLe.refl _, rF, ⟨rfl, (vI (by rw [dec_dec (by omega), Nat.add_assoc, szTo_succ (by omega)])), rfl, ⟨⟩⟩, sR, ⟨rfl, (by (try dsimp only) <;> omega), (by (try dsimp only); rw [← szTo_succ (by omega), ← Nat.add_assoc, ← dec_dec (by omega)]; omega)⟩, (by omega)⟩
 refine jb (qo (qo (qI (qc (qa (qd (ii (dec z (rs.length + szTo rs k))) rfl (qf (ii (dec z (rs.length + szTo rs k))) rfl (qb (qv (qp (L' := L) [ii (dec z (rs.length + szTo rs k))] (ii (dec z (rs.length + szTo rs k))) (.tmp rfl .nil) rfl rF rF sR ?_))))))))))
 exact ⟨(vI (by rw [szR, show k = rs.length from by omega])), rfl, rfl⟩

/- laws.szSystem -/
theorem szSystem_spec {F : FH} {L : List HP} {arv : Value} {ar : List Int} (har : IntsF F arv ar) {rsv : Value} {rs : List (List Int × List Int)} (hrs : PairsF F rsv rs) {z : Int} (hz : 0 ≤ z ∧ z ≤ 4000000) (hal : ar.length ≤ 9223372036854775807) (hrl : rs.length ≤ 9223372036854775807) (hrb : ∀ i, i < rs.length → (rs.getD i ([], [])).1.length ≤ 9223372036854775807 ∧ (rs.getD i ([], [])).2.length ≤ 9223372036854775807) :
    Does prog 9 [.agg #[arv, rsv], ii (z)] F (L) (fun v F' L' => (ii (dec z (ar.length + szR rs)) : Value) = v ∧ F = F' ∧ L = L') := by
 refine qz func9 rfl rfl rfl ?_
 have hdr := dec_range z ar.length
 refine qc (qa (cX (qW [arv, rsv] rfl rfl ?_)))
 intro b1
 refine qf (ii (0)) rfl (qb (qc (qa (cX (qk (0) runUnderlying27 rfl sizeOf24 (by decide) rfl rfl (cX (qq [arv] isAgg24 sizeOf24 rfl rfl (Rd.ownN [] rfl rfl) (qd (ii (z)) rfl (cX (qn (args := [.agg #[arv], ii (z)]) call62 rfl (szSig_spec (z := z) har (hz := (by first | assumption | rfl | omega | simp)) (hlx := (by first | assumption | rfl | omega | simp))) ?_))))))))))
 rintro _ _ _ _ ⟨rfl, rfl, rfl⟩
 refine qf (ii (dec z ar.length)) rfl (qb (qc (qc (qa (qd (ii (dec z ar.length)) rfl (cX (qT rfl rfl (qb ?_))))))))
 refine qx (p := (dec z ar.length : Int) < 0) rfl (fun h1 => ?_) (fun h1 => ?_)
 ·refine qc (qa (qf (ii (-1)) rfl (qb (qv (ql (qp (L' := L) [ii (-1)] (ii (-1)) (.tmp rfl .nil) rfl rF rF (sD sR) ?_))))))
  exact ⟨(vI (dec_out (by omega))), rfl, rfl⟩
 refine qw (qc (qa (cX (qk (1) runUnderlying27 rfl sizeOf25 (by decide) rfl rfl (cX (qh isAgg25 rfl (Rd.own [] rfl rfl) (qd (ii (dec z ar.length)) rfl (cX (qn (args := [rsv, ii (dec z ar.length)]) call63 rfl (szRuleS_spec (z := dec z ar.length) hrs (hz := (by first | assumption | rfl | omega | simp)) (hrl := (by first | assumption | rfl | omega | simp)) (hrb := (by first | assumption | rfl | omega | simp))) ?_)))))))))
 rintro _ _ _ _ ⟨rfl, rfl, rfl⟩
 refine qf (ii (dec (dec z ar.length) (szR rs))) rfl (qb (qc (qc (qa (qd (ii (dec (dec z ar.length) (szR rs))) rfl (cX (qT rfl rfl (qb ?_))))))))
 refine qx (p := (dec (dec z ar.length) (szR rs) : Int) < 0) rfl (fun h2 => ?_) (fun h2 => ?_)
 ·refine qc (qa (qf (ii (-1)) rfl (qb (qv (ql (qp (L' := L) [ii (-1)] (ii (-1)) (.tmp rfl .nil) rfl rF rF (sD sR) ?_))))))
  exact ⟨(vI (by rw [← dec_dec (by omega)]; have := (dec_range (dec z ar.length) (szR rs)).1; omega)), rfl, rfl⟩
 refine qw (qc (qa (qd (ii (dec (dec z ar.length) (szR rs))) rfl (qf (ii (dec (dec z ar.length) (szR rs))) rfl (qb (qv (qp (L' := L) [ii (dec (dec z ar.length) (szR rs))] (ii (dec (dec z ar.length) (szR rs))) (.tmp rfl .nil) rfl rF rF (sD sR) ?_)))))))
 exact ⟨(vI ((dec_dec (by omega)).symm)), rfl, rfl⟩

/- laws.eqRuleS -/
theorem eqRuleS_spec {F : FH} {L : List HP} {av : Value} {a : List (List Int × List Int)} (ha : PairsF F av a) {bv : Value} {b : List (List Int × List Int)} (hb : PairsF F bv b) (hal : a.length ≤ 9223372036854775807) (hbd : ∀ i, i < a.length → (a.getD i ([], [])).1.length ≤ 9223372036854775807 ∧ (a.getD i ([], [])).2.length ≤ 9223372036854775807) :
    Does prog 77 [av, bv] F (L) (fun v F' L' => (.bool (decide (a = b)) : Value) = v ∧ F = F' ∧ L = L') := by
 refine qz func77 rfl rfl rfl (qc (qa (qf (.bool (false)) rfl (qb (qc (qc (qa (qd (av) rfl (cX (qA jj rfl ha.slv (qd (bv) rfl (cX (qA jj rfl hb.slv (cX (XOp.neq rfl rfl (qb ?_))))))))))))))))
 refine qx (p := ((a.length : Int) : Int) ≠ (b.length : Int)) rfl (fun h1 => ?_) (fun h1 => ?_)
 ·refine qc (qa (qf (.bool (false)) rfl (qb (qv (ql (qp (L' := L) [.bool (false)] (.bool (false)) (.tmp rfl .nil) rfl rF rF sR ?_))))))
  exact ⟨(vB (decide_eq_false (fun e => by rw [e] at h1; omega))), rfl, rfl⟩
 refine qw (qc (qc (qa (qf (ii (0)) rfl (qb (qG (jc (α := Nat) (fun k => [(0, av), (1, bv), (5, ii ((k : Int)))]) (fun k => L) (fun k F' => F = F' ∧ (k ≤ a.length) ∧ (∀ i, i < k → a.getD i ([], []) = b.getD i ([], []))) (fun k => a.length - k) 0 ⟨rfl, rfl, rfl, ⟨⟩⟩ sR ⟨rfl, (by (try dsimp only) <;> omega), (fun i hi => absurd hi (by omega))⟩ ?_)))))))
 rintro k rE _ _ ⟨rfl, hk, hall⟩
 show X _ _ _ _ (envs [(0, av), (1, bv), (5, ii ((k : Int)))] rE) _ (L)
 have hbk := hbd k
 refine qc (qc (qa (qd (ii ((k : Int))) rfl (qd (av) rfl (cX (qA jj rfl ha.slv (cX (qT rfl rfl (qb ?_)))))))))
 refine qx (p := (k : Int) < (a.length : Int)) rfl (fun h2 => ?_) (fun h2 => ?_)
 ·refine qw (qc (qG (qc ?_)))
  obtain ⟨a1, a2, ha1, ha2, hr1, hr2⟩ := ha.rd (i := k) (by omega)
  obtain ⟨a3, a4, ha3, ha4, hr3, hr4⟩ := hb.rd (i := k) (by omega)
  refine jV [] L 8 [] [[], [], [0, 1], [2], [], [], [4, 5], [6]] (phiL [qe av, qe (ii ((k : Int)) : Value), qe (.pointer (some (elemA av (k * 2)))), qe (.agg #[a1, a2]), qe bv, qe (ii ((k : Int)) : Value), qe (.pointer (some (elemA bv (k * 2)))), qe (.agg #[a3, a4])]) (ownL []) mixed rfl rfl (by kernel_rfl) ?_ ?_
  ·refine pD (fun W R z9 => ?_) ?_
   ·refine qj (qr (av) rfl ?_)
    exact ⟨rfl, rfl, rfl⟩
   refine pD (fun W R z9 => ?_) ?_
   ·refine qj (qr (ii ((k : Int))) rfl ?_)
    exact ⟨rfl, rfl, rfl⟩
   refine pD (fun W R z9 => ?_) ?_
   ·rw [zB 0 1 (z9 0 rfl) (z9 1 rfl)]
    refine qj (qy k jj jO rfl rfl rfl ha.slv (by omega) rfl ?_)
    exact ⟨rfl, rfl, rfl⟩
   refine pD (fun W R z9 => ?_) ?_
   ·rw [zA 2 (z9 2 rfl)]
    refine qj (qq [a1, a2] isAgg76 jO rfl rfl (Rd.two (hr1 _) (hr2 _)) ?_)
    exact ⟨rfl, rfl, rfl⟩
   refine pD (fun W R z9 => ?_) ?_
   ·refine qj (qr (bv) rfl ?_)
    exact ⟨rfl, rfl, rfl⟩
   refine pD (fun W R z9 => ?_) ?_
   ·refine qj (qr (ii ((k : Int))) rfl ?_)
    exact ⟨rfl, rfl, rfl⟩
   refine pD (fun W R z9 => ?_) ?_
   ·rw [zB 4 5 (z9 4 rfl) (z9 5 rfl)]
    refine qj (qy k jj jO rfl rfl rfl hb.slv (by omega) rfl ?_)
    exact ⟨rfl, rfl, rfl⟩
   refine pD (fun W R z9 => ?_) ?_
   ·rw [zA 6 (z9 6 rfl)]
    refine qj (qq [a3, a4] isAgg76 jO rfl rfl (Rd.two (hr3 _) (hr4 _)) ?_)
    exact ⟨rfl, rfl, rfl⟩
   exact stepsP.nil
  intro W hphi
  rw [zB 3 7 (hphi 3 (by decide)) (hphi 7 (by decide))]
  show XL _ _ _ _ _ _ _ (L)
  refine cX (qn (args := [.agg #[a1, a2], .agg #[a3, a4]]) call176 rfl (eqRule_spec ha1 ha2 ha3 ha4 (hbd := (.inl (hbk (by omega)).1)) (hbe := (.inl (hbk (by omega)).2))) ?_)
  rintro _ _ _ _ ⟨rfl, rfl, rfl⟩
  refine cX (jH rfl (qb ?_))
  refine qx (p := ¬((((a.getD k ([], [])).1), ((a.getD k ([], [])).2)) = (((b.getD k ([], [])).1), ((b.getD k ([], [])).2)))) rfl (fun h3 => ?_) (fun h3 => ?_)
  ·refine qc (qa (qf (.bool (false)) rfl (qb (qv (qF (ql (ql (qF (ql (qp (L' := L) [.bool (false)] (.bool (false)) (.tmp rfl .nil) rfl rF rF sR ?_))))))))))
   exact ⟨(vB (decide_eq_false (fun e => by subst e; simp at *))), rfl, rfl⟩
  refine qw (qa (qd (ii ((k : Int))) rfl (cX (qN (((k + 1 : Nat) : Int)) rfl rfl (by omega) (by omega) (qf (ii (((k + 1 : Nat) : Int))) rfl (qb ?_))))))
  exact ⟨k + 1, _, FLe.refl _, rF, ⟨rfl, rfl, rfl, ⟨⟩⟩, sR, ⟨rfl, (by (try dsimp only) <;> omega), (fun i hi => (Nat.lt_or_ge i k).elim (fun h => hall i h) (fun h => by obtain rfl : i = k := (by omega); first | assumption | exact Classical.not_not.1 (by assumption)))⟩, (by omega)⟩
 refine jb (qo (qo (qI (qc (qa (qf (.bool (true)) rfl (qb (qv (qp (L' := L) [.bool (true)] (.bool (true)) (.tmp rfl .nil) rfl rF rF sR ?_)))))))))
 exact ⟨(vB (decide_eq_true (ext_pair (by omega) (fun i hi => hall i (by omega))))), rfl, rfl⟩

/- laws.eqSystem -/
theorem eqSystem_spec {F : FH} {L : List HP} {cv : Value} {c : List Int} (hc : IntsF F cv c) {av : Value} {a : List (List Int × List Int)} (ha : PairsF F av a) {dv : Value} {d : List Int} (hd : IntsF F dv d) {bv : Value} {b : List (List Int × List Int)} (hb : PairsF F bv b) (hcl : c.length ≤ 9223372036854775807) (hal : a.length ≤ 9223372036854775807) (hbd : ∀ i, i < a.length → (a.getD i ([], [])).1.length ≤ 9223372036854775807 ∧ (a.getD i ([], [])).2.length ≤ 9223372036854775807) :
    Does prog 17 [.agg #[cv, av], .agg #[dv, bv]] F (L) (fun v F' L' => (.bool (decide (c = d ∧ a = b)) : Value) = v ∧ F = F' ∧ L = L') := by
 refine qz func17 rfl rfl rfl (qc (qa (cX (qW [cv, av] rfl rfl ?_))))
 intro b1
 refine cX (qW [dv, bv] rfl rfl ?_)
 intro b2
 refine qf (.bool (false)) rfl (qb (qc (qc (qa (cX (qk (0) qY rfl qX (by decide) rfl rfl (cX (qq [cv] jq qX rfl rfl (Rd.ownN [_] rfl rfl) (cX (qk (0) qY rfl qX (by decide) rfl rfl (cX (qq [dv] jq qX rfl rfl (Rd.ownN [] rfl rfl) (cX (qn (args := [.agg #[cv], .agg #[dv]]) call76 rfl (eqSig_spec hc hd (hbd := (.inl hcl))) ?_))))))))))))))
 rintro _ _ _ _ ⟨rfl, rfl, rfl⟩
 refine cX (jH rfl (qb ?_))
 refine qx (p := ¬(c = d)) rfl (fun h1 => ?_) (fun h1 => ?_)
 ·refine qc (qa (qf (.bool (false)) rfl (qb (qv (ql (qp (L' := L) [.bool (false)] (.bool (false)) (.tmp rfl .nil) rfl rF rF (sD (sD sR)) ?_))))))
  exact ⟨(vB (decide_eq_false (by intro e; simp_all))), rfl, rfl⟩
 refine qw (qc (qc (qa (cX (qk (1) qY rfl yc (by decide) rfl rfl (cX (qh isAgg37 rfl (Rd.own [_] rfl rfl) (cX (qk (1) qY rfl yc (by decide) rfl rfl (cX (qh isAgg37 rfl (Rd.own [] rfl rfl) (cX (qn (args := [av, bv]) call77 rfl (eqRuleS_spec ha hb (hal := (by first | assumption | rfl | omega | simp)) (hbd := (by first | assumption | rfl | omega | simp))) ?_)))))))))))))
 rintro _ _ _ _ ⟨rfl, rfl, rfl⟩
 refine cX (jH rfl (qb ?_))
 refine qx (p := ¬(a = b)) rfl (fun h2 => ?_) (fun h2 => ?_)
 ·refine qc (qa (qf (.bool (false)) rfl (qb (qv (ql (qp (L' := L) [.bool (false)] (.bool (false)) (.tmp rfl .nil) rfl rF rF (sD (sD sR)) ?_))))))
  exact ⟨(vB (decide_eq_false (by intro e; simp_all))), rfl, rfl⟩
 refine qw (qc (qa (qf (.bool (true)) rfl (qb (qv (qp (L' := L) [.bool (true)] (.bool (true)) (.tmp rfl .nil) rfl rF rF (sD (sD sR)) ?_))))))
 exact ⟨(vB (decide_eq_true (by simp_all))), rfl, rfl⟩

/- laws.toInt64S -/
theorem toInt64S_spec {F : FH} {L : List HP} {xsv : Value} {xs : List Int} (hxs : IntsF F xsv xs) (hlx : xs.length ≤ 4000000) :
    Does prog 72 [xsv] F (L) (fun v F' L' => F = F' ∧ IsSl v ∧ intsH 2 v xs :: L = L') := by
 refine qz func72 rfl rfl rfl (qc (qa (qf (sN) rfl (qb (qc (qa (qd (xsv) rfl (cX (qA qg rfl hxs.slv (cX (XOp.makeSlice (n := (xs).length) (bytes := 8) [ii (0)] qg qJ typeInfo2 rfl jC rfl rfl rfl rfl (by omega) (by omega) ?_)))))))))))
 intro v1 hv1
 rw [intsH_zeros]
 refine qf (v1) rfl (qb (qc (qc (qa (qf (ii (0)) rfl (qb (qG (jc (α := Nat × List Int) (fun xQ => [(0, xsv), (3, v1), (4, ii (((xQ.1 : Nat) : Int)))]) (fun xQ => intsH 2 v1 xQ.2 :: L) (fun xQ F' => F = F' ∧ (xQ.1 ≤ xs.length) ∧ (xQ.2.length = xs.length) ∧ (xQ.2.take xQ.1 = xs.take xQ.1)) (fun xQ => xs.length - xQ.1) (0, (List.replicate xs.length 0)) ⟨rfl, rfl, rfl, ⟨⟩⟩ (sC sR) ⟨rfl, (by (try dsimp only) <;> omega), (by simp), (rfl)⟩ ?_))))))))
 rintro ⟨k, os⟩ rE _ _ ⟨rfl, hk, hol, hos⟩
 show X _ _ _ _ (envs [(0, xsv), (3, v1), (4, ii ((k : Int)))] rE) _ (intsH 2 v1 os :: L)
 dsimp only at hk hol hos
 refine qc (qc (qa (qd (ii ((k : Int))) rfl (qd (xsv) rfl (cX (qA qg rfl hxs.slv (cX (qT rfl rfl (qb ?_)))))))))
 refine qx (p := (k : Int) < (xs.length : Int)) rfl (fun h1 => ?_) (fun h1 => ?_)
 ·refine qw (qc (qG (qa (qd (v1) rfl (qd (ii ((k : Int))) rfl (qd (xsv) rfl (qd (ii ((k : Int))) rfl (cX (qy k qg qJ rfl rfl rfl hxs.slv (by omega) (Nat.mul_one _) (cX (qh jn rfl (hxs.rd (by omega)) (cX (qy k qg qJ rfl rfl rfl (intsH.slv [] rfl) (by omega) (Nat.mul_one _) (cX (intsH.storeX (i := k) (v := v1) [] _ (os.set k (xs.getD k 0)) qJ rfl rfl rfl (by omega) rfl (qb (qa ?_)))))))))))))))))
  refine qd (ii ((k : Int))) rfl (cX (qN (((k + 1 : Nat) : Int)) rfl rfl (by omega) (by omega) (qf (ii (((k + 1 : Nat) : Int))) rfl (qb ?_))))
  exact ⟨(k + 1, (os.set k (xs.getD k 0))), _, FLe.refl _, rF, ⟨rfl, rfl, rfl, ⟨⟩⟩, (sC sR), ⟨rfl, (by (try dsimp only) <;> omega), (by dsimp only; rw [List.length_set]; exact hol), (by dsimp only; rw [take_set_next (by omega) (by omega), hos, take_succ_getD 0 (by omega)])⟩, (by omega)⟩
 refine jb (qo (qo (qI (qc (qa (qd (v1) rfl (qf (v1) rfl (qb (qv (qp (L' := intsH 2 v1 os :: L) [v1] (v1) (.tmp rfl .nil) rfl rF rF (sC sR) ?_))))))))))
 refine ⟨rfl, (jD hv1), ?_⟩
 have hxs : (xs : List Int) = os := by rw [← List.take_of_length_le (l := xs) (i := k) (by omega), ← hos, List.take_of_length_le (by omega)]
 exact congrArg (fun z => intsH 2 _ z :: L) hxs

/- laws.toSig -/
theorem toSig_spec {F : FH} {L : List HP} {xsv : Value} {xs : List Int} (hxs : IntsF F xsv xs) (hlx : xs.length ≤ 4000000) :
    Does prog 69 [.agg #[xsv]] F (L) (fun v F' L' => ∃ (a : Value), (.agg #[a] : Value) = v ∧ (IntsF F' a xs) ∧ (Fresh F F' (star [intsH 2 a xs])) ∧ L = L') := by
 refine qz func69 rfl rfl rfl (qc (qa (cX (qW [xsv] rfl rfl ?_))))
 intro b1
 refine cX (qS [sN] zeroValue36 rfl ?_)
 intro b2
 refine qb (qc (qa (cX (qS [sN] zeroValue36 rfl ?_))))
 intro b3
 refine qb (qc (qa (cX (qk (0) runUnderlying24 rfl qt (by decide) rfl rfl (cX (qh qM rfl (Rd.own [_, _] rfl rfl) (cX (jM <| qn (args := [xsv]) call72 rfl (toInt64S_spec hxs (hlx := (by first | assumption | rfl | omega | simp))) ?_))))))))
 rintro v1 _ _ _ ⟨rfl, hs1, rfl⟩
 refine ⟨_, _, rfl, fun F1 le1 hz1 => ?_⟩
 have hf1 : IntsF F1 v1 ((xs)) := intsH.fz (xs := (xs)) hz1.fz
 refine cX (qk (0) jS rfl qt (by decide) rfl rfl (cX (jw [] _ [v1] qt rfl rfl (qC (qB hf1)) rfl rfl rfl (qb (qc (qa (cX (qq [v1] jq qX rfl rfl (Rd.ownN [] rfl rfl) (cX (qD [_] _ [v1] qX rfl rfl rfl (qi (qC (qB hf1)) qH) rfl rfl rfl (qb (qv (qp (L' := L) [.agg #[v1]] (.agg #[v1]) (.cell rfl (jo [v1] jq qX rfl (Rd.ownN [_] rfl rfl)) .nil) rfl le1 rF (sD (sD (sD sR))) ?_)))))))))))))
 exact ⟨_, rfl, hf1, (Fresh.one hz1), rfl⟩

/- laws.toRule -/
theorem toRule_spec {F : FH} {L : List HP} {lv : Value} {l : List Int} (hl : IntsF F lv l) {rv : Value} {r : List Int} (hr : IntsF F rv r) (hll : l.length ≤ 4000000) (hlr : r.length ≤ 4000000) :
    Does prog 170 [.agg #[lv, rv]] F (L) (fun v F' L' => ∃ (a : Value), ∃ (b : Value), (.agg #[a, b] : Value) = v ∧ (IntsF F' a l) ∧ (IntsF F' b r) ∧ (Fresh F F' (star [intsH 2 a l, intsH 2 b r])) ∧ L = L') := by
 refine qz func170 rfl rfl rfl (qc (qa (cX (qW [lv, rv] rfl rfl ?_))))
 intro b1
 refine cX (qS [sN, sN] zeroValue76 rfl ?_)
 intro b2
 refine qb (qc (qa (cX (qS [sN, sN] zeroValue76 rfl ?_))))
 intro b3
 refine qb (qc (qa (cX (qk (0) runUnderlying224 rfl qt (by decide) rfl rfl (cX (qh qM rfl (Rd.own [_, _] rfl rfl) (cX (jM <| qn (args := [lv]) call72 rfl (toInt64S_spec hl (hlx := (by first | assumption | rfl | omega | simp))) ?_))))))))
 rintro v1 _ _ _ ⟨rfl, hs1, rfl⟩
 refine ⟨_, _, rfl, fun F1 le1 hz1 => ?_⟩
 replace hr := hr.mono le1
 have hf1 : IntsF F1 v1 ((l)) := intsH.fz (xs := (l)) hz1.fz
 refine cX (qk (0) je rfl qt (by decide) rfl rfl (cX (jw [] _ [v1, sN] qt rfl rfl (qC (qB hf1)) rfl rfl rfl (qb (qc (qa (cX (qk (1) runUnderlying224 rfl qt (by decide) rfl rfl (cX (qh qM rfl (Rd.own [_, _] rfl rfl) (cX (jM <| qn (args := [rv]) call72 rfl (toInt64S_spec hr (hlx := (by first | assumption | rfl | omega | simp))) ?_))))))))))))
 rintro v2 _ _ _ ⟨rfl, hs2, rfl⟩
 refine ⟨_, _, rfl, fun F2 le2 hz2 => ?_⟩
 replace hf1 := hf1.mono le2
 have hf2 : IntsF F2 v2 ((r)) := intsH.fz (xs := (r)) hz2.fz
 refine cX (qk (1) je rfl qt (by decide) rfl rfl (cX (jw [] _ [v1, v2] qt rfl rfl (qC (qB hf2)) rfl rfl rfl (qb (qc (qa (cX (qq [v1, v2] isAgg76 jO rfl rfl (Rd.ownN [] rfl rfl) (cX (qD [_] _ [v1, v2] jO rfl rfl rfl (qi (qC (qB hf1)) (qi (qC (qB hf2)) qH)) rfl rfl rfl (qb (qv (qp (L' := L) [.agg #[v1, v2]] (.agg #[v1, v2]) (.cell rfl (jo [v1, v2] isAgg76 jO rfl (Rd.ownN [_] rfl rfl)) .nil) rfl (qm le1 le2) rF (sD (sD (sD sR))) ?_)))))))))))))
 exact ⟨_, _, rfl, hf1, hf2, (Fresh.app (Fresh.one hz1) le1 (Fresh.one hz2) le2), rfl⟩

/- laws.toRuleS -/
theorem toRuleS_spec {F : FH} {L : List HP} {xv : Value} {x : List (List Int × List Int)} (hx : PairsF F xv x) (hlx : x.length ≤ 4000000) (hrb : ∀ i, i < x.length → (x.getD i ([], [])).1.length ≤ 4000000 ∧ (x.getD i ([], [])).2.length ≤ 4000000) :
    Does prog 70 [xv] F (L) (fun v F' L' => ∃ (a : Value), (a : Value) = v ∧ (PairsF F' a x) ∧ (Fresh F F' (star [pairsD 2 76 a x])) ∧ L = L') := by
 refine qz func70 rfl rfl rfl (qc (qa (qf (sN) rfl (qb (qc (qa (qd (xv) rfl (cX (qA runUnderlying25 rfl hx.slv (cX (XOp.makeSlice (n := (x).length) (bytes := 48) [sN, sN] jj jO typeInfo76 rfl zeroValue76 rfl rfl rfl rfl (by omega) (by omega) ?_)))))))))))
 intro v1 hv1
 obtain ⟨cs1, hq1, hc1⟩ : ∃ cs, ((List.range (((x).length) * 2)).map fun i => [sN, sN].toArray[i % [sN, sN].toArray.size]!) = cs ∧ PairsC F cs (List.replicate ((x).length) ([], []) : List (List Int × List Int)) := ⟨_, rfl, PairsC.nils _⟩
 rw [hq1]
 refine qf (v1) rfl (qb (qc (qc (qa (qf (ii (0)) rfl (qb (qG ?_)))))))
 obtain ⟨L0, hD0, hS0⟩ := deepNils2 2 x.length
 rw [hq1] at hD0
 refine jc (α := Nat × List (List Int × List Int) × List Value × List HP × FH) (fun xQ => [(0, xv), (3, v1), (4, ii (((xQ.1 : Nat) : Int)))]) (fun xQ => slH 76 2 v1 x.length xQ.2.2.1 :: L) (fun xQ F' => xQ.2.2.2.2 = F' ∧ F ≤ xQ.2.2.2.2 ∧ (PairsC xQ.2.2.2.2 xQ.2.2.1 xQ.2.1) ∧ (xQ.1 ≤ x.length) ∧ (xQ.2.1.length = x.length) ∧ (xQ.2.1.take xQ.1 = x.take xQ.1) ∧ (DeepL 2 (PairO 2) xQ.2.2.1 xQ.2.1 xQ.2.2.2.1) ∧ (Fresh F xQ.2.2.2.2 (star xQ.2.2.2.1))) (fun xQ => x.length - xQ.1) (0, (List.replicate ((x).length) ([], []) : List (List Int × List Int)), cs1, L0, F) ⟨rfl, rfl, rfl, ⟨⟩⟩ (sC sR) ⟨rfl, FLe.refl _, (hc1), (by (try dsimp only) <;> omega), (by simp), (rfl), (hD0), (Fresh.empty hS0)⟩ ?_
 rintro ⟨k, os, cs, Ls, G1⟩ rE _ _ ⟨rfl, leG, hC, hk, hol, hos, hD, hZ⟩
 show X _ _ _ _ (envs [(0, xv), (3, v1), (4, ii ((k : Int)))] rE) _ (slH 76 2 v1 x.length cs :: L)
 replace leG : F ≤ G1 := leG
 dsimp only at hC hk hol hos hD hZ
 have hrk := hrb k
 have leG1 := leG
 replace hx := hx.mono leG1
 refine qc (qc (qa (qd (ii ((k : Int))) rfl (qd (xv) rfl (cX (qA runUnderlying25 rfl hx.slv (cX (qT rfl rfl (qb ?_)))))))))
 refine qx (p := (k : Int) < (x.length : Int)) rfl (fun h1 => ?_) (fun h1 => ?_)
 ·refine qw (qc (qG (qa (qd (v1) rfl (qd (ii ((k : Int))) rfl (qd (xv) rfl (qd (ii ((k : Int))) rfl (cX (qy k runUnderlying25 sizeOf224 rfl rfl rfl hx.slv (by omega) rfl ?_)))))))))
  obtain ⟨a1, a2, ha1, ha2, hr1, hr2⟩ := hx.rd (i := k) (by omega)
  refine cX (qq [a1, a2] isAgg224 sizeOf224 rfl rfl (Rd.two (hr1 _) (hr2 _)) (cX (qn (args := [.agg #[a1, a2]]) call170 rfl (toRule_spec ha1 ha2 (hll := (by first | assumption | rfl | omega | simp)) (hlr := (by first | assumption | rfl | omega | simp))) ?_)))
  rintro _ F1 _ le1 ⟨x1, x2, rfl, hr3, hr4, hr5, rfl⟩
  replace hC := hC.mono le1
  refine cX (qy k jj jO rfl rfl rfl (SlV.own [] rfl) (by omega) rfl (cX (XOp.storeSN (i := k * 2) (m := 2) (vs := [x1, x2]) (cs := cs) [] _ jO rfl rfl rfl (qi (qC (qB hr3)) (qi (qC (qB hr4)) qH)) rfl (show k * 2 + 2 ≤ _ from by have h9 := CO.len hC; (try simp only [List.length_set, List.length_replicate] at h9); omega) (Nat.succ_pos _) ?_)))
  have hc2 := hC.set (j := k) (by (try simp only [List.length_set, List.length_replicate]); omega) hr3 hr4
  refine qb (qa (qd (ii ((k : Int))) rfl (cX (qN (((k + 1 : Nat) : Int)) rfl rfl (by omega) (by omega) (qf (ii (((k + 1 : Nat) : Int))) rfl (qb ?_))))))
  obtain ⟨A, K, B, es, hLs, hel, hR, hg, hput⟩ := hD.at (d := ([], [])) (k := k) (by omega)
  rw [hLs] at hZ
  have hDn := hput _ (((x.getD k ([], [])).1), ((x.getD k ([], [])).2)) [intsH 2 x1 (((x.getD k ([], [])).1)), intsH 2 x2 (((x.getD k ([], [])).2))] rfl ⟨_, _,  rfl, rfl⟩
  exact ⟨(k + 1, (os.set k (((x.getD k ([], [])).1), ((x.getD k ([], [])).2))), (cs.take (k * 2) ++ [x1, x2] ++ cs.drop (k * 2 + 2)), A ++ ([intsH 2 x1 (((x.getD k ([], [])).1)), intsH 2 x2 (((x.getD k ([], [])).2))] ++ B), F1), _, (qm leG1 le1), rF, ⟨rfl, rfl, rfl, ⟨⟩⟩, (sC sR), ⟨rfl, (qm leG1 le1), (hc2), (by (try dsimp only) <;> omega), (by dsimp only; rw [List.length_set]; exact hol), (by dsimp only; rw [take_set_any (by omega), hos, take_succ_getD ([], []) (by omega)]), (hDn), ((Fresh.swap hZ leG1 hr5 le1))⟩, (by omega)⟩
 refine jb (qo (qo (qI (qc (qa (qd (v1) rfl (qf (v1) rfl (qb (jl [] _ _ rfl (fun F2 le2 hz1 => ?_))))))))))
 replace hC := hC.mono le2
 have hf1 : PairsF F2 v1 os := CO.fz hC (by first | rfl | omega | (rw [List.length_set]; omega) | (simp; done)) hz1.fz
 refine qv (qp (L' := L) [v1] (v1) (.tmp rfl .nil) rfl (qm leG1 le2) rF sR ?_)
 have e : os = x := by rw [← List.take_of_length_le (l := x) (i := k) (by omega), ← hos, List.take_of_length_le (by omega)]
 subst e
 exact ⟨_, rfl, hf1, Fresh.one (Fresh.deep hD hZ leG1 hz1 rfl le2), rfl⟩

/- laws.toSystem -/
theorem toSystem_spec {F : FH} {L : List HP} {arv : Value} {ar : List Int} (har : IntsF F arv ar) {rsv : Value} {rs : List (List Int × List Int)} (hrs : PairsF F rsv rs) (hla : ar.length ≤ 4000000) (hrl : rs.length ≤ 4000000) (hrb : ∀ i, i < rs.length → (rs.getD i ([], [])).1.length ≤ 4000000 ∧ (rs.getD i ([], [])).2.length ≤ 4000000) :
    Does prog 13 [.agg #[arv, rsv]] F (L) (fun v F' L' => ∃ (a : Value), ∃ (b : Value), (.agg #[a, b] : Value) = v ∧ (IntsF F' a ar) ∧ (PairsF F' b rs) ∧ (Fresh F F' (star [intsH 2 a ar, pairsD 2 76 b rs])) ∧ L = L') := by
 refine qz func13 rfl rfl rfl (qc (qa (cX (qW [arv, rsv] rfl rfl ?_))))
 intro b1
 refine cX (qS [sN, sN] zeroValue39 rfl ?_)
 intro b2
 refine qb (qc (qa (cX (qS [sN, sN] zeroValue39 rfl ?_))))
 intro b3
 refine qb (qc (qa (cX (qk (0) runUnderlying27 rfl sizeOf24 (by decide) rfl rfl (cX (qq [arv] isAgg24 sizeOf24 rfl rfl (Rd.ownN [_, _] rfl rfl) (cX (qn (args := [.agg #[arv]]) call69 rfl (toSig_spec har (hlx := (by first | assumption | rfl | omega | simp))) ?_))))))))
 rintro _ F1 _ le1 ⟨x1, rfl, hr1, hr2, rfl⟩
 replace hrs := hrs.mono le1
 refine cX (qk (0) qY rfl qX (by decide) rfl rfl (cX (qD [] _ [x1, sN] qX rfl rfl rfl (qi (qC (qB hr1)) qH) rfl rfl rfl (qb (qc (qa (cX (qk (1) runUnderlying27 rfl sizeOf25 (by decide) rfl rfl (cX (qh isAgg25 rfl (Rd.own [_, _] rfl rfl) (cX (qn (args := [rsv]) call70 rfl (toRuleS_spec hrs (hlx := (by first | assumption | rfl | omega | simp)) (hrb := (by first | assumption | rfl | omega | simp))) ?_))))))))))))
 rintro _ F2 _ le2 ⟨x2, rfl, hr3, hr4, rfl⟩
 replace hr1 := hr1.mono le2
 refine cX (qk (1) qY rfl yc (by decide) rfl rfl (cX (jw [] _ [x1, x2] yc rfl rfl (qC (PairsF.isSl hr3)) rfl rfl rfl (qb (qc (qa (cX (qq [x1, x2] jL jy rfl rfl (Rd.ownN [] rfl rfl) (cX (qD [_] _ [x1, x2] jy rfl rfl rfl (qi (qC (qB hr1)) (qi (qC (PairsF.isSl hr3)) qH)) rfl rfl rfl (qb (qv (qp (L' := L) [.agg #[x1, x2]] (.agg #[x1, x2]) (.cell rfl (jo [x1, x2] jL jy rfl (Rd.ownN [_] rfl rfl)) .nil) rfl (qm le1 le2) rF (sD (sD (sD sR))) ?_)))))))))))))
 exact ⟨_, _, rfl, hr1, hr3, (Fresh.app hr2 le1 hr4 le2), rfl⟩

/- laws.markInt64S -/
theorem markInt64S_spec {F : FH} {L : List HP} {xv : Value} {x : List Int} {z : Int} (hz : 0 ≤ z ∧ z + (((x)).length : Int) ≤ 9000000000) :
    Does prog 196 [xv, ii (z)] F (intsH 2 xv x :: L) (fun v F' L' => ∃ x' : List Int, ((x')) = iota z ((x)).length ∧ (ii (z + (((x)).length : Int)) : Value) = v ∧ F = F' ∧ intsH 2 xv x' :: L = L') := by
 refine qz func196 rfl rfl rfl (qc (qa (qf (ii (0)) rfl (qb (qc (qc (qa (qf (ii (0)) rfl (qb (qG (jc (α := Nat × List Int) (fun xQ => [(0, xv), (1, ii (z + ((xQ.1 : Nat) : Int))), (5, ii (((xQ.1 : Nat) : Int)))]) (fun xQ => intsH 2 xv xQ.2 :: L) (fun xQ F' => F = F' ∧ (xQ.1 ≤ x.length) ∧ (xQ.2 = iota z xQ.1 ++ x.drop xQ.1) ∧ (xQ.2.length = x.length)) (fun xQ => x.length - xQ.1) (0, x) ⟨rfl, (show Value.int .i64 z = ii (z + ((0 : Nat) : Int)) from congrArg (Value.int .i64) (by omega)), rfl, ⟨⟩⟩ (sC sR) ⟨rfl, (by (try dsimp only) <;> omega), (by rw [iota_zero]; rfl), (rfl)⟩ ?_)))))))))))
 rintro ⟨k, os⟩ rE _ _ ⟨rfl, hk, hos, hol⟩
 show X _ _ _ _ (envs [(0, xv), (1, ii (z + (k : Int))), (5, ii ((k : Int)))] rE) _ (intsH 2 xv os :: L)
 dsimp only at hk hos hol
 refine qc (qc (qa (qd (ii ((k : Int))) rfl (qd (xv) rfl (cX (qA qg rfl (intsH.slv [] rfl) (cX (qT rfl rfl (qb ?_)))))))))
 refine qx (p := (k : Int) < (os.length : Int)) rfl (fun h1 => ?_) (fun h1 => ?_)
 ·refine qw (qc (qG (qc (qa (qd (xv) rfl (qd (ii ((k : Int))) rfl (qd (ii (z + (k : Int))) rfl (cX (qy k qg qJ rfl rfl rfl (intsH.slv [] rfl) (by omega) (Nat.mul_one _) (cX (intsH.storeX (i := k) (v := xv) [] _ (os.set k (z + (k : Int))) qJ rfl rfl rfl (by omega) rfl (qb (qa (qd (ii (z + (k : Int))) rfl (cX (qN ((z + (k : Int)) + 1) rfl rfl (by omega) (by omega) (qf (ii ((z + (k : Int)) + 1)) rfl ?_)))))))))))))))))
  refine qb (qa (qd (ii ((k : Int))) rfl (cX (qN (((k + 1 : Nat) : Int)) rfl rfl (by omega) (by omega) (qf (ii (((k + 1 : Nat) : Int))) rfl (qb ?_))))))
  exact ⟨(k + 1, (os.set k (z + (k : Int)))), _, FLe.refl _, rF, ⟨rfl, (vI (by omega)), rfl, ⟨⟩⟩, (sC sR), ⟨rfl, (by (try dsimp only) <;> omega), (by dsimp only; rw [hos]; exact iota_set (by omega)), (by dsimp only; rw [List.length_set]; exact hol)⟩, (by omega)⟩
 refine jb (qo (qo (qI (qc (qa (qd (ii (z + (k : Int))) rfl (qf (ii (z + (k : Int))) rfl (qb (qv (qp (L' := intsH 2 xv os :: L) [ii (z + (k : Int))] (ii (z + (k : Int))) (.tmp rfl .nil) rfl rF rF (sC sR) ?_))))))))))
 have hkl : k = x.length := by omega
 subst hkl
 exact ⟨os, by rw [hos, List.drop_eq_nil_of_le (Nat.le_refl _), List.append_nil], rfl, rfl, rfl⟩

/- laws.heldInt64S -/
theorem heldInt64S_spec {F : FH} {L : List HP} {xv : Value} {x : List Int} (hx : IntsF F xv x) {z : Int} (hzb : 0 ≤ z ∧ z + (x.length : Int) ≤ 9000000000) :
    Does prog 198 [xv, ii (z)] F (L) (fun v F' L' => (ii (heldF x z) : Value) = v ∧ F = F' ∧ L = L') := by
 refine qz func198 rfl rfl rfl (qc (qa (qf (ii (0)) rfl (qb (qc (qc (qa (qf (ii (0)) rfl (qb (qG (jc (α := Nat) (fun k => [(0, xv), (1, ii (z + (k : Int))), (5, ii ((k : Int)))]) (fun k => L) (fun k F' => F = F' ∧ (k ≤ x.length) ∧ (x.take k = iota z k)) (fun k => x.length - k) 0 ⟨rfl, (show Value.int .i64 z = ii (z + ((0 : Nat) : Int)) from congrArg (Value.int .i64) (by omega)), rfl, ⟨⟩⟩ sR ⟨rfl, (by (try dsimp only) <;> omega), (rfl)⟩ ?_)))))))))))
 rintro k rE _ _ ⟨rfl, hk, hos⟩
 show X _ _ _ _ (envs [(0, xv), (1, ii (z + (k : Int))), (5, ii ((k : Int)))] rE) _ (L)
 refine qc (qc (qa (qd (ii ((k : Int))) rfl (qd (xv) rfl (cX (qA qg rfl hx.slv (cX (qT rfl rfl (qb ?_)))))))))
 refine qx (p := (k : Int) < (x.length : Int)) rfl (fun h1 => ?_) (fun h1 => ?_)
 ·refine qw (qc (qG (qc (qc (qa (qd (xv) rfl (qd (ii ((k : Int))) rfl (cX (qy k qg qJ rfl rfl rfl hx.slv (by omega) (Nat.mul_one _) (cX (qh jn rfl (hx.rd (by omega)) (qd (ii (z + (k : Int))) rfl (cX (XOp.neq rfl rfl (qb ?_)))))))))))))))
  refine qx (p := (x.getD k 0 : Int) ≠ z + (k : Int)) rfl (fun h2 => ?_) (fun h2 => ?_)
  ·refine qc (qa (qf (ii (-1)) rfl (qb (qv (ql (qF (ql (ql (qF (ql (qp (L' := L) [ii (-1)] (ii (-1)) (.tmp rfl .nil) rfl rF rF sR ?_)))))))))))
   exact ⟨(vI (heldF_snoc_no (i := k) (by omega) (by assumption))), rfl, rfl⟩
  refine qw (qa (qd (ii (z + (k : Int))) rfl (cX (qN ((z + (k : Int)) + 1) rfl rfl (by omega) (by omega) (qf (ii ((z + (k : Int)) + 1)) rfl (qb (qa (qd (ii ((k : Int))) rfl (cX (qN (((k + 1 : Nat) : Int)) rfl rfl (by omega) (by omega) (qf (ii (((k + 1 : Nat) : Int))) rfl (qb ?_))))))))))))
  exact ⟨k + 1, _, FLe.refl _, rF, ⟨rfl, (vI (by omega)), rfl, ⟨⟩⟩, sR, ⟨rfl, (by (try dsimp only) <;> omega), (by (try dsimp only); rw [take_succ_getD 0 (by omega), hos, iota_succ]; congr 2; first | assumption | exact Classical.not_not.1 (by assumption) | omega)⟩, (by omega)⟩
 refine jb (qo (qo (qI (qc (qa (qd (ii (z + (k : Int))) rfl (qf (ii (z + (k : Int))) rfl (qb (qv (qp (L' := L) [ii (z + (k : Int))] (ii (z + (k : Int))) (.tmp rfl .nil) rfl rF rF sR ?_))))))))))
 exact ⟨(vI (held_all (by omega) hos)), rfl, rfl⟩

/- laws.markSig -/
theorem markSig_spec {F : FH} {L : List HP} {xv : Value} {x : List Int} {z : Int} (hz : 0 ≤ z ∧ z + (((x)).length : Int) ≤ 9000000000) :
    Does prog 88 [.agg #[xv], ii (z)] F (intsH 2 xv x :: L) (fun v F' L' => ∃ x' : List Int, ((x')) = iota z ((x)).length ∧ (ii (z + (((x)).length : Int)) : Value) = v ∧ F = F' ∧ intsH 2 xv x' :: L = L') := by
 refine qz func88 rfl rfl rfl (qc (qa (cX (qW [xv] rfl rfl ?_))))
 intro b1
 refine qf (ii (0)) rfl (qb (qc (qa (cX (qk (0) jS rfl qt (by decide) rfl rfl (cX (qh qM rfl (Rd.own [] rfl rfl) (qd (ii (z)) rfl (jT (qK (A := [_])) ?_)))))))))
 show XL _ _ _ _ _ _ _ (intsH 2 xv x :: cellsH b1 [xv] 36 :: L)
 refine cX (qn (args := [xv, ii (z)]) call196 rfl (markInt64S_spec (by omega)) ?_)
 rintro _ _ _ _ ⟨m1, hm1, rfl, rfl, rfl⟩
 have hml1 := congrArg List.length hm1
 rw [iota_len] at hml1
 try simp only [List.length_append] at hml1
 refine qf (ii (z + (((x)).length : Int))) rfl (qb (qc (qa (qd (ii (z + (((x)).length : Int))) rfl (qf (ii (z + (((x)).length : Int))) rfl (qb (qv (qp (L' := intsH 2 xv m1 :: L) [ii (z + (((x)).length : Int))] (ii (z + (((x)).length : Int))) (.tmp rfl .nil) rfl rF rF (sC (sD sR)) ?_))))))))
 exact ⟨m1, hm1, congrArg (Value.int .i64) (by first | rfl | (simp only [List.length_append]; omega)), rfl, rfl⟩

/- laws.markRuleS -/
theorem markRuleS_spec {F : FH} {L : List HP} {xv : Value} {x : List (List Int × List Int)} {z : Int} (hz : 0 ≤ z ∧ z + (((x.flatMap flatPair)).length : Int) ≤ 9000000000) (hnx : x.length ≤ 4000000) :
    Does prog 89 [xv, ii (z)] F (pairsD 2 76 xv x :: L) (fun v F' L' => ∃ x' : List (List Int × List Int), ((x'.flatMap flatPair)) = iota z ((x.flatMap flatPair)).length ∧ x'.length = x.length ∧ (ii (z + (((x.flatMap flatPair)).length : Int)) : Value) = v ∧ F = F' ∧ pairsD 2 76 xv x' :: L = L') := by
 refine qz func89 rfl rfl rfl (X.openDeep (fun cs Ls hd => (X.weaken (qK (A := [_])) ?_)))
 show X _ _ _ _ _ _ (star Ls :: slH 76 2 xv x.length cs :: L)
 refine qc (qa (qf (ii (0)) rfl (qb (qc (qc (qa (qf (ii (0)) rfl (qb (qG (jc (α := Nat × List (List Int × List Int) × List HP) (fun xQ => [(0, xv), (1, ii (z + ((((x.take xQ.1).flatMap flatPair).length : Nat) : Int))), (5, ii (((xQ.1 : Nat) : Int)))]) (fun xQ => star xQ.2.2 :: slH 76 2 xv x.length cs :: L) (fun xQ F' => F = F' ∧ (DeepL 2 (PairO 2) cs (xQ.2.1 ++ x.drop xQ.1) xQ.2.2) ∧ (xQ.1 ≤ x.length) ∧ (xQ.2.1.length = xQ.1) ∧ (xQ.2.1.flatMap flatPair = iota z ((x.take xQ.1).flatMap flatPair).length)) (fun xQ => x.length - xQ.1) (0, [], Ls) ⟨rfl, (show Value.int .i64 z = ii (z + ((((x.take 0).flatMap flatPair).length : Nat) : Int)) from congrArg (Value.int .i64) (by simp)), rfl, ⟨⟩⟩ (sC (sC sR)) ⟨rfl, (hd), (by (try dsimp only) <;> omega), (rfl), (rfl)⟩ ?_))))))))))
 rintro ⟨k, os, Ls⟩ rE _ _ ⟨rfl, hd, hk, hol, hfl⟩
 show X _ _ _ _ (envs [(0, xv), (1, ii (z + ((((x.take k).flatMap flatPair).length : Nat) : Int))), (5, ii ((k : Int)))] rE) _ (star Ls :: slH 76 2 xv x.length cs :: L)
 dsimp only at hd hk hol hfl
 have htl := fun (h : k < x.length) => flat_take_le (f := flatPair) (l := x) ([], []) h
 have hlen : (os ++ x.drop k).length = x.length := by rw [List.length_append, List.length_drop]; omega
 refine qc (qc (qa (qd (ii ((k : Int))) rfl (qd (xv) rfl (cX (qA jj rfl (SlV.own [_] rfl) (cX (qT rfl rfl (qb ?_)))))))))
 refine qx (p := (k : Int) < (x.length : Int)) rfl (fun h1 => ?_) (fun h1 => ?_)
 ·refine qw (qc (qG (qc (qa ?_))))
  have hkx : k < x.length := by omega
  have htl2 := htl hkx
  obtain ⟨A, K, B, es, hLs, hel, hR, hg, hput⟩ := hd.at (d := ([], [])) (k := k) (by omega)
  rw [app_getD hol] at hR
  have hself := splice_self hel hg (hd.bound (k := k) (by omega))
  obtain ⟨a, b, he, hK⟩ := hR
  subst he hK
  have hfp : (flatPair (x.getD k ([], []))).length = (x.getD k ([], [])).1.length + (x.getD k ([], [])).2.length := by unfold flatPair; rw [List.length_append]
  subst hLs
  refine jT (Sub.pull (A := A)) ?_
  show XL _ _ _ _ _ _ _ (intsH 2 a ((x.getD k ([], [])).1) :: intsH 2 b ((x.getD k ([], [])).2) :: star (A ++ B) :: slH 76 2 xv x.length cs :: L)
  skip
  refine qd (xv) rfl (qd (ii ((k : Int))) rfl (cX (qy k jj jO rfl rfl rfl (SlV.own [_, _, _] rfl) (by omega) rfl (cX (jA (k * 2) je rfl qt (by decide) rfl rfl (cX (qh qM rfl (Rd.sl [_, _, _] rfl (hg 0 _ rfl)) (qd (ii (z + ((((x.take k).flatMap flatPair).length : Nat) : Int))) rfl (cX (qn (args := [a, ii (z + ((((x.take k).flatMap flatPair).length : Nat) : Int))]) call196 rfl (markInt64S_spec (by omega)) ?_))))))))))
  rintro _ _ _ _ ⟨m1, hm1, rfl, rfl, rfl⟩
  have hml1 := congrArg List.length hm1
  rw [iota_len] at hml1
  try simp only [List.length_append] at hml1
  refine qf (ii ((z + ((((x.take k).flatMap flatPair).length : Nat) : Int)) + (((((x.getD k ([], [])).1))).length : Int))) rfl (qb (qa (qd (xv) rfl (qd (ii ((k : Int))) rfl (cX (qy k jj jO rfl rfl rfl (SlV.own [_, _, _] rfl) (by omega) rfl (cX (jA (k * 2 + 1) je rfl qt (by decide) rfl rfl (cX (qh qM rfl (Rd.sl [_, _, _] rfl (hg 1 _ rfl)) (qd (ii ((z + ((((x.take k).flatMap flatPair).length : Nat) : Int)) + (((((x.getD k ([], [])).1))).length : Int))) rfl (jT (qK (A := [_])) ?_))))))))))))
  show XL _ _ _ _ _ _ _ (intsH 2 b ((x.getD k ([], [])).2) :: intsH 2 a m1 :: star (A ++ B) :: slH 76 2 xv x.length cs :: L)
  refine cX (qn (args := [b, ii ((z + ((((x.take k).flatMap flatPair).length : Nat) : Int)) + (((((x.getD k ([], [])).1))).length : Int))]) call196 rfl (markInt64S_spec (by omega)) ?_)
  rintro _ _ _ _ ⟨m2, hm2, rfl, rfl, rfl⟩
  have hml2 := congrArg List.length hm2
  rw [iota_len] at hml2
  try simp only [List.length_append] at hml2
  refine qf (ii (((z + ((((x.take k).flatMap flatPair).length : Nat) : Int)) + (((((x.getD k ([], [])).1))).length : Int)) + (((((x.getD k ([], [])).2))).length : Int))) rfl (qb (qa (jT (qQ (qK (A := [_, _, _])) (qQ (qK (A := [_, _, _])) (qQ (qK (A := [_, _])) (qQ (qK (A := [_, _, _])) (sC (sC (sC (sC sR)))))))) (jT (Sub.push (A := A) (K := [intsH 2 a m1, intsH 2 b m2]) (B := B)) ?_))))
  show XL _ _ _ _ _ _ _ (star (A ++ ([intsH 2 a m1, intsH 2 b m2] ++ B)) :: slH 76 2 xv x.length cs :: L)
  have hdn := hput [a, b] (m1, m2) _ rfl ⟨a, b, rfl, rfl⟩
  rw [hself, app_set hol hkx] at hdn
  have hfx : flatPair (m1, m2) = iota (z + ((((x.take k).flatMap flatPair).length : Nat) : Int)) (flatPair (x.getD k ([], []))).length := by rw [hfp, iota_add]; show m1 ++ m2 = _; rw [hm1, hm2]
  have hnext : (z + ((((x.take k).flatMap flatPair).length : Nat) : Int)) + ((x.getD k ([], [])).1.length : Int) + ((x.getD k ([], [])).2.length : Int) = z + ((((x.take (k + 1)).flatMap flatPair).length : Nat) : Int) := by rw [flatMap_take_succ flatPair ([], []) hkx, List.length_append, hfp]; omega
  skip
  refine qd (ii ((k : Int))) rfl (cX (qN (((k + 1 : Nat) : Int)) rfl rfl (by omega) (by omega) (qf (ii (((k + 1 : Nat) : Int))) rfl (qb ?_))))
  exact ⟨(k + 1, os ++ [(m1, m2)], A ++ ([intsH 2 a m1, intsH 2 b m2] ++ B)), _, FLe.refl _, rF, ⟨rfl, (vI hnext), rfl, ⟨⟩⟩, (sC (sC sR)), ⟨rfl, (hdn), (by (try dsimp only) <;> omega), (by simp [hol]), (marked (d := ([], [])) (by omega) hfl hfx)⟩, (by omega)⟩
 refine jb (qo (qo (qI (qc (qa (qd (ii (z + ((((x.take k).flatMap flatPair).length : Nat) : Int))) rfl (qf (ii (z + ((((x.take k).flatMap flatPair).length : Nat) : Int))) rfl (qb (qv (qp (L' := pairsD 2 76 xv os :: L) [ii (z + ((((x.take k).flatMap flatPair).length : Nat) : Int))] (ii (z + ((((x.take k).flatMap flatPair).length : Nat) : Int))) (.tmp rfl .nil) rfl rF rF (qQ (qK (A := [_])) (Sub.closeDeep (by rw [app_all (by omega)] at hd; exact hd) (by omega))) ?_))))))))))
 rw [app_all (by omega)] at hd
 have hkl : k = x.length := by omega
 exact ⟨os, by rw [hfl, hkl, List.take_length], by omega, by rw [hkl, List.take_length], rfl, rfl⟩

/- laws.markInt64SS -/
theorem markInt64SS_spec {F : FH} {L : List HP} {xv : Value} {x : List (List Int)} {z : Int} (hz : 0 ≤ z ∧ z + (((x.flatMap flatRow)).length : Int) ≤ 9000000000) (hnx : x.length ≤ 4000000) :
    Does prog 197 [xv, ii (z)] F (rowsD 2 22 xv x :: L) (fun v F' L' => ∃ x' : List (List Int), ((x'.flatMap flatRow)) = iota z ((x.flatMap flatRow)).length ∧ x'.length = x.length ∧ (ii (z + (((x.flatMap flatRow)).length : Int)) : Value) = v ∧ F = F' ∧ rowsD 2 22 xv x' :: L = L') := by
 refine qz func197 rfl rfl rfl (X.openDeep (fun cs Ls hd => (X.weaken (qK (A := [_])) ?_)))
 show X _ _ _ _ _ _ (star Ls :: slH 22 1 xv x.length cs :: L)
 refine qc (qa (qf (ii (0)) rfl (qb (qc (qc (qa (qf (ii (0)) rfl (qb (qG (jc (α := Nat × List (List Int) × List HP) (fun xQ => [(0, xv), (1, ii (z + ((((x.take xQ.1).flatMap flatRow).length : Nat) : Int))), (5, ii (((xQ.1 : Nat) : Int)))]) (fun xQ => star xQ.2.2 :: slH 22 1 xv x.length cs :: L) (fun xQ F' => F = F' ∧ (DeepL 1 (RowO 2) cs (xQ.2.1 ++ x.drop xQ.1) xQ.2.2) ∧ (xQ.1 ≤ x.length) ∧ (xQ.2.1.length = xQ.1) ∧ (xQ.2.1.flatMap flatRow = iota z ((x.take xQ.1).flatMap flatRow).length)) (fun xQ => x.length - xQ.1) (0, [], Ls) ⟨rfl, (show Value.int .i64 z = ii (z + ((((x.take 0).flatMap flatRow).length : Nat) : Int)) from congrArg (Value.int .i64) (by simp)), rfl, ⟨⟩⟩ (sC (sC sR)) ⟨rfl, (hd), (by (try dsimp only) <;> omega), (rfl), (rfl)⟩ ?_))))))))))
 rintro ⟨k, os, Ls⟩ rE _ _ ⟨rfl, hd, hk, hol, hfl⟩
 show X _ _ _ _ (envs [(0, xv), (1, ii (z + ((((x.take k).flatMap flatRow).length : Nat) : Int))), (5, ii ((k : Int)))] rE) _ (star Ls :: slH 22 1 xv x.length cs :: L)
 dsimp only at hd hk hol hfl
 have htl := fun (h : k < x.length) => flat_take_le (f := flatRow) (l := x) [] h
 have hlen : (os ++ x.drop k).length = x.length := by rw [List.length_append, List.length_drop]; omega
 refine qc (qc (qa (qd (ii ((k : Int))) rfl (qd (xv) rfl (cX (qA qs rfl (SlV.own [_] rfl) (cX (qT rfl rfl (qb ?_)))))))))
 refine qx (p := (k : Int) < (x.length : Int)) rfl (fun h1 => ?_) (fun h1 => ?_)
 ·refine qw (qc (qG (qa ?_)))
  have hkx : k < x.length := by omega
  have htl2 := htl hkx
  obtain ⟨A, K, B, es, hLs, hel, hR, hg, hput⟩ := hd.at (d := []) (k := k) (by omega)
  rw [app_getD hol] at hR
  have hself := splice_self hel hg (hd.bound (k := k) (by omega))
  obtain ⟨a, he, hK⟩ := hR
  subst he hK
  have hfp : (flatRow (x.getD k [])).length = (x.getD k []).length := rfl
  subst hLs
  refine jT (Sub.pull (A := A)) ?_
  show XL _ _ _ _ _ _ _ (intsH 2 a ((x.getD k [])) :: star (A ++ B) :: slH 22 1 xv x.length cs :: L)
  skip
  refine qd (xv) rfl (qd (ii ((k : Int))) rfl (cX (qy k qs qt rfl rfl rfl (SlV.own [_, _] rfl) (by omega) (Nat.mul_one _) (cX (qh qM rfl (Rd.sl [_, _] rfl (by simpa using hg 0 _ rfl)) (qd (ii (z + ((((x.take k).flatMap flatRow).length : Nat) : Int))) rfl (cX (qn (args := [a, ii (z + ((((x.take k).flatMap flatRow).length : Nat) : Int))]) call196 rfl (markInt64S_spec (by omega)) ?_))))))))
  rintro _ _ _ _ ⟨m1, hm1, rfl, rfl, rfl⟩
  have hml1 := congrArg List.length hm1
  rw [iota_len] at hml1
  try simp only [List.length_append] at hml1
  refine qf (ii ((z + ((((x.take k).flatMap flatRow).length : Nat) : Int)) + (((((x.getD k [])))).length : Int))) rfl (qb (qa (jT (sC (sC (sC sR))) (jT (Sub.push (A := A) (K := [intsH 2 a m1]) (B := B)) ?_))))
  show XL _ _ _ _ _ _ _ (star (A ++ ([intsH 2 a m1] ++ B)) :: slH 22 1 xv x.length cs :: L)
  have hdn := hput [a] m1 _ rfl ⟨a, rfl, rfl⟩
  rw [hself, app_set hol hkx] at hdn
  have hfx : flatRow m1 = iota (z + ((((x.take k).flatMap flatRow).length : Nat) : Int)) (flatRow (x.getD k [])).length := by rw [hfp]; exact hm1
  have hnext : (z + ((((x.take k).flatMap flatRow).length : Nat) : Int)) + ((x.getD k []).length : Int) = z + ((((x.take (k + 1)).flatMap flatRow).length : Nat) : Int) := by rw [flatMap_take_succ flatRow [] hkx, List.length_append, hfp]; omega
  skip
  refine qd (ii ((k : Int))) rfl (cX (qN (((k + 1 : Nat) : Int)) rfl rfl (by omega) (by omega) (qf (ii (((k + 1 : Nat) : Int))) rfl (qb ?_))))
  exact ⟨(k + 1, os ++ [m1], A ++ ([intsH 2 a m1] ++ B)), _, FLe.refl _, rF, ⟨rfl, (vI hnext), rfl, ⟨⟩⟩, (sC (sC sR)), ⟨rfl, (hdn), (by (try dsimp only) <;> omega), (by simp [hol]), (marked (d := []) (by omega) hfl hfx)⟩, (by omega)⟩
 refine jb (qo (qo (qI (qc (qa (qd (ii (z + ((((x.take k).flatMap flatRow).length : Nat) : Int))) rfl (qf (ii (z + ((((x.take k).flatMap flatRow).length : Nat) : Int))) rfl (qb (qv (qp (L' := rowsD 2 22 xv os :: L) [ii (z + ((((x.take k).flatMap flatRow).length : Nat) : Int))] (ii (z + ((((x.take k).flatMap flatRow).length : Nat) : Int))) (.tmp rfl .nil) rfl rF rF (qQ (qK (A := [_])) (Sub.closeDeep (by rw [app_all (by omega)] at hd; exact hd) (by omega))) ?_))))))))))
 rw [app_all (by omega)] at hd
 have hkl : k = x.length := by omega
 exact ⟨os, by rw [hfl, hkl, List.take_length], by omega, by rw [hkl, List.take_length], rfl, rfl⟩

/- laws.markSystem -/
theorem markSystem_spec {F : FH} {L : List HP} {xv : Value} {x : List Int} {yv : Value} {y : List (List Int × List Int)} {z : Int} (hz : 0 ≤ z ∧ z + (((x) ++ (y.flatMap flatPair)).length : Int) ≤ 9000000000) (hny : y.length ≤ 4000000) :
    Does prog 23 [.agg #[xv, yv], ii (z)] F (intsH 2 xv x :: pairsD 2 76 yv y :: L) (fun v F' L' => ∃ x' : List Int, ∃ y' : List (List Int × List Int), ((x') ++ (y'.flatMap flatPair)) = iota z ((x) ++ (y.flatMap flatPair)).length ∧ y'.length = y.length ∧ (ii (z + (((x) ++ (y.flatMap flatPair)).length : Int)) : Value) = v ∧ F = F' ∧ intsH 2 xv x' :: pairsD 2 76 yv y' :: L = L') := by
 refine qz func23 rfl rfl rfl ?_
 have hlx : ((x) ++ (y.flatMap flatPair)).length = x.length + (y.flatMap flatPair).length := List.length_append
 refine qc (qa (cX (qW [xv, yv] rfl rfl ?_)))
 intro b1
 refine qf (ii (0)) rfl (qb (qc (qa (cX (qk (0) qY rfl qX (by decide) rfl rfl (cX (qq [xv] jq qX rfl rfl (Rd.ownN [] rfl rfl) (qd (ii (z)) rfl (jT (qK (A := [_])) ?_)))))))))
 show XL _ _ _ _ _ _ _ (intsH 2 xv x :: cellsH b1 [xv, yv] 39 :: pairsD 2 76 yv y :: L)
 refine cX (qn (args := [.agg #[xv], ii (z)]) call88 rfl (markSig_spec (by omega)) ?_)
 rintro _ _ _ _ ⟨m1, hm1, rfl, rfl, rfl⟩
 have hml1 := congrArg List.length hm1
 rw [iota_len] at hml1
 try simp only [List.length_append] at hml1
 refine qf (ii (z + (((x)).length : Int))) rfl (qb (qc (qa (cX (qk (1) qY rfl yc (by decide) rfl rfl (cX (qh isAgg37 rfl (Rd.own [_] rfl rfl) (qd (ii (z + (((x)).length : Int))) rfl (jT (qK (A := [_, _])) ?_)))))))))
 show XL _ _ _ _ _ _ _ (pairsD 2 76 yv y :: intsH 2 xv m1 :: cellsH b1 [xv, yv] 39 :: L)
 refine cX (qn (args := [yv, ii (z + (((x)).length : Int))]) call89 rfl (markRuleS_spec (by omega) (by omega)) ?_)
 rintro _ _ _ _ ⟨m2, hm2, hk1, rfl, rfl, rfl⟩
 have hml2 := congrArg List.length hm2
 rw [iota_len] at hml2
 try simp only [List.length_append] at hml2
 refine qf (ii ((z + (((x)).length : Int)) + (((y.flatMap flatPair)).length : Int))) rfl (qb (qc (qa (qd (ii ((z + (((x)).length : Int)) + (((y.flatMap flatPair)).length : Int))) rfl (qf (ii ((z + (((x)).length : Int)) + (((y.flatMap flatPair)).length : Int))) rfl (qb (qv (qp (L' := intsH 2 xv m1 :: pairsD 2 76 yv m2 :: L) [ii ((z + (((x)).length : Int)) + (((y.flatMap flatPair)).length : Int))] (ii ((z + (((x)).length : Int)) + (((y.flatMap flatPair)).length : Int))) (.tmp rfl .nil) rfl rF rF (qQ (qK (A := [_])) (sC (sC (sD sR)))) ?_))))))))
 exact ⟨m1, m2, by rw [List.length_append, iota_add, hm1, hm2], (by assumption), congrArg (Value.int .i64) (by first | rfl | (simp only [List.length_append]; omega)), rfl, rfl⟩

/- laws.eqInt64SS -/
theorem eqInt64SS_spec {F : FH} {L : List HP} {av : Value} {a : List (List Int)} (ha : RowsF F av a) {bv : Value} {b : List (List Int)} (hb : RowsF F bv b) (hal : a.length ≤ 9223372036854775807) (hbd : ∀ i, i < a.length → (a.getD i []).length ≤ 9223372036854775807) :
    Does prog 294 [av, bv] F (L) (fun v F' L' => (.bool (decide (a = b)) : Value) = v ∧ F = F' ∧ L = L') := by
 refine qz func294 rfl rfl rfl (qc (qa (qf (.bool (false)) rfl (qb (qc (qc (qa (qd (av) rfl (cX (qA qs rfl ha.slv (qd (bv) rfl (cX (qA qs rfl hb.slv (cX (XOp.neq rfl rfl (qb ?_))))))))))))))))
 refine qx (p := ((a.length : Int) : Int) ≠ (b.length : Int)) rfl (fun h1 => ?_) (fun h1 => ?_)
 ·refine qc (qa (qf (.bool (false)) rfl (qb (qv (ql (qp (L' := L) [.bool (false)] (.bool (false)) (.tmp rfl .nil) rfl rF rF sR ?_))))))
  exact ⟨(vB (decide_eq_false (fun e => by rw [e] at h1; omega))), rfl, rfl⟩
 refine qw (qc (qc (qa (qf (ii (0)) rfl (qb (qG (jc (α := Nat) (fun k => [(0, av), (1, bv), (5, ii ((k : Int)))]) (fun k => L) (fun k F' => F = F' ∧ (k ≤ a.length) ∧ (∀ i, i < k → a.getD i ([] : List Int) = b.getD i ([] : List Int))) (fun k => a.length - k) 0 ⟨rfl, rfl, rfl, ⟨⟩⟩ sR ⟨rfl, (by (try dsimp only) <;> omega), (fun i hi => absurd hi (by omega))⟩ ?_)))))))
 rintro k rE _ _ ⟨rfl, hk, hall⟩
 show X _ _ _ _ (envs [(0, av), (1, bv), (5, ii ((k : Int)))] rE) _ (L)
 have hbk := hbd k
 refine qc (qc (qa (qd (ii ((k : Int))) rfl (qd (av) rfl (cX (qA qs rfl ha.slv (cX (qT rfl rfl (qb ?_)))))))))
 refine qx (p := (k : Int) < (a.length : Int)) rfl (fun h2 => ?_) (fun h2 => ?_)
 ·refine qw (qc (qG (qc ?_)))
  obtain ⟨a1, ha1, hr1⟩ := ha.rd (i := k) (by omega)
  obtain ⟨a2, ha2, hr2⟩ := hb.rd (i := k) (by omega)
  refine jV [] L 8 [] [[], [], [0, 1], [2], [], [], [4, 5], [6]] (phiL [qe av, qe (ii ((k : Int)) : Value), qe (.pointer (some (elemA av (k)))), qe a1, qe bv, qe (ii ((k : Int)) : Value), qe (.pointer (some (elemA bv (k)))), qe a2]) (ownL []) mixed rfl rfl (by kernel_rfl) ?_ ?_
  ·refine pD (fun W R z9 => ?_) ?_
   ·refine qj (qr (av) rfl ?_)
    exact ⟨rfl, rfl, rfl⟩
   refine pD (fun W R z9 => ?_) ?_
   ·refine qj (qr (ii ((k : Int))) rfl ?_)
    exact ⟨rfl, rfl, rfl⟩
   refine pD (fun W R z9 => ?_) ?_
   ·rw [zB 0 1 (z9 0 rfl) (z9 1 rfl)]
    refine qj (qy k qs qt rfl rfl rfl ha.slv (by omega) (Nat.mul_one _) ?_)
    exact ⟨rfl, rfl, rfl⟩
   refine pD (fun W R z9 => ?_) ?_
   ·rw [zA 2 (z9 2 rfl)]
    refine qj (qh qM rfl (hr1 _) ?_)
    exact ⟨rfl, rfl, rfl⟩
   refine pD (fun W R z9 => ?_) ?_
   ·refine qj (qr (bv) rfl ?_)
    exact ⟨rfl, rfl, rfl⟩
   refine pD (fun W R z9 => ?_) ?_
   ·refine qj (qr (ii ((k : Int))) rfl ?_)
    exact ⟨rfl, rfl, rfl⟩
   refine pD (fun W R z9 => ?_) ?_
   ·rw [zB 4 5 (z9 4 rfl) (z9 5 rfl)]
    refine qj (qy k qs qt rfl rfl rfl hb.slv (by omega) (Nat.mul_one _) ?_)
    exact ⟨rfl, rfl, rfl⟩
   refine pD (fun W R z9 => ?_) ?_
   ·rw [zA 6 (z9 6 rfl)]
    refine qj (qh qM rfl (hr2 _) ?_)
    exact ⟨rfl, rfl, rfl⟩
   exact stepsP.nil
  intro W hphi
  rw [zB 3 7 (hphi 3 (by decide)) (hphi 7 (by decide))]
  show XL _ _ _ _ _ _ _ (L)
  refine cX (qn (args := [a1, a2]) call79 rfl (eqInt64S_spec ha1 ha2 (hbd := (.inl (hbk (by omega))))) ?_)
  rintro _ _ _ _ ⟨rfl, rfl, rfl⟩
  refine cX (jH rfl (qb ?_))
  refine qx (p := ¬(((a.getD k [])) = ((b.getD k [])))) rfl (fun h3 => ?_) (fun h3 => ?_)
  ·refine qc (qa (qf (.bool (false)) rfl (qb (qv (qF (ql (ql (qF (ql (qp (L' := L) [.bool (false)] (.bool (false)) (.tmp rfl .nil) rfl rF rF sR ?_))))))))))
   exact ⟨(vB (decide_eq_false (fun e => by subst e; simp at *))), rfl, rfl⟩
  refine qw (qa (qd (ii ((k : Int))) rfl (cX (qN (((k + 1 : Nat) : Int)) rfl rfl (by omega) (by omega) (qf (ii (((k + 1 : Nat) : Int))) rfl (qb ?_))))))
  exact ⟨k + 1, _, FLe.refl _, rF, ⟨rfl, rfl, rfl, ⟨⟩⟩, sR, ⟨rfl, (by (try dsimp only) <;> omega), (fun i hi => (Nat.lt_or_ge i k).elim (fun h => hall i h) (fun h => by obtain rfl : i = k := (by omega); first | assumption | exact Classical.not_not.1 (by assumption)))⟩, (by omega)⟩
 refine jb (qo (qo (qI (qc (qa (qf (.bool (true)) rfl (qb (qv (qp (L' := L) [.bool (true)] (.bool (true)) (.tmp rfl .nil) rfl rF rF sR ?_)))))))))
 exact ⟨(vB (decide_eq_true (ext_any ([] : List Int) (by omega) (fun i hi => hall i (by omega))))), rfl, rfl⟩

/- laws.heldInt64SS -/
theorem heldInt64SS_spec {F : FH} {L : List HP} {xv : Value} {x : List (List Int)} (hx : RowsF F xv x) {z : Int} (hzb : 0 ≤ z ∧ z + ((x.flatMap flatRow).length : Int) ≤ 9000000000) (hxl : x.length ≤ 4000000) :
    Does prog 199 [xv, ii (z)] F (L) (fun v F' L' => (ii (heldF (x.flatMap flatRow) z) : Value) = v ∧ F = F' ∧ L = L') := by
 refine qz func199 rfl rfl rfl (qc (qa (qf (ii (0)) rfl (qb (qc (qc (qa (qf (ii (0)) rfl (qb (qG (jc (α := Nat) (fun k => [(0, xv), (1, ii (heldF ((x.take k).flatMap flatRow) z)), (5, ii ((k : Int)))]) (fun k => L) (fun k F' => F = F' ∧ (k ≤ x.length) ∧ (0 ≤ heldF ((x.take k).flatMap flatRow) z)) (fun k => x.length - k) 0 ⟨rfl, (show Value.int .i64 z = ii (heldF ((x.take 0).flatMap flatRow) z) from congrArg (Value.int .i64) (by simp [heldF_nil])), rfl, ⟨⟩⟩ sR ⟨rfl, (by (try dsimp only) <;> omega), (by simp [heldF_nil]; omega)⟩ ?_)))))))))))
 rintro k rE _ _ ⟨rfl, hk, hnn⟩
 show X _ _ _ _ (envs [(0, xv), (1, ii (heldF ((x.take k).flatMap flatRow) z)), (5, ii ((k : Int)))] rE) _ (L)
 have hhp := heldF_pos (a := (x.take k).flatMap flatRow) (k := z) (by omega)
 have htl := fun (h : k < x.length) => flat_take_le (f := flatRow) (l := x) ([] : List Int) h
 have hnx := fun (h : k < x.length) => held_next (f := flatRow) (l := x) (k := k) ([] : List Int) hzb.1 h (by omega)
 have hsx : k < x.length → (flatRow (x.getD k [])).length = (x.getD k []).length := fun _ => rfl
 have hun : k < x.length → heldF (flatRow (x.getD k [])) (heldF ((x.take k).flatMap flatRow) z) = heldF (x.getD k []) (heldF ((x.take k).flatMap flatRow) z) := fun _ => rfl
 refine qc (qc (qa (qd (ii ((k : Int))) rfl (qd (xv) rfl (cX (qA qs rfl hx.slv (cX (qT rfl rfl (qb ?_)))))))))
 refine qx (p := (k : Int) < (x.length : Int)) rfl (fun h1 => ?_) (fun h1 => ?_)
 ·refine qw (qc (qG (qc (qa (qd (xv) rfl (qd (ii ((k : Int))) rfl (cX (qy k qs qt rfl rfl rfl hx.slv (by omega) (Nat.mul_one _) ?_))))))))
  obtain ⟨a1, ha1, hr1⟩ := hx.rd (i := k) (by omega)
  refine cX (qh qM rfl (hr1 _) (qd (ii (heldF ((x.take k).flatMap flatRow) z)) rfl (cX (qn (args := [a1, ii (heldF ((x.take k).flatMap flatRow) z)]) call198 rfl (heldInt64S_spec (z := heldF ((x.take k).flatMap flatRow) z) ha1 (hzb := (by first | assumption | rfl | omega | simp))) ?_))))
  rintro _ _ _ _ ⟨rfl, rfl, rfl⟩
  refine qf (ii (heldF ((x.getD k [])) (heldF ((x.take k).flatMap flatRow) z))) rfl (qb (qc (qa (qd (ii (heldF ((x.getD k [])) (heldF ((x.take k).flatMap flatRow) z))) rfl (cX (qT rfl rfl (qb ?_)))))))
  refine qx (p := (heldF ((x.getD k [])) (heldF ((x.take k).flatMap flatRow) z) : Int) < 0) rfl (fun h2 => ?_) (fun h2 => ?_)
  ·refine qc (qa (qf (ii (-1)) rfl (qb (qv (qF (ql (ql (qF (ql (qp (L' := L) [ii (-1)] (ii (-1)) (.tmp rfl .nil) rfl rF rF sR ?_))))))))))
   exact ⟨(vI (by exact held_fail (k := k) ([] : List Int) hzb.1 (by omega) (by rw [hnx (by omega), hun (by omega)]; omega))), rfl, rfl⟩
  refine qw (qa (qd (ii ((k : Int))) rfl (cX (qN (((k + 1 : Nat) : Int)) rfl rfl (by omega) (by omega) (qf (ii (((k + 1 : Nat) : Int))) rfl (qb ?_))))))
  exact ⟨k + 1, _, FLe.refl _, rF, ⟨rfl, (vI (by rw [hnx (by omega), hun (by omega)])), rfl, ⟨⟩⟩, sR, ⟨rfl, (by (try dsimp only) <;> omega), (by (try dsimp only); rw [hnx (by omega), hun (by omega)]; omega)⟩, (by omega)⟩
 refine jb (qo (qo (qI (qc (qa (qd (ii (heldF ((x.take k).flatMap flatRow) z)) rfl (qf (ii (heldF ((x.take k).flatMap flatRow) z)) rfl (qb (qv (qp (L' := L) [ii (heldF ((x.take k).flatMap flatRow) z)] (ii (heldF ((x.take k).flatMap flatRow) z)) (.tmp rfl .nil) rfl rF rF sR ?_))))))))))
 exact ⟨(vI (by rw [List.take_of_length_le (by omega)])), rfl, rfl⟩

/- spec.SubAt -/
theorem sSubAt_spec {F : FH} {L : List HP} {arv : Value} {ar : List Int} (har : IntsF F arv ar) {tv : Value} {t : List Int} (ht : IntsF F tv t) {p : Int} (hla : ar.length ≤ 4000000) (hlt : t.length ≤ 4000000) :
    Does prog 350 [.agg #[arv], tv, ii (p)] F (L) (fun v F' L' => ∃ (a : Value), (a : Value) = v ∧ (IntsF F' a (if posOk ar t p = true then sub ar t p.toNat else [])) ∧ L = L') := by
 refine qz func350 rfl rfl rfl (qc (qa (cX (qW [arv] rfl rfl ?_))))
 intro b1
 refine qf (sN) rfl (qb (qc (qc (qa (cX (qq [arv] jq qX rfl rfl (Rd.ownN [] rfl rfl) (qd (tv) rfl (cX (qn (args := [.agg #[arv], tv]) call202 rfl (sTermOk_spec har ht (hla := (by first | assumption | rfl | omega | simp)) (hlt := (by first | assumption | rfl | omega | simp))) ?_)))))))))
 rintro _ _ _ _ ⟨rfl, rfl, rfl⟩
 refine cX (jx rfl (qd (.bool (!(termOk ar t))) rfl ?_))
 by_cases h1 : (!(termOk ar t)) = true
 ·refine qE (t := 11) rfl (vB h1) (qE (t := 11) rfl (vB h1) (qE (t := 11) rfl (vB h1) (qE (t := 11) rfl (vB h1) (cX (jk (.bool (true)) (vB h1) rfl (qb (X.condT rfl (qc (qa (cX (qL (s := 1) [] [ii (0)] [] qg qJ jC rfl (by decide) rfl CellsAre.nil rfl ?_)))))))))))
  intro v1 hv1
  refine qf (v1) rfl (qb ?_)
  show X _ _ _ _ _ _ (intsH 2 v1 ([] : List Int) :: cellsH b1 [arv] 36 :: L)
  refine jl [] _ _ rfl (fun F1 le1 hz1 => ?_)
  replace har := har.mono le1
  replace ht := ht.mono le1
  have hf1 : IntsF F1 v1 ([]) := intsH.fz (xs := []) hz1.fz
  refine qv (ql (qp (L' := L) [v1] (v1) (.tmp rfl .nil) rfl le1 rF (sD sR) ?_))
  exact ⟨_, rfl, by rw [if_neg (by rw [posOk_iff]; simp_all <;> omega)]; exact hf1, rfl⟩
 rw [Bool.not_eq_true] at h1
 refine qu (t := 11) rfl (vB h1) (qr (tv) rfl (qu (t := 11) rfl (vB h1) (qr (ii (p)) rfl (qu (t := 11) rfl (vB h1) (qn (args := [tv, ii (p)]) call108 rfl (l1There_spec (n := p) ht (hbd := (by first | assumption | rfl | omega | simp))) ?_)))))
 rintro _ _ _ _ ⟨rfl, rfl, rfl⟩
 refine qu (t := 11) rfl (vB h1) (jH rfl (cX (ja (.bool (decide (¬(0 ≤ p ∧ p < (t.length : Int))))) (vB h1) rfl (qb ?_))))
 refine qx (p := ¬(0 ≤ p ∧ p < (t.length : Int))) rfl (fun h2 => ?_) (fun h2 => ?_)
 ·refine qc (qa (cX (qL (s := 1) [] [ii (0)] [] qg qJ jC rfl (by decide) rfl CellsAre.nil rfl ?_)))
  intro v2 hv2
  refine qf (v2) rfl (qb ?_)
  show X _ _ _ _ _ _ (intsH 2 v2 ([] : List Int) :: cellsH b1 [arv] 36 :: L)
  refine jl [] _ _ rfl (fun F2 le2 hz2 => ?_)
  replace har := har.mono le2
  replace ht := ht.mono le2
  have hf2 : IntsF F2 v2 ([]) := intsH.fz (xs := []) hz2.fz
  refine qv (ql (qp (L' := L) [v2] (v2) (.tmp rfl .nil) rfl le2 rF (sD sR) ?_))
  exact ⟨_, rfl, by rw [if_neg (by rw [posOk_iff]; simp_all <;> omega)]; exact hf2, rfl⟩
 refine qw (qc (qa ?_))
 have ho : termOk ar t = true := by simp_all
 have hpz : 0 ≤ p ∧ p < (t.length : Int) := by simp_all
 refine cX (qq [arv] jq qX rfl rfl (Rd.ownN [] rfl rfl) (qd (tv) rfl (qd (ii (p)) rfl (cX (jM <| qn (args := [.agg #[arv], tv, ii (((p).toNat : Nat) : Int)]) call150 (by rw [show (((p).toNat : Nat) : Int) = p from by omega]; rfl) (l1Sub_spec (p := (p).toNat) har ht (ho := (by first | assumption | rfl | omega | simp)) (hp := (by first | assumption | rfl | omega | simp))) ?_)))))
 rintro v3 _ _ _ ⟨rfl, hs1, rfl⟩
 refine ⟨_, _, rfl, fun F3 le3 hz3 => ?_⟩
 have hf3 : IntsF F3 v3 ((sub ar t ((p).toNat))) := intsH.fz (xs := (sub ar t ((p).toNat))) hz3.fz
 refine qf (v3) rfl (qb (qv (qp (L' := L) [v3] (v3) (.tmp rfl .nil) rfl le3 rF (sD sR) ?_)))
 exact ⟨_, rfl, by rw [if_pos (posOk_iff.2 ⟨ho, hpz⟩)]; exact hf3, rfl⟩

/- impl.redexSteps -/
theorem redexSteps_spec {F : FH} {L : List HP} {arv : Value} {ar : List Int} (har : IntsF F arv ar) {rsv : Value} {rs : List (List Int × List Int)} (hrs : PairsF F rsv rs) {tv : Value} {t : List Int} (ht : IntsF F tv t) :
    Does prog 315 [.agg #[arv, rsv], tv] F (L) (fun v F' L' => ∃ (bt bs : Nat), (.func (.func 361) #[] #[ptr bt 0, ptr bs 0] : Value) = v ∧ FzC F' bt [tv] ∧ FzC F' bs [arv, rsv] ∧ L = L') := by
 refine qz func315 rfl rfl rfl (qc (qa (cX (qW [arv, rsv] rfl rfl ?_))))
 intro b1
 refine cX (qW [tv] rfl (cells_one (qB ht)) ?_)
 intro b2
 refine qf (.nilFunc) rfl (qb (qc (qa (cX (XOp.makeFuncL [] [ptr b2 0, ptr b1 0] rfl rfl (qf (.func (.func 361) #[] #[ptr b2 0, ptr b1 0]) rfl (qb (X.freeze [] _ _ rfl (fun F1 le1 hz1 => ?_)))))))))
 have hf1 : FzC F1 b2 [tv] := Fz.cells hz1
 refine X.freeze [] _ _ rfl (fun F2 le2 hz2 => ?_)
 replace hf1 := hf1.mono le2
 have hf2 : FzC F2 b1 [arv, rsv] := Fz.cells hz2
 refine qv (qp (L' := L) [.func (.func 361) #[] #[ptr b2 0, ptr b1 0]] (.func (.func 361) #[] #[ptr b2 0, ptr b1 0]) (.tmp rfl .nil) rfl (qm le1 le2) rF sR ?_)
 exact ⟨_, _, rfl, hf1, hf2, rfl⟩

/- impl.redexSteps$1 -/
theorem redexIt_spec {F : FH} {L : List HP} {l bo bl bt bs : Nat} {R : Loop} {arv : Value} {ar : List Int} (har : IntsF F arv ar) {rsv : Value} {rs : List (List Int × List Int)} (hrs : PairsF F rsv rs) {tv : Value} {t : List Int} (ht : IntsF F tv t) (hbt : FzC F bt [tv]) (hbs : FzC F bs [arv, rsv]) (hsys : sysOk ar rs = true) (ho : termOk ar t = true) (hyes : ∀ (Fy : FH) (sv : Value) (ss : List StepT) (cs : List Value) (m : Nat) (lb : Bool) (i j : Int) (tov : Value) (to : List Int), F ≤ Fy → IsSl sv → StepsC Fy cs ss → m = ss.length → ss.length ≤ 4000000 → IntsF Fy tov to → Yld prog l [.agg #[.int .i64 i, .int .i64 j, tov], .bool true] Fy (objH l (.loop R) :: cellsH bo [sv] 43 :: slH 192 3 sv m cs :: cellsH bl [.bool (lb)] 4 :: L) (fun v F' L' => .bool true = v ∧ Fy = F' ∧ ∃ sw, IsSl sw ∧ objH l (.loop R) :: cellsH bo [sw] 43 :: slH 192 3 sw (m + 1) (cs ++ [.int .i64 i, .int .i64 j, tov]) :: cellsH bl [.bool (lb)] 4 :: L = L')) (hno : ∀ (Fy : FH) (sv : Value) (cs : List Value) (m : Nat) (lb : Bool) (i j : Int) (tov : Value), F ≤ Fy → IsSl sv → IsSl tov → Yld prog l [.agg #[.int .i64 i, .int .i64 j, tov], .bool false] Fy (objH l (.loop R) :: cellsH bo [sv] 43 :: slH 192 3 sv m cs :: cellsH bl [.bool (lb)] 4 :: L) (fun v F' L' => .bool true = v ∧ Fy = F' ∧ objH l (.loop R) :: cellsH bo [sv] 43 :: slH 192 3 sv m cs :: cellsH bl [.bool (true)] 4 :: L = L')) :
    Does prog 361 [(.func (.yield l) #[] #[]), ptr bt 0, ptr bs 0] F (objH l (.loop R) :: cellsH bo [sN] 43 :: cellsH bl [.bool (false)] 4 :: L) (fun v F' L' => ∃ (sv : Value) (cs : List Value) (Ls : List HP), IsSl sv ∧ StepsC F' cs (stepsL ar rs t) ∧ DeepL 3 (StepO 2) cs (stepsL ar rs t) Ls ∧ Fresh F F' (star Ls) ∧ objH l (.loop R) :: cellsH bo [sv] 43 :: slH 192 3 sv ((stepsL ar rs t).length) cs :: cellsH bl [.bool (longL ar rs t)] 4 :: L = L') := by
 refine qz func361 rfl rfl rfl ?_
 have hnn := yb ht (by have := termOk_len ho; omega)
 have htl := termOk_len ho
 have hrl := (sysOk_iff.1 hsys).2.1
 have hsig := (sysOk_iff.1 hsys).1
 have hsl := sigOk_spec hsig
 refine qc (qa (cX (qh qM rfl (FzC.rd1 hbt rfl) (cX (qA qg rfl ht.slv (qd (ii (0)) rfl (qb (qG (jc (α := Nat × Value × List StepT × List Value × List HP × Nat × Bool × FH) (fun xQ => [(0, (.func (.yield l) #[] #[])), (1, ptr bt 0), (2, ptr bs 0), (9, tv), (10, ii ((t.length : Int))), (11, ii (((xQ.1 : Nat) : Int)))]) (fun xQ => slH 192 3 xQ.2.1 xQ.2.2.2.2.2.1 xQ.2.2.2.1 :: objH l (.loop R) :: cellsH bo [xQ.2.1] 43 :: cellsH bl [.bool (xQ.2.2.2.2.2.2.1)] 4 :: L) (fun xQ F' => xQ.2.2.2.2.2.2.2 = F' ∧ F ≤ xQ.2.2.2.2.2.2.2 ∧ (xQ.1 ≤ t.length) ∧ (IsSl xQ.2.1) ∧ (StepsC xQ.2.2.2.2.2.2.2 xQ.2.2.2.1 xQ.2.2.1) ∧ (xQ.2.2.2.2.2.1 = xQ.2.2.1.length) ∧ (DeepL 3 (StepO 2) xQ.2.2.2.1 xQ.2.2.1 xQ.2.2.2.2.1) ∧ (Fresh F xQ.2.2.2.2.2.2.2 (star xQ.2.2.2.2.1)) ∧ (xQ.2.2.1 = stepsTo ar rs t xQ.1) ∧ (xQ.2.2.2.2.2.2.1 = longTo ar rs t xQ.1)) (fun xQ => t.length - xQ.1) (0, sN, [], [], [], 0, false, F) ⟨rfl, rfl, rfl, rfl, rfl, rfl, ⟨⟩⟩ (qQ (Sub.addNil 192 3 _ _) (sC (sC (sC (sC sR))))) ⟨rfl, FLe.refl _, (by (try dsimp only) <;> omega), (⟨_, _, _, rfl⟩), (CO.nil), (rfl), (DeepL.nil), (Fresh.nilL), (rfl), (rfl)⟩ ?_)))))))))
 rintro ⟨k, sv, ss, cs, Ls, m, lb, G1⟩ rE _ _ ⟨rfl, leG, hk, hsv, hC, hm, hD, hZ, hss, hlb⟩
 show X _ _ _ _ (envs [(0, (.func (.yield l) #[] #[])), (1, ptr bt 0), (2, ptr bs 0), (9, tv), (10, ii ((t.length : Int))), (11, ii ((k : Int)))] rE) _ (slH 192 3 sv m cs :: objH l (.loop R) :: cellsH bo [sv] 43 :: cellsH bl [.bool (lb)] 4 :: L)
 replace leG : F ≤ G1 := leG
 dsimp only at hk hsv hC hm hD hZ hss hlb
 have hsl1 := stepsTo_len (ar := ar) (t := t) (rs := rs) hrl k
 have hZo := hZ
 have hss0 := hss
 have hlb0 := hlb
 have leG1 := leG
 replace har := har.mono leG1
 replace hrs := hrs.mono leG1
 replace ht := ht.mono leG1
 replace hbt := hbt.mono leG1
 replace hbs := hbs.mono leG1
 refine qc (qa (cX (qT rfl rfl (qb (qc ?_)))))
 refine qx (p := (k : Int) < (t.length : Int)) rfl (fun h1 => ?_) (fun h1 => ?_)
 ·refine qw (qc (qG (qc (qa (qd (ii ((k : Int))) rfl (cX (qy k qg qJ rfl rfl rfl ht.slv (by omega) (Nat.mul_one _) (cX (qh jn rfl (ht.rd (by omega)) (qf (ii ((k : Int))) rfl (qf (ii (t.getD k 0)) rfl (qb (qc (qa (cX (qk (1) qY rfl yc (by decide) rfl rfl (cX (qh isAgg37 rfl (FzC.rd1 hbs rfl) (cX (qA jj rfl hrs.slv ?_))))))))))))))))))))
  refine qd (ii (0)) rfl (qb (qG (jc (α := Nat × Value × List StepT × List Value × List HP × Nat × Bool × FH) (fun xQ => [(0, (.func (.yield l) #[] #[])), (1, ptr bt 0), (2, ptr bs 0), (4, ii ((k : Int))), (5, ii (t.getD k 0)), (9, tv), (10, ii ((t.length : Int))), (11, ii ((k : Int))), (18, ii ((rs.length : Int))), (19, ii (((xQ.1 : Nat) : Int)))]) (fun xQ => slH 192 3 xQ.2.1 xQ.2.2.2.2.2.1 xQ.2.2.2.1 :: objH l (.loop R) :: cellsH bo [xQ.2.1] 43 :: cellsH bl [.bool (xQ.2.2.2.2.2.2.1)] 4 :: L) (fun xQ F' => xQ.2.2.2.2.2.2.2 = F' ∧ G1 ≤ xQ.2.2.2.2.2.2.2 ∧ (xQ.1 ≤ rs.length) ∧ (IsSl xQ.2.1) ∧ (StepsC xQ.2.2.2.2.2.2.2 xQ.2.2.2.1 xQ.2.2.1) ∧ (xQ.2.2.2.2.2.1 = xQ.2.2.1.length) ∧ (DeepL 3 (StepO 2) xQ.2.2.2.1 xQ.2.2.1 xQ.2.2.2.2.1) ∧ (Fresh F xQ.2.2.2.2.2.2.2 (star xQ.2.2.2.2.1)) ∧ (xQ.2.2.1 = stepsTo ar rs t k ++ stepsRow ar rs t k xQ.1) ∧ (xQ.2.2.2.2.2.2.1 = (longTo ar rs t k || longRow ar rs t k xQ.1))) (fun xQ => rs.length - xQ.1) (0, sv, ss, cs, Ls, m, lb, G1) ⟨rfl, rfl, rfl, rfl, rfl, rfl, rfl, rfl, rfl, rfl, ⟨⟩⟩ (sC (sC (sC (sC sR)))) ⟨rfl, FLe.refl _, (by (try dsimp only) <;> omega), (hsv), (hC), (hm), (hD), (hZ), (by (try dsimp only); rw [hss0]; simp [stepsRow]), (by (try dsimp only); rw [hlb0]; simp [longRow])⟩ ?_)))
  rintro ⟨r, sv, ss, cs, Ls, m, lb, G2⟩ rE _ _ ⟨rfl, leG, hr, hsvi, hCi, hmi, hDi, hZi, hssi, hlbi⟩
  show X _ _ _ _ (envs [(0, (.func (.yield l) #[] #[])), (1, ptr bt 0), (2, ptr bs 0), (4, ii ((k : Int))), (5, ii (t.getD k 0)), (9, tv), (10, ii ((t.length : Int))), (11, ii ((k : Int))), (18, ii ((rs.length : Int))), (19, ii ((r : Int)))] rE) _ (slH 192 3 sv m cs :: objH l (.loop R) :: cellsH bo [sv] 43 :: cellsH bl [.bool (lb)] 4 :: L)
  replace leG : G1 ≤ G2 := leG
  dsimp only at hr hsvi hCi hmi hDi hZi hssi hlbi
  have hsl2 := stepsRow_len (ar := ar) (rs := rs) (t := t) (p := k) r
  have hssl : ss.length ≤ 1000 := by rw [hssi, List.length_append]; omega
  have leG2 := leG
  replace har := har.mono leG2
  replace hrs := hrs.mono leG2
  replace ht := ht.mono leG2
  replace hbt := hbt.mono leG2
  replace hbs := hbs.mono leG2
  replace hC := hC.mono leG2
  refine qc (qa (cX (qT rfl rfl (qb (qc ?_)))))
  refine qx (p := (r : Int) < (rs.length : Int)) rfl (fun h2 => ?_) (fun h2 => ?_)
  ·refine qw (qc (qG (qc (qa (qd (ii ((r : Int))) rfl (qf (ii ((r : Int))) rfl (qb (qc (qc (qa (qd (ii (t.getD k 0)) rfl (cX (qT rfl rfl (qd (.bool (decide ((t.getD k 0 : Int) < 0))) rfl ?_))))))))))))))
   by_cases h3 : (t.getD k 0 : Int) < 0
   ·have hone := one_none (isRedex_var (p := k) (r := r) hsys ho (by omega) (by omega) (show r < rs.length by omega))
    refine qE (t := 24) rfl (vT h3) (qE (t := 24) rfl (vT h3) (qE (t := 24) rfl (vT h3) (qE (t := 24) rfl (vT h3) (qE (t := 24) rfl (vT h3) (qE (t := 24) rfl (vT h3) (cX (jk (.bool (true)) (vT h3) rfl (qb (X.condT rfl (jb (qo (qI ?_))))))))))))
    refine qa (cX (qN (((r + 1 : Nat) : Int)) rfl rfl (by omega) (by omega) (qd (ii (((r + 1 : Nat) : Int))) rfl (qb ?_))))
    exact ⟨(r + 1, sv, ss, cs, Ls, m, lb, G2), _, leG2, rF, ⟨rfl, rfl, rfl, rfl, rfl, rfl, rfl, rfl, rfl, rfl, ⟨⟩⟩, (sC (sC (sC (sC sR)))), ⟨rfl, leG2, (by (try dsimp only) <;> omega), (hsvi), (hCi), (by (try dsimp only); (try rw [List.length_append, List.length_singleton]); omega), (hDi), (hZi), (by (try dsimp only); rw [hssi, stepsRow_succ, hone.1]; simp), (by (try dsimp only); rw [longRow_succ, hone.2]; (try rw [hlbi]); simp)⟩, (by omega)⟩
   refine qu (t := 24) rfl (vF h3) (qq [arv, rsv] jL jy rfl rfl (FzC.rd hbs rfl) (qu (t := 24) rfl (vF h3) (qh qM rfl (FzC.rd1 hbt rfl) (qu (t := 24) rfl (vF h3) (qr (ii ((k : Int))) rfl (qu (t := 24) rfl (vF h3) (qr (ii ((r : Int))) rfl (qu (t := 24) rfl (vF h3) (qn (args := [.agg #[arv, rsv], tv, ii (k : Int), ii (r : Int)]) call320 rfl (redex_spec (p := k) (r := r) har hrs ht (hsys := (by first | assumption | rfl | omega | simp)) (ho := (by first | assumption | rfl | omega | simp)) (hp := (by first | assumption | rfl | omega | simp)) (hr := (by first | assumption | rfl | omega | simp))) ?_)))))))))
   rintro _ _ _ _ ⟨rfl, rfl, rfl⟩
   refine qu (t := 24) rfl (vF h3) (jx rfl (cX (ja (.bool (!(isRedex ar rs t k r))) (vF h3) rfl (qb ?_))))
   refine ya (t := !(isRedex ar rs t k r)) rfl (fun h4 => ?_) (fun h4 => ?_)
   ·have hone := one_none (show isRedex ar rs t k r = false by simpa using h4)
    refine jb (qo (qI (qa (cX (qN (((r + 1 : Nat) : Int)) rfl rfl (by omega) (by omega) (qd (ii (((r + 1 : Nat) : Int))) rfl (qb ?_)))))))
    exact ⟨(r + 1, sv, ss, cs, Ls, m, lb, G2), _, leG2, rF, ⟨rfl, rfl, rfl, rfl, rfl, rfl, rfl, rfl, rfl, rfl, ⟨⟩⟩, (sC (sC (sC (sC sR)))), ⟨rfl, leG2, (by (try dsimp only) <;> omega), (hsvi), (hCi), (by (try dsimp only); (try rw [List.length_append, List.length_singleton]); omega), (hDi), (hZi), (by (try dsimp only); rw [hssi, stepsRow_succ, hone.1]; simp), (by (try dsimp only); rw [longRow_succ, hone.2]; (try rw [hlbi]); simp)⟩, (by omega)⟩
   have hrx : isRedex ar rs t k r = true := by simpa using h4
   refine qw (qc (qa (cX (qq [arv, rsv] jL jy rfl rfl (FzC.rd hbs rfl) (cX (qh qM rfl (FzC.rd1 hbt rfl) (qd (ii ((k : Int))) rfl (qd (ii ((r : Int))) rfl (cX (qn (args := [.agg #[arv, rsv], tv, ii (k : Int), ii (r : Int)]) call249 rfl (step_spec (p := k) (r := r) har hrs ht (hsys := (by first | assumption | rfl | omega | simp)) (ho := (by first | assumption | rfl | omega | simp)) (hp := (by first | assumption | rfl | omega | simp)) (hr := (by first | assumption | rfl | omega | simp))) ?_))))))))))
   rintro _ F1 _ le1 ⟨x1, rfl, hr1, hr2, hr3, rfl⟩
   replace hC := hC.mono le1
   replace hCi := hCi.mono le1
   refine qd (.tuple #[x1, .bool ((stepL ar rs t k r).isSome)]) rfl (cX (qU (x1) rfl rfl (cX (qU (.bool ((stepL ar rs t k r).isSome)) rfl rfl (qf (x1) rfl (qf (.bool ((stepL ar rs t k r).isSome)) rfl (qb (qc (X.ofI (by kernel_rfl) (XI.region (jz (qr ((.func (.yield l) #[] #[])) rfl (jz (qr (ii ((k : Int))) rfl ?_))))))))))))))
   refine jz (qr (ii ((r : Int))) rfl (jz (qr (x1) rfl (jz (jf [ii ((k : Int)), ii ((r : Int)), x1] [ii (0), ii (0), sN] [(0, 1), (1, 1), (2, 1)] [(0, [ii ((k : Int))]), (1, [ii ((r : Int))]), (2, [x1])] jp jE rfl (.cons rfl qJ (.cons rfl qJ (.cons rfl qt PlacesAre.nil))) rfl (.cons rfl (.cons rfl (.cons (cells_one (qB hr1)) CellsAre.nil))) (jz (qr (.bool ((stepL ar rs t k r).isSome)) rfl ?_)))))))
   by_cases h5 : ((stepL ar rs t k r).isSome) = true
   ·refine XIL.yield (k := l) (args := [.agg #[ii ((k : Int)), ii ((r : Int)), x1], .bool true]) rfl (by rw [← h5]; rfl) (Yld.weaken (qQ (qK (A := [_, _, _])) (qQ (qK (A := [_])) (qQ (qK (A := [_, _, _])) (qQ (qK (A := [_, _, _])) (sC (sC (sC (sC sR)))))))) ?_)
    have hone := one_some h5
    refine (hyes _ _ _ _ _ _ _ _ _ _ (qm (qm leG1 leG2) le1) hsvi hCi hmi (by omega) hr1).mono ?_
    rintro _ _ _ _ ⟨rfl, rfl, sw1, hs1, rfl⟩
    have hc1 := StepsC.snoc hCi (i := (k : Int)) (j := (r : Int)) hr1
    show XIL _ _ _ _ _ _ _ _ _ (objH l (.loop R) :: cellsH bo [sw1] 43 :: slH 192 3 sw1 (m + 1) ((cs ++ [ii ((k : Int)), ii ((r : Int)), x1])) :: cellsH bl [.bool (lb)] 4 :: L)
    refine jz (jx rfl (XIL.nil (X.condF rfl (qw (qa (cX (qN (((r + 1 : Nat) : Int)) rfl rfl (by omega) (by omega) (qd (ii (((r + 1 : Nat) : Int))) rfl (qb ?_)))))))))
    exact ⟨(r + 1, sw1, (ss ++ [((k : Int), (r : Int), (stepL ar rs t k r).getD [])]), (cs ++ [ii ((k : Int)), ii ((r : Int)), x1]), Ls ++ [intsH 2 x1 ((stepL ar rs t k r).getD [])], m + 1, lb, F1), _, (qm leG2 le1), rF, ⟨rfl, rfl, rfl, rfl, rfl, rfl, rfl, rfl, rfl, rfl, ⟨⟩⟩, (qQ (qK (A := [_, _, _])) (qQ (qK (A := [_, _])) (qQ (qK (A := [_, _])) (qQ (qK (A := [_, _, _])) (sC (sC (sC (sC sR)))))))), ⟨rfl, (qm leG2 le1), (by (try dsimp only) <;> omega), (hs1), (hc1), (by (try dsimp only); (try rw [List.length_append, List.length_singleton]); omega), (DeepL.snoc hDi rfl ⟨_, rfl, rfl⟩), ((Fresh.app hZi (qm leG1 leG2) (Fresh.one hr3) le1)), (by (try dsimp only); rw [hssi, stepsRow_succ, hone.1]; simp), (by (try dsimp only); rw [longRow_succ, hone.2]; (try rw [hlbi]); simp)⟩, (by omega)⟩
   rw [Bool.not_eq_true] at h5
   refine XIL.yield (k := l) (args := [.agg #[ii ((k : Int)), ii ((r : Int)), x1], .bool false]) rfl (by rw [← h5]; rfl) (Yld.weaken (qQ (qK (A := [_, _, _])) (qQ (qK (A := [_])) (qQ (qK (A := [_, _, _])) (qQ (qK (A := [_, _, _])) (sC (sC (sC (sC sR)))))))) ?_)
   have hone := one_long hrx h5
   refine (hno _ _ _ _ _ _ _ _ (qm (qm leG1 leG2) le1) hsvi (qB hr1)).mono ?_
   rintro _ _ _ _ ⟨rfl, rfl, rfl⟩
   show XIL _ _ _ _ _ _ _ _ _ (objH l (.loop R) :: cellsH bo [sv] 43 :: slH 192 3 sv m cs :: cellsH bl [.bool (true)] 4 :: L)
   refine jz (jx rfl (XIL.nil (X.condF rfl (qw (qa (cX (qN (((r + 1 : Nat) : Int)) rfl rfl (by omega) (by omega) (qd (ii (((r + 1 : Nat) : Int))) rfl (qb ?_)))))))))
   exact ⟨(r + 1, sv, ss, cs, Ls, m, true, F1), _, (qm leG2 le1), rF, ⟨rfl, rfl, rfl, rfl, rfl, rfl, rfl, rfl, rfl, rfl, ⟨⟩⟩, (qQ (qK (A := [_, _, _])) (qQ (qK (A := [_, _])) (qQ (qK (A := [_, _])) (qQ (qK (A := [_, _, _])) (sC (sC (sC (sC sR)))))))), ⟨rfl, (qm leG2 le1), (by (try dsimp only) <;> omega), (hsvi), (hCi), (by (try dsimp only); (try rw [List.length_append, List.length_singleton]); omega), (hDi), ((hZi.mono le1)), (by (try dsimp only); rw [hssi, stepsRow_succ, hone.1]; simp), (by (try dsimp only); rw [longRow_succ, hone.2]; (try rw [hlbi]); simp)⟩, (by omega)⟩
  refine jb (qo (qo (qI (qa (cX (qN (((k + 1 : Nat) : Int)) rfl rfl (by omega) (by omega) (qd (ii (((k + 1 : Nat) : Int))) rfl (qb ?_))))))))
  exact ⟨(k + 1, sv, ss, cs, Ls, m, lb, G2), _, (qm leG1 leG2), rF, ⟨rfl, rfl, rfl, rfl, rfl, rfl, ⟨⟩⟩, (sC (sC (sC (sC sR)))), ⟨rfl, (qm leG1 leG2), (by (try dsimp only) <;> omega), (hsvi), (hCi), (hmi), (hDi), (hZi), (by dsimp only; rw [hssi, stepsTo_succ, show r = rs.length from by omega]), (by dsimp only; rw [hlbi, longTo_succ, show r = rs.length from by omega])⟩, (by omega)⟩
 refine jb (qo (qo (qI (id (retEndN (L' := objH l (.loop R) :: cellsH bo [sv] 43 :: slH 192 3 sv m cs :: cellsH bl [.bool (lb)] 4 :: L) [] (.tuple #[]) (by exact .nil) rfl leG1 rF (qQ (qK (A := [_, _, _])) (qQ (qK (A := [_])) (qQ (qK (A := [_, _, _])) (qQ (qK (A := [_, _, _])) (sC (sC (sC (sC sR)))))))) ?_)))))
 have hkl : k = t.length := by omega
 have e1 : stepsL ar rs t = ss := by rw [hss, hkl]; rfl
 have e2 : longL ar rs t = lb := by rw [hlb, hkl]; rfl
 rw [e1, e2]
 subst hm
 exact ⟨sv, cs, Ls, hsv, hC, hD, hZ, rfl⟩

/- impl.stepsFrom -/
set_option maxRecDepth 20000 in
theorem stepsFrom_spec {F : FH} {L : List HP} {arv : Value} {ar : List Int} (har : IntsF F arv ar) {rsv : Value} {rs : List (List Int × List Int)} (hrs : PairsF F rsv rs) {tv : Value} {t : List Int} (ht : IntsF F tv t) (hsys : sysOk ar rs = true) (ho : termOk ar t = true) :
    Does prog 241 [.agg #[arv, rsv], tv] F (L) (fun v F' L' => ∃ (a : Value), (.tuple #[a, .bool (longL ar rs t)] : Value) = v ∧ FrStepsF F F' 2 a (stepsL ar rs t) ∧ L = L') := by
 refine Does.of_XF func241 rfl (by kernel_rfl) rfl ?_
 have hnn := yb ht (by have := termOk_len ho; omega)
 have htl := termOk_len ho
 have hrl := (sysOk_iff.1 hsys).2.1
 have hsig := (sysOk_iff.1 hsys).1
 have hsl := sigOk_spec hsig
 refine XF.seq (qa (cX (qW [arv, rsv] rfl rfl ?_)))
 intro b1
 refine qf (sN) rfl (qf (.bool (false)) rfl (qb (XF.seq (qa (cX (qS [sN] zeroValue43 rfl ?_))))))
 intro b2
 refine qb (XF.seq (qa (cX (qS [.bool (false)] zeroValue4 rfl ?_))))
 intro b3
 refine cX (jw [] _ [.bool (false)] sizeOf4 rfl rfl rfl rfl rfl rfl (qb (XF.ofR (XR.seq (qa (cX (qq [arv, rsv] jL jy rfl rfl (Rd.ownN [_, _] rfl rfl) (qd (tv) rfl (cX (qn (args := [.agg #[arv, rsv], tv]) call315 rfl (redexSteps_spec har hrs ht) ?_))))))))))
 rintro _ F1 _ le1 ⟨x1, x2, rfl, hb1, hb2, rfl⟩
 replace har := har.mono le1
 replace hrs := hrs.mono le1
 replace ht := ht.mono le1
 refine qb (XR.rangeB (gf := 361) (lb := [ptr x1 0, ptr x2 0]) rfl call361 (fun l D R hRs hRp hRps hRa hRb hRz hRg => ?_))
 have hR0 : ({ R with state := .ready, pending := none } : Loop) = R := by
  cases R
  simp only at hRs hRp
  subst hRs hRp
  rfl
 have hyes : ∀ (Fy : FH) (sv : Value) (ss : List StepT) (cs : List Value) (m : Nat) (lb : Bool) (i j : Int) (tov : Value) (to : List Int), F1 ≤ Fy → IsSl sv → StepsC Fy cs ss → m = ss.length → ss.length ≤ 4000000 → IntsF Fy tov to → Yld prog l [.agg #[.int .i64 i, .int .i64 j, tov], .bool true] Fy (objH l (.loop R) :: cellsH b2 [sv] 43 :: slH 192 3 sv m cs :: cellsH b3 [.bool (lb)] 4 :: objH D (.deferred (some [])) :: L) (fun v F' L' => .bool true = v ∧ Fy = F' ∧ ∃ sw, IsSl sw ∧ objH l (.loop R) :: cellsH b2 [sw] 43 :: slH 192 3 sw (m + 1) (cs ++ [.int .i64 i, .int .i64 j, tov]) :: cellsH b3 [.bool (lb)] 4 :: objH D (.deferred (some [])) :: L = L') := by
  intro Fy sv ss cs m lb i j tov to leF hsv hC hm hsb hto
  refine Yld.of_round hRs hRp hRps hRa hRb hRz hRg rfl (by kernel_rfl) (by kernel_rfl) (by kernel_rfl) (XI.slots [(13, .agg #[ii (i), ii (j), tov]), (14, .bool (true)), (6, ptr b2 0), (7, ptr b3 0)] ⟨rfl, rfl, rfl, rfl, ⟨⟩⟩ (fun rE => (XI.seq (XI.region (jz (qS [ii (0), ii (0), sN] jE rfl ?_))))))
  intro b4
  refine jz (qD [] _ [ii (i), ii (j), tov] jd rfl rfl rfl (qi rfl (qi rfl (qi (qC (qB hto)) qH))) rfl rfl rfl (XIL.nil (XI.region (jz (XOp.assign (.bool (true)) rfl (XIL.nil ?_))))))
  refine ⟨cellsH b4 [ii (i), ii (j), tov] 192 :: cellsH b2 [sv] 43 :: slH 192 3 sv m cs :: cellsH b3 [.bool (lb)] 4 :: objH D (.deferred (some [])) :: L, (qQ (qK (A := [_, _, _, _])) (qQ (qK (A := [_, _, _, _])) (qQ (qK (A := [_, _, _, _])) (qQ (qK (A := [_, _, _])) (qQ (qK (A := [_, _, _, _])) (sC (sC (sC (sC (sC sR)))))))))), ?_⟩
  refine XI.block (XI.seq (XI.region (jz (qr (.bool (true)) rfl (XIL.nil (XI.condT rfl (XI.region (jz (qh isAgg43 rfl (Rd.own [_, _] rfl rfl) (jz (qq [ii (i), ii (j), tov] isAgg192 jd rfl rfl (Rd.ownN [_] rfl rfl) (jz (qL (s := 3) [ii (i), ii (j), tov] [ii (0), ii (0), sN] [(0, [ii (i), ii (j), tov])] qV jd jE rfl (by decide) rfl (.cons rfl CellsAre.nil) rfl ?_)))))))))))))
  intro v1 hv1
  refine jz (jQ (m := 1) (bytes := 40) (cs := cs) [_, _, _, _] _ [ii (i), ii (j), tov] qV typeInfo192 rfl rfl rfl rfl rfl rfl rfl (SlV.own [] rfl) rfl (Rd.lit [] rfl) (qi rfl (qi rfl (qi (qC (qB hto)) qH))) (by (try simp only [List.length_append, List.length_nil, List.length_cons, List.length_singleton]); omega) (by (try simp only [List.length_append, List.length_nil, List.length_cons, List.length_singleton]); omega) ?_)
  intro v2 hs1 hn1 hm1
  have hc1 := StepsC.snoc hC (i := i) (j := j) hto
  refine jz (jw [_, _, _] _ [v2] jR rfl rfl (qC hs1) rfl rfl rfl (XIL.nil ?_))
  refine ⟨rfl, ?_⟩
  refine ⟨cellsH b2 [v2] 43 :: slH 192 3 v2 ((m) + 1) (cs ++ [ii (i), ii (j), tov]) :: cellsH b3 [.bool (lb)] 4 :: objH D (.deferred (some [])) :: L, (sD (sC (sD (sC (sC (sC sR)))))), ?_⟩
  rw [hR0]
  exact ⟨rfl, rfl, _, hs1, rfl⟩
 have hno : ∀ (Fy : FH) (sv : Value) (cs : List Value) (m : Nat) (lb : Bool) (i j : Int) (tov : Value), F1 ≤ Fy → IsSl sv → IsSl tov → Yld prog l [.agg #[.int .i64 i, .int .i64 j, tov], .bool false] Fy (objH l (.loop R) :: cellsH b2 [sv] 43 :: slH 192 3 sv m cs :: cellsH b3 [.bool (lb)] 4 :: objH D (.deferred (some [])) :: L) (fun v F' L' => .bool true = v ∧ Fy = F' ∧ objH l (.loop R) :: cellsH b2 [sv] 43 :: slH 192 3 sv m cs :: cellsH b3 [.bool (true)] 4 :: objH D (.deferred (some [])) :: L = L') := by
  intro Fy sv cs m lb i j tov leF hsv htv
  refine Yld.of_round hRs hRp hRps hRa hRb hRz hRg rfl (by kernel_rfl) (by kernel_rfl) (by kernel_rfl) (XI.slots [(13, .agg #[ii (i), ii (j), tov]), (14, .bool (false)), (6, ptr b2 0), (7, ptr b3 0)] ⟨rfl, rfl, rfl, rfl, ⟨⟩⟩ (fun rE => (XI.seq (XI.region (jz (qS [ii (0), ii (0), sN] jE rfl ?_))))))
  intro b5
  refine jz (qD [] _ [ii (i), ii (j), tov] jd rfl rfl rfl (qi rfl (qi rfl (qi (qC htv) qH))) rfl rfl rfl (XIL.nil (XI.region (jz (XOp.assign (.bool (false)) rfl (XIL.nil ?_))))))
  refine ⟨cellsH b5 [ii (i), ii (j), tov] 192 :: cellsH b2 [sv] 43 :: slH 192 3 sv m cs :: cellsH b3 [.bool (lb)] 4 :: objH D (.deferred (some [])) :: L, (qQ (qK (A := [_, _, _, _])) (qQ (qK (A := [_, _, _, _])) (qQ (qK (A := [_, _, _, _])) (qQ (qK (A := [_, _, _])) (qQ (qK (A := [_, _, _, _])) (sC (sC (sC (sC (sC sR)))))))))), ?_⟩
  refine XI.block (XI.seq (XI.region (jz (qr (.bool (false)) rfl (XIL.nil (XI.condF rfl (XI.region (jz (jw [_, _, _, _] _ [.bool (true)] sizeOf4 rfl rfl rfl rfl rfl rfl (XIL.nil ?_))))))))))
  refine ⟨rfl, ?_⟩
  refine ⟨cellsH b2 [sv] 43 :: slH 192 3 sv m cs :: cellsH b3 [.bool (true)] 4 :: objH D (.deferred (some [])) :: L, (sC (sD (sC (sC (sC sR))))), ?_⟩
  rw [hR0]
  exact ⟨rfl, rfl, rfl⟩
 refine (Does.weaken (qQ (qK (A := [_])) (qQ (qK (A := [_, _])) (qQ (qK (A := [_, _, _])) (qQ (qK (A := [_, _, _])) (sC (sC (sC (sC (sD sR))))))))) (redexIt_spec har hrs ht hb1 hb2 hsys ho hyes hno)).mono ?_
 rintro _ F9 _ le9 ⟨sv, cs, Ls, hsv, hC, hD, hZ, rfl⟩
 refine ⟨R, cellsH b2 [sv] 43 :: slH 192 3 sv ((stepsL ar rs t).length) cs :: cellsH b3 [.bool (longL ar rs t)] 4 :: L, by rw [hRs]; simp, hRp, (qQ (qK (A := [_, _, _])) (qQ (qK (A := [_, _, _])) (qQ (qK (A := [_, _, _])) (qQ (qK (A := [_, _, _, _])) (qQ (qK (A := [_, _, _, _])) (sC (sC (sC (sC (sC sR)))))))))), ?_⟩
 refine XI.seq ?_
 refine XI.draw [objH D (.deferred (some [])), cellsH b2 [sv] 43, slH 192 3 sv ((stepsL ar rs t).length) cs, cellsH b3 [.bool (longL ar rs t)] 4] L 3 [] [[], [], [0]] (phiL [qe sv, qe (.bool (longL ar rs t)), qe sv]) (ownL []) mixed rfl rfl (by kernel_rfl) ?_ ?_
 ·refine pD (fun W R z9 => ?_) ?_
  ·refine qj (qh isAgg43 rfl (Rd.own [_] rfl rfl) ?_)
   exact ⟨rfl, rfl, rfl⟩
  refine pD (fun W R z9 => ?_) ?_
  ·refine qj (qh isAgg4 rfl (Rd.own [_, _, _] rfl rfl) ?_)
   exact ⟨rfl, rfl, rfl⟩
  refine pD (fun W R z9 => ?_) ?_
  ·rw [zA 0 (z9 0 rfl)]
   refine qj (XOp.assign (sv) rfl ?_)
   exact ⟨rfl, rfl, rfl⟩
  exact stepsP.nil
 intro W hphi
 rw [zB 1 2 (hphi 1 (by decide)) (hphi 2 (by decide))]
 show XIL _ _ _ _ _ _ _ _ _ (objH D (.deferred (some [])) :: cellsH b2 [sv] 43 :: slH 192 3 sv ((stepsL ar rs t).length) cs :: cellsH b3 [.bool (longL ar rs t)] 4 :: L)
 refine jz (XOp.assign (.bool (longL ar rs t)) rfl (XIL.nil (XI.freezeF [_, _] _ _ rfl (fun F2 le2 hz1 => ?_))))
 replace hC := hC.mono le2
 have hf1 : StepsF F2 sv ((stepsL ar rs t)) := CO.fz hC (by first | rfl | omega | (rw [List.length_set]; omega) | (simp; done)) hz1.fz
 refine XI.ret (retEndD (L' := L) [sv, .bool (longL ar rs t)] (.tuple #[sv, .bool (longL ar rs t)]) (fun _ _ => (.tmp rfl (.tmp rfl .nil))) rfl (qm (qm le1 le9) le2) rF (sC (sD (sD sR))) ?_)
 exact ⟨_, rfl, ⟨cs, Ls, StepsC.fzx hC rfl hz1.fz, hD, ((hZ.mono le2).base le1)⟩, rfl⟩

/- impl.found$1 -/
theorem found1_spec {F : FH} {L : List HP} {xv : Value} {x : List Int} (hx : IntsF F xv x) {i1 : Int} {i2 : Int} {i3 : Int} {yv : Value} {y : List Int} (hy : IntsF F yv y) {i4 : Int} {uv : Value} {u : List Int} (hu : IntsF F uv u) {bt : Nat} (hzbt : FzC F bt [uv]) (hlu : u.length ≤ 4000000) :
    Does prog 319 [.agg #[xv, ii (i1), ii (i2), ii (i3), yv, ii (i4)], ptr bt 0] F (L) (fun v F' L' => (.bool (decide (x = u)) : Value) = v ∧ F = F' ∧ L = L') := by
 refine qz func319 rfl rfl rfl (qc (qa (cX (qW [xv, ii (i1), ii (i2), ii (i3), yv, ii (i4)] rfl rfl ?_))))
 intro b1
 refine qf (.bool (false)) rfl (qb (qc (qa (cX (qk (0) jZ rfl qt (by decide) rfl rfl (cX (qh qM rfl (Rd.own [] rfl rfl) (cX (qh qM rfl (FzC.rd1 hzbt rfl) (cX (qn (args := [xv, uv]) call236 rfl (Equal_spec hx hu (hbd := (by first | assumption | rfl | omega | (left; simp; done) | (right; simp; done)))) ?_)))))))))))
 rintro _ _ _ _ ⟨rfl, rfl, rfl⟩
 refine qf (.bool (decide (x = u))) rfl (qb (qv (qp (L' := L) [.bool (decide (x = u))] (.bool (decide (x = u))) (.tmp rfl .nil) rfl rF rF (sD sR) ?_)))
 exact ⟨rfl, rfl, rfl⟩

/- slices.IndexFunc[[]impl.reached,impl.reached] -/
theorem IndexFuncFound_spec {F : FH} {L : List HP} {alv : Value} {al : List FoundT} {alcs : List Value} (hal : FoundsF F alv al alcs) {uv : Value} {u : List Int} (hu : IntsF F uv u) {bt : Nat} (hzbt : FzC F bt [uv]) (hlt : al.length ≤ 4000000) (hlu : u.length ≤ 4000000) :
    Does prog 318 [alv, .func (.func 319) #[] #[ptr bt 0]] F (L) (fun v F' L' => (ii (foundI al u) : Value) = v ∧ F = F' ∧ L = L') := by
 refine qz func318 rfl rfl rfl (qc (qa (qf (ii (0)) rfl (qb (qc (qc (qa (qd (alv) rfl (cX (qA jI rfl hal.slv (qd (ii (0)) rfl (qb (qG (jc (α := Nat) (fun k => [(0, alv), (1, .func (.func 319) #[] #[ptr bt 0]), (7, ii ((al.length : Int))), (8, ii ((k : Int)))]) (fun k => L) (fun k F' => F = F' ∧ (k ≤ al.length) ∧ (∀ i, i < k → (EL al i).1 ≠ u)) (fun k => al.length - k) 0 ⟨rfl, rfl, rfl, rfl, ⟨⟩⟩ sR ⟨rfl, (by (try dsimp only) <;> omega), (fun i hi => absurd hi (by omega))⟩ ?_))))))))))))))
 rintro k rE _ _ ⟨rfl, hk, hall⟩
 show X _ _ _ _ (envs [(0, alv), (1, .func (.func 319) #[] #[ptr bt 0]), (7, ii ((al.length : Int))), (8, ii ((k : Int)))] rE) _ (L)
 refine qc (qa (cX (qT rfl rfl (qb (qc ?_)))))
 refine qx (p := (k : Int) < (al.length : Int)) rfl (fun h1 => ?_) (fun h1 => ?_)
 ·refine qw (qc (qG (qc (qa (qd (ii ((k : Int))) rfl (qf (ii ((k : Int))) rfl (qb (qc (qa (qd (.func (.func 319) #[] #[ptr bt 0]) rfl (qd (alv) rfl (qd (ii ((k : Int))) rfl (cX (qy k jI sizeOf194 rfl rfl rfl hal.slv (by omega) rfl ?_))))))))))))))
  obtain ⟨a1, a2, ha1, ha2, hrg1, hq1⟩ := hal.rd (i := k) (by omega)
  refine cX (qq [a1, ii ((al.getD k ([], 0, (0, 0, []), 0)).2.1), ii ((al.getD k ([], 0, (0, 0, []), 0)).2.2.1.1), ii ((al.getD k ([], 0, (0, 0, []), 0)).2.2.1.2.1), a2, ii ((al.getD k ([], 0, (0, 0, []), 0)).2.2.2)] isAgg194 sizeOf194 rfl rfl (Rd.all (hrg1 _)) (cX (XOp.callV (first := []) (captured := [ptr bt 0]) (args := [.agg #[a1, ii ((al.getD k ([], 0, (0, 0, []), 0)).2.1), ii ((al.getD k ([], 0, (0, 0, []), 0)).2.2.1.1), ii ((al.getD k ([], 0, (0, 0, []), 0)).2.2.1.2.1), a2, ii ((al.getD k ([], 0, (0, 0, []), 0)).2.2.2)], ptr bt 0]) call319 rfl rfl (found1_spec ha1 ha2 hu hzbt (hlu := (by first | assumption | rfl | omega | simp))) ?_)))
  rintro _ _ _ _ ⟨rfl, rfl, rfl⟩
  refine qb ?_
  refine ya (t := decide (((al.getD k ([], 0, (0, 0, []), 0)).1) = u)) rfl (fun h2 => ?_) (fun h2 => ?_)
  ·refine qc (qa (qd (ii ((k : Int))) rfl (qf (ii ((k : Int))) rfl (qb (qv (qF (ql (ql (qF (ql (qp (L' := L) [ii ((k : Int))] (ii ((k : Int))) (.tmp rfl .nil) rfl rF rF sR ?_)))))))))))
   exact ⟨(vI (foundI_at (k := k) (by omega) (by unfold EL; simp_all) hall)), rfl, rfl⟩
  refine qw (qa (cX (qN (((k + 1 : Nat) : Int)) rfl rfl (by omega) (by omega) (qd (ii (((k + 1 : Nat) : Int))) rfl (qb ?_)))))
  exact ⟨k + 1, _, FLe.refl _, rF, ⟨rfl, rfl, rfl, rfl, ⟨⟩⟩, sR, ⟨rfl, (by (try dsimp only) <;> omega), (fun i hi => (Nat.lt_or_ge i k).elim (fun h => hall i h) (fun h => by obtain rfl : i = k := (by omega); unfold EL; simp_all))⟩, (by omega)⟩
 refine jb (qo (qo (qI (qc (qa (qf (ii (-1)) rfl (qb (qv (qp (L' := L) [ii (-1)] (ii (-1)) (.tmp rfl .nil) rfl rF rF sR ?_)))))))))
 exact ⟨(vI (foundI_none (fun i hi => hall i (by omega)))), rfl, rfl⟩

/- impl.found -/
theorem found_spec {F : FH} {L : List HP} {alv : Value} {al : List FoundT} {alcs : List Value} (hal : FoundsF F alv al alcs) {uv : Value} {u : List Int} (hu : IntsF F uv u) (hlt : al.length ≤ 4000000) (hlu : u.length ≤ 4000000) :
    Does prog 246 [alv, uv] F (L) (fun v F' L' => (ii (foundI al u) : Value) = v ∧ F = F' ∧ L = L') := by
 refine qz func246 rfl rfl rfl (qc (qa (cX (qW [uv] rfl (cells_one (qB hu)) ?_))))
 intro b1
 refine qf (ii (0)) rfl (qb (qc (qa (qd (alv) rfl (cX (XOp.makeFuncL [] [ptr b1 0] rfl rfl (XL.freeze [] _ _ rfl (fun F1 le1 hz1 => ?_))))))))
 replace hal := hal.mono le1
 replace hu := hu.mono le1
 have hf1 : FzC F1 b1 [uv] := Fz.cells hz1
 refine cX (qn (args := [alv, .func (.func 319) #[] #[ptr b1 0]]) call318 rfl (IndexFuncFound_spec hal hu hf1 (hlt := (by first | assumption | rfl | omega | simp)) (hlu := (by first | assumption | rfl | omega | simp))) ?_)
 rintro _ _ _ _ ⟨rfl, rfl, rfl⟩
 refine qf (ii (foundI al u)) rfl (qb (qv (qp (L' := L) [ii (foundI al u)] (ii (foundI al u)) (.tmp rfl .nil) rfl rF le1 sR ?_)))
 exact ⟨rfl, rfl, rfl⟩

/- impl.reach -/
set_option maxRecDepth 20000 in
theorem reach_spec {F : FH} {L : List HP} {arv : Value} {ar : List Int} (har : IntsF F arv ar) {rsv : Value} {rs : List (List Int × List Int)} (hrs : PairsF F rsv rs) {tv : Value} {t : List Int} (ht : IntsF F tv t) {n : Int} (hsys : sysOk ar rs = true) (ho : termOk ar t = true) (hn20 : 0 ≤ n ∧ n ≤ 20) :
    Does prog 131 [.agg #[arv, rsv], tv, ii (n)] F (L) (fun v F' L' => ∃ (a : Value) (acs : List Value) (Ls : List HP), (.tuple #[a, .bool (reachL ar rs t n).2] : Value) = v ∧ FoundsF F' a (reachL ar rs t n).1 acs ∧ DeepL 6 (FoundO 2) acs (reachL ar rs t n).1 Ls ∧ Fresh F F' (star Ls) ∧ L = L') := by
 refine qz func131 rfl rfl rfl ?_
 have hnn := yb ht (by have := termOk_len ho; omega)
 have htl := termOk_len ho
 have hrl := (sysOk_iff.1 hsys).2.1
 have hsig := (sysOk_iff.1 hsys).1
 have hsl := sigOk_spec hsig
 refine qc (qa (cX (qW [arv, rsv] rfl rfl ?_)))
 intro b1
 refine qf (sN) rfl (qf (.bool (false)) rfl (qb (qc (qa (qd (tv) rfl (cX (jM <| qn (args := [tv]) call96 rfl (Clone_spec ht (hlt := (by first | assumption | rfl | omega | simp))) ?_)))))))
 rintro v1 _ _ _ ⟨rfl, hs1, rfl⟩
 refine ⟨_, _, rfl, fun F1 le1 hz1 => ?_⟩
 replace har := har.mono le1
 replace hrs := hrs.mono le1
 have hf1 : IntsF F1 v1 ((t)) := intsH.fz (xs := (t)) hz1.fz
 skip
 refine cX (jf [v1, ii (-1), ii (0), ii (0), sN, ii (0)] [sN, ii (0), ii (0), ii (0), sN, ii (0)] [(0, 1), (1, 1), (2, 3), (5, 1)] [(0, [v1]), (1, [ii (-1)])] jZ zeroValue194 rfl (.cons rfl qt (.cons rfl sizeOf3 (.cons rfl jd (.cons rfl qJ PlacesAre.nil)))) rfl (.cons (cells_one (qB hf1)) (.cons rfl CellsAre.nil)) (cX (qL (s := 6) [v1, ii (-1), ii (0), ii (0), sN, ii (0)] [sN, ii (0), ii (0), ii (0), sN, ii (0)] [(0, [v1, ii (-1), ii (0), ii (0), sN, ii (0)])] jI sizeOf194 zeroValue194 rfl (by decide) rfl (.cons rfl CellsAre.nil) rfl ?_)))
 intro v2 hv1
 refine qf (v2) rfl (qb (qc (qc (qa (qf (ii (0)) rfl (qb (qG ?_)))))))
 have hc1 : FoundsC F1 [v1, ii (-1), ii (0), ii (0), sN, ii (0)] ([((t), -1, (0, 0, []), 0)] : List FoundT) := (FoundsC.snoc (CO.nil : FoundsC F1 [] []) (y0 := (t)) (y1 := -1) (y2 := 0) (y3 := 0) (y4 := []) (y5 := 0) hf1 IntsF.nilV)
 refine jc (α := Nat × Value × List FoundT × List Value × List HP × Nat × FH) (fun xQ => [(2, ii (n)), (3, ptr b1 0), (8, xQ.2.1), (9, ii (((xQ.1 : Nat) : Int)))]) (fun xQ => slH 194 6 xQ.2.1 xQ.2.2.2.2.2.1 xQ.2.2.2.1 :: cellsH b1 [arv, rsv] 39 :: L) (fun xQ F' => xQ.2.2.2.2.2.2 = F' ∧ F1 ≤ xQ.2.2.2.2.2.2 ∧ (IsSl xQ.2.1) ∧ (FoundsC xQ.2.2.2.2.2.2 xQ.2.2.2.1 xQ.2.2.1) ∧ (xQ.2.2.2.2.2.1 = xQ.2.2.1.length) ∧ (DeepL 6 (FoundO 2) xQ.2.2.2.1 xQ.2.2.1 xQ.2.2.2.2.1) ∧ (Fresh F xQ.2.2.2.2.2.2 (star xQ.2.2.2.2.1)) ∧ (xQ.1 ≤ xQ.2.2.1.length) ∧ (xQ.2.2.1.length ≤ 60) ∧ (AllOk ar xQ.2.2.1) ∧ (DeepOk n xQ.2.2.1) ∧ (reachL ar rs t n = reachGo ar rs n (60 - xQ.1) xQ.1 xQ.2.2.1)) (fun xQ => 60 - xQ.1) (0, v2, ([((t), -1, (0, 0, []), 0)] : List FoundT), [v1, ii (-1), ii (0), ii (0), sN, ii (0)], [intsH 2 v1 t], 1, F1) ⟨rfl, rfl, rfl, rfl, ⟨⟩⟩ (sC (sC sR)) ⟨rfl, FLe.refl _, ((jD hv1)), (hc1), (rfl), ((DeepL.snoc .nil rfl ⟨_, _, rfl, rfl⟩ : DeepL 6 (FoundO 2) ([] ++ _) ([] ++ _) ([] ++ _))), ((Fresh.one hz1)), (by simp), (by simp), (AllOk.start ho), (DeepOk.start hn20.1), (rfl)⟩ ?_
 rintro ⟨k, ov, os, ocs, Ts, on, G1⟩ rE _ _ ⟨rfl, leG, hov, hC, hn, hD, hZ, hk, hl, hok, hdo, hgo⟩
 show X _ _ _ _ (envs [(2, ii (n)), (3, ptr b1 0), (8, ov), (9, ii ((k : Int)))] rE) _ (slH 194 6 ov on ocs :: cellsH b1 [arv, rsv] 39 :: L)
 replace leG : F1 ≤ G1 := leG
 dsimp only at hov hC hn hD hZ hk hl hok hdo hgo
 have hdk : k < os.length → termOk ar (os.getD k ([], 0, (0, 0, []), 0)).1 = true := fun h => hok k h
 have hdl : k < os.length → 1 ≤ (os.getD k ([], 0, (0, 0, []), 0)).1.length ∧ (os.getD k ([], 0, (0, 0, []), 0)).1.length ≤ 60 := fun h => termOk_len (hok k h)
 have leG1 := leG
 replace har := har.mono leG1
 replace hrs := hrs.mono leG1
 refine qc (qc (qa (qd (ii ((k : Int))) rfl (qd (ov) rfl (cX (qA jI rfl (SlV.own [] rfl) (cX (qT rfl rfl (qb ?_)))))))))
 refine qx (p := (k : Int) < ((on : Nat) : Int)) rfl (fun h1 => ?_) (fun h1 => ?_)
 ·refine qw (qc (qG (qc (qc (qa (qd (ov) rfl (qd (ii ((k : Int))) rfl (cX (qy k jI sizeOf194 rfl rfl rfl (SlV.own [] rfl) (by omega) rfl (cX (jA (k * 6 + 5) jZ rfl qJ (by decide) rfl rfl ?_)))))))))))
  obtain ⟨a1, a2, ha1, ha2, hq1⟩ := hC.get (i := k) (by omega)
  refine cX (qh jn rfl (Rd.sl [] rfl (hq1 5 _ rfl)) (qd (ii (n)) rfl (cX (XOp.eql rfl rfl (qb ?_)))))
  refine qx (p := ((os.getD k ([], 0, (0, 0, []), 0)).2.2.2 : Int) = n) rfl (fun h2 => ?_) (fun h2 => ?_)
  ·have hdeep : (EL os k).2.2.2 = n := h2
   refine jb (qo (qI (qa (qd (ii ((k : Int))) rfl (cX (qN (((k + 1 : Nat) : Int)) rfl rfl (by omega) (by omega) (qf (ii (((k + 1 : Nat) : Int))) rfl (qb ?_))))))))
   exact ⟨(k + 1, ov, os, ocs, Ts, on, G1), _, leG1, rF, ⟨rfl, rfl, rfl, rfl, ⟨⟩⟩, (sC (sC sR)), ⟨rfl, leG1, (hov), (hC), (hn), (hD), (hZ), (by (try dsimp only) <;> omega), (by (try dsimp only) <;> omega), (hok), (hdo), (by (try dsimp only); exact hgo.trans (reach_same (f := 60 - k - 1) (by omega) (by omega) hdeep))⟩, (by (try dsimp only); omega)⟩
  have hdeep : (EL os k).2.2.2 ≠ n := h2
  refine qw (qc ?_)
  refine yd [slH 194 6 ov on ocs, cellsH b1 [arv, rsv] 39] L 11 [[], [], [], [], [], [], [], [6], [6], [], [6]] [[], [], [], [1, 2], [3], [4], [0, 5], [6], [6, 7], [6, 7], [6, 8]] [] (phiG [pe (.agg #[arv, rsv]), pe ov, pe (ii ((k : Int)) : Value), pe (.pointer (some (elemA ov (k * 6)))), pe (.pointer (some (elemA ov (k * 6)))), pe a1, fun FF us v => (.tuple #[((tupAt v 0)), .bool (longL ar rs ((os.getD k ([], 0, (0, 0, []), 0)).1))] : Value) = v ∧ (FrStepsF G1 FF 2 ((tupAt v 0)) (stepsL ar rs ((os.getD k ([], 0, (0, 0, []), 0)).1))), fun FF us v => v = (.tuple #[((tupAt (us.getD 0 undef) 0)), .bool (longL ar rs ((os.getD k ([], 0, (0, 0, []), 0)).1))] : Value), fun FF us v => v = ((tupAt (us.getD 0 undef) 0)), pe (.bool (longL ar rs ((os.getD k ([], 0, (0, 0, []), 0)).1))), fun FF us v => v = ((tupAt (us.getD 0 undef) 0))]) (ownL []) mixed rfl rfl (by kernel_rfl) (by kernel_rfl) (MonoG.get (m1 (m1 (m1 (m1 (m1 (m1 (mC (fun le h => ⟨h.1, h.2.mono le⟩) (mC (fun le h => h) (mC (fun le h => h) (m1 (mC (fun le h => h) MonoG.nil)))))))))))) ?_ ?_
  ·refine gD (fun W Fs R lF z9 => ?_) ?_
   ·replace har := har.mono lF
    replace hrs := hrs.mono lF
    replace hC := hC.mono lF
    replace ha1 := ha1.mono lF
    refine qj (qq [arv, rsv] jL jy rfl rfl (Rd.ownN [_] rfl rfl) ?_)
    exact ⟨rfl, rfl⟩
   refine gD (fun W Fs R lF z9 => ?_) ?_
   ·refine qj (qr (ov) rfl ?_)
    exact ⟨rfl, rfl⟩
   refine gD (fun W Fs R lF z9 => ?_) ?_
   ·refine qj (qr (ii ((k : Int))) rfl ?_)
    exact ⟨rfl, rfl⟩
   refine gD (fun W Fs R lF z9 => ?_) ?_
   ·replace har := har.mono lF
    replace hrs := hrs.mono lF
    replace hC := hC.mono lF
    replace ha1 := ha1.mono lF
    rw [zB 1 2 (z9 1 rfl) (z9 2 rfl)]
    refine qj (qy k jI sizeOf194 rfl rfl rfl (SlV.own [] rfl) (by omega) rfl ?_)
    exact ⟨rfl, rfl⟩
   refine gD (fun W Fs R lF z9 => ?_) ?_
   ·rw [zA 3 (z9 3 rfl)]
    refine qj (jA (k * 6) jZ rfl qt (by decide) rfl rfl ?_)
    exact ⟨rfl, rfl⟩
   refine gD (fun W Fs R lF z9 => ?_) ?_
   ·replace har := har.mono lF
    replace hrs := hrs.mono lF
    replace hC := hC.mono lF
    replace ha1 := ha1.mono lF
    rw [zA 4 (z9 4 rfl)]
    refine qj (qh qM rfl (Rd.sl [] rfl (hq1 0 _ rfl)) ?_)
    exact ⟨rfl, rfl⟩
   refine gD (fun W Fs R lF z9 => ?_) ?_
   ·replace har := har.mono lF
    replace hrs := hrs.mono lF
    replace hC := hC.mono lF
    replace ha1 := ha1.mono lF
    rw [zB 0 5 (z9 0 rfl) (z9 5 rfl)]
    refine qj (qn (args := [.agg #[arv, rsv], a1]) call241 rfl (stepsFrom_spec har hrs ha1 (hsys := (hsys)) (ho := (hdk (by omega)))) ?_)
    rintro _ F3 _ le3 ⟨x2, rfl, hx2, rfl⟩
    replace hC := hC.mono le3
    exact ⟨⟨rfl, (hx2.base lF)⟩, rfl⟩
   refine gD (fun W Fs R lF z9 => ?_) ?_
   ·obtain ⟨e6, f6_1hx⟩ := z9 6 rfl
    rw [eS (l := [(6, (.tuple #[((tupAt (W 6) 0)), .bool (longL ar rs ((os.getD k ([], 0, (0, 0, []), 0)).1))]))]) ⟨(e6).symm, ⟨⟩⟩]
    refine qj (qr (.tuple #[((tupAt (W 6) 0)), .bool (longL ar rs ((os.getD k ([], 0, (0, 0, []), 0)).1))]) rfl ?_)
    exact ⟨rfl, rfl⟩
   refine gD (fun W Fs R lF z9 => ?_) ?_
   ·obtain ⟨e6, f6_1hx⟩ := z9 6 rfl
    have e7 : W 7 = (.tuple #[((tupAt (W 6) 0)), .bool (longL ar rs ((os.getD k ([], 0, (0, 0, []), 0)).1))] : Value) := z9 7 rfl
    rw [eS (l := [(6, (.tuple #[((tupAt (W 6) 0)), .bool (longL ar rs ((os.getD k ([], 0, (0, 0, []), 0)).1))])), (7, (.tuple #[((tupAt (W 6) 0)), .bool (longL ar rs ((os.getD k ([], 0, (0, 0, []), 0)).1))]))]) ⟨(e6).symm, e7, ⟨⟩⟩]
    refine qj (qU (((tupAt (W 6) 0))) rfl rfl ?_)
    exact ⟨rfl, rfl⟩
   refine gD (fun W Fs R lF z9 => ?_) ?_
   ·obtain ⟨e6, f6_1hx⟩ := z9 6 rfl
    have e7 : W 7 = (.tuple #[((tupAt (W 6) 0)), .bool (longL ar rs ((os.getD k ([], 0, (0, 0, []), 0)).1))] : Value) := z9 7 rfl
    rw [eS (l := [(6, (.tuple #[((tupAt (W 6) 0)), .bool (longL ar rs ((os.getD k ([], 0, (0, 0, []), 0)).1))])), (7, (.tuple #[((tupAt (W 6) 0)), .bool (longL ar rs ((os.getD k ([], 0, (0, 0, []), 0)).1))]))]) ⟨(e6).symm, e7, ⟨⟩⟩]
    refine qj (qU (.bool (longL ar rs ((os.getD k ([], 0, (0, 0, []), 0)).1))) rfl rfl ?_)
    exact ⟨rfl, rfl⟩
   refine gD (fun W Fs R lF z9 => ?_) ?_
   ·obtain ⟨e6, f6_1hx⟩ := z9 6 rfl
    have e8 : W 8 = ((tupAt (W 6) 0)) := z9 8 rfl
    rw [eS (l := [(6, (.tuple #[((tupAt (W 6) 0)), .bool (longL ar rs ((os.getD k ([], 0, (0, 0, []), 0)).1))])), (8, ((tupAt (W 6) 0)))]) ⟨(e6).symm, e8, ⟨⟩⟩]
    refine qj (XOp.assign (((tupAt (W 6) 0))) rfl ?_)
    exact ⟨rfl, rfl⟩
   exact stepsG.nil
  intro W F4 le4 hphi
  obtain ⟨e6, f6_1hx⟩ := hphi 6 (by decide)
  have e7 : W 7 = (.tuple #[((tupAt (W 6) 0)), .bool (longL ar rs ((os.getD k ([], 0, (0, 0, []), 0)).1))] : Value) := hphi 7 (by decide)
  have e8 : W 8 = ((tupAt (W 6) 0)) := hphi 8 (by decide)
  have e10 : W 10 = ((tupAt (W 6) 0)) := hphi 10 (by decide)
  generalize hu1 : ((tupAt (W 6) 0)) = u1 at e6 f6_1hx e7 e8 e10
  rw [eS (l := [(6, (.tuple #[u1, .bool (longL ar rs ((os.getD k ([], 0, (0, 0, []), 0)).1))])), (9, _), (10, u1)]) ⟨(e6).symm, (hphi 9 (by decide)), e10, ⟨⟩⟩]
  replace hC := hC.mono le4
  show XL _ _ _ _ _ _ _ (slH 194 6 ov on ocs :: cellsH b1 [arv, rsv] 39 :: L)
  refine qf (.bool (longL ar rs ((os.getD k ([], 0, (0, 0, []), 0)).1))) rfl (qb (qc (qa ?_)))
  obtain ⟨cso1, Lso1, hXo1, hDo1, hZo1⟩ := f6_1hx
  skip
  refine qd (u1) rfl (cX (qA qV rfl hXo1.slv (qd (ii (0)) rfl (qb (qG (jc (α := Nat × Value × List FoundT × List Value × List HP × Nat × FH) (fun xQ => [(2, ii (n)), (3, ptr b1 0), (8, xQ.2.1), (9, ii ((k : Int))), (41, u1), (42, ii (((((stepsL ar rs ((os.getD k ([], 0, (0, 0, []), 0)).1))).length : Nat) : Int))), (43, ii (((xQ.1 : Nat) : Int)))]) (fun xQ => slH 194 6 xQ.2.1 xQ.2.2.2.2.2.1 xQ.2.2.2.1 :: cellsH b1 [arv, rsv] 39 :: L) (fun xQ F' => xQ.2.2.2.2.2.2 = F' ∧ F4 ≤ xQ.2.2.2.2.2.2 ∧ (IsSl xQ.2.1) ∧ (FoundsC xQ.2.2.2.2.2.2 xQ.2.2.2.1 xQ.2.2.1) ∧ (xQ.2.2.2.2.2.1 = xQ.2.2.1.length) ∧ (DeepL 6 (FoundO 2) xQ.2.2.2.1 xQ.2.2.1 xQ.2.2.2.2.1) ∧ (Fresh F xQ.2.2.2.2.2.2 (star (xQ.2.2.2.2.1 ++ Lso1.drop xQ.1))) ∧ (xQ.1 ≤ (stepsL ar rs (os.getD k ([], 0, (0, 0, []), 0)).1).length) ∧ (xQ.2.2.1.length ≤ 60) ∧ (AllOk ar xQ.2.2.1) ∧ (DeepOk n xQ.2.2.1) ∧ (k < xQ.2.2.1.length) ∧ (EL xQ.2.2.1 k = EL os k) ∧ (addGo (k : Int) (EL os k).2.2.2 (stepsL ar rs (os.getD k ([], 0, (0, 0, []), 0)).1) os = addGo (k : Int) (EL os k).2.2.2 ((stepsL ar rs (os.getD k ([], 0, (0, 0, []), 0)).1).drop xQ.1) xQ.2.2.1)) (fun xQ => (stepsL ar rs (os.getD k ([], 0, (0, 0, []), 0)).1).length - xQ.1) (0, ov, os, ocs, Ts, on, F4) ⟨rfl, rfl, rfl, rfl, rfl, rfl, rfl, ⟨⟩⟩ (sC (sC sR)) ⟨rfl, FLe.refl _, (hov), (hC), (hn), (hD), ((Fresh.app hZ (qm le1 leG1) hZo1 le4)), (by (try dsimp only) <;> omega), (hl), (hok), (hdo), (by dsimp only; omega), (rfl), (rfl)⟩ ?_))))))
  rintro ⟨q, pv, ps, pcs, Us, pn, G2⟩ rE _ _ ⟨rfl, leG, hpv, hCi, hni, hDi, hZi, hq, hli, hoki, hdi, hkp, hel, hgoi⟩
  show X _ _ _ _ (envs [(2, ii (n)), (3, ptr b1 0), (8, pv), (9, ii ((k : Int))), (41, u1), (42, ii (((((stepsL ar rs ((os.getD k ([], 0, (0, 0, []), 0)).1))).length : Nat) : Int))), (43, ii ((q : Int)))] rE) _ (slH 194 6 pv pn pcs :: cellsH b1 [arv, rsv] 39 :: L)
  replace leG : F4 ≤ G2 := leG
  dsimp only at hpv hCi hni hDi hZi hq hli hoki hdi hkp hel hgoi
  have hnl : (stepsL ar rs (os.getD k ([], 0, (0, 0, []), 0)).1).length ≤ 1000 := by have h9 := stepsTo_len (ar := ar) (t := (os.getD k ([], 0, (0, 0, []), 0)).1) (rs := rs) hrl (os.getD k ([], 0, (0, 0, []), 0)).1.length; have h8 := hdl (by omega); show (stepsTo ar rs (os.getD k ([], 0, (0, 0, []), 0)).1 (os.getD k ([], 0, (0, 0, []), 0)).1.length).length ≤ 1000; omega
  have hsok : q < (stepsL ar rs (os.getD k ([], 0, (0, 0, []), 0)).1).length → 1 ≤ ((stepsL ar rs (os.getD k ([], 0, (0, 0, []), 0)).1).getD q (0, 0, [])).2.2.length ∧ ((stepsL ar rs (os.getD k ([], 0, (0, 0, []), 0)).1).getD q (0, 0, [])).2.2.length ≤ 60 := fun h => termOk_len (steps_ok hsys (hdk (by omega)) h)
  have hdn : 0 ≤ (ps.getD k ([], 0, (0, 0, []), 0)).2.2.2 ∧ (ps.getD k ([], 0, (0, 0, []), 0)).2.2.2 ≤ 1000 := by have h8 : (EL ps k).2.2.2 = (EL os k).2.2.2 := (by rw [hel]); have h9 := hdo k (by omega); have h7 : (ps.getD k ([], 0, (0, 0, []), 0)).2.2.2 = (EL ps k).2.2.2 := rfl; omega
  have leG2 := leG
  replace hC := hC.mono leG2
  replace hXo1 := hXo1.mono leG2
  refine qc (qa (cX (qT rfl rfl (qb (qc ?_)))))
  refine qx (p := (q : Int) < ((((stepsL ar rs ((os.getD k ([], 0, (0, 0, []), 0)).1))).length : Nat) : Int)) rfl (fun h3 => ?_) (fun h3 => ?_)
  ·refine qw (qc (qG (qc (qa (cX (qy q qV jd rfl rfl rfl hXo1.slv (by omega) rfl ?_))))))
   obtain ⟨a3, ha3, hr1, hr2, hr3, hq2⟩ := hXo1.rd (i := q) (by omega)
   refine cX (qq [ii ((((stepsL ar rs ((os.getD k ([], 0, (0, 0, []), 0)).1))).getD q (0, 0, [])).1), ii ((((stepsL ar rs ((os.getD k ([], 0, (0, 0, []), 0)).1))).getD q (0, 0, [])).2.1), a3] isAgg192 jd rfl rfl (Rd.three (hr1 _) (hr2 _) (hr3 _)) (cX (qS [ii (0), ii (0), sN] jE rfl ?_)))
   intro b2
   refine cX (qD [] _ [ii ((((stepsL ar rs ((os.getD k ([], 0, (0, 0, []), 0)).1))).getD q (0, 0, [])).1), ii ((((stepsL ar rs ((os.getD k ([], 0, (0, 0, []), 0)).1))).getD q (0, 0, [])).2.1), a3] jd rfl rfl rfl (qi rfl (qi rfl (qi (qC (qB ha3)) qH))) rfl rfl rfl (qb (qc (qc (qa (qd (pv) rfl (cX (qk (2) jp rfl qt (by decide) rfl rfl (cX (qh qM rfl (Rd.own [] rfl rfl) (cX (XOp.lend [_] _ _ rfl (fun F5 le5 hz2 => ?_)))))))))))))
   have hf2 : FoundsF _ pv ps pcs := (FoundsC.fz (FoundsC.mono hCi (qm le5 rF)) (by first | rfl | assumption | omega | (rw [List.length_append]; simp only [List.length_singleton]; omega)) hz2 : FoundsF _ pv ps pcs)
   refine id (qn (args := [pv, a3]) call246 rfl (found_spec hf2 ((ha3.mono le5)) (hlt := (by omega)) (hlu := (by have := hsok (by omega); omega))) ?_)
   rintro _ _ _ _ ⟨rfl, rfl, rfl⟩
   show XL _ _ _ _ _ _ _ (slH 194 6 pv pn pcs :: cellsH b2 [ii ((((stepsL ar rs ((os.getD k ([], 0, (0, 0, []), 0)).1))).getD q (0, 0, [])).1), ii ((((stepsL ar rs ((os.getD k ([], 0, (0, 0, []), 0)).1))).getD q (0, 0, [])).2.1), a3] 192 :: cellsH b1 [arv, rsv] 39 :: L)
   refine cX (jY rfl rfl (qb ?_))
   refine qx (p := (foundI ps ((((stepsL ar rs ((os.getD k ([], 0, (0, 0, []), 0)).1))).getD q (0, 0, [])).2.2) : Int) ≥ 0) rfl (fun h4 => ?_) (fun h4 => ?_)
   ·have hin : isIn ps ((stepsL ar rs (os.getD k ([], 0, (0, 0, []), 0)).1).getD q (0, 0, [])).2.2 = true := foundI_iff.1 h4
    refine jb (qo (qI (qa (cX (qN (((q + 1 : Nat) : Int)) rfl rfl (by omega) (by omega) (qd (ii (((q + 1 : Nat) : Int))) rfl (qb ?_)))))))
    exact ⟨(q + 1, pv, ps, pcs, Us, pn, G2), _, leG2, rF, ⟨rfl, rfl, rfl, rfl, rfl, rfl, rfl, ⟨⟩⟩, (sC (sD (sC sR))), ⟨rfl, leG2, (hpv), (hCi), (hni), (hDi), ((Fresh.skipLeaf hZi ((hDo1.leaves).2 q a3 (by omega) hq2))), (by (try dsimp only) <;> omega), (by (try dsimp only) <;> omega), (hoki), (hdi), (by (try dsimp only) <;> omega), (hel), (by (try dsimp only); exact hgoi.trans (add_in (by omega) hin))⟩, (by omega)⟩
   have hnin : isIn ps ((stepsL ar rs (os.getD k ([], 0, (0, 0, []), 0)).1).getD q (0, 0, [])).2.2 = false := by rw [Bool.eq_false_iff]; exact fun h9 => h4 (foundI_iff.2 h9)
   refine qw (qc (qc (qa (qd (pv) rfl (cX (qA jI rfl (SlV.own [] rfl) (cX (XOp.eql rfl rfl (qb ?_)))))))))
   refine qx (p := (((pn : Nat) : Int) : Int) = 60) rfl (fun h5 => ?_) (fun h5 => ?_)
   ·refine qc (qa (qd (pv) rfl (qf (pv) rfl (qf (.bool (false)) rfl (qb (jl [] _ _ rfl (fun F6 le6 hz3 => ?_)))))))
    replace hC := hC.mono le6
    replace hCi := hCi.mono le6
    replace ha3 := ha3.mono le6
    have hf3 : FoundsF F6 pv ps pcs := FoundsC.fz hCi (by first | rfl | simp | omega) hz3.fz
    refine qv (ql (qF (ql (ql (qF (qF (ql (ql (qF (ql (qp (L' := L) [pv, .bool (false)] (.tuple #[pv, .bool (false)]) (.tmp rfl (.tmp rfl .nil)) rfl (qm (qm (qm (qm le1 leG1) le4) leG2) le6) rF (sD (sD sR)) ?_)))))))))))
    have h9 := hgoi.trans (add_full (by omega) hnin (by omega))
    have h8 := reach_stop (ar := ar) (rs := rs) (n := n) (f := 60 - k - 1) (show k < os.length by omega) (by omega) hdeep (by rw [h9])
    have e9 : reachL ar rs t n = (ps, false) := (hgo.trans h8).trans h9
    rw [e9]
    exact ⟨_, _, _, rfl, hf3, hDi, ((Fresh.noMore hZi).mono le6), rfl⟩
   refine qw ?_
   obtain ⟨a4, a5, ha4, ha5, hq3⟩ := hCi.get (i := k) (by omega)
   refine jV [slH 194 6 pv pn pcs, cellsH b2 [ii ((((stepsL ar rs ((os.getD k ([], 0, (0, 0, []), 0)).1))).getD q (0, 0, [])).1), ii ((((stepsL ar rs ((os.getD k ([], 0, (0, 0, []), 0)).1))).getD q (0, 0, [])).2.1), a3] 192, cellsH b1 [arv, rsv] 39] L 13 [] [[], [], [1], [], [], [], [], [5, 6], [7], [8], [9], [2, 3, 4, 10], [11]] (phiL [qe pv, qe (ptr b2 2), qe a3, qe (ii ((k : Int)) : Value), qe (.agg #[ii ((((stepsL ar rs ((os.getD k ([], 0, (0, 0, []), 0)).1))).getD q (0, 0, [])).1), ii ((((stepsL ar rs ((os.getD k ([], 0, (0, 0, []), 0)).1))).getD q (0, 0, [])).2.1), a3]), qe pv, qe (ii ((k : Int)) : Value), qe (.pointer (some (elemA pv (k * 6)))), qe (.pointer (some (elemA pv (k * 6 + 5)))), qe (ii ((ps.getD k ([], 0, (0, 0, []), 0)).2.2.2)), qe (ii (((ps.getD k ([], 0, (0, 0, []), 0)).2.2.2) + 1)), qe (.agg #[a3, ii ((k : Int)), ii ((((stepsL ar rs ((os.getD k ([], 0, (0, 0, []), 0)).1))).getD q (0, 0, [])).1), ii ((((stepsL ar rs ((os.getD k ([], 0, (0, 0, []), 0)).1))).getD q (0, 0, [])).2.1), a3, ii (((ps.getD k ([], 0, (0, 0, []), 0)).2.2.2) + 1)] : Value), fun us v => ∃ b, v = .slice (some ⟨b, 0, none⟩) 1 1]) (ownL [o0, o0, o0, o0, o0, o0, o0, o0, o0, o0, o0, o0, fun us v => [slH 194 6 v 1 [a3, ii ((k : Int)), ii ((((stepsL ar rs ((os.getD k ([], 0, (0, 0, []), 0)).1))).getD q (0, 0, [])).1), ii ((((stepsL ar rs ((os.getD k ([], 0, (0, 0, []), 0)).1))).getD q (0, 0, [])).2.1), a3, ii (((ps.getD k ([], 0, (0, 0, []), 0)).2.2.2) + 1)]]]) mixed rfl rfl (by kernel_rfl) ?_ ?_
   ·refine pD (fun W R z9 => ?_) ?_
    ·refine qj (qr (pv) rfl ?_)
     exact ⟨rfl, rfl, rfl⟩
    refine pD (fun W R z9 => ?_) ?_
    ·refine qj (qk (2) jp rfl qt (by decide) rfl rfl ?_)
     exact ⟨rfl, rfl, rfl⟩
    refine pD (fun W R z9 => ?_) ?_
    ·rw [zA 1 (z9 1 rfl)]
     refine qj (qh qM rfl (Rd.own [_] rfl rfl) ?_)
     exact ⟨rfl, rfl, rfl⟩
    refine pD (fun W R z9 => ?_) ?_
    ·refine qj (qr (ii ((k : Int))) rfl ?_)
     exact ⟨rfl, rfl, rfl⟩
    refine pD (fun W R z9 => ?_) ?_
    ·refine qj (qq [ii ((((stepsL ar rs ((os.getD k ([], 0, (0, 0, []), 0)).1))).getD q (0, 0, [])).1), ii ((((stepsL ar rs ((os.getD k ([], 0, (0, 0, []), 0)).1))).getD q (0, 0, [])).2.1), a3] isAgg192 jd rfl rfl (Rd.ownN [_] rfl rfl) ?_)
     exact ⟨rfl, rfl, rfl⟩
    refine pD (fun W R z9 => ?_) ?_
    ·refine qj (qr (pv) rfl ?_)
     exact ⟨rfl, rfl, rfl⟩
    refine pD (fun W R z9 => ?_) ?_
    ·refine qj (qr (ii ((k : Int))) rfl ?_)
     exact ⟨rfl, rfl, rfl⟩
    refine pD (fun W R z9 => ?_) ?_
    ·rw [zB 5 6 (z9 5 rfl) (z9 6 rfl)]
     refine qj (qy k jI sizeOf194 rfl rfl rfl (SlV.own [] rfl) (by omega) rfl ?_)
     exact ⟨rfl, rfl, rfl⟩
    refine pD (fun W R z9 => ?_) ?_
    ·rw [zA 7 (z9 7 rfl)]
     refine qj (jA (k * 6 + 5) jZ rfl qJ (by decide) rfl rfl ?_)
     exact ⟨rfl, rfl, rfl⟩
    refine pD (fun W R z9 => ?_) ?_
    ·rw [zA 8 (z9 8 rfl)]
     refine qj (qh jn rfl (Rd.sl [] rfl (hq3 5 _ rfl)) ?_)
     exact ⟨rfl, rfl, rfl⟩
    refine pD (fun W R z9 => ?_) ?_
    ·rw [zA 9 (z9 9 rfl)]
     refine qj (qN (((ps.getD k ([], 0, (0, 0, []), 0)).2.2.2) + 1) rfl rfl (by omega) (by omega) ?_)
     exact ⟨rfl, rfl, rfl⟩
    refine pD (fun W R z9 => ?_) ?_
    ·rw [eS (l := [(2, _), (3, _), (4, _), (10, _)]) ⟨z9 2 rfl, z9 3 rfl, z9 4 rfl, z9 10 rfl, ⟨⟩⟩]
     refine qj (jf [a3, ii ((k : Int)), ii ((((stepsL ar rs ((os.getD k ([], 0, (0, 0, []), 0)).1))).getD q (0, 0, [])).1), ii ((((stepsL ar rs ((os.getD k ([], 0, (0, 0, []), 0)).1))).getD q (0, 0, [])).2.1), a3, ii (((ps.getD k ([], 0, (0, 0, []), 0)).2.2.2) + 1)] [sN, ii (0), ii (0), ii (0), sN, ii (0)] [(0, 1), (1, 1), (2, 3), (5, 1)] [(0, [a3]), (1, [ii ((k : Int))]), (2, [ii ((((stepsL ar rs ((os.getD k ([], 0, (0, 0, []), 0)).1))).getD q (0, 0, [])).1), ii ((((stepsL ar rs ((os.getD k ([], 0, (0, 0, []), 0)).1))).getD q (0, 0, [])).2.1), a3]), (3, [ii (((ps.getD k ([], 0, (0, 0, []), 0)).2.2.2) + 1)])] jZ zeroValue194 rfl (.cons rfl qt (.cons rfl sizeOf3 (.cons rfl jd (.cons rfl qJ PlacesAre.nil)))) rfl (.cons (cells_one (qB ha3)) (.cons rfl (.cons rfl (.cons rfl CellsAre.nil)))) ?_)
     exact ⟨rfl, rfl, rfl⟩
    refine pD (fun W R z9 => ?_) ?_
    ·rw [zA 11 (z9 11 rfl)]
     refine qj (qL (s := 6) [a3, ii ((k : Int)), ii ((((stepsL ar rs ((os.getD k ([], 0, (0, 0, []), 0)).1))).getD q (0, 0, [])).1), ii ((((stepsL ar rs ((os.getD k ([], 0, (0, 0, []), 0)).1))).getD q (0, 0, [])).2.1), a3, ii (((ps.getD k ([], 0, (0, 0, []), 0)).2.2.2) + 1)] [sN, ii (0), ii (0), ii (0), sN, ii (0)] [(0, [a3, ii ((k : Int)), ii ((((stepsL ar rs ((os.getD k ([], 0, (0, 0, []), 0)).1))).getD q (0, 0, [])).1), ii ((((stepsL ar rs ((os.getD k ([], 0, (0, 0, []), 0)).1))).getD q (0, 0, [])).2.1), a3, ii (((ps.getD k ([], 0, (0, 0, []), 0)).2.2.2) + 1)])] jI sizeOf194 zeroValue194 rfl (by decide) rfl (.cons rfl CellsAre.nil) rfl ?_)
     intro v4 hv3
     exact ⟨rfl, hv3, rfl⟩
    exact stepsP.nil
   intro W hphi
   have f12 : ∃ b, (W 12) = .slice (some ⟨b, 0, none⟩) 1 1 := hphi 12 (by decide)
   generalize huu12 : W 12 = u2 at f12
   rw [eS (l := [(0, _), (12, u2)]) ⟨(hphi 0 (by decide)), huu12, ⟨⟩⟩]
   show XL _ _ _ _ _ _ _ (slH 194 6 u2 1 [a3, ii ((k : Int)), ii ((((stepsL ar rs ((os.getD k ([], 0, (0, 0, []), 0)).1))).getD q (0, 0, [])).1), ii ((((stepsL ar rs ((os.getD k ([], 0, (0, 0, []), 0)).1))).getD q (0, 0, [])).2.1), a3, ii (((ps.getD k ([], 0, (0, 0, []), 0)).2.2.2) + 1)] :: slH 194 6 pv pn pcs :: cellsH b2 [ii ((((stepsL ar rs ((os.getD k ([], 0, (0, 0, []), 0)).1))).getD q (0, 0, [])).1), ii ((((stepsL ar rs ((os.getD k ([], 0, (0, 0, []), 0)).1))).getD q (0, 0, [])).2.1), a3] 192 :: cellsH b1 [arv, rsv] 39 :: L)
   refine cX (jQ (m := 1) (bytes := 80) (cs := pcs) [_] _ [a3, ii ((k : Int)), ii ((((stepsL ar rs ((os.getD k ([], 0, (0, 0, []), 0)).1))).getD q (0, 0, [])).1), ii ((((stepsL ar rs ((os.getD k ([], 0, (0, 0, []), 0)).1))).getD q (0, 0, [])).2.1), a3, ii (((ps.getD k ([], 0, (0, 0, []), 0)).2.2.2) + 1)] jI typeInfo194 rfl rfl rfl rfl rfl rfl rfl (SlV.own [] rfl) rfl (Rd.lit [] rfl) (qi (qC (qB ha3)) (qi rfl (qi rfl (qi rfl (qi (qC (qB ha3)) (qi rfl qH)))))) (by (try simp only [List.length_append, List.length_nil, List.length_cons, List.length_singleton]); omega) (by (try simp only [List.length_append, List.length_nil, List.length_cons, List.length_singleton]); omega) ?_)
   intro v5 hs2 hn1 hm1
   have hc2 := FoundsC.snoc hCi (y0 := (((stepsL ar rs ((os.getD k ([], 0, (0, 0, []), 0)).1))).getD q (0, 0, [])).2.2) (y1 := (k : Int)) (y2 := (((stepsL ar rs ((os.getD k ([], 0, (0, 0, []), 0)).1))).getD q (0, 0, [])).1) (y3 := (((stepsL ar rs ((os.getD k ([], 0, (0, 0, []), 0)).1))).getD q (0, 0, [])).2.1) (y4 := (((stepsL ar rs ((os.getD k ([], 0, (0, 0, []), 0)).1))).getD q (0, 0, [])).2.2) (y5 := ((ps.getD k ([], 0, (0, 0, []), 0)).2.2.2) + 1) ha3 ha3
   refine qf (v5) rfl (qb (qa (cX (qN (((q + 1 : Nat) : Int)) rfl rfl (by omega) (by omega) (qd (ii (((q + 1 : Nat) : Int))) rfl (qb ?_))))))
   exact ⟨(q + 1, v5, ps ++ [((((stepsL ar rs ((os.getD k ([], 0, (0, 0, []), 0)).1))).getD q (0, 0, [])).2.2, (k : Int), ((((stepsL ar rs ((os.getD k ([], 0, (0, 0, []), 0)).1))).getD q (0, 0, [])).1, (((stepsL ar rs ((os.getD k ([], 0, (0, 0, []), 0)).1))).getD q (0, 0, [])).2.1, (((stepsL ar rs ((os.getD k ([], 0, (0, 0, []), 0)).1))).getD q (0, 0, [])).2.2), ((ps.getD k ([], 0, (0, 0, []), 0)).2.2.2) + 1)], pcs ++ [a3, ii ((k : Int)), ii ((((stepsL ar rs ((os.getD k ([], 0, (0, 0, []), 0)).1))).getD q (0, 0, [])).1), ii ((((stepsL ar rs ((os.getD k ([], 0, (0, 0, []), 0)).1))).getD q (0, 0, [])).2.1), a3, ii (((ps.getD k ([], 0, (0, 0, []), 0)).2.2.2) + 1)], Us ++ [intsH 2 a3 ((stepsL ar rs (os.getD k ([], 0, (0, 0, []), 0)).1).getD q (0, 0, [])).2.2], (pn) + 1, G2), _, leG2, rF, ⟨rfl, rfl, rfl, rfl, rfl, rfl, rfl, ⟨⟩⟩, (sD (sC (sD (sC sR)))), ⟨rfl, leG2, (hs2), (hc2), (by (try dsimp only); rw [List.length_append, List.length_singleton]; omega), (DeepL.snoc hDi rfl ⟨_, _, rfl, rfl⟩), ((Fresh.keepLeaf hZi ((hDo1.leaves).2 q a3 (by omega) hq2))), (by (try dsimp only) <;> omega), (by (try dsimp only); rw [List.length_append, List.length_singleton]; omega), (hoki.snoc (steps_ok hsys (hdk (by omega)) (by omega))), (hdi.snoc (by have h9 := hdo k (by omega); have h8 : (EL ps k).2.2.2 = (EL os k).2.2.2 := (by rw [hel]); have h7 : (EL ps k).2.2.2 = (ps.getD k ([], 0, (0, 0, []), 0)).2.2.2 := rfl; have h6 : (EL os k).2.2.2 = (os.getD k ([], 0, (0, 0, []), 0)).2.2.2 := rfl; dsimp only; omega)), (by (try dsimp only); rw [List.length_append, List.length_singleton]; omega), (by (try dsimp only); rw [EL_snoc (by omega)]; exact hel), (by (try dsimp only); rw [show (ps.getD k ([], 0, (0, 0, []), 0)) = EL os k from hel]; exact hgoi.trans (add_new (by omega) hnin (by omega)))⟩, (by omega)⟩
  refine jb (qo (qo (qI (qa (qd (ii ((k : Int))) rfl (cX (qN (((k + 1 : Nat) : Int)) rfl rfl (by omega) (by omega) (qf (ii (((k + 1 : Nat) : Int))) rfl (qb ?_)))))))))
  exact ⟨(k + 1, pv, ps, pcs, Us, pn, G2), _, (qm (qm leG1 le4) leG2), rF, ⟨rfl, rfl, rfl, rfl, ⟨⟩⟩, (sC (sC sR)), ⟨rfl, (qm (qm leG1 le4) leG2), (hpv), (hCi), (hni), (hDi), ((Fresh.noMore hZi)), (by (try dsimp only); omega), (by (try dsimp only) <;> omega), (hoki), (hdi), (by (try dsimp only); have h9 := hgoi.trans (add_end (by omega)); have h8 := reach_more (ar := ar) (rs := rs) (n := n) (f := 60 - k - 1) (show k < os.length by omega) (by omega) hdeep (by rw [h9]); rw [h9] at h8; exact hgo.trans h8)⟩, (by (try dsimp only); omega)⟩
 refine jb (qo (qo (qI (qc (qa (qd (ov) rfl (qf (ov) rfl (qf (.bool (true)) rfl (qb (jl [] _ _ rfl (fun F7 le7 hz4 => ?_)))))))))))
 replace hC := hC.mono le7
 have hf4 : FoundsF F7 ov os ocs := FoundsC.fz hC (by first | rfl | simp | omega) hz4.fz
 refine qv (qp (L' := L) [ov, .bool (true)] (.tuple #[ov, .bool (true)]) (.tmp rfl (.tmp rfl .nil)) rfl (qm (qm le1 leG1) le7) rF (sD sR) ?_)
 have e9 : reachL ar rs t n = (os, true) := hgo.trans (reach_done (by omega) hl)
 rw [e9]
 exact ⟨_, _, _, rfl, hf4, hD, (hZ.mono le7), rfl⟩

/- (*impl.Walk).add -/
theorem walkAdd_spec {F : FH} {L : List HP} {b m : Nat} {fv sv tov : Value} {ss : List StepT} {cs : List Value} {i j : Int} {to : List Int} (hto : IntsF F tov to) (hsv : IsSl sv) (hC : StepsC F cs ss) (hm : m = ss.length) (hsb : ss.length ≤ 4000000) (hlt : to.length ≤ 4000000) :
    Does prog 290 [ptr b 0, .agg #[ii (i), ii (j), tov]] F (cellsH b [fv, sv] 45 :: slH 192 3 sv m cs :: L) (fun v F' L' => ∃ (sw cw : Value), IsSl sw ∧ IntsF F' cw to ∧ Fresh F F' (intsH 2 cw to) ∧ cellsH b [fv, sw] 45 :: slH 192 3 sw (m + 1) (cs ++ [.int .i64 i, .int .i64 j, cw]) :: L = L') := by
 refine qz func290 rfl rfl rfl (qc (qa (cX (qW [ii (i), ii (j), tov] rfl rfl ?_))))
 intro b1
 refine qb (X.weaken (qK (A := [_, _])) ?_)
 show X _ _ _ _ _ _ (slH 192 3 sv m cs :: cellsH b1 [ii (i), ii (j), tov] 192 :: cellsH b [fv, sv] 45 :: L)
 refine X.drawH [cellsH b1 [ii (i), ii (j), tov] 192, cellsH b [fv, sv] 45] L 15 [[], [], [], [], [], [], [], [], [], [], [], [], [11], [11], [11, 13]] [[], [], [1], [2], [3], [], [5], [], [7], [], [9], [10], [6, 8, 11], [11, 12], [4, 11, 13]] [[], [], [], [], [], [], [], [], [], [], [], [], [], [], [13]] (phiG [pe (ptr b 0), pe (ptr b 0), pe (ptr b 0), pe (ptr b 1), pe sv, pe (ptr b1 0), pe (ii (i)), pe (ptr b1 1), pe (ii (j)), pe (ptr b1 2), pe tov, fun FF us v => ((v) : Value) = v ∧ (IntsF FF (v) (to)) ∧ (FrIntsF F FF 2 (v) (to)), fun FF us v => v = (.agg #[ii (i), ii (j), ((us.getD 0 undef))] : Value), fun FF us v => ∃ b, v = .slice (some ⟨b, 0, none⟩) 1 1, fun FF us v => IsSl v]) (ownL [o0, o0, o0, o0, o0, o0, o0, o0, o0, o0, o0, o0, o0, fun us v => [slH 192 3 v 1 [ii (i), ii (j), ((us.getD 0 undef))]], fun us v => [slH 192 3 (us.getD 1 undef) 1 [ii (i), ii (j), ((us.getD 0 undef))], slH 192 3 (v) ((m) + 1) (cs ++ [ii (i), ii (j), ((us.getD 0 undef))])]]) (fun i => ([[], [], [], [], [], [], [], [], [], [], [], [], [], [], [slH 192 3 sv m cs]] : List (List HP)).getD i []) mixed rfl rfl (by kernel_rfl) (by kernel_rfl) (MonoG.get (m1 (m1 (m1 (m1 (m1 (m1 (m1 (m1 (m1 (m1 (m1 (mC (fun le h => ⟨h.1, h.2.1.mono le, h.2.2.mono le⟩) (mC (fun le h => h) (mC (fun le h => h) (mC (fun le h => h) MonoG.nil)))))))))))))))) ?_ ?_
 ·refine tD (fun W Fs R lF z9 => ?_) ?_
  ·refine qj (qr (ptr b 0) rfl ?_)
   exact ⟨rfl, rfl⟩
  refine tD (fun W Fs R lF z9 => ?_) ?_
  ·refine qj (qr (ptr b 0) rfl ?_)
   exact ⟨rfl, rfl⟩
  refine tD (fun W Fs R lF z9 => ?_) ?_
  ·replace hto := hto.mono lF
   replace hC := hC.mono lF
   rw [zA 1 (z9 1 rfl)]
   refine qj (jW rfl ?_)
   exact ⟨rfl, rfl⟩
  refine tD (fun W Fs R lF z9 => ?_) ?_
  ·rw [zA 2 (z9 2 rfl)]
   refine qj (qk (1) js rfl jR (by decide) rfl rfl ?_)
   exact ⟨rfl, rfl⟩
  refine tD (fun W Fs R lF z9 => ?_) ?_
  ·replace hto := hto.mono lF
   replace hC := hC.mono lF
   rw [zA 3 (z9 3 rfl)]
   refine qj (qh isAgg43 rfl (Rd.own [_] rfl rfl) ?_)
   exact ⟨rfl, rfl⟩
  refine tD (fun W Fs R lF z9 => ?_) ?_
  ·refine qj (qk (0) jp rfl qJ (by decide) rfl rfl ?_)
   exact ⟨rfl, rfl⟩
  refine tD (fun W Fs R lF z9 => ?_) ?_
  ·replace hto := hto.mono lF
   replace hC := hC.mono lF
   rw [zA 5 (z9 5 rfl)]
   refine qj (qh jn rfl (Rd.own [] rfl rfl) ?_)
   exact ⟨rfl, rfl⟩
  refine tD (fun W Fs R lF z9 => ?_) ?_
  ·refine qj (qk (1) jp rfl qJ (by decide) rfl rfl ?_)
   exact ⟨rfl, rfl⟩
  refine tD (fun W Fs R lF z9 => ?_) ?_
  ·replace hto := hto.mono lF
   replace hC := hC.mono lF
   rw [zA 7 (z9 7 rfl)]
   refine qj (qh jn rfl (Rd.own [] rfl rfl) ?_)
   exact ⟨rfl, rfl⟩
  refine tD (fun W Fs R lF z9 => ?_) ?_
  ·refine qj (qk (2) jp rfl qt (by decide) rfl rfl ?_)
   exact ⟨rfl, rfl⟩
  refine tD (fun W Fs R lF z9 => ?_) ?_
  ·replace hto := hto.mono lF
   replace hC := hC.mono lF
   rw [zA 9 (z9 9 rfl)]
   refine qj (qh qM rfl (Rd.own [] rfl rfl) ?_)
   exact ⟨rfl, rfl⟩
  refine tD (fun W Fs R lF z9 => ?_) ?_
  ·replace hto := hto.mono lF
   replace hC := hC.mono lF
   rw [zA 10 (z9 10 rfl)]
   refine qj (jM <| qn (args := [tov]) call96 rfl (Clone_spec hto (hlt := (by first | assumption | rfl | omega | simp))) ?_)
   rintro v4 _ _ _ ⟨rfl, hs3, rfl⟩
   refine ⟨_, _, rfl, fun F1 le1 hz1 => ?_⟩
   replace hC := hC.mono le1
   have hf1 : IntsF F1 v4 ((to)) := intsH.fz (xs := (to)) hz1.fz
   exact ⟨⟨rfl, hf1, (hz1.base lF)⟩, rfl⟩
  refine tD (fun W Fs R lF z9 => ?_) ?_
  ·obtain ⟨e11, f11_1ha, f11_1hz⟩ := z9 11 rfl
   replace hC := hC.mono lF
   rw [eS (l := [(6, _), (8, _), (11, ((W 11)))]) ⟨z9 6 rfl, z9 8 rfl, (e11).symm, ⟨⟩⟩]
   refine qj (jf [ii (i), ii (j), ((W 11))] [ii (0), ii (0), sN] [(0, 1), (1, 1), (2, 1)] [(0, [ii (i)]), (1, [ii (j)]), (2, [((W 11))])] jp jE rfl (.cons rfl qJ (.cons rfl qJ (.cons rfl qt PlacesAre.nil))) rfl (.cons rfl (.cons rfl (.cons (cells_one (qB f11_1ha)) CellsAre.nil))) ?_)
   exact ⟨rfl, rfl⟩
  refine tD (fun W Fs R lF z9 => ?_) ?_
  ·obtain ⟨e11, f11_1ha, f11_1hz⟩ := z9 11 rfl
   have e12 : W 12 = (.agg #[ii (i), ii (j), ((W 11))] : Value) := z9 12 rfl
   replace hC := hC.mono lF
   rw [eS (l := [(11, ((W 11))), (12, (.agg #[ii (i), ii (j), ((W 11))]))]) ⟨(e11).symm, e12, ⟨⟩⟩]
   refine qj (qL (s := 3) [ii (i), ii (j), ((W 11))] [ii (0), ii (0), sN] [(0, [ii (i), ii (j), ((W 11))])] qV jd jE rfl (by decide) rfl (.cons rfl CellsAre.nil) rfl ?_)
   intro v5 hv2
   exact ⟨hv2, rfl⟩
  refine tD (fun W Fs R lF z9 => ?_) ?_
  ·obtain ⟨e11, f11_1ha, f11_1hz⟩ := z9 11 rfl
   have f13 : ∃ b, (W 13) = .slice (some ⟨b, 0, none⟩) 1 1 := z9 13 rfl
   replace hC := hC.mono lF
   rw [eS (l := [(4, _), (11, ((W 11)))]) ⟨z9 4 rfl, (e11).symm, ⟨⟩⟩]
   show XG _ _ _ _ _ (slH 192 3 (W 13) 1 [ii (i), ii (j), ((W 11))] :: slH 192 3 sv m cs :: ([cellsH b1 [ii (i), ii (j), tov] 192, cellsH b [fv, sv] 45] ++ R)) _
   refine qj (jQ (m := 1) (bytes := 40) (cs := cs) [_] _ [ii (i), ii (j), ((W 11))] qV typeInfo192 rfl rfl rfl rfl rfl rfl rfl (SlV.own [] rfl) rfl (Rd.lit [] rfl) (qi rfl (qi rfl (qi (qC (qB f11_1ha)) qH))) (by (try simp only [List.length_append, List.length_nil, List.length_cons, List.length_singleton]); omega) (by (try simp only [List.length_append, List.length_nil, List.length_cons, List.length_singleton]); omega) ?_)
   intro v6 hs4 hn2 hm2
   have hc2 := StepsC.snoc hC (i := i) (j := j) f11_1ha
   exact ⟨hs4, rfl⟩
  exact stepsT.nil
 intro W F2 le2 hphi
 obtain ⟨e11, f11_1ha, f11_1hz⟩ := hphi 11 (by decide)
 have e12 : W 12 = (.agg #[ii (i), ii (j), ((W 11))] : Value) := hphi 12 (by decide)
 have f13 : ∃ b, (W 13) = .slice (some ⟨b, 0, none⟩) 1 1 := hphi 13 (by decide)
 have f14 : IsSl (W 14) := hphi 14 (by decide)
 generalize hu1 : ((W 11)) = u1 at e11 f11_1ha f11_1hz e12 f13 f14
 generalize huu13 : W 13 = u2 at e11 f11_1ha f11_1hz e12 f13 f14
 generalize huu14 : W 14 = u3 at e11 f11_1ha f11_1hz e12 f13 f14
 rw [eS (l := [(0, _), (11, u1), (13, u2), (14, u3)]) ⟨(hphi 0 (by decide)), hu1, huu13, huu14, ⟨⟩⟩]
 replace hC := hC.mono le2
 have hc3 := StepsC.snoc hC (i := i) (j := j) f11_1ha
 show XL _ _ _ _ _ _ _ (slH 192 3 u2 1 [ii (i), ii (j), u1] :: slH 192 3 u3 ((m) + 1) (cs ++ [ii (i), ii (j), u1]) :: cellsH b1 [ii (i), ii (j), tov] 192 :: cellsH b [fv, sv] 45 :: L)
 skip
 refine cX (jW rfl (cX (qk (1) js rfl jR (by decide) rfl rfl (cX (jw [_, _, _] _ [fv, u3] jR rfl rfl (qC f14) rfl rfl rfl (qb (id (retEndN (L' := cellsH b [fv, u3] 45 :: slH 192 3 u3 ((m) + 1) (cs ++ [ii (i), ii (j), u1]) :: L) [] (.tuple #[]) (by exact .nil) rfl le2 rF (qQ (qK (A := [_])) (qQ (qK (A := [_, _, _])) (sC (sC (sD (sD sR)))))) ?_))))))))
 exact ⟨_, _, f14, f11_1ha, f11_1hz, rfl⟩

/- slices.Backward[[]impl.Step,impl.Step] -/
theorem backward_spec {F : FH} {L : List HP} {sv : Value} {s : List StepT} (hs : StepsF F sv s) :
    Does prog 352 [sv] F (L) (fun v F' L' => ∃ (bt : Nat), (.func (.func 376) #[] #[ptr bt 0] : Value) = v ∧ FzC F' bt [sv] ∧ L = L') := by
 refine qz func352 rfl rfl rfl (qc (qa (cX (qW [sv] rfl (cells_one (StepsF.isSl hs)) ?_))))
 intro b1
 refine qf (.nilFunc) rfl (qb (qc (qa (cX (XOp.makeFuncL [] [ptr b1 0] rfl rfl (qf (.func (.func 376) #[] #[ptr b1 0]) rfl (qb (X.freeze [] _ _ rfl (fun F1 le1 hz1 => ?_)))))))))
 have hf1 : FzC F1 b1 [sv] := Fz.cells hz1
 refine qv (qp (L' := L) [.func (.func 376) #[] #[ptr b1 0]] (.func (.func 376) #[] #[ptr b1 0]) (.tmp rfl .nil) rfl le1 rF sR ?_)
 exact ⟨_, rfl, hf1, rfl⟩

/- slices.Backward[[]impl.Step,impl.Step]$1 -/
set_option maxRecDepth 20000 in
theorem backIt_spec {F : FH} {L : List HP} {l bt : Nat} {R : Loop} {sv : Value} {ss : List StepT} (hbt : FzC F bt [sv]) (hs : StepsF F sv ss) (hsl : ss.length ≤ 4000000) {J : Nat → FH → List HP → Prop} (hJ0 : J ss.length F L) (hyes : ∀ (k : Nat) (i : Int) (Fy : FH) (Ly : List HP) (tov : Value), k < ss.length → F ≤ Fy → J (k + 1) Fy Ly → IntsF Fy tov (ss.getD k (0, 0, [])).2.2 → i = (k : Int) → Yld prog l [.int .i64 i, .agg #[ii (ss.getD k (0, 0, [])).1, ii (ss.getD k (0, 0, [])).2.1, tov]] Fy (objH l (.loop R) :: Ly) (fun v F' L' => .bool true = v ∧ ∃ L2, J k F' L2 ∧ objH l (.loop R) :: L2 = L')) :
    Does prog 376 [(.func (.yield l) #[] #[]), ptr bt 0] F (objH l (.loop R) :: L) (fun v F' L' => ∃ L2, J 0 F' L2 ∧ objH l (.loop R) :: L2 = L') := by
 refine qz func376 rfl rfl rfl (qc (qa (cX (qh isAgg43 rfl (FzC.rd1 hbt rfl) (cX (qA qV rfl hs.slv (cX (jG (((ss.length : Int)) - 1) rfl rfl (by omega) (by omega) (qf (ii (((ss.length : Int)) - 1)) rfl (qb (qG (jc (α := Nat × List HP × FH) (fun xQ => [(0, (.func (.yield l) #[] #[])), (1, ptr bt 0), (3, ii ((xQ.1 : Int) - 1))]) (fun xQ => objH l (.loop R) :: xQ.2.1) (fun xQ F' => xQ.2.2 = F' ∧ F ≤ xQ.2.2 ∧ (xQ.1 ≤ ss.length) ∧ (J xQ.1 xQ.2.2 xQ.2.1)) (fun xQ => xQ.1) (ss.length, L, F) ⟨rfl, rfl, rfl, ⟨⟩⟩ (sC sR) ⟨rfl, FLe.refl _, (Nat.le_refl _), (hJ0)⟩ ?_))))))))))))
 rintro ⟨j, Lk, G1⟩ rE _ _ ⟨rfl, leG, hj, hJ⟩
 show X _ _ _ _ (envs [(0, (.func (.yield l) #[] #[])), (1, ptr bt 0), (3, ii ((j : Int) - 1))] rE) _ (objH l (.loop R) :: Lk)
 replace leG : F ≤ G1 := leG
 dsimp only at hj hJ
 have hjl : j - 1 < ss.length ∨ j = 0 := by omega
 have leG1 := leG
 replace hs := hs.mono leG1
 replace hbt := hbt.mono leG1
 refine qc (qc (qa (qd (ii ((j : Int) - 1)) rfl (cX (jY rfl rfl (qb ?_))))))
 refine qx (p := ((j : Int) - 1 : Int) ≥ 0) rfl (fun h1 => ?_) (fun h1 => ?_)
 ·have hj0 : ((j : Int) - 1).toNat = j - 1 := by omega
  have hjk : ((j : Int) - 1) = ((j - 1 : Nat) : Int) := by omega
  refine qw (qc (qG (qc (X.ofI (by kernel_rfl) (XI.region (jz (qr ((.func (.yield l) #[] #[])) rfl (jz (qr (ii ((j : Int) - 1)) rfl (jz (qh isAgg43 rfl (FzC.rd1 hbt rfl) (jz (qr (ii ((j : Int) - 1)) rfl (jz (qy (((j : Int) - 1).toNat) qV jd rfl rfl (by omega) hs.slv (by omega) rfl ?_)))))))))))))))
  obtain ⟨a1, ha1, hr1, hr2, hr3⟩ := hs.rd (i := ((j : Int) - 1).toNat) (by omega)
  refine jz (qq [ii ((ss.getD (((j : Int) - 1).toNat) (0, 0, [])).1), ii ((ss.getD (((j : Int) - 1).toNat) (0, 0, [])).2.1), a1] isAgg192 jd rfl rfl (Rd.three (hr1 _) (hr2 _) (hr3 _)) (XIL.yield (k := l) (args := [ii ((j : Int) - 1), .agg #[ii ((ss.getD (((j : Int) - 1).toNat) (0, 0, [])).1), ii ((ss.getD (((j : Int) - 1).toNat) (0, 0, [])).2.1), a1]]) rfl (by rfl) (Yld.weaken (sC sR) ?_)))
  have hJ9 : J ((((j : Int) - 1).toNat) + 1) G1 Lk := by rw [show ((j : Int) - 1).toNat + 1 = j from by omega]; exact hJ
  refine (hyes _ _ _ _ _ (by omega) leG1 hJ9 ha1 (by omega)).mono ?_
  rintro _ F1 _ le1 ⟨rfl, Lj1, hJ1, rfl⟩
  rw [hj0] at hJ1
  show XIL _ _ _ _ _ _ _ _ _ (objH l (.loop R) :: Lj1)
  refine jz (jx rfl (XIL.nil (X.condF rfl (qw (qa (qd (ii ((j : Int) - 1)) rfl (cX (jG (((j : Int) - 1) - 1) rfl rfl (by omega) (by omega) (qf (ii (((j : Int) - 1) - 1)) rfl (qb ?_))))))))))
  exact ⟨(j - 1, Lj1, F1), _, (qm leG1 le1), rF, ⟨rfl, rfl, (vI (by (try dsimp only); omega)), ⟨⟩⟩, (sC sR), ⟨rfl, (qm leG1 le1), (by (try dsimp only) <;> omega), (hJ1)⟩, (by (try dsimp only); omega)⟩
 refine jb (qo (qo (qI (id (retEndN (L' := objH l (.loop R) :: Lk) [] (.tuple #[]) (by exact .nil) rfl leG1 rF (sC sR) ?_)))))
 obtain rfl : j = 0 := by omega
 exact ⟨_, hJ, rfl⟩

/- impl.walkBack -/
set_option maxRecDepth 20000 in
theorem walkBack_spec {F : FH} {L : List HP} {alv : Value} {al : List FoundT} {alcs : List Value} (hal : FoundsF F alv al alcs) {k : Nat} (hk : k < al.length) (hll : al.length ≤ 60) (hlk : Link al) (hbd : ∀ i, i < al.length → (EL al i).1.length ≤ 60) :
    Does prog 289 [alv, ii ((k : Int))] F (L) (fun v F' L' => ∃ (a : Value), ∃ (b : Value), (.agg #[a, b] : Value) = v ∧ (IntsF F' a (EL al 0).1) ∧ (StepsF F' b (walkL al k)) ∧ (Fresh F F' (star [intsH 2 a (EL al 0).1, stepsD 2 192 b (walkL al k)])) ∧ L = L') := by
 refine Does.of_XF func289 rfl (by kernel_rfl) rfl ?_
 have hbd0 : (al.getD 0 ([], 0, (0, 0, []), 0)).1.length ≤ 60 := hbd 0 (by omega)
 refine XF.seq (qa (cX (qS [sN, sN] zeroValue45 rfl ?_)))
 intro b1
 refine qb (XF.seq (qa (qd (alv) rfl (cX (qy 0 jI sizeOf194 rfl rfl rfl hal.slv (by omega) rfl (cX (jA (0 * 6) jZ rfl qt (by decide) rfl rfl ?_)))))))
 obtain ⟨a1, a2, ha1, ha2, hrg1, hq1⟩ := hal.rd (i := 0) (by omega)
 refine cX (qh qM rfl (hrg1 _ 0 _ rfl) (cX (jM <| qn (args := [a1]) call96 rfl (Clone_spec ha1 (hlt := (by first | assumption | rfl | omega | simp))) ?_)))
 rintro v1 _ _ _ ⟨rfl, hs1, rfl⟩
 refine ⟨_, _, rfl, fun F1 le1 hz1 => ?_⟩
 replace hal := hal.mono le1
 have hf1 : IntsF F1 v1 ((((al.getD 0 ([], 0, (0, 0, []), 0)).1))) := intsH.fz (xs := (((al.getD 0 ([], 0, (0, 0, []), 0)).1))) hz1.fz
 refine cX (jf [v1, sN] [sN, sN] [(0, 1), (1, 1)] [(0, [v1])] js zeroValue45 rfl (.cons rfl qt (.cons rfl jR PlacesAre.nil)) rfl (.cons (cells_one (qB hf1)) CellsAre.nil) (cX (qS [sN, sN] zeroValue45 rfl ?_)))
 intro b2
 refine cX (qD [] _ [v1, sN] jr rfl rfl rfl (qi (qC (qB hf1)) (qi rfl qH)) rfl rfl rfl (qb (XF.seq (qa (qf (sN) rfl (qb (XF.seq (qG (jc (α := Nat × Value × List StepT × List Value × Nat) (fun xQ => [(0, alv), (1, ii (((xQ.1 : Nat) : Int))), (4, ptr b1 0), (5, ptr b2 0), (6, xQ.2.1)]) (fun xQ => slH 192 3 xQ.2.1 xQ.2.2.2.2 xQ.2.2.2.1 :: cellsH b2 [v1, sN] 45 :: cellsH b1 [sN, sN] 45 :: L) (fun xQ F' => F1 = F' ∧ (xQ.1 < al.length) ∧ (IsSl xQ.2.1) ∧ (StepsC F1 xQ.2.2.2.1 xQ.2.2.1) ∧ (xQ.2.2.2.2 = xQ.2.2.1.length) ∧ (xQ.2.2.2.2 + xQ.1 ≤ k) ∧ (backL al k = xQ.2.2.1 ++ backL al xQ.1)) (fun xQ => xQ.1) (k, sN, [], [], 0) ⟨rfl, rfl, rfl, rfl, rfl, ⟨⟩⟩ (qQ (Sub.addNil 192 3 _ _) (sC (sC (sC sR)))) ⟨rfl, (hk), (⟨_, _, _, rfl⟩), (CO.nil), (rfl), (by (try dsimp only) <;> omega), (rfl)⟩ ?_)))))))))
 rintro ⟨j, sv, ss, cs, m⟩ rE _ _ ⟨rfl, hj, hsv, hC, hm, hmj, hbk⟩
 show X _ _ _ _ (envs [(0, alv), (1, ii ((j : Int))), (4, ptr b1 0), (5, ptr b2 0), (6, sv)] rE) _ (slH 192 3 sv m cs :: cellsH b2 [v1, sN] 45 :: cellsH b1 [sN, sN] 45 :: L)
 dsimp only at hj hsv hC hm hmj hbk
 have hlj := fun (h : 0 < j) => hlk.2 j h hj
 have hljx : 0 < j → 0 ≤ (al.getD j ([], 0, (0, 0, []), 0)).2.1 ∧ (al.getD j ([], 0, (0, 0, []), 0)).2.1 < (j : Int) := fun h => ⟨(hlj h).1, (hlj h).2.1⟩
 refine qc (qc (qa (qd (ii ((j : Int))) rfl (cX (jX rfl rfl (qb ?_))))))
 refine qx (p := (j : Int) > 0) rfl (fun h1 => ?_) (fun h1 => ?_)
 ·refine qw (qc (qG (qa (qd (sv) rfl (qd (alv) rfl (qd (ii ((j : Int))) rfl (cX (qy j jI sizeOf194 rfl rfl rfl hal.slv (by omega) rfl (cX (jA (j * 6 + 2) jZ rfl jd (by decide) rfl rfl ?_))))))))))
  obtain ⟨a3, a4, ha3, ha4, hrg2, hq2⟩ := hal.rd (i := j) (by omega)
  refine cX (qq [ii ((al.getD j ([], 0, (0, 0, []), 0)).2.2.1.1), ii ((al.getD j ([], 0, (0, 0, []), 0)).2.2.1.2.1), a4] isAgg192 jd rfl rfl (Rd.part 2 (hrg2 _) rfl) (cX (qL (s := 3) [ii ((al.getD j ([], 0, (0, 0, []), 0)).2.2.1.1), ii ((al.getD j ([], 0, (0, 0, []), 0)).2.2.1.2.1), a4] [ii (0), ii (0), sN] [(0, [ii ((al.getD j ([], 0, (0, 0, []), 0)).2.2.1.1), ii ((al.getD j ([], 0, (0, 0, []), 0)).2.2.1.2.1), a4])] qV jd jE rfl (by decide) rfl (.cons rfl CellsAre.nil) rfl ?_)))
  intro v2 hv1
  refine cX (jQ (m := 1) (bytes := 40) (cs := cs) [_] _ [ii ((al.getD j ([], 0, (0, 0, []), 0)).2.2.1.1), ii ((al.getD j ([], 0, (0, 0, []), 0)).2.2.1.2.1), a4] qV typeInfo192 rfl rfl rfl rfl rfl rfl rfl (SlV.own [] rfl) rfl (Rd.lit [] rfl) (qi rfl (qi rfl (qi (qC (qB ha4)) qH))) (by (try simp only [List.length_append, List.length_nil, List.length_cons, List.length_singleton]); omega) (by (try simp only [List.length_append, List.length_nil, List.length_cons, List.length_singleton]); omega) ?_)
  intro v3 hs2 hn1 hm1
  have hc1 := StepsC.snoc hC (i := (al.getD j ([], 0, (0, 0, []), 0)).2.2.1.1) (j := (al.getD j ([], 0, (0, 0, []), 0)).2.2.1.2.1) ha4
  refine qf (v3) rfl (qb (qa (qd (alv) rfl (qd (ii ((j : Int))) rfl (cX (qy j jI sizeOf194 rfl rfl rfl hal.slv (by omega) rfl (cX (jA (j * 6 + 1) jZ rfl sizeOf3 (by decide) rfl rfl (cX (qh isAgg3 rfl (hrg2 _ 1 _ rfl) (qf (ii ((al.getD j ([], 0, (0, 0, []), 0)).2.1)) rfl (qb ?_))))))))))))
  exact ⟨((al.getD j ([], 0, (0, 0, []), 0)).2.1.toNat, v3, ss ++ [((al.getD j ([], 0, (0, 0, []), 0)).2.2.1.1, (al.getD j ([], 0, (0, 0, []), 0)).2.2.1.2.1, (al.getD j ([], 0, (0, 0, []), 0)).2.2.1.2.2)], cs ++ [ii ((al.getD j ([], 0, (0, 0, []), 0)).2.2.1.1), ii ((al.getD j ([], 0, (0, 0, []), 0)).2.2.1.2.1), a4], (m) + 1), _, FLe.refl _, rF, ⟨rfl, (vI (by have := hljx (by omega); (try dsimp only); omega)), rfl, rfl, rfl, ⟨⟩⟩, (sD (sC (sC (sC sR)))), ⟨rfl, (by have := hljx (by omega); (try dsimp only); omega), (hs2), (hc1), (by (try dsimp only); rw [List.length_append, List.length_singleton]; omega), (by have := hljx (by omega); (try dsimp only); omega), (by (try dsimp only); rw [hbk, backL_succ hlk (by omega) hj, List.append_assoc]; rfl)⟩, (by have := hljx (by omega); (try dsimp only); omega)⟩
 refine jb (qo (qo (qI (XF.ofR (XR.seq (qa ?_))))))
 skip
 refine qd (sv) rfl (XL.freezeF [] _ _ rfl (fun F2 le2 hz2 => ?_))
 replace hf1 := hf1.mono le2
 replace hC := hC.mono le2
 have hf2 : StepsF F2 sv ss := CO.fz hC (by first | rfl | omega | (rw [List.length_set]; omega) | (simp; done)) hz2.fz
 refine cX (qn (args := [sv]) call352 rfl (backward_spec hf2) ?_)
 rintro _ F3 _ le3 ⟨x1, rfl, hb1, rfl⟩
 replace hf1 := hf1.mono le3
 replace hf2 := hf2.mono le3
 refine qb (XR.rangeB (gf := 376) (lb := [ptr x1 0]) rfl call376 (fun l D R hRs hRp hRps hRa hRb hRz hRg => ?_))
 have hR0 : ({ R with state := .ready, pending := none } : Loop) = R := by
  cases R
  simp only at hRs hRp
  subst hRs hRp
  rfl
 have hssb : ss = backL al k := by rw [hbk, show j = 0 from by omega, backL_zero, List.append_nil]
 have htb : ∀ i, i < ss.length → (ss.getD i (0, 0, [])).2.2.length ≤ 60 := fun i hi => by
  obtain ⟨q, hq, he⟩ := backL_mem hlk k k (Nat.le_refl _) hk (ss.getD i (0, 0, [])) (by rw [← hssb]; simp [List.getD, hi])
  rw [he]; exact hbd q hq
 have hyes : ∀ (k : Nat) (i : Int) (Fy : FH) (Ly : List HP) (tov : Value), k < ss.length → F3 ≤ Fy → (WJ F3 2 192 45 b2 v1 ss (objH D (.deferred (some [])) :: cellsH b1 [sN, sN] 45 :: L)) (k + 1) Fy Ly → IntsF Fy tov (ss.getD k (0, 0, [])).2.2 → i = (k : Int) → Yld prog l [.int .i64 i, .agg #[ii (ss.getD k (0, 0, [])).1, ii (ss.getD k (0, 0, [])).2.1, tov]] Fy (objH l (.loop R) :: Ly) (fun v F' L' => .bool true = v ∧ ∃ L2, (WJ F3 2 192 45 b2 v1 ss (objH D (.deferred (some [])) :: cellsH b1 [sN, sN] 45 :: L)) k F' L2 ∧ objH l (.loop R) :: L2 = L') := by
  intro k i Fy Ly tov hk9 leF hJ hto hi
  obtain ⟨sv8, ss8, cs8, Ls8, m8, hsv8, hC8, hm8, hDp, hZ, hss8, rfl⟩ := hJ
  have hssl : ss8.length ≤ 60 := by rw [hss8, List.length_reverse, List.length_drop]; omega
  have htob := htb k hk9
  refine Yld.of_round hRs hRp hRps hRa hRb hRz hRg rfl (by kernel_rfl) (by kernel_rfl) (by kernel_rfl) (XI.slots [(32, ii (i)), (33, .agg #[ii ((ss.getD k (0, 0, [])).1), ii ((ss.getD k (0, 0, [])).2.1), tov]), (5, ptr b2 0)] ⟨rfl, rfl, rfl, ⟨⟩⟩ (fun rE => (XI.region (jz (qS [ii (0), ii (0), sN] jE rfl ?_)))))
  intro b3
  refine jz (qD [] _ [ii ((ss.getD k (0, 0, [])).1), ii ((ss.getD k (0, 0, [])).2.1), tov] jd rfl rfl rfl (qi rfl (qi rfl (qi (qC (qB hto)) qH))) rfl rfl rfl (XIL.nil ?_))
  refine ⟨cellsH b3 [ii ((ss.getD k (0, 0, [])).1), ii ((ss.getD k (0, 0, [])).2.1), tov] 192 :: cellsH b2 [v1, sv8] 45 :: slH 192 3 sv8 m8 cs8 :: objH D (.deferred (some [])) :: cellsH b1 [sN, sN] 45 :: L, (qQ (qK (A := [_, _, _])) (qQ (qK (A := [_, _, _])) (qQ (qK (A := [_, _])) (qQ (qK (A := [_, _, _])) (sC (sC (sC (sC sR)))))))), ?_⟩
  refine XI.block (XI.region (jz (qq [ii ((ss.getD k (0, 0, [])).1), ii ((ss.getD k (0, 0, [])).2.1), tov] isAgg192 jd rfl rfl (Rd.ownN [_] rfl rfl) (XIL.weaken (qK (A := [_, _, _])) ?_))))
  show XIL _ _ _ _ _ _ _ _ _ (slH 192 3 sv8 m8 cs8 :: objH l (.loop { R with state := .busy }) :: cellsH b3 [ii ((ss.getD k (0, 0, [])).1), ii ((ss.getD k (0, 0, [])).2.1), tov] 192 :: cellsH b2 [v1, sv8] 45 :: objH D (.deferred (some [])) :: cellsH b1 [sN, sN] 45 :: L)
  refine XIL.weaken (qK (A := [_, _, _])) ?_
  show XIL _ _ _ _ _ _ _ _ _ (cellsH b2 [v1, sv8] 45 :: slH 192 3 sv8 m8 cs8 :: objH l (.loop { R with state := .busy }) :: cellsH b3 [ii ((ss.getD k (0, 0, [])).1), ii ((ss.getD k (0, 0, [])).2.1), tov] 192 :: objH D (.deferred (some [])) :: cellsH b1 [sN, sN] 45 :: L)
  refine jz (qn (args := [ptr b2 0, .agg #[ii ((ss.getD k (0, 0, [])).1), ii ((ss.getD k (0, 0, [])).2.1), tov]]) call290 rfl (walkAdd_spec hto hsv8 hC8 (by first | rfl | assumption | omega) (by omega) (by omega)) ?_)
  rintro _ F4 _ le4 ⟨sw1, cw1, hs3, hw1, hf3, rfl⟩
  replace hC8 := hC8.mono le4
  have hc2 := StepsC.snoc hC8 (i := (ss.getD k (0, 0, [])).1) (j := (ss.getD k (0, 0, [])).2.1) hw1
  show XIL _ _ _ _ _ _ _ _ _ (cellsH b2 [v1, sw1] 45 :: slH 192 3 sw1 ((m8) + 1) ((cs8 ++ [ii ((ss.getD k (0, 0, [])).1), ii ((ss.getD k (0, 0, [])).2.1), cw1])) :: objH l (.loop { R with state := .busy }) :: cellsH b3 [ii ((ss.getD k (0, 0, [])).1), ii ((ss.getD k (0, 0, [])).2.1), tov] 192 :: objH D (.deferred (some [])) :: cellsH b1 [sN, sN] 45 :: L)
  refine XIL.nil ?_
  refine ⟨rfl, ?_⟩
  refine ⟨cellsH b2 [v1, sw1] 45 :: slH 192 3 sw1 ((m8) + 1) ((cs8 ++ [ii ((ss.getD k (0, 0, [])).1), ii ((ss.getD k (0, 0, [])).2.1), cw1])) :: objH D (.deferred (some [])) :: cellsH b1 [sN, sN] 45 :: L, (qQ (qK (A := [_])) (qQ (qK (A := [_])) (qQ (qK (A := [_, _])) (sC (sC (sC (sD sR))))))), ?_⟩
  rw [hR0]
  exact ⟨rfl, _, ⟨_, _, _, _, _, hs3, hc2, by rw [List.length_append, List.length_singleton]; omega, DeepL.snoc hDp rfl ⟨_, rfl, rfl⟩, (Fresh.app hZ leF (Fresh.one hf3) le4), by rw [hss8]; exact (drop_rev (0, 0, []) hk9).symm, rfl⟩, rfl⟩
 refine (Does.weaken (qQ (Sub.addNil 192 3 none _) (qQ (qK (A := [_, _, _, _])) (qQ (qK (A := [_, _, _])) (qQ (qK (A := [_, _])) (qQ (qK (A := [_, _, _, _])) (qQ (qK (A := [_, _, _, _])) (sC (sC (sC (sC (sC sR))))))))))) (backIt_spec (J := (WJ F3 2 192 45 b2 v1 ss (objH D (.deferred (some [])) :: cellsH b1 [sN, sN] 45 :: L))) hb1 hf2 (by omega) WJ.start hyes)).mono ?_
 rintro _ F9 _ le9 ⟨L9, ⟨sv9, ss9, cs9, Ls9, m9, hsv9, hC9, hm9, hD9, hZ9, hss9, rfl⟩, rfl⟩
 replace hf1 := hf1.mono le9
 rw [List.drop_zero] at hss9
 refine ⟨R, cellsH b2 [v1, sv9] 45 :: slH 192 3 sv9 m9 cs9 :: cellsH b1 [sN, sN] 45 :: L, by rw [hRs]; simp, hRp, (qQ (qK (A := [_, _, _, _])) (qQ (qK (A := [_, _, _])) (qQ (qK (A := [_, _, _])) (qQ (qK (A := [_, _, _, _])) (qQ (qK (A := [_, _, _, _])) (sC (sC (sC (sC (sC sR)))))))))), ?_⟩
 refine XI.seq (XI.region (jz (qq [v1, sv9] isAgg45 jr rfl rfl (Rd.ownN [_] rfl rfl) (jz (qD [_, _, _] _ [v1, sv9] jr rfl rfl rfl (qi (qC (qB hf1)) (qi (qC hsv9) qH)) rfl rfl rfl (XIL.nil (XI.freezeF [_, _] _ _ rfl (fun F5 le5 hz3 => ?_))))))))
 replace hf1 := hf1.mono le5
 replace hC9 := hC9.mono le5
 have hf4 : StepsF F5 sv9 ss9 := CO.fz hC9 (by first | rfl | omega | (rw [List.length_set]; omega) | (simp; done)) hz3.fz
 refine XI.ret (retEndC (L' := L) (cellsH b2 [v1, sv9] 45 :: cellsH b1 [v1, sv9] 45 :: L) [.agg #[v1, sv9]] (.agg #[v1, sv9]) (.cell rfl (jo [v1, sv9] isAgg45 jr rfl (Rd.ownN [_, _] rfl rfl)) .nil) rfl (qm (qm (qm (qm le1 le2) le3) le9) le5) rF (sC (sC (sC sR))) (sD (sD sR)) ?_)
 have e9 : ss9 = walkL al k := by rw [hss9]; unfold walkL; rw [hbk, show j = 0 from by omega, backL_zero, List.append_nil]
 rw [← e9]
 exact ⟨_, _, rfl, hf1, hf4, (Fresh.app ((Fresh.one hz1).mono (qm le2 le3)) (qm (qm le1 le2) le3) (Fresh.one (Fresh.deep hD9 hZ9 le9 hz3 (by omega) le5)) (qm le9 le5)), rfl⟩
end Go.Proofs.YtjpfankibmeaaaaGreat
