/-
  Walks, one after the other (part 2).
-/
import Derived.Test.YtjpfankibmeaaaaQZL1
import Derived.Test.YtjpfankibmeaaaaQZB0
set_option linter.unusedSimpArgs false
set_option linter.unusedVariables false
namespace Go.Proofs.Ytjpfankibmeaaaa
open Go X M Try

/- spec.l2Gives -/
theorem l2Gives_spec {F : FH} {L : List HP} {sv : Value} {s : List (List Int)} (hs : RowsF F sv s) {i : Nat} (hsl : s.length ≤ 4000000) (hi : i ≤ 4000000) (hsb : (s.getD i []).length ≤ 4000000) :
    Does prog 147 [.agg #[sv], ii ((i : Int))] F (L) (fun v F' L' => F = F' ∧ IsSl v ∧ intsH 2 v (lk s (-1 - (i : Int))) :: L = L') := by
 refine qA func147 rfl rfl rfl (qc (qa (cX (qO [sv] rfl rfl ?_))))
 intro b1
 refine qf (sN) rfl (qb (qc (qc (qa (qd (ii ((i : Int))) rfl (cX (qj (0) qE rfl qS (by decide) rfl rfl (cX (qi jv rfl (Rd.own [] rfl rfl) (cX (qv qr rfl hs.slv (cX (qL rfl rfl (qd (.bool (decide ((i : Int) < (s.length : Int)))) rfl ?_))))))))))))))
 by_cases h1 : (i : Int) < (s.length : Int)
 ·refine qz (t := 10) rfl (vT h1) (qj (0) qE rfl qS (by decide) rfl rfl (qz (t := 10) rfl (vT h1) (qi jv rfl (Rd.own [] rfl rfl) (qz (t := 10) rfl (vT h1) (qp (ii ((i : Int))) rfl (qz (t := 10) rfl (vT h1) (qB i qr qx rfl rfl rfl hs.slv (by omega) (Nat.mul_one _) ?_)))))))
  obtain ⟨a1, ha1, hr1⟩ := hs.rd (i := i) (by omega)
  refine qz (t := 10) rfl (vT h1) (qi qJ rfl (hr1 _) (qz (t := 10) rfl (vT h1) (qv qg rfl ha1.slv (qz (t := 10) rfl (vT h1) (XOp.gtr rfl rfl (cX (ja (.bool (decide ((((((s.getD i [])).length : Nat) : Int) : Int) > 0))) (vT h1) rfl (qb ?_))))))))
  refine qt (p := (((((s.getD i [])).length : Nat) : Int) : Int) > 0) rfl (fun h2 => ?_) (fun h2 => ?_)
  ·refine qc (qa (cX (qj (0) qE rfl qS (by decide) rfl rfl (cX (qi jv rfl (Rd.own [] rfl rfl) (qd (ii ((i : Int))) rfl (cX (qB i qr qx rfl rfl rfl hs.slv (by omega) (Nat.mul_one _) (cX (qi qJ rfl (hr1 _) (cX (qn (args := [a1]) call31 rfl (l1Copy_spec ha1 (hlt := (by first | assumption | rfl | omega | simp))) ?_))))))))))))
   rintro v1 _ _ _ ⟨rfl, hs1, rfl⟩
   refine qf (v1) rfl (qb (qq (qh (qm (L' := intsH 2 v1 ((((s.getD i [])))) :: L) [v1] (v1) (.tmp rfl .nil) rfl rF rF (sC (sD sR)) ?_))))
   refine ⟨rfl, hs1, ?_⟩
   have hxs : (lk s (-1 - (i : Int)) : List Int) = (((s.getD i []))) := lk_copy (by omega)
   exact congrArg (fun z => intsH 2 _ z :: L) hxs
  refine qs (qc (qa (qd (ii ((i : Int))) rfl (cX (jm ((-1) - ((i : Int))) rfl rfl (by omega) (by omega) (cX (qN (s := 1) [ii ((-1) - ((i : Int)))] [ii (0)] [(0, [ii ((-1) - ((i : Int)))])] qg qM jt rfl (by decide) rfl (.cons rfl CellsAre.nil) rfl ?_)))))))
  intro v2 hv1
  refine qf (v2) rfl (qb (qq (qm (L' := intsH 2 v2 ([(-1) - ((i : Int))]) :: L) [v2] (v2) (.tmp rfl .nil) rfl rF rF (sC (sD sR)) ?_)))
  refine ⟨rfl, (isSl_lit hv1), ?_⟩
  have hxs : (lk s (-1 - (i : Int)) : List Int) = [(-1) - ((i : Int))] := lk_self (by first | omega | (rw [getD_out (by omega)]; simp))
  exact congrArg (fun z => intsH 2 _ z :: L) hxs
 refine qu (t := 10) rfl (vF h1) (qu (t := 10) rfl (vF h1) (qu (t := 10) rfl (vF h1) (qu (t := 10) rfl (vF h1) (qu (t := 10) rfl (vF h1) (qu (t := 10) rfl (vF h1) (qu (t := 10) rfl (vF h1) (cX (qT (.bool (false)) (vF h1) rfl (qb (X.condF rfl ?_))))))))))
 refine qs (qc (qa (qd (ii ((i : Int))) rfl (cX (jm ((-1) - ((i : Int))) rfl rfl (by omega) (by omega) (cX (qN (s := 1) [ii ((-1) - ((i : Int)))] [ii (0)] [(0, [ii ((-1) - ((i : Int)))])] qg qM jt rfl (by decide) rfl (.cons rfl CellsAre.nil) rfl ?_)))))))
 intro v3 hv2
 refine qf (v3) rfl (qb (qq (qm (L' := intsH 2 v3 ([(-1) - ((i : Int))]) :: L) [v3] (v3) (.tmp rfl .nil) rfl rF rF (sC (sD sR)) ?_)))
 refine ⟨rfl, (isSl_lit hv2), ?_⟩
 have hxs : (lk s (-1 - (i : Int)) : List Int) = [(-1) - ((i : Int))] := lk_self (by first | omega | (rw [getD_out (by omega)]; simp))
 exact congrArg (fun z => intsH 2 _ z :: L) hxs

/- spec.l2Plain -/
theorem l2Plain_spec {F : FH} {L : List HP} {sv : Value} {s : List (List Int)} (hs : RowsF F sv s) (hsl : s.length ≤ 24) (hsb : ∀ i, (s.getD i []).length ≤ 4000000) :
    Does prog 136 [.agg #[sv]] F (L) (fun v F' L' => ∃ (a : Value), (.agg #[a] : Value) = v ∧ (RowsF F' a (plainL s)) ∧ L = L') := by
 refine qA func136 rfl rfl rfl (qc (qa (cX (qO [sv] rfl rfl ?_))))
 intro b1
 refine cX (jd [sN] jh rfl ?_)
 intro b2
 refine qb (qc (qa (cX (XOp.build [sN] [sN] [(0, 1)] [] qE jh rfl (.cons rfl qS PlacesAre.nil) rfl CellsAre.nil (cX (jd [sN] jh rfl ?_))))))
 intro b3
 refine cX (qV [] _ [sN] qU rfl rfl rfl (qI rfl qY) rfl rfl rfl (qb (qc (qc (qa (qf (ii (0)) rfl (qb (qC (je (α := Nat × Value × RowL × FH) (fun xQ => [(1, ptr b1 0), (2, ptr b2 0), (3, ptr b3 0), (4, ii (((xQ.1 : Nat) : Int)))]) (fun xQ => rowsH 22 xQ.2.2.2 xQ.2.1 xQ.2.2.1 :: cellsH b3 [xQ.2.1] 145 :: cellsH b2 [sN] 145 :: cellsH b1 [sv] 145 :: L) (fun xQ F' => xQ.2.2.2 = F' ∧ F ≤ xQ.2.2.2 ∧ (IsSl xQ.2.1) ∧ (xQ.2.2.1 = (plainGo 0 s).take xQ.1) ∧ (xQ.1 ≤ s.length)) (fun xQ => s.length - xQ.1) (0, sN, [], F) ⟨rfl, rfl, rfl, rfl, ⟨⟩⟩ (coH.addNil none (sC (sC (sC sR)))) ⟨rfl, FLe.refl _, (⟨_, _, _, rfl⟩), (rfl), (by (try dsimp only) <;> omega)⟩ ?_)))))))))
 rintro ⟨k, ov, os, G1⟩ rE _ _ ⟨rfl, leG, hov, hos, hk⟩
 show X _ _ _ _ (envs [(1, ptr b1 0), (2, ptr b2 0), (3, ptr b3 0), (4, ii ((k : Int)))] rE) _ (rowsH 22 G1 ov os :: cellsH b3 [ov] 145 :: cellsH b2 [sN] 145 :: cellsH b1 [sv] 145 :: L)
 replace leG : F ≤ G1 := leG
 dsimp only at hov hos hk
 have hol : os.length ≤ k := by rw [hos, List.length_take]; omega
 have hsbk := hsb k
 have hlkb : (lk s (-1 - (k : Int))).length ≤ 4000000 := by rw [lk_var]; split <;> simp; exact hsbk
 have leG1 := leG
 replace hs := hs.mono leG1
 refine X.open [] rfl (fun cs1 hc1 => ?_)
 replace hc1 : RowsC G1 cs1 os := hc1
 refine qc (qc (qa (qd (ii ((k : Int))) rfl (cX (qj (0) qE rfl qS (by decide) rfl rfl (cX (qi jv rfl (Rd.own [_, _, _] rfl rfl) (cX (qv qr rfl hs.slv (cX (qL rfl rfl (qb ?_))))))))))))
 refine qt (p := (k : Int) < (s.length : Int)) rfl (fun h1 => ?_) (fun h1 => ?_)
 ·refine qs (qc (qC (qc (qa (cX (qw [sv] ju qU rfl rfl (Rd.ownN [_, _, _] rfl rfl) (qd (ii ((k : Int))) rfl (cX (XOp.frzF <| qn (args := [.agg #[sv], ii (k : Int)]) call147 rfl (l2Gives_spec (i := k) hs (hsl := (by first | assumption | rfl | omega | simp)) (hi := (by first | assumption | rfl | omega | simp)) (hsb := (hsb k))) ?_)))))))))
  rintro v1 _ _ _ ⟨rfl, hs1, rfl⟩
  refine ⟨_, _, rfl, fun F1 le1 hz1 => ?_⟩
  replace hc1 := hc1.mono le1
  have hf1 : IntsF F1 v1 ((lk s (-1 - (k : Int)))) := intsH.fz (xs := (lk s (-1 - (k : Int)))) hz1.fz
  refine qf (v1) rfl (qb (qc (qc (qa (qd (v1) rfl (cX (qv qg rfl hf1.slv (cX (XOp.eql rfl rfl (qd (.bool (decide ((((((lk s (-1 - (k : Int)))).length : Nat) : Int) : Int) = 1))) rfl ?_))))))))))
  by_cases h2 : (((((lk s (-1 - (k : Int)))).length : Nat) : Int) : Int) = 1
  ·refine qz (t := 20) rfl (vT h2) (qp (v1) rfl (qz (t := 20) rfl (vT h2) (qB 0 qg qM rfl rfl rfl hf1.slv (by omega) (Nat.mul_one _) (qz (t := 20) rfl (vT h2) (qi jg rfl (hf1.rd (by omega)) (qz (t := 20) rfl (vT h2) (qp (ii ((k : Int))) rfl (qz (t := 20) rfl (vT h2) (jm ((-1) - ((k : Int))) rfl rfl (by omega) (by omega) (qz (t := 20) rfl (vT h2) (XOp.eql rfl rfl (cX (ja (.bool (decide ((((lk s (-1 - (k : Int)))).getD 0 0 : Int) = (-1) - ((k : Int))))) (vT h2) rfl (qb ?_))))))))))))))
   refine qt (p := (((lk s (-1 - (k : Int)))).getD 0 0 : Int) = (-1) - ((k : Int))) rfl (fun h3 => ?_) (fun h3 => ?_)
   ·refine qa (cX (qN (s := 1) [] [ii (0)] [] qg qM jt rfl (by decide) rfl CellsAre.nil rfl ?_))
    intro v2 hv1
    refine qf (v2) rfl (qb (qa (cX (qj (0) qE rfl qS (by decide) rfl rfl (cX (qi jv rfl (Rd.own [_, _] rfl rfl) (qd (v2) rfl (cX (qN (s := 1) [v2] [sN] [(0, [v2])] qr qx js rfl (by decide) rfl (.cons (cells_one (isSl_lit hv1)) CellsAre.nil) rfl ?_)))))))))
    intro v3 hv2
    show XL _ _ _ _ _ _ _ (slH 22 1 v3 1 [v2] :: intsH 2 v2 ([] : List Int) :: slH 22 1 ov ((os).length) cs1 :: cellsH b3 [ov] 145 :: cellsH b2 [sN] 145 :: cellsH b1 [sv] 145 :: L)
    refine XL.freezeF [_] _ _ rfl (fun F2 le2 hz2 => ?_)
    replace hc1 := hc1.mono le2
    replace hf1 := hf1.mono le2
    have hf2 : IntsF F2 v2 ([]) := intsH.fz (xs := []) hz2.fz
    refine cX (XOp.append (m := 1) (bytes := 24) (cs := cs1) [_] _ [v2] qr typeInfo22 rfl rfl rfl rfl rfl rfl rfl (SlV.own [] rfl) rfl (Rd.lit [] rfl) (qI (qW (qK hf2)) qY) (by (try simp only [List.length_append, List.length_nil, List.length_cons, List.length_singleton]); omega) (by (try simp only [List.length_append, List.length_nil, List.length_cons, List.length_singleton]); omega) ?_)
    intro v4 hs2 hn1 hm1
    have hc2 := RowsC.snoc hc1 hf2
    refine cX (qj (0) qE rfl qS (by decide) rfl rfl (cX (jr [_, _] _ [v4] qS rfl rfl (qW hs2) rfl rfl rfl (qb (qa (qd (ii ((k : Int))) rfl (cX (qD (((k + 1 : Nat) : Int)) rfl rfl (by omega) (by omega) (qf (ii (((k + 1 : Nat) : Int))) rfl (qb ?_))))))))))
    exact ⟨(k + 1, v4, os ++ [[]], F2), _, (ql (ql leG1 le1) le2), rF, ⟨rfl, rfl, rfl, rfl, ⟨⟩⟩, (sD (coH.close hc2 (by first | rfl | simp) (sC (sC (sC sR))))), ⟨rfl, (ql (ql leG1 le1) le2), (hs2), (by dsimp only; rw [hos, plainGo_take (by omega), plainGo_self (one_eq (by omega) (by omega))]), (by (try dsimp only) <;> omega)⟩, (by omega)⟩
   refine qs (qa (cX (qj (0) qE rfl qS (by decide) rfl rfl (cX (qi jv rfl (Rd.own [_] rfl rfl) (qd (v1) rfl (cX (qN (s := 1) [v1] [sN] [(0, [v1])] qr qx js rfl (by decide) rfl (.cons (cells_one (qK hf1)) CellsAre.nil) rfl ?_))))))))
   intro v5 hv3
   refine cX (XOp.append (m := 1) (bytes := 24) (cs := cs1) [_] _ [v1] qr typeInfo22 rfl rfl rfl rfl rfl rfl rfl (SlV.own [] rfl) rfl (Rd.lit [] rfl) (qI (qW (qK hf1)) qY) (by (try simp only [List.length_append, List.length_nil, List.length_cons, List.length_singleton]); omega) (by (try simp only [List.length_append, List.length_nil, List.length_cons, List.length_singleton]); omega) ?_)
   intro v6 hs3 hn2 hm2
   have hc3 := RowsC.snoc hc1 hf1
   refine cX (qj (0) qE rfl qS (by decide) rfl rfl (cX (jr [_, _] _ [v6] qS rfl rfl (qW hs3) rfl rfl rfl (qb (qa (qd (ii ((k : Int))) rfl (cX (qD (((k + 1 : Nat) : Int)) rfl rfl (by omega) (by omega) (qf (ii (((k + 1 : Nat) : Int))) rfl (qb ?_))))))))))
   exact ⟨(k + 1, v6, os ++ [(lk s (-1 - (k : Int)))], F1), _, (ql leG1 le1), rF, ⟨rfl, rfl, rfl, rfl, ⟨⟩⟩, (sD (coH.close hc3 (by first | rfl | simp) (sC (sC (sC sR))))), ⟨rfl, (ql leG1 le1), (hs3), (by dsimp only; rw [hos, plainGo_take (by omega), plainGo_other (by intro e; have e1 := congrArg List.length e; have e2 := congrArg (fun l => l.getD 0 0) e; simp only [List.length_singleton, List.getD_cons_zero] at e1 e2; omega)]), (by (try dsimp only) <;> omega)⟩, (by omega)⟩
  refine qu (t := 20) rfl (vF h2) (qu (t := 20) rfl (vF h2) (qu (t := 20) rfl (vF h2) (qu (t := 20) rfl (vF h2) (qu (t := 20) rfl (vF h2) (qu (t := 20) rfl (vF h2) (cX (qT (.bool (false)) (vF h2) rfl (qb (X.condF rfl (qs (qa ?_)))))))))))
  refine cX (qj (0) qE rfl qS (by decide) rfl rfl (cX (qi jv rfl (Rd.own [_] rfl rfl) (qd (v1) rfl (cX (qN (s := 1) [v1] [sN] [(0, [v1])] qr qx js rfl (by decide) rfl (.cons (cells_one (qK hf1)) CellsAre.nil) rfl ?_))))))
  intro v7 hv4
  refine cX (XOp.append (m := 1) (bytes := 24) (cs := cs1) [_] _ [v1] qr typeInfo22 rfl rfl rfl rfl rfl rfl rfl (SlV.own [] rfl) rfl (Rd.lit [] rfl) (qI (qW (qK hf1)) qY) (by (try simp only [List.length_append, List.length_nil, List.length_cons, List.length_singleton]); omega) (by (try simp only [List.length_append, List.length_nil, List.length_cons, List.length_singleton]); omega) ?_)
  intro v8 hs4 hn3 hm3
  have hc4 := RowsC.snoc hc1 hf1
  refine cX (qj (0) qE rfl qS (by decide) rfl rfl (cX (jr [_, _] _ [v8] qS rfl rfl (qW hs4) rfl rfl rfl (qb (qa (qd (ii ((k : Int))) rfl (cX (qD (((k + 1 : Nat) : Int)) rfl rfl (by omega) (by omega) (qf (ii (((k + 1 : Nat) : Int))) rfl (qb ?_))))))))))
  exact ⟨(k + 1, v8, os ++ [(lk s (-1 - (k : Int)))], F1), _, (ql leG1 le1), rF, ⟨rfl, rfl, rfl, rfl, ⟨⟩⟩, (sD (coH.close hc4 (by first | rfl | simp) (sC (sC (sC sR))))), ⟨rfl, (ql leG1 le1), (hs4), (by dsimp only; rw [hos, plainGo_take (by omega), plainGo_other (by intro e; have e1 := congrArg List.length e; have e2 := congrArg (fun l => l.getD 0 0) e; simp only [List.length_singleton, List.getD_cons_zero] at e1 e2; omega)]), (by (try dsimp only) <;> omega)⟩, (by omega)⟩
 refine qZ (qo (qo (qF (qc (qC (je (α := Value × RowL × FH) (fun xQ => [(2, ptr b2 0), (3, ptr b3 0)]) (fun xQ => rowsH 22 xQ.2.2 xQ.1 xQ.2.1 :: cellsH b3 [xQ.1] 145 :: cellsH b2 [sN] 145 :: cellsH b1 [sv] 145 :: L) (fun xQ F' => xQ.2.2 = F' ∧ G1 ≤ xQ.2.2 ∧ (IsSl xQ.1) ∧ (trim xQ.2.1 = plainL s) ∧ (xQ.2.1.length ≤ 24)) (fun xQ => xQ.2.1.length) (ov, os, G1) ⟨rfl, rfl, ⟨⟩⟩ (coH.close hc1 (by first | rfl | simp) (sC (sC (sC sR)))) ⟨rfl, FLe.refl _, (hov), (by dsimp only; rw [hos, plainL, List.take_of_length_le (by rw [plainGo_length]; omega)]), (by dsimp only; rw [hos, List.length_take, plainGo_length]; omega)⟩ ?_))))))
 rintro ⟨ov2, os2, G2⟩ rE _ _ ⟨rfl, leG, hov2, hos2, hl2⟩
 show X _ _ _ _ (envs [(2, ptr b2 0), (3, ptr b3 0)] rE) _ (rowsH 22 G2 ov2 os2 :: cellsH b3 [ov2] 145 :: cellsH b2 [sN] 145 :: cellsH b1 [sv] 145 :: L)
 replace leG : G1 ≤ G2 := leG
 dsimp only at hov2 hos2 hl2
 have leG2 := leG
 refine X.open [] rfl (fun cs2 hc5 => ?_)
 replace hc5 : RowsC G2 cs2 os2 := hc5
 refine qc (qc (qa (cX (qj (0) qE rfl qS (by decide) rfl rfl (cX (qi jv rfl (Rd.own [_] rfl rfl) (cX (qv qr rfl (SlV.own [] rfl) (cX (XOp.gtr rfl rfl (qd (.bool (decide (((os2.length : Int) : Int) > 0))) rfl ?_)))))))))))
 by_cases h4 : ((os2.length : Int) : Int) > 0
 ·refine qz (t := 39) rfl (vT h4) (qj (0) qE rfl qS (by decide) rfl rfl (qz (t := 39) rfl (vT h4) (qi jv rfl (Rd.own [_] rfl rfl) (qz (t := 39) rfl (vT h4) (qj (0) qE rfl qS (by decide) rfl rfl (qz (t := 39) rfl (vT h4) (qi jv rfl (Rd.own [_] rfl rfl) (qz (t := 39) rfl (vT h4) (qv qr rfl (SlV.own [] rfl) (qz (t := 39) rfl (vT h4) (jm (((os2.length - 1 : Nat) : Int)) rfl rfl (by omega) (by omega) (qz (t := 39) rfl (vT h4) (qB (os2.length - 1) qr qx rfl rfl rfl (SlV.own [] rfl) (by omega) (Nat.mul_one _) ?_)))))))))))))
  obtain ⟨a1, ha1, he1⟩ := hc5.get (i := os2.length - 1) (by omega)
  refine qz (t := 39) rfl (vT h4) (qi qJ rfl (Rd.sl [] rfl he1) (qz (t := 39) rfl (vT h4) (qv qg rfl ha1.slv (qz (t := 39) rfl (vT h4) (XOp.eql rfl rfl (cX (ja (.bool (decide ((((((os2.getD (os2.length - 1) [])).length : Nat) : Int) : Int) = 0))) (vT h4) rfl (qb ?_))))))))
  refine qt (p := (((((os2.getD (os2.length - 1) [])).length : Nat) : Int) : Int) = 0) rfl (fun h5 => ?_) (fun h5 => ?_)
  ·refine qs (qC (qa (cX (qj (0) qE rfl qS (by decide) rfl rfl (cX (qi jv rfl (Rd.own [_] rfl rfl) (cX (qj (0) qE rfl qS (by decide) rfl rfl (cX (qi jv rfl (Rd.own [_] rfl rfl) (cX (qv qr rfl (SlV.own [] rfl) (cX (jm (((os2.length - 1 : Nat) : Int)) rfl rfl (by omega) (by omega) (cX (XOp.sliceOwn (cs := cs2) [] _ (os2.length - 1) qr qx rfl rfl ⟨_, rfl⟩ (by omega) ?_))))))))))))))))
   intro v9 hs5
   have hc6 : RowsC G2 _ _ := CO.take hc5 (k := os2.length - 1) (by omega)
   refine cX (qj (0) qE rfl qS (by decide) rfl rfl (cX (jr [_] _ [v9] qS rfl rfl (qW hs5) rfl rfl rfl (qb ?_))))
   exact ⟨(v9, (os2.take (os2.length - 1)), G2), _, leG2, rF, ⟨rfl, rfl, ⟨⟩⟩, (coH.close hc6 (by first | rfl | simp) (sC (sC (sC sR)))), ⟨rfl, leG2, (hs5), (by dsimp only; rw [trim_cut (by omega) (List.eq_nil_of_length_eq_zero (by omega))]; exact hos2), (by dsimp only; rw [List.length_take]; omega)⟩, (by dsimp only; rw [List.length_take]; omega)⟩
  refine qZ (qo (qo (qF (qc (qa (cX (qw [ov2] ju qU rfl rfl (Rd.ownN [_] rfl rfl) (cX (qV [_, _] _ [ov2] qU rfl rfl rfl (qI (qW hov2) qY) rfl rfl rfl (qb (jq [] _ _ rfl (fun F3 le3 hz3 => ?_))))))))))))
  replace hc5 := hc5.mono le3
  have hf3 : RowsF F3 ov2 os2 := CO.fz hc5 (by first | rfl | omega | (rw [List.length_set]; omega) | (simp; done)) hz3.fz
  refine qq (qm (L' := L) [.agg #[ov2]] (.agg #[ov2]) (.cell rfl (loadNV [ov2] ju qU rfl (Rd.ownN [_] rfl rfl)) .nil) rfl (ql (ql leG1 leG2) le3) rF (sD (sD (sD sR))) ?_)
  have e : os2 = plainL s := by rw [← hos2]; exact (trim_last (fun h0 e => by have := congrArg List.length e; simp only [List.length_nil] at this; omega)).symm
  exact ⟨_, rfl, by rw [← e]; exact hf3, rfl⟩
 refine qu (t := 39) rfl (vF h4) (qu (t := 39) rfl (vF h4) (qu (t := 39) rfl (vF h4) (qu (t := 39) rfl (vF h4) (qu (t := 39) rfl (vF h4) (qu (t := 39) rfl (vF h4) (qu (t := 39) rfl (vF h4) (qu (t := 39) rfl (vF h4) (qu (t := 39) rfl (vF h4) (qu (t := 39) rfl (vF h4) ?_)))))))))
 refine cX (qT (.bool (false)) (vF h4) rfl (qb (X.condF rfl (qZ (qo (qo (qF (qc (qa (cX (qw [ov2] ju qU rfl rfl (Rd.ownN [_] rfl rfl) (cX (qV [_, _] _ [ov2] qU rfl rfl rfl (qI (qW hov2) qY) rfl rfl rfl (qb (jq [] _ _ rfl (fun F4 le4 hz4 => ?_))))))))))))))))
 replace hc5 := hc5.mono le4
 have hf4 : RowsF F4 ov2 os2 := CO.fz hc5 (by first | rfl | omega | (rw [List.length_set]; omega) | (simp; done)) hz4.fz
 refine qq (qm (L' := L) [.agg #[ov2]] (.agg #[ov2]) (.cell rfl (loadNV [ov2] ju qU rfl (Rd.ownN [_] rfl rfl)) .nil) rfl (ql (ql leG1 leG2) le4) rF (sD (sD (sD sR))) ?_)
 have e : os2 = plainL s := by rw [← hos2]; exact (trim_last (fun h0 e => by have := congrArg List.length e; simp only [List.length_nil] at this; omega)).symm
 exact ⟨_, rfl, by rw [← e]; exact hf4, rfl⟩

/- spec.l4Match -/
theorem l4Match_spec {F : FH} {L : List HP} {arv : Value} {ar : List Int} (har : IntsF F arv ar) {pv : Value} {p : List Int} (hp : IntsF F pv p) {tv : Value} {t : List Int} (ht : IntsF F tv t) (ho : termOk ar t = true) (hpo : termOk ar p = true) :
    Does prog 108 [.agg #[arv], pv, tv] F (L) (fun v F' L' => ∃ (a : Value), (.tuple #[.agg #[a], .bool ((matchB ar p t).isSome)] : Value) = v ∧ (RowsF F' a (matchP ar p t)) ∧ L = L') := by
 refine qA func108 rfl rfl rfl ?_
 have hpl := termOk_len hpo
 have hpg := fun k (hk : k < p.length) => termOk_ge hpo hk
 have htl := termOk_len ho
 have hsl := sigOk_spec (termOk_sig ho)
 refine qc (qa (cX (qO [arv] rfl rfl ?_)))
 intro b1
 refine cX (jd [sN] jh rfl ?_)
 intro b2
 refine qf (.bool (false)) rfl (qb (qc (qa (cX (XOp.makeSlice (n := 24) (bytes := 24) [sN] qr qx typeInfo22 rfl js rfl rfl rfl rfl (by omega) (by omega) ?_)))))
 intro v1 hv1
 rw [nils]
 have hc1 : RowsC F _ _ := RowsC.nils 24
 refine cX (XOp.build [v1] [sN] [(0, 1)] [(0, [v1])] qE jh rfl (.cons rfl qS PlacesAre.nil) rfl (.cons (cells_one (isSl_lit hv1)) CellsAre.nil) (cX (jd [sN] jh rfl ?_)))
 intro b3
 refine cX (qV [] _ [v1] qU rfl rfl rfl (qI (qW (isSl_lit hv1)) qY) rfl rfl rfl (qb (qc (qa (qf (ii (0)) rfl (qb (qc (qc (qa (qf (ii (0)) rfl (qb (qC (je (α := Nat × Nat × RowL × FH) (fun xQ => [(1, pv), (2, tv), (3, ptr b1 0), (6, ptr b2 0), (8, ptr b3 0), (9, ii (((xQ.2.1 : Nat) : Int))), (10, ii (((xQ.1 : Nat) : Int)))]) (fun xQ => cellsH b3 [v1] 145 :: rowsH 22 xQ.2.2.2 v1 xQ.2.2.1 :: cellsH b2 [sN] 145 :: cellsH b1 [arv] 30 :: L) (fun xQ F' => xQ.2.2.2 = F' ∧ F ≤ xQ.2.2.2 ∧ (xQ.2.2.1.length = 24) ∧ (xQ.1 ≤ p.length) ∧ (xQ.2.1 ≤ t.length) ∧ (matchB ar p t = mGo ar t (p.drop xQ.1) xQ.2.1 xQ.2.2.1)) (fun xQ => p.length - xQ.1) (0, 0, (List.replicate 24 [] : List (List Int)), F) ⟨rfl, rfl, rfl, rfl, rfl, rfl, rfl, ⟨⟩⟩ (sC (coH.close hc1 (by first | rfl | simp) (sC (sC sR)))) ⟨rfl, FLe.refl _, (by simp), (by (try dsimp only) <;> omega), (by (try dsimp only) <;> omega), (rfl)⟩ ?_)))))))))))))
 rintro ⟨k, i, bl, G1⟩ rE _ _ ⟨rfl, leG, hbl, hk, hi, hm⟩
 show X _ _ _ _ (envs [(1, pv), (2, tv), (3, ptr b1 0), (6, ptr b2 0), (8, ptr b3 0), (9, ii ((i : Int))), (10, ii ((k : Int)))] rE) _ (cellsH b3 [v1] 145 :: rowsH 22 G1 v1 bl :: cellsH b2 [sN] 145 :: cellsH b1 [arv] 30 :: L)
 replace leG : F ≤ G1 := leG
 dsimp only at hbl hk hi hm
 have hpk := hpg k
 have hsl2 := fun h => sub_length (p := i) ho h
 have hee := fun h => endN_spec (p := i) ho h
 have leG1 := leG
 replace har := har.mono leG1
 replace hp := hp.mono leG1
 replace ht := ht.mono leG1
 refine X.open [_] rfl (fun cs1 hc2 => ?_)
 replace hc2 : RowsC G1 cs1 bl := hc2
 refine qc (qc (qa (qd (ii ((k : Int))) rfl (qd (pv) rfl (cX (qv qg rfl hp.slv (cX (qL rfl rfl (qb ?_)))))))))
 refine qt (p := (k : Int) < (p.length : Int)) rfl (fun h1 => ?_) (fun h1 => ?_)
 ·refine qs (qc (qC (qc (qc (qa (qd (ii ((i : Int))) rfl (qd (tv) rfl (cX (qv qg rfl ht.slv (cX (XOp.geq rfl rfl (qb ?_))))))))))))
  refine qt (p := (i : Int) ≥ (t.length : Int)) rfl (fun h2 => ?_) (fun h2 => ?_)
  ·refine qc (qa (cX (XOp.build [sN] [sN] [(0, 1)] [] qE jh rfl (.cons rfl qS PlacesAre.nil) rfl CellsAre.nil (cX (qV [_, _] _ [sN] qU rfl rfl rfl (qI rfl qY) rfl rfl rfl (qf (.bool (false)) rfl (qb (qq (qh (qy (qh (qh (qy (qh (qm (L' := L) [.agg #[sN], .bool (false)] (.tuple #[.agg #[sN], .bool (false)]) (.cell rfl (loadNV [sN] ju qU rfl (Rd.ownN [_, _] rfl rfl)) (.tmp rfl .nil)) rfl leG1 rF (sD (sD (sD (sD sR)))) ?_)))))))))))))))
   have hz : matchB ar p t = none := hm.trans (mGo_short (by omega) (by omega))
   exact ⟨_, by rw [hz]; rfl, by rw [matchP, hz]; exact SlOf.nilV, rfl⟩
  refine qs (qc (qc (qa (qd (pv) rfl (qd (ii ((k : Int))) rfl (cX (qB k qg qM rfl rfl rfl hp.slv (by omega) (Nat.mul_one _) (cX (qi jg rfl (hp.rd (by omega)) (cX (XOp.geq rfl rfl (qb ?_))))))))))))
  refine qt (p := (p.getD k 0 : Int) ≥ 0) rfl (fun h3 => ?_) (fun h3 => ?_)
  ·refine qc (qc ?_)
   refine X.draw [cellsH b3 [v1] 145, slH 22 1 v1 ((bl).length) cs1, cellsH b2 [sN] 145, cellsH b1 [arv] 30] L 8 [] [[], [], [0, 1], [2], [], [], [4, 5], [6]] (phiL [qe pv, qe (ii ((k : Int)) : Value), qe (.pointer (some (elemA pv (k)))), qe (ii (p.getD k 0)), qe tv, qe (ii ((i : Int)) : Value), qe (.pointer (some (elemA tv (i)))), qe (ii (t.getD i 0))]) (ownL []) mixed rfl rfl (by kernel_rfl) ?_ ?_
   ·refine pD (fun W R z9 => ?_) ?_
    ·refine qk (qp (pv) rfl ?_)
     exact ⟨rfl, rfl, rfl⟩
    refine pD (fun W R z9 => ?_) ?_
    ·refine qk (qp (ii ((k : Int))) rfl ?_)
     exact ⟨rfl, rfl, rfl⟩
    refine pD (fun W R z9 => ?_) ?_
    ·rw [eS (l := [(0, _), (1, _)]) ⟨z9 0 rfl, z9 1 rfl, ⟨⟩⟩]
     refine qk (qB k qg qM rfl rfl rfl hp.slv (by omega) (Nat.mul_one _) ?_)
     exact ⟨rfl, rfl, rfl⟩
    refine pD (fun W R z9 => ?_) ?_
    ·rw [eS (l := [(2, _)]) ⟨z9 2 rfl, ⟨⟩⟩]
     refine qk (qi jg rfl (hp.rd (by omega)) ?_)
     exact ⟨rfl, rfl, rfl⟩
    refine pD (fun W R z9 => ?_) ?_
    ·refine qk (qp (tv) rfl ?_)
     exact ⟨rfl, rfl, rfl⟩
    refine pD (fun W R z9 => ?_) ?_
    ·refine qk (qp (ii ((i : Int))) rfl ?_)
     exact ⟨rfl, rfl, rfl⟩
    refine pD (fun W R z9 => ?_) ?_
    ·rw [eS (l := [(4, _), (5, _)]) ⟨z9 4 rfl, z9 5 rfl, ⟨⟩⟩]
     refine qk (qB i qg qM rfl rfl rfl ht.slv (by omega) (Nat.mul_one _) ?_)
     exact ⟨rfl, rfl, rfl⟩
    refine pD (fun W R z9 => ?_) ?_
    ·rw [eS (l := [(6, _)]) ⟨z9 6 rfl, ⟨⟩⟩]
     refine qk (qi jg rfl (ht.rd (by omega)) ?_)
     exact ⟨rfl, rfl, rfl⟩
    exact stepsP.nil
   intro W hphi
   rw [eS (l := [(3, _), (7, _)]) ⟨(hphi 3 (by decide)), (hphi 7 (by decide)), ⟨⟩⟩]
   show XL _ _ _ _ _ _ _ (cellsH b3 [v1] 145 :: slH 22 1 v1 ((bl).length) cs1 :: cellsH b2 [sN] 145 :: cellsH b1 [arv] 30 :: L)
   refine cX (XOp.neq rfl rfl (qb ?_))
   refine qt (p := (p.getD k 0 : Int) ≠ t.getD i 0) rfl (fun h4 => ?_) (fun h4 => ?_)
   ·refine qc (qa (cX (XOp.build [sN] [sN] [(0, 1)] [] qE jh rfl (.cons rfl qS PlacesAre.nil) rfl CellsAre.nil (cX (qV [_, _] _ [sN] qU rfl rfl rfl (qI rfl qY) rfl rfl rfl (qf (.bool (false)) rfl (qb (qq (qh (qh (qy (qh (qh (qy (qh (qm (L' := L) [.agg #[sN], .bool (false)] (.tuple #[.agg #[sN], .bool (false)]) (.cell rfl (loadNV [sN] ju qU rfl (Rd.ownN [_, _] rfl rfl)) (.tmp rfl .nil)) rfl leG1 rF (sD (sD (sD (sD sR)))) ?_))))))))))))))))
    have hz : matchB ar p t = none := hm.trans (mGo_ne (by omega) (by omega) (by omega) (by omega))
    exact ⟨_, by rw [hz]; rfl, by rw [matchP, hz]; exact SlOf.nilV, rfl⟩
   refine qs (qc (qa (qd (ii ((i : Int))) rfl (cX (qD (((i + 1 : Nat) : Int)) rfl rfl (by omega) (by omega) (qf (ii (((i + 1 : Nat) : Int))) rfl (qb (qZ (qo (qF (qa (qd (ii ((k : Int))) rfl (cX (qD (((k + 1 : Nat) : Int)) rfl rfl (by omega) (by omega) (qf (ii (((k + 1 : Nat) : Int))) rfl ?_)))))))))))))))
   refine qb ?_
   exact ⟨(k + 1, i + 1, bl, G1), _, leG1, rF, ⟨rfl, rfl, rfl, rfl, rfl, rfl, rfl, ⟨⟩⟩, (sC (coH.close hc2 (by first | rfl | simp) (sC (sC sR)))), ⟨rfl, leG1, (by (try dsimp only); (try simp only [List.length_set]) <;> omega), (by (try dsimp only) <;> omega), (by (try dsimp only) <;> omega), (hm.trans (mGo_sym (by omega) (by omega) (by omega) (by omega)))⟩, (by omega)⟩
  refine qs (qc (qa (cX (qw [arv] jc qH rfl rfl (Rd.ownN [_, _, _] rfl rfl) (qd (tv) rfl (qd (ii ((i : Int))) rfl (cX (XOp.frzF <| qn (args := [.agg #[arv], tv, ii (i : Int)]) call109 rfl (l1Sub_spec (p := i) har ht (ho := (by first | assumption | rfl | omega | simp)) (hp := (by first | assumption | rfl | omega | simp))) ?_))))))))
  rintro v2 _ _ _ ⟨rfl, hs1, rfl⟩
  refine ⟨_, _, rfl, fun F1 le1 hz1 => ?_⟩
  replace hp := hp.mono le1
  replace hc2 := hc2.mono le1
  have hf1 : IntsF F1 v2 ((sub ar t i)) := intsH.fz (xs := (sub ar t i)) hz1.fz
  refine qf (v2) rfl (qb (qc ?_))
  refine X.draw [cellsH b3 [v1] 145, slH 22 1 v1 ((bl).length) cs1, cellsH b2 [sN] 145, cellsH b1 [arv] 30] L 7 [] [[], [0], [], [], [2, 3], [4], [5]] (phiL [qe (ptr b3 0), qe v1, qe pv, qe (ii ((k : Int)) : Value), qe (.pointer (some (elemA pv (k)))), qe (ii (p.getD k 0)), qe (ii ((-1) - (p.getD k 0)))]) (ownL []) mixed rfl rfl (by kernel_rfl) ?_ ?_
  ·refine pD (fun W R z9 => ?_) ?_
   ·refine qk (qj (0) qE rfl qS (by decide) rfl rfl ?_)
    exact ⟨rfl, rfl, rfl⟩
   refine pD (fun W R z9 => ?_) ?_
   ·rw [eS (l := [(0, _)]) ⟨z9 0 rfl, ⟨⟩⟩]
    refine qk (qi jv rfl (Rd.own [] rfl rfl) ?_)
    exact ⟨rfl, rfl, rfl⟩
   refine pD (fun W R z9 => ?_) ?_
   ·refine qk (qp (pv) rfl ?_)
    exact ⟨rfl, rfl, rfl⟩
   refine pD (fun W R z9 => ?_) ?_
   ·refine qk (qp (ii ((k : Int))) rfl ?_)
    exact ⟨rfl, rfl, rfl⟩
   refine pD (fun W R z9 => ?_) ?_
   ·rw [eS (l := [(2, _), (3, _)]) ⟨z9 2 rfl, z9 3 rfl, ⟨⟩⟩]
    refine qk (qB k qg qM rfl rfl rfl hp.slv (by omega) (Nat.mul_one _) ?_)
    exact ⟨rfl, rfl, rfl⟩
   refine pD (fun W R z9 => ?_) ?_
   ·rw [eS (l := [(4, _)]) ⟨z9 4 rfl, ⟨⟩⟩]
    refine qk (qi jg rfl (hp.rd (by omega)) ?_)
    exact ⟨rfl, rfl, rfl⟩
   refine pD (fun W R z9 => ?_) ?_
   ·rw [eS (l := [(5, _)]) ⟨z9 5 rfl, ⟨⟩⟩]
    refine qk (jm ((-1) - (p.getD k 0)) rfl rfl (by omega) (by omega) ?_)
    exact ⟨rfl, rfl, rfl⟩
   exact stepsP.nil
  intro W hphi
  rw [eS (l := [(1, _), (6, _)]) ⟨(hphi 1 (by decide)), (hphi 6 (by decide)), ⟨⟩⟩]
  show XL _ _ _ _ _ _ _ (cellsH b3 [v1] 145 :: slH 22 1 v1 ((bl).length) cs1 :: cellsH b2 [sN] 145 :: cellsH b1 [arv] 30 :: L)
  refine cX (qB (((-1) - (p.getD k 0)).toNat) qr qx rfl rfl (by omega) (SlV.own [_] rfl) (by omega) (Nat.mul_one _) ?_)
  obtain ⟨a1, ha1, he1⟩ := hc2.get (i := ((-1) - (p.getD k 0)).toNat) (by omega)
  refine cX (qi qJ rfl (Rd.sl [_] rfl he1) (qf (a1) rfl (qb (qc (qc (qa (qd (a1) rfl (cX (qv qg rfl ha1.slv (cX (XOp.gtr rfl rfl (qd (.bool (decide ((((((bl.getD (((-1) - (p.getD k 0)).toNat) [])).length : Nat) : Int) : Int) > 0))) rfl ?_))))))))))))
  by_cases h5 : (((((bl.getD (((-1) - (p.getD k 0)).toNat) [])).length : Nat) : Int) : Int) > 0
  ·refine qz (t := 59) rfl (vT h5) (qp (a1) rfl (qz (t := 59) rfl (vT h5) (qp (v2) rfl (qz (t := 59) rfl (vT h5) (qn (args := [a1, v2]) call20 rfl (SameTerm_spec ha1 hf1 (hbd := (by first | assumption | rfl | omega | (left; simp; done) | (right; simp; done)))) ?_)))))
   rintro _ _ _ _ ⟨rfl, rfl, rfl⟩
   refine qz (t := 59) rfl (vT h5) (XOp.notD rfl (cX (ja (.bool (decide (¬(((bl.getD (((-1) - (p.getD k 0)).toNat) [])) = ((sub ar t i)))))) (vT h5) rfl (qb ?_))))
   refine qt (p := ¬(((bl.getD (((-1) - (p.getD k 0)).toNat) [])) = ((sub ar t i)))) rfl (fun h6 => ?_) (fun h6 => ?_)
   ·refine qc (qa (cX (XOp.build [sN] [sN] [(0, 1)] [] qE jh rfl (.cons rfl qS PlacesAre.nil) rfl CellsAre.nil (cX (qV [_, _] _ [sN] qU rfl rfl rfl (qI rfl qY) rfl rfl rfl (qf (.bool (false)) rfl (qb (qq (qh (qy (qh (qh (qy (qh (qm (L' := L) [.agg #[sN], .bool (false)] (.tuple #[.agg #[sN], .bool (false)]) (.cell rfl (loadNV [sN] ju qU rfl (Rd.ownN [_, _] rfl rfl)) (.tmp rfl .nil)) rfl (ql leG1 le1) rF (sD (sD (sD (sD sR)))) ?_)))))))))))))))
    have hz : matchB ar p t = none := hm.trans (mGo_clash (by omega) (by omega) (by omega) (by intro e; have := congrArg List.length (show bl.getD (-1 - p.getD k 0).toNat [] = [] from e); simp only [List.length_nil] at this; omega) (by assumption))
    exact ⟨_, by rw [hz]; rfl, by rw [matchP, hz]; exact SlOf.nilV, rfl⟩
   refine qs (qc ?_)
   refine X.draw [cellsH b3 [v1] 145, slH 22 1 v1 ((bl).length) cs1, cellsH b2 [sN] 145, cellsH b1 [arv] 30] L 8 [] [[], [0], [], [], [2, 3], [4], [5]] (phiL [qe (ptr b3 0), qe v1, qe pv, qe (ii ((k : Int)) : Value), qe (.pointer (some (elemA pv (k)))), qe (ii (p.getD k 0)), qe (ii ((-1) - (p.getD k 0))), qe v2]) (ownL []) mixed rfl rfl (by kernel_rfl) ?_ ?_
   ·refine pD (fun W R z9 => ?_) ?_
    ·refine qk (qj (0) qE rfl qS (by decide) rfl rfl ?_)
     exact ⟨rfl, rfl, rfl⟩
    refine pD (fun W R z9 => ?_) ?_
    ·rw [eS (l := [(0, _)]) ⟨z9 0 rfl, ⟨⟩⟩]
     refine qk (qi jv rfl (Rd.own [] rfl rfl) ?_)
     exact ⟨rfl, rfl, rfl⟩
    refine pD (fun W R z9 => ?_) ?_
    ·refine qk (qp (pv) rfl ?_)
     exact ⟨rfl, rfl, rfl⟩
    refine pD (fun W R z9 => ?_) ?_
    ·refine qk (qp (ii ((k : Int))) rfl ?_)
     exact ⟨rfl, rfl, rfl⟩
    refine pD (fun W R z9 => ?_) ?_
    ·rw [eS (l := [(2, _), (3, _)]) ⟨z9 2 rfl, z9 3 rfl, ⟨⟩⟩]
     refine qk (qB k qg qM rfl rfl rfl hp.slv (by omega) (Nat.mul_one _) ?_)
     exact ⟨rfl, rfl, rfl⟩
    refine pD (fun W R z9 => ?_) ?_
    ·rw [eS (l := [(4, _)]) ⟨z9 4 rfl, ⟨⟩⟩]
     refine qk (qi jg rfl (hp.rd (by omega)) ?_)
     exact ⟨rfl, rfl, rfl⟩
    refine pD (fun W R z9 => ?_) ?_
    ·rw [eS (l := [(5, _)]) ⟨z9 5 rfl, ⟨⟩⟩]
     refine qk (jm ((-1) - (p.getD k 0)) rfl rfl (by omega) (by omega) ?_)
     exact ⟨rfl, rfl, rfl⟩
    refine pD (fun W R z9 => ?_) ?_
    ·refine qk (qp (v2) rfl ?_)
     exact ⟨rfl, rfl, rfl⟩
    exact stepsP.nil
   intro W hphi
   rw [eS (l := [(1, _), (6, _), (7, _)]) ⟨(hphi 1 (by decide)), (hphi 6 (by decide)), (hphi 7 (by decide)), ⟨⟩⟩]
   show XL _ _ _ _ _ _ _ (cellsH b3 [v1] 145 :: slH 22 1 v1 ((bl).length) cs1 :: cellsH b2 [sN] 145 :: cellsH b1 [arv] 30 :: L)
   refine cX (qB (((-1) - (p.getD k 0)).toNat) qr qx rfl rfl (by omega) (SlV.own [_] rfl) (by omega) (Nat.mul_one _) (cX (XOp.storeS (i := ((-1) - (p.getD k 0)).toNat) (cs := cs1) [_] _ qx rfl rfl (qW (qK hf1)) rfl (by have h9 := CO.len hc2; (try simp only [List.length_set, List.length_replicate] at h9 ⊢) <;> omega) ?_)))
   have hc3 := hc2.set (((-1) - (p.getD k 0)).toNat) hf1
   refine qb (qa (qd (ii ((i : Int))) rfl (qd (v2) rfl (cX (qv qg rfl hf1.slv (cX (qD (((i + (((sub ar t i)).length) : Nat) : Int)) rfl rfl (by omega) (by omega) (qf (ii (((i + (((sub ar t i)).length) : Nat) : Int))) rfl (qb (qa (qd (ii ((k : Int))) rfl (cX (qD (((k + 1 : Nat) : Int)) rfl rfl (by omega) (by omega) (qf (ii (((k + 1 : Nat) : Int))) rfl ?_))))))))))))))
   refine qb ?_
   exact ⟨(k + 1, i + (((sub ar t i)).length), (bl.set (((-1) - (p.getD k 0)).toNat) ((sub ar t i))), F1), _, (ql leG1 le1), rF, ⟨rfl, rfl, rfl, rfl, rfl, rfl, rfl, ⟨⟩⟩, (sC (coH.close hc3 (by first | rfl | simp) (sC (sC sR)))), ⟨rfl, (ql leG1 le1), (by (try dsimp only); (try simp only [List.length_set]) <;> omega), (by (try dsimp only) <;> omega), (by (try dsimp only) <;> omega), (hm.trans (m4_next (by omega) (by omega) (by omega) (by first | (left; exact List.eq_nil_of_length_eq_zero (show (bl.getD (-1 - p.getD k 0).toNat []).length = 0 by omega)) | (right; first | assumption | exact Classical.not_not.1 (by assumption)))))⟩, (by omega)⟩
  refine qu (t := 59) rfl (vF h5) (qu (t := 59) rfl (vF h5) (qu (t := 59) rfl (vF h5) (qu (t := 59) rfl (vF h5) (cX (qT (.bool (false)) (vF h5) rfl (qb (X.condF rfl (qs (qc ?_)))))))))
  refine X.draw [cellsH b3 [v1] 145, slH 22 1 v1 ((bl).length) cs1, cellsH b2 [sN] 145, cellsH b1 [arv] 30] L 8 [] [[], [0], [], [], [2, 3], [4], [5]] (phiL [qe (ptr b3 0), qe v1, qe pv, qe (ii ((k : Int)) : Value), qe (.pointer (some (elemA pv (k)))), qe (ii (p.getD k 0)), qe (ii ((-1) - (p.getD k 0))), qe v2]) (ownL []) mixed rfl rfl (by kernel_rfl) ?_ ?_
  ·refine pD (fun W R z9 => ?_) ?_
   ·refine qk (qj (0) qE rfl qS (by decide) rfl rfl ?_)
    exact ⟨rfl, rfl, rfl⟩
   refine pD (fun W R z9 => ?_) ?_
   ·rw [eS (l := [(0, _)]) ⟨z9 0 rfl, ⟨⟩⟩]
    refine qk (qi jv rfl (Rd.own [] rfl rfl) ?_)
    exact ⟨rfl, rfl, rfl⟩
   refine pD (fun W R z9 => ?_) ?_
   ·refine qk (qp (pv) rfl ?_)
    exact ⟨rfl, rfl, rfl⟩
   refine pD (fun W R z9 => ?_) ?_
   ·refine qk (qp (ii ((k : Int))) rfl ?_)
    exact ⟨rfl, rfl, rfl⟩
   refine pD (fun W R z9 => ?_) ?_
   ·rw [eS (l := [(2, _), (3, _)]) ⟨z9 2 rfl, z9 3 rfl, ⟨⟩⟩]
    refine qk (qB k qg qM rfl rfl rfl hp.slv (by omega) (Nat.mul_one _) ?_)
    exact ⟨rfl, rfl, rfl⟩
   refine pD (fun W R z9 => ?_) ?_
   ·rw [eS (l := [(4, _)]) ⟨z9 4 rfl, ⟨⟩⟩]
    refine qk (qi jg rfl (hp.rd (by omega)) ?_)
    exact ⟨rfl, rfl, rfl⟩
   refine pD (fun W R z9 => ?_) ?_
   ·rw [eS (l := [(5, _)]) ⟨z9 5 rfl, ⟨⟩⟩]
    refine qk (jm ((-1) - (p.getD k 0)) rfl rfl (by omega) (by omega) ?_)
    exact ⟨rfl, rfl, rfl⟩
   refine pD (fun W R z9 => ?_) ?_
   ·refine qk (qp (v2) rfl ?_)
    exact ⟨rfl, rfl, rfl⟩
   exact stepsP.nil
  intro W hphi
  rw [eS (l := [(1, _), (6, _), (7, _)]) ⟨(hphi 1 (by decide)), (hphi 6 (by decide)), (hphi 7 (by decide)), ⟨⟩⟩]
  show XL _ _ _ _ _ _ _ (cellsH b3 [v1] 145 :: slH 22 1 v1 ((bl).length) cs1 :: cellsH b2 [sN] 145 :: cellsH b1 [arv] 30 :: L)
  refine cX (qB (((-1) - (p.getD k 0)).toNat) qr qx rfl rfl (by omega) (SlV.own [_] rfl) (by omega) (Nat.mul_one _) (cX (XOp.storeS (i := ((-1) - (p.getD k 0)).toNat) (cs := cs1) [_] _ qx rfl rfl (qW (qK hf1)) rfl (by have h9 := CO.len hc2; (try simp only [List.length_set, List.length_replicate] at h9 ⊢) <;> omega) ?_)))
  have hc4 := hc2.set (((-1) - (p.getD k 0)).toNat) hf1
  refine qb (qa (qd (ii ((i : Int))) rfl (qd (v2) rfl (cX (qv qg rfl hf1.slv (cX (qD (((i + (((sub ar t i)).length) : Nat) : Int)) rfl rfl (by omega) (by omega) (qf (ii (((i + (((sub ar t i)).length) : Nat) : Int))) rfl (qb (qa (qd (ii ((k : Int))) rfl (cX (qD (((k + 1 : Nat) : Int)) rfl rfl (by omega) (by omega) (qf (ii (((k + 1 : Nat) : Int))) rfl ?_))))))))))))))
  refine qb ?_
  exact ⟨(k + 1, i + (((sub ar t i)).length), (bl.set (((-1) - (p.getD k 0)).toNat) ((sub ar t i))), F1), _, (ql leG1 le1), rF, ⟨rfl, rfl, rfl, rfl, rfl, rfl, rfl, ⟨⟩⟩, (sC (coH.close hc4 (by first | rfl | simp) (sC (sC sR)))), ⟨rfl, (ql leG1 le1), (by (try dsimp only); (try simp only [List.length_set]) <;> omega), (by (try dsimp only) <;> omega), (by (try dsimp only) <;> omega), (hm.trans (m4_next (by omega) (by omega) (by omega) (by first | (left; exact List.eq_nil_of_length_eq_zero (show (bl.getD (-1 - p.getD k 0).toNat []).length = 0 by omega)) | (right; first | assumption | exact Classical.not_not.1 (by assumption)))))⟩, (by omega)⟩
 refine qZ (qo (qo (qF (qc (qa (cX (qw [v1] ju qU rfl rfl (Rd.ownN [] rfl rfl) ?_)))))))
 have hmb := (matchB_len (hm.trans (mGo_done (by omega)))).2
 refine XL.freezeF [_] _ _ rfl (fun F2 le2 hz2 => ?_)
 replace hc2 := hc2.mono le2
 have hf2 : RowsF F2 v1 bl := CO.fz hc2 (by first | rfl | omega | (rw [List.length_set]; omega) | (simp; done)) hz2.fz
 refine cX (qn (args := [.agg #[v1]]) call136 rfl (l2Plain_spec hf2 (hsl := (by omega)) (hsb := (fun j => by have := hmb j; omega))) ?_)
 rintro _ F3 _ le3 ⟨x1, rfl, hr1, rfl⟩
 refine cX (qV [_] _ [x1] qU rfl rfl rfl (qI (qW (RowsF.isSl hr1)) qY) rfl rfl rfl (qf (.bool (true)) rfl (qb (qq (qm (L' := L) [.agg #[x1], .bool (true)] (.tuple #[.agg #[x1], .bool (true)]) (.cell rfl (loadNV [x1] ju qU rfl (Rd.ownN [_] rfl rfl)) (.tmp rfl .nil)) rfl (ql (ql leG1 le2) le3) rF (sD (sD (sD sR))) ?_)))))
 have hz : matchB ar p t = some bl := hm.trans (mGo_done (by omega))
 exact ⟨_, by rw [hz]; rfl, by rw [matchP, hz]; exact hr1, rfl⟩

/- spec.l7Right -/
theorem l7Right_spec {F : FH} {L : List HP} {arv : Value} {ar : List Int} (har : IntsF F arv ar) {rsv : Value} {rs : List (List Int × List Int)} (hrs : PairsF F rsv rs) {tv : Value} {t : List Int} (ht : IntsF F tv t) (hla : ar.length ≤ 4000000) (hlr : rs.length ≤ 4000000) (hrb : ∀ i, i < rs.length → (rs.getD i ([], [])).1.length ≤ 4000000 ∧ (rs.getD i ([], [])).2.length ≤ 4000000) (hlt : t.length ≤ 4000000) :
    Does prog 70 [.agg #[arv, rsv], tv] F (L) (fun v F' L' => (.bool (rightB ar rs t) : Value) = v ∧ F = F' ∧ L = L') := by
 refine qA func70 rfl rfl rfl (qc (qa (cX (qO [arv, rsv] rfl rfl ?_))))
 intro b1
 refine qf (.bool (false)) rfl (qb (qc (qa (cX (qw [arv, rsv] isAgg33 jo rfl rfl (Rd.ownN [] rfl rfl) (cX (qn (args := [.agg #[arv, rsv]]) call105 rfl (sSystemOk_spec har hrs (hla := (by first | assumption | rfl | omega | simp)) (hlr := (by first | assumption | rfl | omega | simp)) (hrb := (by first | assumption | rfl | omega | simp))) ?_)))))))
 rintro _ _ _ _ ⟨rfl, rfl, rfl⟩
 refine qd (.bool (sysOk ar rs)) rfl ?_
 by_cases h1 : (sysOk ar rs) = true
 ·refine qz (t := 7) rfl (vB h1) (qj (0) qG rfl qH (by decide) rfl rfl (qz (t := 7) rfl (vB h1) (qw [arv] jc qH rfl rfl (Rd.ownN [] rfl rfl) (qz (t := 7) rfl (vB h1) (qp (tv) rfl (qz (t := 7) rfl (vB h1) (qn (args := [.agg #[arv], tv]) call106 rfl (sTermOk_spec har ht (hla := (by first | assumption | rfl | omega | simp)) (hlt := (by first | assumption | rfl | omega | simp))) ?_)))))))
  rintro _ _ _ _ ⟨rfl, rfl, rfl⟩
  refine cX (ja (.bool (termOk ar t)) (vB h1) rfl (qf (.bool (termOk ar t)) rfl (qb (qq (qm (L' := L) [.bool (termOk ar t)] (.bool (termOk ar t)) (.tmp rfl .nil) rfl rF rF (sD sR) ?_)))))
  exact ⟨(vB (by rw [rightB]; simp_all)), rfl, rfl⟩
 rw [Bool.not_eq_true] at h1
 refine qu (t := 7) rfl (vB h1) (qu (t := 7) rfl (vB h1) (qu (t := 7) rfl (vB h1) (qu (t := 7) rfl (vB h1) (cX (qT (.bool (false)) (vB h1) rfl (qf (.bool (false)) rfl (qb (qq (qm (L' := L) [.bool (false)] (.bool (false)) (.tmp rfl .nil) rfl rF rF (sD sR) ?_)))))))))
 exact ⟨(vB (by rw [rightB]; simp_all)), rfl, rfl⟩

/- spec.l2Filled -/
theorem l2Filled_spec {F : FH} {L : List HP} {sv : Value} {s : List (List Int)} (hs : RowsF F sv s) {tv : Value} {t : List Int} (ht : IntsF F tv t) (hsl : s.length ≤ 4000000) (hsb : ∀ i, (s.getD i []).length ≤ 4000000) (htl : t.length ≤ 4000000) (htg : ∀ k, k < t.length → -4000000 ≤ t.getD k 0) :
    Does prog 134 [.agg #[sv], tv] F (L) (fun v F' L' => ∃ (a : Value), (.tuple #[a, .bool ((fillL s t).isSome)] : Value) = v ∧ (IntsF F' a ((fillL s t).getD [])) ∧ L = L') := by
 refine qA func134 rfl rfl rfl (qc (qa (cX (qO [sv] rfl rfl ?_))))
 intro b1
 refine qf (sN) rfl (qf (.bool (false)) rfl (qb (qc (qa (cX (qN (s := 1) [] [ii (0)] [] qg qM jt rfl (by decide) rfl CellsAre.nil rfl ?_))))))
 intro v1 hv1
 refine qf (v1) rfl (qb (qc (qc (qa (qf (ii (0)) rfl (qb (qC (je (α := Nat × Value × List Int) (fun xQ => [(1, tv), (2, ptr b1 0), (6, xQ.2.1), (7, ii (((xQ.1 : Nat) : Int)))]) (fun xQ => intsH 2 xQ.2.1 xQ.2.2 :: cellsH b1 [sv] 145 :: L) (fun xQ F' => F = F' ∧ (IsSl xQ.2.1) ∧ (xQ.1 ≤ t.length) ∧ (fillL s t = fillGo s (t.drop xQ.1) xQ.2.2) ∧ (xQ.2.2.length ≤ 60)) (fun xQ => t.length - xQ.1) (0, v1, []) ⟨rfl, rfl, rfl, rfl, ⟨⟩⟩ (sC (sC sR)) ⟨rfl, ((isSl_lit hv1)), (by (try dsimp only) <;> omega), (rfl), (by simp)⟩ ?_))))))))
 rintro ⟨k, ov, os⟩ rE _ _ ⟨rfl, hov, hk, hm, hol⟩
 show X _ _ _ _ (envs [(1, tv), (2, ptr b1 0), (6, ov), (7, ii ((k : Int)))] rE) _ (intsH 2 ov os :: cellsH b1 [sv] 145 :: L)
 dsimp only at hov hk hm hol
 have htk := htg k
 have hlk0 := lk_bound (N := 4000000) (by omega) hsb (-1 - (((-1 - t.getD k 0).toNat : Nat) : Int))
 refine qc (qc (qa (qd (ii ((k : Int))) rfl (qd (tv) rfl (cX (qv qg rfl ht.slv (cX (qL rfl rfl (qb ?_)))))))))
 refine qt (p := (k : Int) < (t.length : Int)) rfl (fun h1 => ?_) (fun h1 => ?_)
 ·refine qs (qc (qC (qc (qc (qa (qd (tv) rfl (qd (ii ((k : Int))) rfl (cX (qB k qg qM rfl rfl rfl ht.slv (by omega) (Nat.mul_one _) (cX (qi jg rfl (ht.rd (by omega)) (cX (qL rfl rfl (qb ?_))))))))))))))
  refine qt (p := (t.getD k 0 : Int) < 0) rfl (fun h2 => ?_) (fun h2 => ?_)
  ·refine X.drawG [intsH 2 ov os, cellsH b1 [sv] 145] L 8 [] [[], [], [], [], [2, 3], [4], [5], [1, 6]] [] (phiG [pe ov, pe (.agg #[sv]), pe tv, pe (ii ((k : Int)) : Value), pe (.pointer (some (elemA tv (k)))), pe (ii (t.getD k 0)), pe (ii ((-1) - (t.getD k 0))), fun FF us v => ((v) : Value) = v ∧ (IntsF FF (v) (lk s (-1 - ((((-1) - (t.getD k 0)).toNat) : Int))))]) (ownL []) mixed rfl rfl (by kernel_rfl) (by kernel_rfl) (MonoG.get (m1 (m1 (m1 (m1 (m1 (m1 (m1 (mC (fun le h => ⟨h.1, h.2.mono le⟩) MonoG.nil))))))))) ?_ ?_
   ·refine gD (fun W Fs R lF z9 => ?_) ?_
    ·refine qk (qp (ov) rfl ?_)
     exact ⟨rfl, rfl⟩
    refine gD (fun W Fs R lF z9 => ?_) ?_
    ·replace hs := hs.mono lF
     replace ht := ht.mono lF
     refine qk (qw [sv] ju qU rfl rfl (Rd.ownN [_] rfl rfl) ?_)
     exact ⟨rfl, rfl⟩
    refine gD (fun W Fs R lF z9 => ?_) ?_
    ·refine qk (qp (tv) rfl ?_)
     exact ⟨rfl, rfl⟩
    refine gD (fun W Fs R lF z9 => ?_) ?_
    ·refine qk (qp (ii ((k : Int))) rfl ?_)
     exact ⟨rfl, rfl⟩
    refine gD (fun W Fs R lF z9 => ?_) ?_
    ·replace hs := hs.mono lF
     replace ht := ht.mono lF
     rw [eS (l := [(2, _), (3, _)]) ⟨z9 2 rfl, z9 3 rfl, ⟨⟩⟩]
     refine qk (qB k qg qM rfl rfl rfl ht.slv (by omega) (Nat.mul_one _) ?_)
     exact ⟨rfl, rfl⟩
    refine gD (fun W Fs R lF z9 => ?_) ?_
    ·replace hs := hs.mono lF
     replace ht := ht.mono lF
     rw [eS (l := [(4, _)]) ⟨z9 4 rfl, ⟨⟩⟩]
     refine qk (qi jg rfl (ht.rd (by omega)) ?_)
     exact ⟨rfl, rfl⟩
    refine gD (fun W Fs R lF z9 => ?_) ?_
    ·rw [eS (l := [(5, _)]) ⟨z9 5 rfl, ⟨⟩⟩]
     refine qk (jm ((-1) - (t.getD k 0)) rfl rfl (by omega) (by omega) ?_)
     exact ⟨rfl, rfl⟩
    refine gD (fun W Fs R lF z9 => ?_) ?_
    ·replace hs := hs.mono lF
     replace ht := ht.mono lF
     rw [eS (l := [(1, _), (6, _)]) ⟨z9 1 rfl, z9 6 rfl, ⟨⟩⟩]
     refine qk (XOp.frzF <| qn (args := [.agg #[sv], ii ((((-1) - (t.getD k 0)).toNat : Nat) : Int)]) call147 (by rw [show ((((-1) - (t.getD k 0)).toNat : Nat) : Int) = (-1) - (t.getD k 0) from by omega]; rfl) (l2Gives_spec (i := ((-1) - (t.getD k 0)).toNat) hs (hsl := (by first | assumption | rfl | omega | simp)) (hi := (by first | assumption | rfl | omega | simp)) (hsb := (hsb _))) ?_)
     rintro v3 _ _ _ ⟨rfl, hs2, rfl⟩
     refine ⟨_, _, rfl, fun F1 le1 hz1 => ?_⟩
     replace ht := ht.mono le1
     have hf1 : IntsF F1 v3 ((lk s (-1 - ((((-1) - (t.getD k 0)).toNat) : Int)))) := intsH.fz (xs := (lk s (-1 - ((((-1) - (t.getD k 0)).toNat) : Int)))) hz1.fz
     exact ⟨⟨rfl, hf1⟩, rfl⟩
    exact stepsG.nil
   intro W F2 le2 hphi
   obtain ⟨e7, f7_1ha⟩ := hphi 7 (by decide)
   generalize hu1 : ((W 7)) = u1 at e7 f7_1ha
   rw [eS (l := [(0, _), (7, u1)]) ⟨(hphi 0 (by decide)), hu1, ⟨⟩⟩]
   replace ht := ht.mono le2
   show XL _ _ _ _ _ _ _ (intsH 2 ov os :: cellsH b1 [sv] 145 :: L)
   refine cX (XOp.appendI [] _ qg typeInfo2 rfl rfl rfl rfl rfl rfl f7_1ha (by (try simp only [List.length_append, List.length_nil, List.length_cons, List.length_singleton, List.length_take, List.length_drop]); omega) ?_)
   intro v4 hs3 hn1 hm1
   refine qf (v4) rfl (qb (qc (qa (qd (v4) rfl (cX (qv qg rfl (intsH.slv [] rfl) (cX (XOp.gtr rfl rfl (qb ?_)))))))))
   refine qt (p := ((((os ++ ((lk s (-1 - ((((-1) - (t.getD k 0)).toNat) : Int))))).length : Nat) : Int) : Int) > 60) rfl (fun h3 => ?_) (fun h3 => ?_)
   ·refine qc (qa (cX (qN (s := 1) [] [ii (0)] [] qg qM jt rfl (by decide) rfl CellsAre.nil rfl ?_)))
    intro v5 hv2
    refine qf (v5) rfl (qf (.bool (false)) rfl (qb ?_))
    show X _ _ _ _ _ _ (intsH 2 v5 ([] : List Int) :: intsH 2 v4 (os ++ ((lk s (-1 - ((((-1) - (t.getD k 0)).toNat) : Int))))) :: cellsH b1 [sv] 145 :: L)
    refine jq [] _ _ rfl (fun F3 le3 hz2 => ?_)
    replace ht := ht.mono le3
    have hf2 : IntsF F3 v5 ([]) := intsH.fz (xs := []) hz2.fz
    refine qq (qy (qh (qh (qy (qh (qm (L' := L) [v5, .bool (false)] (.tuple #[v5, .bool (false)]) (.tmp rfl (.tmp rfl .nil)) rfl (ql le2 le3) rF (sD (sD sR)) ?_))))))
    have hz : fillL s t = none := hm.trans (fillGo_long (a := os ++ ((lk s (-1 - ((((-1) - (t.getD k 0)).toNat) : Int))))) (by omega) (by rw [show (-1 - (((-1 - t.getD k 0).toNat : Nat) : Int)) = t.getD k 0 from by omega]) (by omega))
    exact ⟨_, by rw [hz]; rfl, by rw [hz]; exact hf2, rfl⟩
   refine qs (qa (qd (ii ((k : Int))) rfl (cX (qD (((k + 1 : Nat) : Int)) rfl rfl (by omega) (by omega) (qf (ii (((k + 1 : Nat) : Int))) rfl (qb ?_))))))
   exact ⟨(k + 1, v4, os ++ ((lk s (-1 - ((((-1) - (t.getD k 0)).toNat) : Int))))), _, FLe.refl _, le2, ⟨rfl, rfl, rfl, rfl, ⟨⟩⟩, (sC (sC sR)), ⟨rfl, (hs3), (by (try dsimp only) <;> omega), (by dsimp only; exact hm.trans (fillGo_next (by omega) (by rw [show (-1 - (((-1 - t.getD k 0).toNat : Nat) : Int)) = t.getD k 0 from by omega]) (by omega))), (by dsimp only; omega)⟩, (by omega)⟩
  refine qa (qd (ov) rfl (qd (tv) rfl (qd (ii ((k : Int))) rfl (cX (qB k qg qM rfl rfl rfl ht.slv (by omega) (Nat.mul_one _) (cX (qi jg rfl (ht.rd (by omega)) (cX (qN (s := 1) [ii (t.getD k 0)] [ii (0)] [(0, [ii (t.getD k 0)])] qg qM jt rfl (by decide) rfl (.cons rfl CellsAre.nil) rfl ?_)))))))))
  intro v6 hv3
  refine cX (XOp.append1 (u := t.getD k 0) [_] _ qg typeInfo2 rfl rfl rfl rfl rfl rfl (SlV.own [] rfl) (Rd.sl [] rfl rfl) (by (try simp only [List.length_append, List.length_nil, List.length_cons, List.length_singleton, List.length_take, List.length_drop]); omega) ?_)
  intro v7 hs4 hn2
  refine qf (v7) rfl (qb (qc (qa (qd (v7) rfl (cX (qv qg rfl (intsH.slv [_] rfl) (cX (XOp.gtr rfl rfl (qb ?_)))))))))
  refine qt (p := ((((os ++ [t.getD k 0]).length : Nat) : Int) : Int) > 60) rfl (fun h4 => ?_) (fun h4 => ?_)
  ·refine qc (qa (cX (qN (s := 1) [] [ii (0)] [] qg qM jt rfl (by decide) rfl CellsAre.nil rfl ?_)))
   intro v8 hv4
   refine qf (v8) rfl (qf (.bool (false)) rfl (qb ?_))
   show X _ _ _ _ _ _ (intsH 2 v8 ([] : List Int) :: slH 2 1 v6 1 [ii (t.getD k 0)] :: intsH 2 v7 (os ++ [t.getD k 0]) :: cellsH b1 [sv] 145 :: L)
   refine jq [] _ _ rfl (fun F4 le4 hz3 => ?_)
   have hf3 : IntsF F4 v8 ([]) := intsH.fz (xs := []) hz3.fz
   refine qq (qy (qh (qh (qy (qh (qm (L' := L) [v8, .bool (false)] (.tuple #[v8, .bool (false)]) (.tmp rfl (.tmp rfl .nil)) rfl le4 rF (sD (sD (sD sR))) ?_))))))
   have hz : fillL s t = none := hm.trans (fillGo_long (a := os ++ [t.getD k 0]) (by omega) (by rw [lk_sym (by omega)]) (by omega))
   exact ⟨_, by rw [hz]; rfl, by rw [hz]; exact hf3, rfl⟩
  refine qs (qa (qd (ii ((k : Int))) rfl (cX (qD (((k + 1 : Nat) : Int)) rfl rfl (by omega) (by omega) (qf (ii (((k + 1 : Nat) : Int))) rfl (qb ?_))))))
  exact ⟨(k + 1, v7, os ++ [t.getD k 0]), _, FLe.refl _, rF, ⟨rfl, rfl, rfl, rfl, ⟨⟩⟩, (sD (sC (sC sR))), ⟨rfl, (hs4), (by (try dsimp only) <;> omega), (by dsimp only; exact hm.trans (fillGo_next (by omega) (by rw [lk_sym (by omega)]) (by omega))), (by dsimp only; omega)⟩, (by omega)⟩
 refine qZ (qo (qo (qF (qc (qa (qd (ov) rfl (qf (ov) rfl (qf (.bool (true)) rfl (qb (jq [] _ _ rfl (fun F5 le5 hz4 => ?_)))))))))))
 have hf4 : IntsF F5 ov os := intsH.fz (xs := os) hz4.fz
 refine qq (qm (L' := L) [ov, .bool (true)] (.tuple #[ov, .bool (true)]) (.tmp rfl (.tmp rfl .nil)) rfl le5 rF (sD sR) ?_)
 have hz : fillL s t = some os := hm.trans (fillGo_done (by omega))
 exact ⟨_, by rw [hz]; rfl, by rw [hz]; exact hf4, rfl⟩

/- spec.l3Put -/
theorem l3Put_spec {F : FH} {L : List HP} {arv : Value} {ar : List Int} (har : IntsF F arv ar) {tv : Value} {t : List Int} (ht : IntsF F tv t) {p : Nat} {uv : Value} {u : List Int} (hu : IntsF F uv u) (ho : termOk ar t = true) (hp : p < t.length) (hul : u.length ≤ 4000000) :
    Does prog 135 [.agg #[arv], tv, ii ((p : Int)), uv] F (L) (fun v F' L' => ∃ (a : Value), (.tuple #[a, .bool ((putL ar t p u).isSome)] : Value) = v ∧ (IntsF F' a ((putL ar t p u).getD [])) ∧ L = L') := by
 refine qA func135 rfl rfl rfl ?_
 have hsig := termOk_sig ho
 have hsl := sigOk_spec hsig
 have htl := termOk_len ho
 have hee := endN_spec ho hp
 refine qc (qa (cX (qO [arv] rfl rfl ?_)))
 intro b1
 refine qf (sN) rfl (qf (.bool (false)) rfl (qb (qc (qa (qd (tv) rfl (qd (ii ((p : Int))) rfl (cX (XOp.sliceI 0 p qg qM rfl ht rfl ⟨_, rfl⟩ (by omega) (by omega) ?_))))))))
 intro v1 hv1 hn1
 refine cX (qn (args := [v1]) call31 rfl (l1Copy_spec hv1 (hlt := (by simp; omega))) ?_)
 rintro v2 _ _ _ ⟨rfl, hs1, rfl⟩
 refine qd (uv) rfl (cX (XOp.appendI [] _ qg typeInfo2 rfl rfl rfl rfl rfl rfl hu (by (try simp only [List.length_append, List.length_nil, List.length_cons, List.length_singleton, List.length_take, List.length_drop]); omega) ?_))
 intro v3 hs2 hn2 hm1
 refine qf (v3) rfl (qb (qc (qa (qd (v3) rfl (qd (tv) rfl (cX (qw [arv] jc qH rfl rfl (Rd.ownN [_] rfl rfl) (qd (tv) rfl (qd (ii ((p : Int))) rfl (cX (qn (args := [.agg #[arv], tv, ii (p : Int)]) call133 rfl (l1End_ok (p := p) har ht (ho := (by first | assumption | rfl | omega | (left; simp; done) | (right; simp; done))) (hp := (by first | assumption | rfl | omega | (left; simp; done) | (right; simp; done)))) ?_)))))))))))
 rintro _ _ _ _ ⟨rfl, rfl, rfl⟩
 refine cX (XOp.sliceI (endN ar t p) ((t).length) qg qM rfl ht ⟨_, rfl⟩ rfl (by omega) (by omega) ?_)
 intro v4 hv2 hn3
 refine cX (XOp.appendI [] _ qg typeInfo2 rfl rfl rfl rfl rfl rfl hv2 (by (try simp only [List.length_append, List.length_nil, List.length_cons, List.length_singleton, List.length_take, List.length_drop]); omega) ?_)
 intro v5 hs3 hn4 hm2
 refine qf (v5) rfl (qb (qc (qc (qa (qd (v5) rfl (cX (qv qg rfl (intsH.slv [] rfl) (cX (XOp.gtr rfl rfl (qb ?_))))))))))
 refine qt (p := ((((((((((t.drop 0).take (p - 0))))) ++ u) ++ (((t.drop (endN ar t p)).take (((t).length) - (endN ar t p))))).length : Nat) : Int) : Int) > 60) rfl (fun h1 => ?_) (fun h1 => ?_)
 ·refine qc (qa (cX (qN (s := 1) [] [ii (0)] [] qg qM jt rfl (by decide) rfl CellsAre.nil rfl ?_)))
  intro v6 hv3
  refine qf (v6) rfl (qf (.bool (false)) rfl (qb ?_))
  show X _ _ _ _ _ _ (intsH 2 v6 ([] : List Int) :: intsH 2 v5 (((((((t.drop 0).take (p - 0))))) ++ u) ++ (((t.drop (endN ar t p)).take (((t).length) - (endN ar t p))))) :: cellsH b1 [arv] 30 :: L)
  refine jq [] _ _ rfl (fun F1 le1 hz1 => ?_)
  have hf1 : IntsF F1 v6 ([]) := intsH.fz (xs := []) hz1.fz
  refine qq (qh (qm (L' := L) [v6, .bool (false)] (.tuple #[v6, .bool (false)]) (.tmp rfl (.tmp rfl .nil)) rfl le1 rF (sD (sD sR)) ?_))
  have hz : putL ar t p u = none := putL_none put_three (by omega)
  exact ⟨_, by rw [hz]; rfl, by rw [hz]; exact hf1, rfl⟩
 refine qs (qc (qa (qd (v5) rfl (qf (v5) rfl (qf (.bool (true)) rfl (qb (jq [] _ _ rfl (fun F2 le2 hz2 => ?_))))))))
 have hf2 : IntsF F2 v5 (((((((t.drop 0).take (p - 0))))) ++ u) ++ (((t.drop (endN ar t p)).take (((t).length) - (endN ar t p))))) := intsH.fz (xs := ((((((t.drop 0).take (p - 0))))) ++ u) ++ (((t.drop (endN ar t p)).take (((t).length) - (endN ar t p))))) hz2.fz
 refine qq (qm (L' := L) [v5, .bool (true)] (.tuple #[v5, .bool (true)]) (.tmp rfl (.tmp rfl .nil)) rfl le2 rF (sD sR) ?_)
 have hz := putL_some (ar := ar) (t := t) (p := p) (u := u) put_three (by omega)
 exact ⟨_, by rw [hz]; rfl, by rw [hz]; exact hf2, rfl⟩

/- spec.l7Step -/
theorem l7Step_spec {F : FH} {L : List HP} {arv : Value} {ar : List Int} (har : IntsF F arv ar) {rsv : Value} {rs : List (List Int × List Int)} (hrs : PairsF F rsv rs) {tv : Value} {t : List Int} (ht : IntsF F tv t) {p : Nat} {r : Nat} (hsys : sysOk ar rs = true) (ho : termOk ar t = true) (hp : p < t.length) (hr : r < rs.length) :
    Does prog 107 [.agg #[arv, rsv], tv, ii ((p : Int)), ii ((r : Int))] F (L) (fun v F' L' => ∃ (a : Value), (.tuple #[a, .bool ((stepL ar rs t p r).isSome)] : Value) = v ∧ (IntsF F' a ((stepL ar rs t p r).getD [])) ∧ L = L') := by
 refine qA func107 rfl rfl rfl ?_
 have hnn := jw ht (by have := termOk_len ho; omega)
 have htl := termOk_len ho
 have hrl := (sysOk_iff.1 hsys).2.1
 have hsig := (sysOk_iff.1 hsys).1
 have hsl := sigOk_spec hsig
 have hR := ruleOk_iff.1 ((sysOk_iff.1 hsys).2.2 r hr)
 have hRl := hR.left
 have hRr := hR.right
 have hso := sub_ok ho hp
 have hsb := sub_length ho hp
 have hee := endN_spec ho hp
 have hRrl := termOk_len hRr
 have hRg := fun k (hk : k < (rs.getD r ([], [])).2.length) => termOk_ge hRr hk
 have hmp := matchP_len (ar := ar) (p := (rs.getD r ([], [])).1) (t := sub ar t p)
 have hmp2 := hmp.2
 have hmp3 := hmp.1
 refine qc (qa (cX (qO [arv, rsv] rfl rfl ?_)))
 intro b1
 refine qf (sN) rfl (qf (.bool (false)) rfl (qb (qc (qa (cX (qj (1) qG rfl sizeOf31 (by decide) rfl rfl (cX (qi isAgg31 rfl (Rd.own [] rfl rfl) (qd (ii ((r : Int))) rfl (cX (qB r qX jj rfl rfl rfl hrs.slv (by omega) rfl ?_)))))))))))
 obtain ⟨a1, a2, ha1, ha2, hr1, hr2⟩ := hrs.rd (i := r) (by omega)
 refine cX (qw [a1, a2] isAgg114 jj rfl rfl (Rd.two (hr1 _) (hr2 _)) (cX (jd [sN, sN] zeroValue114 rfl ?_)))
 intro b2
 refine cX (qV [] _ [a1, a2] jj rfl rfl rfl (qI (qW (qK ha1)) (qI (qW (qK ha2)) qY)) rfl rfl rfl (qb (qc ?_)))
 refine X.drawG [cellsH b2 [a1, a2] 114, cellsH b1 [arv, rsv] 33] L 15 [[], [], [], [], [], [], [], [], [], [], [9], [9], [], [], [9, 13]] [[], [0], [], [2], [], [4], [], [], [5, 6, 7], [1, 3, 8], [9], [9, 10], [9, 10], [], [9, 11, 13]] [[], [], [], [], [], [], [], [], [], [], [], [], [], [], [13]] (phiG [pe (ptr b1 0), pe (.agg #[arv]), pe (ptr b2 0), pe a1, pe (ptr b1 0), pe (.agg #[arv]), pe tv, pe (ii ((p : Int)) : Value), fun FF us v => ((v) : Value) = v ∧ (IntsF FF (v) (sub ar t p)), fun FF us v => (.tuple #[.agg #[((aggAt (tupAt v 0) 0))], .bool ((matchB ar ((rs.getD r ([], [])).1) ((sub ar t p))).isSome)] : Value) = v ∧ (RowsF FF ((aggAt (tupAt v 0) 0)) (matchP ar ((rs.getD r ([], [])).1) ((sub ar t p)))), fun FF us v => v = (.tuple #[.agg #[((aggAt (tupAt (us.getD 0 undef) 0) 0))], .bool ((matchB ar ((rs.getD r ([], [])).1) ((sub ar t p))).isSome)] : Value), fun FF us v => v = (.agg #[((aggAt (tupAt (us.getD 0 undef) 0) 0))] : Value), pe (.bool ((matchB ar ((rs.getD r ([], [])).1) ((sub ar t p))).isSome)), fun FF us v => v = ptr (blk v) 0, fun FF us v => True]) (ownL [o0, o0, o0, o0, o0, o0, o0, o0, o0, o0, o0, o0, o0, fun us v => [cellsH (blk v) [sN] 145], fun us v => [cellsH (blk (us.getD 1 undef)) [((aggAt (tupAt (us.getD 0 undef) 0) 0))] 145]]) mixed rfl rfl (by kernel_rfl) (by kernel_rfl) (MonoG.get (m1 (m1 (m1 (m1 (m1 (m1 (m1 (m1 (mC (fun le h => ⟨h.1, h.2.mono le⟩) (mC (fun le h => ⟨h.1, h.2.mono le⟩) (mC (fun le h => h) (mC (fun le h => h) (m1 (mC (fun le h => h) (mC (fun le h => h) MonoG.nil)))))))))))))))) ?_ ?_
 ·refine gD (fun W Fs R lF z9 => ?_) ?_
  ·refine qk (qj (0) qG rfl qH (by decide) rfl rfl ?_)
   exact ⟨rfl, rfl⟩
  refine gD (fun W Fs R lF z9 => ?_) ?_
  ·replace har := har.mono lF
   replace ht := ht.mono lF
   replace ha1 := ha1.mono lF
   replace ha2 := ha2.mono lF
   rw [eS (l := [(0, _)]) ⟨z9 0 rfl, ⟨⟩⟩]
   refine qk (qw [arv] jc qH rfl rfl (Rd.ownN [_] rfl rfl) ?_)
   exact ⟨rfl, rfl⟩
  refine gD (fun W Fs R lF z9 => ?_) ?_
  ·refine qk (qj (0) qP rfl qx (by decide) rfl rfl ?_)
   exact ⟨rfl, rfl⟩
  refine gD (fun W Fs R lF z9 => ?_) ?_
  ·replace har := har.mono lF
   replace ht := ht.mono lF
   replace ha1 := ha1.mono lF
   replace ha2 := ha2.mono lF
   rw [eS (l := [(2, _)]) ⟨z9 2 rfl, ⟨⟩⟩]
   refine qk (qi qJ rfl (Rd.own [] rfl rfl) ?_)
   exact ⟨rfl, rfl⟩
  refine gD (fun W Fs R lF z9 => ?_) ?_
  ·refine qk (qj (0) qG rfl qH (by decide) rfl rfl ?_)
   exact ⟨rfl, rfl⟩
  refine gD (fun W Fs R lF z9 => ?_) ?_
  ·replace har := har.mono lF
   replace ht := ht.mono lF
   replace ha1 := ha1.mono lF
   replace ha2 := ha2.mono lF
   rw [eS (l := [(4, _)]) ⟨z9 4 rfl, ⟨⟩⟩]
   refine qk (qw [arv] jc qH rfl rfl (Rd.ownN [_] rfl rfl) ?_)
   exact ⟨rfl, rfl⟩
  refine gD (fun W Fs R lF z9 => ?_) ?_
  ·refine qk (qp (tv) rfl ?_)
   exact ⟨rfl, rfl⟩
  refine gD (fun W Fs R lF z9 => ?_) ?_
  ·refine qk (qp (ii ((p : Int))) rfl ?_)
   exact ⟨rfl, rfl⟩
  refine gD (fun W Fs R lF z9 => ?_) ?_
  ·replace har := har.mono lF
   replace ht := ht.mono lF
   replace ha1 := ha1.mono lF
   replace ha2 := ha2.mono lF
   rw [eS (l := [(5, _), (6, _), (7, _)]) ⟨z9 5 rfl, z9 6 rfl, z9 7 rfl, ⟨⟩⟩]
   refine qk (XOp.frzF <| qn (args := [.agg #[arv], tv, ii (p : Int)]) call109 rfl (l1Sub_spec (p := p) har ht (ho := (by first | assumption | rfl | omega | simp)) (hp := (by first | assumption | rfl | omega | simp))) ?_)
   rintro v2 _ _ _ ⟨rfl, hs2, rfl⟩
   refine ⟨_, _, rfl, fun F2 le2 hz1 => ?_⟩
   replace har := har.mono le2
   replace ht := ht.mono le2
   replace ha1 := ha1.mono le2
   replace ha2 := ha2.mono le2
   have hf1 : IntsF F2 v2 ((sub ar t p)) := intsH.fz (xs := (sub ar t p)) hz1.fz
   exact ⟨⟨rfl, hf1⟩, rfl⟩
  refine gD (fun W Fs R lF z9 => ?_) ?_
  ·obtain ⟨e8, f8_1ha⟩ := z9 8 rfl
   replace har := har.mono lF
   replace ht := ht.mono lF
   replace ha1 := ha1.mono lF
   replace ha2 := ha2.mono lF
   rw [eS (l := [(1, _), (3, _), (8, ((W 8)))]) ⟨z9 1 rfl, z9 3 rfl, (e8).symm, ⟨⟩⟩]
   refine qk (qn (args := [.agg #[arv], a1, ((W 8))]) call108 rfl (l4Match_spec har ha1 f8_1ha (ho := (by first | assumption | rfl | omega | simp)) (hpo := (by first | assumption | rfl | omega | simp))) ?_)
   rintro _ F3 _ le3 ⟨x2, rfl, hr4, rfl⟩
   replace har := har.mono le3
   replace ht := ht.mono le3
   replace ha2 := ha2.mono le3
   replace f8_1ha := f8_1ha.mono le3
   exact ⟨⟨rfl, hr4⟩, rfl⟩
  refine gD (fun W Fs R lF z9 => ?_) ?_
  ·obtain ⟨e9, f9_1hr⟩ := z9 9 rfl
   rw [eS (l := [(9, (.tuple #[.agg #[((aggAt (tupAt (W 9) 0) 0))], .bool ((matchB ar ((rs.getD r ([], [])).1) ((sub ar t p))).isSome)]))]) ⟨(e9).symm, ⟨⟩⟩]
   refine qk (qp (.tuple #[.agg #[((aggAt (tupAt (W 9) 0) 0))], .bool ((matchB ar ((rs.getD r ([], [])).1) ((sub ar t p))).isSome)]) rfl ?_)
   exact ⟨rfl, rfl⟩
  refine gD (fun W Fs R lF z9 => ?_) ?_
  ·obtain ⟨e9, f9_1hr⟩ := z9 9 rfl
   have e10 : W 10 = (.tuple #[.agg #[((aggAt (tupAt (W 9) 0) 0))], .bool ((matchB ar ((rs.getD r ([], [])).1) ((sub ar t p))).isSome)] : Value) := z9 10 rfl
   rw [eS (l := [(9, (.tuple #[.agg #[((aggAt (tupAt (W 9) 0) 0))], .bool ((matchB ar ((rs.getD r ([], [])).1) ((sub ar t p))).isSome)])), (10, (.tuple #[.agg #[((aggAt (tupAt (W 9) 0) 0))], .bool ((matchB ar ((rs.getD r ([], [])).1) ((sub ar t p))).isSome)]))]) ⟨(e9).symm, e10, ⟨⟩⟩]
   refine qk (jb (.agg #[((aggAt (tupAt (W 9) 0) 0))]) rfl rfl ?_)
   exact ⟨rfl, rfl⟩
  refine gD (fun W Fs R lF z9 => ?_) ?_
  ·obtain ⟨e9, f9_1hr⟩ := z9 9 rfl
   have e10 : W 10 = (.tuple #[.agg #[((aggAt (tupAt (W 9) 0) 0))], .bool ((matchB ar ((rs.getD r ([], [])).1) ((sub ar t p))).isSome)] : Value) := z9 10 rfl
   rw [eS (l := [(9, (.tuple #[.agg #[((aggAt (tupAt (W 9) 0) 0))], .bool ((matchB ar ((rs.getD r ([], [])).1) ((sub ar t p))).isSome)])), (10, (.tuple #[.agg #[((aggAt (tupAt (W 9) 0) 0))], .bool ((matchB ar ((rs.getD r ([], [])).1) ((sub ar t p))).isSome)]))]) ⟨(e9).symm, e10, ⟨⟩⟩]
   refine qk (jb (.bool ((matchB ar ((rs.getD r ([], [])).1) ((sub ar t p))).isSome)) rfl rfl ?_)
   exact ⟨rfl, rfl⟩
  refine gD (fun W Fs R lF z9 => ?_) ?_
  ·replace har := har.mono lF
   replace ht := ht.mono lF
   replace ha2 := ha2.mono lF
   refine qk (jd [sN] jh rfl ?_)
   intro b4
   exact ⟨rfl, rfl⟩
  refine gD (fun W Fs R lF z9 => ?_) ?_
  ·obtain ⟨e9, f9_1hr⟩ := z9 9 rfl
   have e11 : W 11 = (.agg #[((aggAt (tupAt (W 9) 0) 0))] : Value) := z9 11 rfl
   have e13 : W 13 = ptr (blk (W 13)) 0 := z9 13 rfl
   replace har := har.mono lF
   replace ht := ht.mono lF
   replace ha2 := ha2.mono lF
   rw [eS (l := [(9, (.tuple #[.agg #[((aggAt (tupAt (W 9) 0) 0))], .bool ((matchB ar ((rs.getD r ([], [])).1) ((sub ar t p))).isSome)])), (11, (.agg #[((aggAt (tupAt (W 9) 0) 0))])), (13, ptr (blk (W 13)) 0)]) ⟨(e9).symm, e11, e13, ⟨⟩⟩]
   show XG _ _ _ _ _ (cellsH (blk (W 13)) [sN] 145 :: ([cellsH b2 [a1, a2] 114, cellsH b1 [arv, rsv] 33] ++ R)) _
   refine qk (qV [] _ [((aggAt (tupAt (W 9) 0) 0))] qU rfl rfl rfl (qI (qW (RowsF.isSl f9_1hr)) qY) rfl rfl rfl ?_)
   exact ⟨trivial, rfl⟩
  exact stepsG.nil
 intro W F4 le4 hphi
 obtain ⟨e8, f8_1ha⟩ := hphi 8 (by decide)
 obtain ⟨e9, f9_1hr⟩ := hphi 9 (by decide)
 have e10 : W 10 = (.tuple #[.agg #[((aggAt (tupAt (W 9) 0) 0))], .bool ((matchB ar ((rs.getD r ([], [])).1) ((sub ar t p))).isSome)] : Value) := hphi 10 (by decide)
 have e11 : W 11 = (.agg #[((aggAt (tupAt (W 9) 0) 0))] : Value) := hphi 11 (by decide)
 have e13 : W 13 = ptr (blk (W 13)) 0 := hphi 13 (by decide)
 generalize hu1 : ((W 8)) = u1 at e8 f8_1ha e9 f9_1hr e10 e11 e13
 generalize hu2 : ((aggAt (tupAt (W 9) 0) 0)) = u2 at e8 f8_1ha e9 f9_1hr e10 e11 e13
 generalize hu3 : blk (W 13) = b5 at e8 f8_1ha e9 f9_1hr e10 e11 e13
 rw [eS (l := [(9, (.tuple #[.agg #[u2], .bool ((matchB ar ((rs.getD r ([], [])).1) ((sub ar t p))).isSome)])), (12, _), (13, ptr b5 0)]) ⟨(e9).symm, (hphi 12 (by decide)), e13, ⟨⟩⟩]
 replace har := har.mono le4
 replace ht := ht.mono le4
 replace ha2 := ha2.mono le4
 show XL _ _ _ _ _ _ _ (cellsH b5 [u2] 145 :: cellsH b2 [a1, a2] 114 :: cellsH b1 [arv, rsv] 33 :: L)
 refine qf (.bool ((matchB ar ((rs.getD r ([], [])).1) ((sub ar t p))).isSome)) rfl (qb (qc (qc (qa (qd (.bool ((matchB ar ((rs.getD r ([], [])).1) ((sub ar t p))).isSome)) rfl (cX (jn rfl (qb ?_))))))))
 refine X.cond (t := !((matchB ar ((rs.getD r ([], [])).1) ((sub ar t p))).isSome)) rfl (fun h1 => ?_) (fun h1 => ?_)
 ·have hms : (matchB ar (rs.getD r ([], [])).1 (sub ar t p)).isSome = false := by simpa using h1
  refine qc (qa (cX (qN (s := 1) [] [ii (0)] [] qg qM jt rfl (by decide) rfl CellsAre.nil rfl ?_)))
  intro v3 hv1
  refine qf (v3) rfl (qf (.bool (false)) rfl (qb ?_))
  show X _ _ _ _ _ _ (intsH 2 v3 ([] : List Int) :: cellsH b5 [u2] 145 :: cellsH b2 [a1, a2] 114 :: cellsH b1 [arv, rsv] 33 :: L)
  refine jq [] _ _ rfl (fun F5 le5 hz2 => ?_)
  replace har := har.mono le5
  replace ht := ht.mono le5
  replace ha2 := ha2.mono le5
  replace f9_1hr := f9_1hr.mono le5
  have hf2 : IntsF F5 v3 ([]) := intsH.fz (xs := []) hz2.fz
  refine qq (qh (qm (L' := L) [v3, .bool (false)] (.tuple #[v3, .bool (false)]) (.tmp rfl (.tmp rfl .nil)) rfl (ql le4 le5) rF (sD (sD (sD sR))) ?_))
  have hz := stepL_nomatch hms
  exact ⟨_, by rw [hz]; rfl, by rw [hz]; exact hf2, rfl⟩
 have hms : (matchB ar (rs.getD r ([], [])).1 (sub ar t p)).isSome = true := by simpa using h1
 refine qs (qc (qa (cX (qw [u2] ju qU rfl rfl (Rd.ownN [] rfl rfl) (cX (qj (1) qP rfl qx (by decide) rfl rfl (cX (qi qJ rfl (Rd.own [_] rfl rfl) (cX (qn (args := [.agg #[u2], a2]) call134 rfl (l2Filled_spec f9_1hr ha2 (hsl := (by first | assumption | rfl | omega | simp)) (hsb := (fun i => by have := hmp2 i; omega)) (htl := (by first | assumption | rfl | omega | simp)) (htg := (fun k hk => by have := hRg k hk; omega))) ?_))))))))))
 rintro _ F6 _ le6 ⟨x3, rfl, hr5, rfl⟩
 replace har := har.mono le6
 replace ht := ht.mono le6
 refine qd (.tuple #[x3, .bool ((fillL (matchP ar ((rs.getD r ([], [])).1) ((sub ar t p))) ((rs.getD r ([], [])).2)).isSome)]) rfl (cX (jb (x3) rfl rfl (cX (jb (.bool ((fillL (matchP ar ((rs.getD r ([], [])).1) ((sub ar t p))) ((rs.getD r ([], [])).2)).isSome)) rfl rfl (qf (x3) rfl (qf (.bool ((fillL (matchP ar ((rs.getD r ([], [])).1) ((sub ar t p))) ((rs.getD r ([], [])).2)).isSome)) rfl (qb (qc (qc (qa (qd (.bool ((fillL (matchP ar ((rs.getD r ([], [])).1) ((sub ar t p))) ((rs.getD r ([], [])).2)).isSome)) rfl (cX (jn rfl (qb ?_))))))))))))))
 refine X.cond (t := !((fillL (matchP ar ((rs.getD r ([], [])).1) ((sub ar t p))) ((rs.getD r ([], [])).2)).isSome)) rfl (fun h2 => ?_) (fun h2 => ?_)
 ·have hfs : (fillL (matchP ar (rs.getD r ([], [])).1 (sub ar t p)) (rs.getD r ([], [])).2).isSome = false := by simpa using h2
  refine qc (qa (cX (qN (s := 1) [] [ii (0)] [] qg qM jt rfl (by decide) rfl CellsAre.nil rfl ?_)))
  intro v4 hv2
  refine qf (v4) rfl (qf (.bool (false)) rfl (qb ?_))
  show X _ _ _ _ _ _ (intsH 2 v4 ([] : List Int) :: cellsH b5 [u2] 145 :: cellsH b2 [a1, a2] 114 :: cellsH b1 [arv, rsv] 33 :: L)
  refine jq [] _ _ rfl (fun F7 le7 hz3 => ?_)
  replace har := har.mono le7
  replace ht := ht.mono le7
  replace hr5 := hr5.mono le7
  have hf3 : IntsF F7 v4 ([]) := intsH.fz (xs := []) hz3.fz
  refine qq (qh (qm (L' := L) [v4, .bool (false)] (.tuple #[v4, .bool (false)]) (.tmp rfl (.tmp rfl .nil)) rfl (ql (ql le4 le6) le7) rF (sD (sD (sD sR))) ?_))
  have hz := stepL_nofill hms hfs
  exact ⟨_, by rw [hz]; rfl, by rw [hz]; exact hf3, rfl⟩
 have hfs : (fillL (matchP ar (rs.getD r ([], [])).1 (sub ar t p)) (rs.getD r ([], [])).2).isSome = true := by simpa using h2
 have hfl := fill_getD_len hfs (by omega)
 refine qs (qc (qa (cX (qj (0) qG rfl qH (by decide) rfl rfl (cX (qw [arv] jc qH rfl rfl (Rd.ownN [_, _] rfl rfl) (qd (tv) rfl (qd (ii ((p : Int))) rfl (qd (x3) rfl (cX (qn (args := [.agg #[arv], tv, ii (p : Int), x3]) call135 rfl (l3Put_spec (p := p) har ht hr5 (ho := (by first | assumption | rfl | omega | simp)) (hp := (by first | assumption | rfl | omega | simp)) (hul := (by first | assumption | rfl | omega | simp))) ?_)))))))))))
 rintro _ F8 _ le8 ⟨x4, rfl, hr6, rfl⟩
 refine cX (jb (x4) rfl rfl (cX (jb (.bool ((putL ar t p ((fillL (matchP ar ((rs.getD r ([], [])).1) ((sub ar t p))) ((rs.getD r ([], [])).2)).getD [])).isSome)) rfl rfl (qf (x4) rfl (qf (.bool ((putL ar t p ((fillL (matchP ar ((rs.getD r ([], [])).1) ((sub ar t p))) ((rs.getD r ([], [])).2)).getD [])).isSome)) rfl (qb (qq (qm (L' := L) [x4, .bool ((putL ar t p ((fillL (matchP ar ((rs.getD r ([], [])).1) ((sub ar t p))) ((rs.getD r ([], [])).2)).getD [])).isSome)] (.tuple #[x4, .bool ((putL ar t p ((fillL (matchP ar ((rs.getD r ([], [])).1) ((sub ar t p))) ((rs.getD r ([], [])).2)).getD [])).isSome)]) (.tmp rfl (.tmp rfl .nil)) rfl (ql (ql le4 le6) le8) rF (sD (sD (sD sR))) ?_))))))))
 have hz := stepL_put hms hfs
 exact ⟨_, by rw [hz], by rw [hz]; exact hr6, rfl⟩

/- spec.l7Redexes -/
theorem l7Redexes_spec {F : FH} {L : List HP} {arv : Value} {ar : List Int} (har : IntsF F arv ar) {rsv : Value} {rs : List (List Int × List Int)} (hrs : PairsF F rsv rs) {tv : Value} {t : List Int} (ht : IntsF F tv t) (hsys : sysOk ar rs = true) (ho : termOk ar t = true) :
    Does prog 72 [.agg #[arv, rsv], tv] F (L) (fun v F' L' => (ii (((cntP ar rs t t.length : Nat) : Int)) : Value) = v ∧ F = F' ∧ L = L') := by
 refine qA func72 rfl rfl rfl ?_
 have hnn := jw ht (by have := termOk_len ho; omega)
 have htl := termOk_len ho
 have hrl := (sysOk_iff.1 hsys).2.1
 have hsig := (sysOk_iff.1 hsys).1
 have hsl := sigOk_spec hsig
 refine qc (qa (cX (qO [arv, rsv] rfl rfl ?_)))
 intro b1
 refine qf (ii (0)) rfl (qb (qc (qa (qf (ii (0)) rfl (qb (qc (qc (qa (qf (ii (0)) rfl (qb (qC (je (α := Nat) (fun k => [(1, tv), (2, ptr b1 0), (5, ii (((cntP ar rs t k : Nat) : Int))), (6, ii ((k : Int)))]) (fun k => cellsH b1 [arv, rsv] 33 :: L) (fun k F' => F = F' ∧ (k ≤ t.length)) (fun k => t.length - k) 0 ⟨rfl, rfl, rfl, rfl, ⟨⟩⟩ (sC sR) ⟨rfl, (by (try dsimp only) <;> omega)⟩ ?_))))))))))))
 rintro k rE _ _ ⟨rfl, hk⟩
 show X _ _ _ _ (envs [(1, tv), (2, ptr b1 0), (5, ii (((cntP ar rs t k : Nat) : Int))), (6, ii ((k : Int)))] rE) _ (cellsH b1 [arv, rsv] 33 :: L)
 have hcp := cntP_le (ar := ar) (rs := rs) (t := t) hrl k
 refine qc (qc (qa (qd (ii ((k : Int))) rfl (qd (tv) rfl (cX (qv qg rfl ht.slv (cX (qL rfl rfl (qb ?_)))))))))
 refine qt (p := (k : Int) < (t.length : Int)) rfl (fun h1 => ?_) (fun h1 => ?_)
 ·refine qs (qc (qC (qc (qa (qf (ii (0)) rfl (qb (qC (je (α := Nat) (fun j => [(1, tv), (2, ptr b1 0), (5, ii (((cntP ar rs t k + cntR ar rs t k j : Nat) : Int))), (6, ii ((k : Int))), (7, ii ((j : Int)))]) (fun j => cellsH b1 [arv, rsv] 33 :: L) (fun j F' => F = F' ∧ (j ≤ rs.length)) (fun j => rs.length - j) 0 ⟨rfl, rfl, rfl, rfl, rfl, ⟨⟩⟩ (sC sR) ⟨rfl, (by (try dsimp only) <;> omega)⟩ ?_))))))))
  rintro j rE _ _ ⟨rfl, hj⟩
  show X _ _ _ _ (envs [(1, tv), (2, ptr b1 0), (5, ii (((cntP ar rs t k + cntR ar rs t k j : Nat) : Int))), (6, ii ((k : Int))), (7, ii ((j : Int)))] rE) _ (cellsH b1 [arv, rsv] 33 :: L)
  have hcr := cntR_le (ar := ar) (rs := rs) (t := t) (p := k) (k := j)
  refine qc (qc (qa (qd (ii ((j : Int))) rfl (cX (qj (1) qG rfl sizeOf31 (by decide) rfl rfl (cX (qi isAgg31 rfl (Rd.own [] rfl rfl) (cX (qv qX rfl hrs.slv (cX (qL rfl rfl (qb ?_))))))))))))
  refine qt (p := (j : Int) < (rs.length : Int)) rfl (fun h2 => ?_) (fun h2 => ?_)
  ·refine qs (qc (qC (qc ?_)))
   obtain ⟨a1, a2, ha1, ha2, hr1, hr2⟩ := hrs.rd (i := j) (by omega)
   refine X.drawG [cellsH b1 [arv, rsv] 33] L 19 [[], [], [], [], [], [], [], [], [], [], [], [], [], [], [13], [13], [], [], [13, 17]] [[], [0], [], [2], [], [3, 4], [5], [6], [], [8], [], [], [9, 10, 11], [1, 7, 12], [13], [13, 14], [13, 14], [], [13, 15, 17]] [[], [], [], [], [], [], [], [], [], [], [], [], [], [], [], [], [], [], [17]] (phiG [pe (ptr b1 0), pe (.agg #[arv]), pe (ptr b1 1), pe rsv, pe (ii ((j : Int)) : Value), pe (.pointer (some (elemA rsv (j * 2)))), pe (.pointer (some (elemA rsv (j * 2)))), pe a1, pe (ptr b1 0), pe (.agg #[arv]), pe tv, pe (ii ((k : Int)) : Value), fun FF us v => ((v) : Value) = v ∧ (IntsF FF (v) (sub ar t k)), fun FF us v => (.tuple #[.agg #[((aggAt (tupAt v 0) 0))], .bool ((matchB ar ((rs.getD j ([], [])).1) ((sub ar t k))).isSome)] : Value) = v ∧ (RowsF FF ((aggAt (tupAt v 0) 0)) (matchP ar ((rs.getD j ([], [])).1) ((sub ar t k)))), fun FF us v => v = (.tuple #[.agg #[((aggAt (tupAt (us.getD 0 undef) 0) 0))], .bool ((matchB ar ((rs.getD j ([], [])).1) ((sub ar t k))).isSome)] : Value), fun FF us v => v = (.agg #[((aggAt (tupAt (us.getD 0 undef) 0) 0))] : Value), pe (.bool ((matchB ar ((rs.getD j ([], [])).1) ((sub ar t k))).isSome)), fun FF us v => v = ptr (blk v) 0, fun FF us v => True]) (ownL [o0, o0, o0, o0, o0, o0, o0, o0, o0, o0, o0, o0, o0, o0, o0, o0, o0, fun us v => [cellsH (blk v) [sN] 145], fun us v => [cellsH (blk (us.getD 1 undef)) [((aggAt (tupAt (us.getD 0 undef) 0) 0))] 145]]) mixed rfl rfl (by kernel_rfl) (by kernel_rfl) (MonoG.get (m1 (m1 (m1 (m1 (m1 (m1 (m1 (m1 (m1 (m1 (m1 (m1 (mC (fun le h => ⟨h.1, h.2.mono le⟩) (mC (fun le h => ⟨h.1, h.2.mono le⟩) (mC (fun le h => h) (mC (fun le h => h) (m1 (mC (fun le h => h) (mC (fun le h => h) MonoG.nil)))))))))))))))))))) ?_ ?_
   ·refine gD (fun W Fs R lF z9 => ?_) ?_
    ·refine qk (qj (0) qG rfl qH (by decide) rfl rfl ?_)
     exact ⟨rfl, rfl⟩
    refine gD (fun W Fs R lF z9 => ?_) ?_
    ·replace har := har.mono lF
     replace hrs := hrs.mono lF
     replace ht := ht.mono lF
     replace ha1 := ha1.mono lF
     replace hr1 := Rd.monoA hr1 lF
     rw [eS (l := [(0, _)]) ⟨z9 0 rfl, ⟨⟩⟩]
     refine qk (qw [arv] jc qH rfl rfl (Rd.ownN [] rfl rfl) ?_)
     exact ⟨rfl, rfl⟩
    refine gD (fun W Fs R lF z9 => ?_) ?_
    ·refine qk (qj (1) qG rfl sizeOf31 (by decide) rfl rfl ?_)
     exact ⟨rfl, rfl⟩
    refine gD (fun W Fs R lF z9 => ?_) ?_
    ·replace har := har.mono lF
     replace hrs := hrs.mono lF
     replace ht := ht.mono lF
     replace ha1 := ha1.mono lF
     replace hr1 := Rd.monoA hr1 lF
     rw [eS (l := [(2, _)]) ⟨z9 2 rfl, ⟨⟩⟩]
     refine qk (qi isAgg31 rfl (Rd.own [] rfl rfl) ?_)
     exact ⟨rfl, rfl⟩
    refine gD (fun W Fs R lF z9 => ?_) ?_
    ·refine qk (qp (ii ((j : Int))) rfl ?_)
     exact ⟨rfl, rfl⟩
    refine gD (fun W Fs R lF z9 => ?_) ?_
    ·replace har := har.mono lF
     replace hrs := hrs.mono lF
     replace ht := ht.mono lF
     replace ha1 := ha1.mono lF
     replace hr1 := Rd.monoA hr1 lF
     rw [eS (l := [(3, _), (4, _)]) ⟨z9 3 rfl, z9 4 rfl, ⟨⟩⟩]
     refine qk (qB j qX jj rfl rfl rfl hrs.slv (by omega) rfl ?_)
     exact ⟨rfl, rfl⟩
    refine gD (fun W Fs R lF z9 => ?_) ?_
    ·rw [eS (l := [(5, _)]) ⟨z9 5 rfl, ⟨⟩⟩]
     refine qk (XOp.fieldE (j * 2) qP rfl qx (by decide) rfl rfl ?_)
     exact ⟨rfl, rfl⟩
    refine gD (fun W Fs R lF z9 => ?_) ?_
    ·replace har := har.mono lF
     replace ht := ht.mono lF
     replace ha1 := ha1.mono lF
     replace hr1 := Rd.monoA hr1 lF
     rw [eS (l := [(6, _)]) ⟨z9 6 rfl, ⟨⟩⟩]
     refine qk (qi qJ rfl (hr1 _) ?_)
     exact ⟨rfl, rfl⟩
    refine gD (fun W Fs R lF z9 => ?_) ?_
    ·refine qk (qj (0) qG rfl qH (by decide) rfl rfl ?_)
     exact ⟨rfl, rfl⟩
    refine gD (fun W Fs R lF z9 => ?_) ?_
    ·replace har := har.mono lF
     replace ht := ht.mono lF
     replace ha1 := ha1.mono lF
     rw [eS (l := [(8, _)]) ⟨z9 8 rfl, ⟨⟩⟩]
     refine qk (qw [arv] jc qH rfl rfl (Rd.ownN [] rfl rfl) ?_)
     exact ⟨rfl, rfl⟩
    refine gD (fun W Fs R lF z9 => ?_) ?_
    ·refine qk (qp (tv) rfl ?_)
     exact ⟨rfl, rfl⟩
    refine gD (fun W Fs R lF z9 => ?_) ?_
    ·refine qk (qp (ii ((k : Int))) rfl ?_)
     exact ⟨rfl, rfl⟩
    refine gD (fun W Fs R lF z9 => ?_) ?_
    ·replace har := har.mono lF
     replace ht := ht.mono lF
     replace ha1 := ha1.mono lF
     rw [eS (l := [(9, _), (10, _), (11, _)]) ⟨z9 9 rfl, z9 10 rfl, z9 11 rfl, ⟨⟩⟩]
     refine qk (XOp.frzF <| qn (args := [.agg #[arv], tv, ii (k : Int)]) call109 rfl (l1Sub_spec (p := k) har ht (ho := (by first | assumption | rfl | omega | simp)) (hp := (by first | assumption | rfl | omega | simp))) ?_)
     rintro v2 _ _ _ ⟨rfl, hs2, rfl⟩
     refine ⟨_, _, rfl, fun F2 le2 hz1 => ?_⟩
     replace har := har.mono le2
     replace ha1 := ha1.mono le2
     have hf1 : IntsF F2 v2 ((sub ar t k)) := intsH.fz (xs := (sub ar t k)) hz1.fz
     exact ⟨⟨rfl, hf1⟩, rfl⟩
    refine gD (fun W Fs R lF z9 => ?_) ?_
    ·obtain ⟨e12, f12_1ha⟩ := z9 12 rfl
     replace har := har.mono lF
     replace ha1 := ha1.mono lF
     rw [eS (l := [(1, _), (7, _), (12, ((W 12)))]) ⟨z9 1 rfl, z9 7 rfl, (e12).symm, ⟨⟩⟩]
     refine qk (qn (args := [.agg #[arv], a1, ((W 12))]) call108 rfl (l4Match_spec har ha1 f12_1ha (ho := (sub_ok ho (by omega))) (hpo := ((ruleOk_iff.1 ((sysOk_iff.1 hsys).2.2 j (by omega))).left))) ?_)
     rintro _ F3 _ le3 ⟨x2, rfl, hr4, rfl⟩
     replace har := har.mono le3
     replace f12_1ha := f12_1ha.mono le3
     exact ⟨⟨rfl, hr4⟩, rfl⟩
    refine gD (fun W Fs R lF z9 => ?_) ?_
    ·obtain ⟨e13, f13_1hr⟩ := z9 13 rfl
     rw [eS (l := [(13, (.tuple #[.agg #[((aggAt (tupAt (W 13) 0) 0))], .bool ((matchB ar ((rs.getD j ([], [])).1) ((sub ar t k))).isSome)]))]) ⟨(e13).symm, ⟨⟩⟩]
     refine qk (qp (.tuple #[.agg #[((aggAt (tupAt (W 13) 0) 0))], .bool ((matchB ar ((rs.getD j ([], [])).1) ((sub ar t k))).isSome)]) rfl ?_)
     exact ⟨rfl, rfl⟩
    refine gD (fun W Fs R lF z9 => ?_) ?_
    ·obtain ⟨e13, f13_1hr⟩ := z9 13 rfl
     have e14 : W 14 = (.tuple #[.agg #[((aggAt (tupAt (W 13) 0) 0))], .bool ((matchB ar ((rs.getD j ([], [])).1) ((sub ar t k))).isSome)] : Value) := z9 14 rfl
     rw [eS (l := [(13, (.tuple #[.agg #[((aggAt (tupAt (W 13) 0) 0))], .bool ((matchB ar ((rs.getD j ([], [])).1) ((sub ar t k))).isSome)])), (14, (.tuple #[.agg #[((aggAt (tupAt (W 13) 0) 0))], .bool ((matchB ar ((rs.getD j ([], [])).1) ((sub ar t k))).isSome)]))]) ⟨(e13).symm, e14, ⟨⟩⟩]
     refine qk (jb (.agg #[((aggAt (tupAt (W 13) 0) 0))]) rfl rfl ?_)
     exact ⟨rfl, rfl⟩
    refine gD (fun W Fs R lF z9 => ?_) ?_
    ·obtain ⟨e13, f13_1hr⟩ := z9 13 rfl
     have e14 : W 14 = (.tuple #[.agg #[((aggAt (tupAt (W 13) 0) 0))], .bool ((matchB ar ((rs.getD j ([], [])).1) ((sub ar t k))).isSome)] : Value) := z9 14 rfl
     rw [eS (l := [(13, (.tuple #[.agg #[((aggAt (tupAt (W 13) 0) 0))], .bool ((matchB ar ((rs.getD j ([], [])).1) ((sub ar t k))).isSome)])), (14, (.tuple #[.agg #[((aggAt (tupAt (W 13) 0) 0))], .bool ((matchB ar ((rs.getD j ([], [])).1) ((sub ar t k))).isSome)]))]) ⟨(e13).symm, e14, ⟨⟩⟩]
     refine qk (jb (.bool ((matchB ar ((rs.getD j ([], [])).1) ((sub ar t k))).isSome)) rfl rfl ?_)
     exact ⟨rfl, rfl⟩
    refine gD (fun W Fs R lF z9 => ?_) ?_
    ·replace har := har.mono lF
     refine qk (jd [sN] jh rfl ?_)
     intro b3
     exact ⟨rfl, rfl⟩
    refine gD (fun W Fs R lF z9 => ?_) ?_
    ·obtain ⟨e13, f13_1hr⟩ := z9 13 rfl
     have e15 : W 15 = (.agg #[((aggAt (tupAt (W 13) 0) 0))] : Value) := z9 15 rfl
     have e17 : W 17 = ptr (blk (W 17)) 0 := z9 17 rfl
     rw [eS (l := [(13, (.tuple #[.agg #[((aggAt (tupAt (W 13) 0) 0))], .bool ((matchB ar ((rs.getD j ([], [])).1) ((sub ar t k))).isSome)])), (15, (.agg #[((aggAt (tupAt (W 13) 0) 0))])), (17, ptr (blk (W 17)) 0)]) ⟨(e13).symm, e15, e17, ⟨⟩⟩]
     show XG _ _ _ _ _ (cellsH (blk (W 17)) [sN] 145 :: ([cellsH b1 [arv, rsv] 33] ++ R)) _
     refine qk (qV [] _ [((aggAt (tupAt (W 13) 0) 0))] qU rfl rfl rfl (qI (qW (RowsF.isSl f13_1hr)) qY) rfl rfl rfl ?_)
     exact ⟨trivial, rfl⟩
    exact stepsG.nil
   intro W F4 le4 hphi
   obtain ⟨e12, f12_1ha⟩ := hphi 12 (by decide)
   obtain ⟨e13, f13_1hr⟩ := hphi 13 (by decide)
   have e14 : W 14 = (.tuple #[.agg #[((aggAt (tupAt (W 13) 0) 0))], .bool ((matchB ar ((rs.getD j ([], [])).1) ((sub ar t k))).isSome)] : Value) := hphi 14 (by decide)
   have e15 : W 15 = (.agg #[((aggAt (tupAt (W 13) 0) 0))] : Value) := hphi 15 (by decide)
   have e17 : W 17 = ptr (blk (W 17)) 0 := hphi 17 (by decide)
   generalize hu1 : ((W 12)) = u1 at e12 f12_1ha e13 f13_1hr e14 e15 e17
   generalize hu2 : ((aggAt (tupAt (W 13) 0) 0)) = u2 at e12 f12_1ha e13 f13_1hr e14 e15 e17
   generalize hu3 : blk (W 17) = b4 at e12 f12_1ha e13 f13_1hr e14 e15 e17
   rw [eS (l := [(13, (.tuple #[.agg #[u2], .bool ((matchB ar ((rs.getD j ([], [])).1) ((sub ar t k))).isSome)])), (16, _), (17, ptr b4 0)]) ⟨(e13).symm, (hphi 16 (by decide)), e17, ⟨⟩⟩]
   show XL _ _ _ _ _ _ _ (cellsH b4 [u2] 145 :: cellsH b1 [arv, rsv] 33 :: L)
   refine qf (.bool ((matchB ar ((rs.getD j ([], [])).1) ((sub ar t k))).isSome)) rfl (qb (qc (qa (qd (.bool ((matchB ar ((rs.getD j ([], [])).1) ((sub ar t k))).isSome)) rfl (qb ?_)))))
   refine X.cond (t := (matchB ar ((rs.getD j ([], [])).1) ((sub ar t k))).isSome) rfl (fun h3 => ?_) (fun h3 => ?_)
   ·refine qa (qd (ii (((cntP ar rs t k + cntR ar rs t k j : Nat) : Int))) rfl (cX (qD ((((cntP ar rs t k + cntR ar rs t k j) + 1 : Nat) : Int)) rfl rfl (by omega) (by omega) (qf (ii ((((cntP ar rs t k + cntR ar rs t k j) + 1 : Nat) : Int))) rfl (qb (qa (qd (ii ((j : Int))) rfl (cX (qD (((j + 1 : Nat) : Int)) rfl rfl (by omega) (by omega) (qf (ii (((j + 1 : Nat) : Int))) rfl (qb ?_)))))))))))
    exact ⟨j + 1, _, FLe.refl _, le4, ⟨rfl, rfl, (congrArg (fun z : Nat => Value.int .i64 (z : Int)) (by first | exact cntR_yes (by unfold isRedex; assumption) | exact cntR_no (by unfold isRedex; assumption))), rfl, rfl, ⟨⟩⟩, (sD (sC sR)), ⟨rfl, (by omega)⟩, (by omega)⟩
   refine qs (qa (qd (ii ((j : Int))) rfl (cX (qD (((j + 1 : Nat) : Int)) rfl rfl (by omega) (by omega) (qf (ii (((j + 1 : Nat) : Int))) rfl (qb ?_))))))
   exact ⟨j + 1, _, FLe.refl _, le4, ⟨rfl, rfl, (congrArg (fun z : Nat => Value.int .i64 (z : Int)) (by first | exact cntR_yes (by unfold isRedex; assumption) | exact cntR_no (by unfold isRedex; assumption))), rfl, rfl, ⟨⟩⟩, (sD (sC sR)), ⟨rfl, (by omega)⟩, (by omega)⟩
  refine qZ (qo (qo (qF (qa (qd (ii ((k : Int))) rfl (cX (qD (((k + 1 : Nat) : Int)) rfl rfl (by omega) (by omega) (qf (ii (((k + 1 : Nat) : Int))) rfl (qb ?_)))))))))
  exact ⟨k + 1, _, FLe.refl _, rF, ⟨rfl, rfl, (congrArg (fun z : Nat => Value.int .i64 (z : Int)) (cntP_succ (by omega))), rfl, ⟨⟩⟩, (sC sR), ⟨rfl, (by omega)⟩, (by omega)⟩
 refine qZ (qo (qo (qF (qc (qa (qd (ii (((cntP ar rs t k : Nat) : Int))) rfl (qf (ii (((cntP ar rs t k : Nat) : Int))) rfl (qb (qq (qm (L' := L) [ii (((cntP ar rs t k : Nat) : Int))] (ii (((cntP ar rs t k : Nat) : Int))) (.tmp rfl .nil) rfl rF rF (sD sR) ?_))))))))))
 exact ⟨(vI (by rw [show k = t.length from by omega])), rfl, rfl⟩

/- laws.szInt64S -/
theorem szInt64S_spec {F : FH} {L : List HP} {xsv : Value} {xs : List Int} (hxs : IntsF F xsv xs) {z : Int} (hz : 0 ≤ z ∧ z ≤ 4000000) (hlx : xs.length ≤ 9223372036854775807) :
    Does prog 68 [xsv, ii (z)] F (L) (fun v F' L' => (ii (dec z xs.length) : Value) = v ∧ F = F' ∧ L = L') := by
 refine qA func68 rfl rfl rfl (qc (qa (qf (ii (0)) rfl (qb (qc (qa (qd (ii (z)) rfl (qd (xsv) rfl (cX (qv qg rfl hxs.slv (cX (jm (z - ((xs.length : Int))) rfl rfl (by omega) (by omega) (qf (ii (z - ((xs.length : Int)))) rfl (qb (qc (qc (qa ?_)))))))))))))))))
 refine qd (ii (z - ((xs.length : Int)))) rfl (cX (qL rfl rfl (qb ?_)))
 refine qt (p := (z - ((xs.length : Int)) : Int) < 0) rfl (fun h1 => ?_) (fun h1 => ?_)
 ·refine qc (qa (qf (ii (-1)) rfl (qb (qq (qh (qm (L' := L) [ii (-1)] (ii (-1)) (.tmp rfl .nil) rfl rF rF sR ?_))))))
  exact ⟨(vI (dec_neg (by omega))), rfl, rfl⟩
 refine qs (qc (qa (qd (ii (z - ((xs.length : Int)))) rfl (qf (ii (z - ((xs.length : Int)))) rfl (qb (qq (qm (L' := L) [ii (z - ((xs.length : Int)))] (ii (z - ((xs.length : Int)))) (.tmp rfl .nil) rfl rF rF sR ?_)))))))
 exact ⟨(vI (dec_pos (by omega))), rfl, rfl⟩

/- laws.szSig -/
theorem szSig_spec {F : FH} {L : List HP} {xsv : Value} {xs : List Int} (hxs : IntsF F xsv xs) {z : Int} (hz : 0 ≤ z ∧ z ≤ 4000000) (hlx : xs.length ≤ 9223372036854775807) :
    Does prog 28 [.agg #[xsv], ii (z)] F (L) (fun v F' L' => (ii (dec z xs.length) : Value) = v ∧ F = F' ∧ L = L') := by
 refine qA func28 rfl rfl rfl ?_
 have hdr := dec_range z xs.length
 refine qc (qa (cX (qO [xsv] rfl rfl ?_)))
 intro b1
 refine qf (ii (0)) rfl (qb (qc (qa (cX (qj (0) runUnderlying24 rfl qx (by decide) rfl rfl (cX (qi qJ rfl (Rd.own [] rfl rfl) (qd (ii (z)) rfl (cX (qn (args := [xsv, ii (z)]) call68 rfl (szInt64S_spec (z := z) hxs (hz := (by first | assumption | rfl | omega | simp)) (hlx := (by first | assumption | rfl | omega | simp))) ?_))))))))))
 rintro _ _ _ _ ⟨rfl, rfl, rfl⟩
 refine qf (ii (dec z xs.length)) rfl (qb (qc (qc (qa (qd (ii (dec z xs.length)) rfl (cX (qL rfl rfl (qb ?_))))))))
 refine qt (p := (dec z xs.length : Int) < 0) rfl (fun h1 => ?_) (fun h1 => ?_)
 ·refine qc (qa (qf (ii (-1)) rfl (qb (qq (qh (qm (L' := L) [ii (-1)] (ii (-1)) (.tmp rfl .nil) rfl rF rF (sD sR) ?_))))))
  exact ⟨(vI (by omega)), rfl, rfl⟩
 refine qs (qc (qa (qd (ii (dec z xs.length)) rfl (qf (ii (dec z xs.length)) rfl (qb (qq (qm (L' := L) [ii (dec z xs.length)] (ii (dec z xs.length)) (.tmp rfl .nil) rfl rF rF (sD sR) ?_)))))))
 exact ⟨rfl, rfl, rfl⟩

/- laws.szRule -/
theorem szRule_spec {F : FH} {L : List HP} {lv : Value} {l : List Int} (hl : IntsF F lv l) {rv : Value} {r : List Int} (hr : IntsF F rv r) {z : Int} (hz : 0 ≤ z ∧ z ≤ 4000000) (hll : l.length ≤ 9223372036854775807) (hlr : r.length ≤ 9223372036854775807) :
    Does prog 69 [.agg #[lv, rv], ii (z)] F (L) (fun v F' L' => (ii (dec z (l.length + r.length)) : Value) = v ∧ F = F' ∧ L = L') := by
 refine qA func69 rfl rfl rfl ?_
 have hdr := dec_range z l.length
 refine qc (qa (cX (qO [lv, rv] rfl rfl ?_)))
 intro b1
 refine qf (ii (0)) rfl (qb (qc (qa (cX (qj (0) runUnderlying106 rfl qx (by decide) rfl rfl (cX (qi qJ rfl (Rd.own [] rfl rfl) (qd (ii (z)) rfl (cX (qn (args := [lv, ii (z)]) call68 rfl (szInt64S_spec (z := z) hl (hz := (by first | assumption | rfl | omega | simp)) (hlx := (by first | assumption | rfl | omega | simp))) ?_))))))))))
 rintro _ _ _ _ ⟨rfl, rfl, rfl⟩
 refine qf (ii (dec z l.length)) rfl (qb (qc (qc (qa (qd (ii (dec z l.length)) rfl (cX (qL rfl rfl (qb ?_))))))))
 refine qt (p := (dec z l.length : Int) < 0) rfl (fun h1 => ?_) (fun h1 => ?_)
 ·refine qc (qa (qf (ii (-1)) rfl (qb (qq (qh (qm (L' := L) [ii (-1)] (ii (-1)) (.tmp rfl .nil) rfl rF rF (sD sR) ?_))))))
  exact ⟨(vI (dec_out (by omega))), rfl, rfl⟩
 refine qs (qc (qa (cX (qj (1) runUnderlying106 rfl qx (by decide) rfl rfl (cX (qi qJ rfl (Rd.own [] rfl rfl) (qd (ii (dec z l.length)) rfl (cX (qn (args := [rv, ii (dec z l.length)]) call68 rfl (szInt64S_spec (z := dec z l.length) hr (hz := (by first | assumption | rfl | omega | simp)) (hlx := (by first | assumption | rfl | omega | simp))) ?_)))))))))
 rintro _ _ _ _ ⟨rfl, rfl, rfl⟩
 refine qf (ii (dec (dec z l.length) r.length)) rfl (qb (qc (qc (qa (qd (ii (dec (dec z l.length) r.length)) rfl (cX (qL rfl rfl (qb ?_))))))))
 refine qt (p := (dec (dec z l.length) r.length : Int) < 0) rfl (fun h2 => ?_) (fun h2 => ?_)
 ·refine qc (qa (qf (ii (-1)) rfl (qb (qq (qh (qm (L' := L) [ii (-1)] (ii (-1)) (.tmp rfl .nil) rfl rF rF (sD sR) ?_))))))
  exact ⟨(vI (by rw [← dec_dec (by omega)]; have := (dec_range (dec z l.length) r.length).1; omega)), rfl, rfl⟩
 refine qs (qc (qa (qd (ii (dec (dec z l.length) r.length)) rfl (qf (ii (dec (dec z l.length) r.length)) rfl (qb (qq (qm (L' := L) [ii (dec (dec z l.length) r.length)] (ii (dec (dec z l.length) r.length)) (.tmp rfl .nil) rfl rF rF (sD sR) ?_)))))))
 exact ⟨(vI ((dec_dec (by omega)).symm)), rfl, rfl⟩

/- laws.eqSig -/
theorem eqSig_spec {F : FH} {L : List HP} {av : Value} {a : List Int} (ha : IntsF F av a) {bv : Value} {b : List Int} (hb : IntsF F bv b) (hbd : a.length ≤ 9223372036854775807 ∨ b.length ≤ 9223372036854775807) :
    Does prog 37 [.agg #[av], .agg #[bv]] F (L) (fun v F' L' => (.bool (decide (a = b)) : Value) = v ∧ F = F' ∧ L = L') := by
 refine qA func37 rfl rfl rfl (qc (qa (cX (qO [av] rfl rfl ?_))))
 intro b1
 refine cX (qO [bv] rfl rfl ?_)
 intro b2
 refine qf (.bool (false)) rfl (qb (qc (qc (qa (cX (qj (0) jk rfl qx (by decide) rfl rfl (cX (qi qJ rfl (Rd.own [_] rfl rfl) (cX (qj (0) jk rfl qx (by decide) rfl rfl (cX (qi qJ rfl (Rd.own [] rfl rfl) (cX (qn (args := [av, bv]) call12 rfl (eqInt64S_spec ha hb (hbd := (by first | assumption | rfl | omega | (left; simp; done) | (right; simp; done)))) ?_))))))))))))))
 rintro _ _ _ _ ⟨rfl, rfl, rfl⟩
 refine cX (XOp.notD rfl (qb ?_))
 refine qt (p := ¬(a = b)) rfl (fun h1 => ?_) (fun h1 => ?_)
 ·refine qc (qa (qf (.bool (false)) rfl (qb (qq (qh (qm (L' := L) [.bool (false)] (.bool (false)) (.tmp rfl .nil) rfl rF rF (sD (sD sR)) ?_))))))
  exact ⟨(vB (decide_eq_false (by assumption))), rfl, rfl⟩
 refine qs (qc (qa (qf (.bool (true)) rfl (qb (qq (qm (L' := L) [.bool (true)] (.bool (true)) (.tmp rfl .nil) rfl rF rF (sD (sD sR)) ?_))))))
 exact ⟨(vB (decide_eq_true (by first | assumption | exact Classical.not_not.1 (by assumption)))), rfl, rfl⟩

/- laws.eqRule -/
theorem eqRule_spec {F : FH} {L : List HP} {av : Value} {a : List Int} (ha : IntsF F av a) {bv : Value} {b : List Int} (hb : IntsF F bv b) {cv : Value} {c : List Int} (hc : IntsF F cv c) {dv : Value} {d : List Int} (hd : IntsF F dv d) (hbd : a.length ≤ 9223372036854775807 ∨ c.length ≤ 9223372036854775807) (hbe : b.length ≤ 9223372036854775807 ∨ d.length ≤ 9223372036854775807) :
    Does prog 79 [.agg #[av, bv], .agg #[cv, dv]] F (L) (fun v F' L' => (.bool (decide ((a, b) = (c, d))) : Value) = v ∧ F = F' ∧ L = L') := by
 refine qA func79 rfl rfl rfl (qc (qa (cX (qO [av, bv] rfl rfl ?_))))
 intro b1
 refine cX (qO [cv, dv] rfl rfl ?_)
 intro b2
 refine qf (.bool (false)) rfl (qb (qc (qc (qa (cX (qj (0) qP rfl qx (by decide) rfl rfl (cX (qi qJ rfl (Rd.own [_] rfl rfl) (cX (qj (0) qP rfl qx (by decide) rfl rfl (cX (qi qJ rfl (Rd.own [] rfl rfl) (cX (qn (args := [av, cv]) call12 rfl (eqInt64S_spec ha hc (hbd := (by first | assumption | rfl | omega | (left; simp; done) | (right; simp; done)))) ?_))))))))))))))
 rintro _ _ _ _ ⟨rfl, rfl, rfl⟩
 refine cX (XOp.notD rfl (qb ?_))
 refine qt (p := ¬(a = c)) rfl (fun h1 => ?_) (fun h1 => ?_)
 ·refine qc (qa (qf (.bool (false)) rfl (qb (qq (qh (qm (L' := L) [.bool (false)] (.bool (false)) (.tmp rfl .nil) rfl rF rF (sD (sD sR)) ?_))))))
  exact ⟨(vB (decide_eq_false (by intro e; simp_all))), rfl, rfl⟩
 refine qs (qc (qc (qa (cX (qj (1) qP rfl qx (by decide) rfl rfl (cX (qi qJ rfl (Rd.own [_] rfl rfl) (cX (qj (1) qP rfl qx (by decide) rfl rfl (cX (qi qJ rfl (Rd.own [] rfl rfl) (cX (qn (args := [bv, dv]) call12 rfl (eqInt64S_spec hb hd (hbd := (by first | assumption | rfl | omega | (left; simp; done) | (right; simp; done)))) ?_)))))))))))))
 rintro _ _ _ _ ⟨rfl, rfl, rfl⟩
 refine cX (XOp.notD rfl (qb ?_))
 refine qt (p := ¬(b = d)) rfl (fun h2 => ?_) (fun h2 => ?_)
 ·refine qc (qa (qf (.bool (false)) rfl (qb (qq (qh (qm (L' := L) [.bool (false)] (.bool (false)) (.tmp rfl .nil) rfl rF rF (sD (sD sR)) ?_))))))
  exact ⟨(vB (decide_eq_false (by intro e; simp_all))), rfl, rfl⟩
 refine qs (qc (qa (qf (.bool (true)) rfl (qb (qq (qm (L' := L) [.bool (true)] (.bool (true)) (.tmp rfl .nil) rfl rF rF (sD (sD sR)) ?_))))))
 exact ⟨(vB (decide_eq_true (by simp_all))), rfl, rfl⟩

/- laws.szRuleS -/
theorem szRuleS_spec {F : FH} {L : List HP} {rsv : Value} {rs : List (List Int × List Int)} (hrs : PairsF F rsv rs) {z : Int} (hz : 0 ≤ z ∧ z ≤ 4000000) (hrl : rs.length ≤ 9223372036854775807) (hrb : ∀ i, i < rs.length → (rs.getD i ([], [])).1.length ≤ 9223372036854775807 ∧ (rs.getD i ([], [])).2.length ≤ 9223372036854775807) :
    Does prog 29 [rsv, ii (z)] F (L) (fun v F' L' => (ii (dec z (szR rs)) : Value) = v ∧ F = F' ∧ L = L') := by
 refine qA func29 rfl rfl rfl (qc (qa (qf (ii (0)) rfl (qb (qc (qa (qd (ii (z)) rfl (qd (rsv) rfl (cX (qv runUnderlying25 rfl hrs.slv (cX (jm (z - ((rs.length : Int))) rfl rfl (by omega) (by omega) (qf (ii (z - ((rs.length : Int)))) rfl (qb (qc (qc (qa ?_)))))))))))))))))
 refine qd (ii (z - ((rs.length : Int)))) rfl (cX (qL rfl rfl (qb ?_)))
 refine qt (p := (z - ((rs.length : Int)) : Int) < 0) rfl (fun h1 => ?_) (fun h1 => ?_)
 ·refine qc (qa (qf (ii (-1)) rfl (qb (qq (qh (qm (L' := L) [ii (-1)] (ii (-1)) (.tmp rfl .nil) rfl rF rF sR ?_))))))
  exact ⟨(vI (dec_mono (n := rs.length) (by rw [dec_neg (by omega)]; omega) (by unfold szR; omega))), rfl, rfl⟩
 refine qs (qc (qc (qa (qf (ii (0)) rfl (qb (qC (je (α := Nat) (fun k => [(0, rsv), (1, ii (dec z (rs.length + szTo rs k))), (5, ii ((k : Int)))]) (fun k => L) (fun k F' => F = F' ∧ (k ≤ rs.length) ∧ (0 ≤ dec z (rs.length + szTo rs k))) (fun k => rs.length - k) 0 ⟨rfl, (vI (by show z - rs.length = dec z (rs.length + 0); rw [Nat.add_zero, dec_pos (by omega)])), rfl, ⟨⟩⟩ sR ⟨rfl, (by (try dsimp only) <;> omega), (by show 0 ≤ dec z (rs.length + 0); rw [Nat.add_zero, dec_pos (by omega)]; omega)⟩ ?_)))))))
 rintro k rE _ _ ⟨rfl, hk, hnn⟩
 show X _ _ _ _ (envs [(0, rsv), (1, ii (dec z (rs.length + szTo rs k))), (5, ii ((k : Int)))] rE) _ (L)
 have hdr := dec_range z (rs.length + szTo rs k)
 have hrk := hrb k
 refine qc (qc (qa (qd (ii ((k : Int))) rfl (qd (rsv) rfl (cX (qv runUnderlying25 rfl hrs.slv (cX (qL rfl rfl (qb ?_)))))))))
 refine qt (p := (k : Int) < (rs.length : Int)) rfl (fun h2 => ?_) (fun h2 => ?_)
 ·refine qs (qc (qC (qc (qa (qd (rsv) rfl (qd (ii ((k : Int))) rfl (cX (qB k runUnderlying25 sizeOf106 rfl rfl rfl hrs.slv (by omega) rfl ?_))))))))
  obtain ⟨a1, a2, ha1, ha2, hr1, hr2⟩ := hrs.rd (i := k) (by omega)
  refine cX (qw [a1, a2] isAgg106 sizeOf106 rfl rfl (Rd.two (hr1 _) (hr2 _)) (qd (ii (dec z (rs.length + szTo rs k))) rfl (cX (qn (args := [.agg #[a1, a2], ii (dec z (rs.length + szTo rs k))]) call69 rfl (szRule_spec (z := dec z (rs.length + szTo rs k)) ha1 ha2 (hz := (by first | assumption | rfl | omega | simp)) (hll := (by first | assumption | rfl | omega | simp)) (hlr := (by first | assumption | rfl | omega | simp))) ?_))))
  rintro _ _ _ _ ⟨rfl, rfl, rfl⟩
  refine qf (ii (dec (dec z (rs.length + szTo rs k)) (((rs.getD k ([], [])).1).length + ((rs.getD k ([], [])).2).length))) rfl (qb (qc (qa (qd (ii (dec (dec z (rs.length + szTo rs k)) (((rs.getD k ([], [])).1).length + ((rs.getD k ([], [])).2).length))) rfl (cX (qL rfl rfl (qb ?_)))))))
  refine qt (p := (dec (dec z (rs.length + szTo rs k)) (((rs.getD k ([], [])).1).length + ((rs.getD k ([], [])).2).length) : Int) < 0) rfl (fun h3 => ?_) (fun h3 => ?_)
  ·refine qc (qa (qf (ii (-1)) rfl (qb (qq (qy (qh (qh (qy (qh (qm (L' := L) [ii (-1)] (ii (-1)) (.tmp rfl .nil) rfl rF rF sR ?_))))))))))
   exact ⟨(vI (by have h9 := szTo_le (rs := rs) (k + 1) rs.length (by omega) (Nat.le_refl _); refine dec_mono (n := rs.length + szTo rs (k + 1)) ?_ (by unfold szR; omega); rw [← szTo_succ (by omega), ← Nat.add_assoc, ← dec_dec (by omega)]; omega)), rfl, rfl⟩
  refine qs (qa (qd (ii ((k : Int))) rfl (cX (qD (((k + 1 : Nat) : Int)) rfl rfl (by omega) (by omega) (qf (ii (((k + 1 : Nat) : Int))) rfl (qb ?_))))))
  exact ⟨k + 1, _, FLe.refl _, rF, ⟨rfl, (vI (by rw [dec_dec (by omega), Nat.add_assoc, szTo_succ (by omega)])), rfl, ⟨⟩⟩, sR, ⟨rfl, (by (try dsimp only) <;> omega), (by (try dsimp only); rw [← szTo_succ (by omega), ← Nat.add_assoc, ← dec_dec (by omega)]; omega)⟩, (by omega)⟩
 refine qZ (qo (qo (qF (qc (qa (qd (ii (dec z (rs.length + szTo rs k))) rfl (qf (ii (dec z (rs.length + szTo rs k))) rfl (qb (qq (qm (L' := L) [ii (dec z (rs.length + szTo rs k))] (ii (dec z (rs.length + szTo rs k))) (.tmp rfl .nil) rfl rF rF sR ?_))))))))))
 exact ⟨(vI (by rw [szR, show k = rs.length from by omega])), rfl, rfl⟩

/- laws.szSystem -/
theorem szSystem_spec {F : FH} {L : List HP} {arv : Value} {ar : List Int} (har : IntsF F arv ar) {rsv : Value} {rs : List (List Int × List Int)} (hrs : PairsF F rsv rs) {z : Int} (hz : 0 ≤ z ∧ z ≤ 4000000) (hal : ar.length ≤ 9223372036854775807) (hrl : rs.length ≤ 9223372036854775807) (hrb : ∀ i, i < rs.length → (rs.getD i ([], [])).1.length ≤ 9223372036854775807 ∧ (rs.getD i ([], [])).2.length ≤ 9223372036854775807) :
    Does prog 6 [.agg #[arv, rsv], ii (z)] F (L) (fun v F' L' => (ii (dec z (ar.length + szR rs)) : Value) = v ∧ F = F' ∧ L = L') := by
 refine qA func6 rfl rfl rfl ?_
 have hdr := dec_range z ar.length
 refine qc (qa (cX (qO [arv, rsv] rfl rfl ?_)))
 intro b1
 refine qf (ii (0)) rfl (qb (qc (qa (cX (qj (0) runUnderlying27 rfl sizeOf24 (by decide) rfl rfl (cX (qw [arv] isAgg24 sizeOf24 rfl rfl (Rd.ownN [] rfl rfl) (qd (ii (z)) rfl (cX (qn (args := [.agg #[arv], ii (z)]) call28 rfl (szSig_spec (z := z) har (hz := (by first | assumption | rfl | omega | simp)) (hlx := (by first | assumption | rfl | omega | simp))) ?_))))))))))
 rintro _ _ _ _ ⟨rfl, rfl, rfl⟩
 refine qf (ii (dec z ar.length)) rfl (qb (qc (qc (qa (qd (ii (dec z ar.length)) rfl (cX (qL rfl rfl (qb ?_))))))))
 refine qt (p := (dec z ar.length : Int) < 0) rfl (fun h1 => ?_) (fun h1 => ?_)
 ·refine qc (qa (qf (ii (-1)) rfl (qb (qq (qh (qm (L' := L) [ii (-1)] (ii (-1)) (.tmp rfl .nil) rfl rF rF (sD sR) ?_))))))
  exact ⟨(vI (dec_out (by omega))), rfl, rfl⟩
 refine qs (qc (qa (cX (qj (1) runUnderlying27 rfl sizeOf25 (by decide) rfl rfl (cX (qi isAgg25 rfl (Rd.own [] rfl rfl) (qd (ii (dec z ar.length)) rfl (cX (qn (args := [rsv, ii (dec z ar.length)]) call29 rfl (szRuleS_spec (z := dec z ar.length) hrs (hz := (by first | assumption | rfl | omega | simp)) (hrl := (by first | assumption | rfl | omega | simp)) (hrb := (by first | assumption | rfl | omega | simp))) ?_)))))))))
 rintro _ _ _ _ ⟨rfl, rfl, rfl⟩
 refine qf (ii (dec (dec z ar.length) (szR rs))) rfl (qb (qc (qc (qa (qd (ii (dec (dec z ar.length) (szR rs))) rfl (cX (qL rfl rfl (qb ?_))))))))
 refine qt (p := (dec (dec z ar.length) (szR rs) : Int) < 0) rfl (fun h2 => ?_) (fun h2 => ?_)
 ·refine qc (qa (qf (ii (-1)) rfl (qb (qq (qh (qm (L' := L) [ii (-1)] (ii (-1)) (.tmp rfl .nil) rfl rF rF (sD sR) ?_))))))
  exact ⟨(vI (by rw [← dec_dec (by omega)]; have := (dec_range (dec z ar.length) (szR rs)).1; omega)), rfl, rfl⟩
 refine qs (qc (qa (qd (ii (dec (dec z ar.length) (szR rs))) rfl (qf (ii (dec (dec z ar.length) (szR rs))) rfl (qb (qq (qm (L' := L) [ii (dec (dec z ar.length) (szR rs))] (ii (dec (dec z ar.length) (szR rs))) (.tmp rfl .nil) rfl rF rF (sD sR) ?_)))))))
 exact ⟨(vI ((dec_dec (by omega)).symm)), rfl, rfl⟩

/- laws.eqRuleS -/
theorem eqRuleS_spec {F : FH} {L : List HP} {av : Value} {a : List (List Int × List Int)} (ha : PairsF F av a) {bv : Value} {b : List (List Int × List Int)} (hb : PairsF F bv b) (hal : a.length ≤ 9223372036854775807) (hbd : ∀ i, i < a.length → (a.getD i ([], [])).1.length ≤ 9223372036854775807 ∧ (a.getD i ([], [])).2.length ≤ 9223372036854775807) :
    Does prog 38 [av, bv] F (L) (fun v F' L' => (.bool (decide (a = b)) : Value) = v ∧ F = F' ∧ L = L') := by
 refine qA func38 rfl rfl rfl (qc (qa (qf (.bool (false)) rfl (qb (qc (qc (qa (qd (av) rfl (cX (qv qX rfl ha.slv (qd (bv) rfl (cX (qv qX rfl hb.slv (cX (XOp.neq rfl rfl (qb ?_))))))))))))))))
 refine qt (p := ((a.length : Int) : Int) ≠ (b.length : Int)) rfl (fun h1 => ?_) (fun h1 => ?_)
 ·refine qc (qa (qf (.bool (false)) rfl (qb (qq (qh (qm (L' := L) [.bool (false)] (.bool (false)) (.tmp rfl .nil) rfl rF rF sR ?_))))))
  exact ⟨(vB (decide_eq_false (fun e => by rw [e] at h1; omega))), rfl, rfl⟩
 refine qs (qc (qc (qa (qf (ii (0)) rfl (qb (qC (je (α := Nat) (fun k => [(0, av), (1, bv), (5, ii ((k : Int)))]) (fun k => L) (fun k F' => F = F' ∧ (k ≤ a.length) ∧ (∀ i, i < k → a.getD i ([], []) = b.getD i ([], []))) (fun k => a.length - k) 0 ⟨rfl, rfl, rfl, ⟨⟩⟩ sR ⟨rfl, (by (try dsimp only) <;> omega), (fun i hi => absurd hi (by omega))⟩ ?_)))))))
 rintro k rE _ _ ⟨rfl, hk, hall⟩
 show X _ _ _ _ (envs [(0, av), (1, bv), (5, ii ((k : Int)))] rE) _ (L)
 have hbk := hbd k
 refine qc (qc (qa (qd (ii ((k : Int))) rfl (qd (av) rfl (cX (qv qX rfl ha.slv (cX (qL rfl rfl (qb ?_)))))))))
 refine qt (p := (k : Int) < (a.length : Int)) rfl (fun h2 => ?_) (fun h2 => ?_)
 ·refine qs (qc (qC (qc ?_)))
  obtain ⟨a1, a2, ha1, ha2, hr1, hr2⟩ := ha.rd (i := k) (by omega)
  obtain ⟨a3, a4, ha3, ha4, hr3, hr4⟩ := hb.rd (i := k) (by omega)
  refine X.draw [] L 8 [] [[], [], [0, 1], [2], [], [], [4, 5], [6]] (phiL [qe av, qe (ii ((k : Int)) : Value), qe (.pointer (some (elemA av (k * 2)))), qe (.agg #[a1, a2]), qe bv, qe (ii ((k : Int)) : Value), qe (.pointer (some (elemA bv (k * 2)))), qe (.agg #[a3, a4])]) (ownL []) mixed rfl rfl (by kernel_rfl) ?_ ?_
  ·refine pD (fun W R z9 => ?_) ?_
   ·refine qk (qp (av) rfl ?_)
    exact ⟨rfl, rfl, rfl⟩
   refine pD (fun W R z9 => ?_) ?_
   ·refine qk (qp (ii ((k : Int))) rfl ?_)
    exact ⟨rfl, rfl, rfl⟩
   refine pD (fun W R z9 => ?_) ?_
   ·rw [eS (l := [(0, _), (1, _)]) ⟨z9 0 rfl, z9 1 rfl, ⟨⟩⟩]
    refine qk (qB k qX jj rfl rfl rfl ha.slv (by omega) rfl ?_)
    exact ⟨rfl, rfl, rfl⟩
   refine pD (fun W R z9 => ?_) ?_
   ·rw [eS (l := [(2, _)]) ⟨z9 2 rfl, ⟨⟩⟩]
    refine qk (qw [a1, a2] isAgg114 jj rfl rfl (Rd.two (hr1 _) (hr2 _)) ?_)
    exact ⟨rfl, rfl, rfl⟩
   refine pD (fun W R z9 => ?_) ?_
   ·refine qk (qp (bv) rfl ?_)
    exact ⟨rfl, rfl, rfl⟩
   refine pD (fun W R z9 => ?_) ?_
   ·refine qk (qp (ii ((k : Int))) rfl ?_)
    exact ⟨rfl, rfl, rfl⟩
   refine pD (fun W R z9 => ?_) ?_
   ·rw [eS (l := [(4, _), (5, _)]) ⟨z9 4 rfl, z9 5 rfl, ⟨⟩⟩]
    refine qk (qB k qX jj rfl rfl rfl hb.slv (by omega) rfl ?_)
    exact ⟨rfl, rfl, rfl⟩
   refine pD (fun W R z9 => ?_) ?_
   ·rw [eS (l := [(6, _)]) ⟨z9 6 rfl, ⟨⟩⟩]
    refine qk (qw [a3, a4] isAgg114 jj rfl rfl (Rd.two (hr3 _) (hr4 _)) ?_)
    exact ⟨rfl, rfl, rfl⟩
   exact stepsP.nil
  intro W hphi
  rw [eS (l := [(3, _), (7, _)]) ⟨(hphi 3 (by decide)), (hphi 7 (by decide)), ⟨⟩⟩]
  show XL _ _ _ _ _ _ _ (L)
  refine cX (qn (args := [.agg #[a1, a2], .agg #[a3, a4]]) call79 rfl (eqRule_spec ha1 ha2 ha3 ha4 (hbd := (.inl (hbk (by omega)).1)) (hbe := (.inl (hbk (by omega)).2))) ?_)
  rintro _ _ _ _ ⟨rfl, rfl, rfl⟩
  refine cX (XOp.notD rfl (qb ?_))
  refine qt (p := ¬((((a.getD k ([], [])).1), ((a.getD k ([], [])).2)) = (((b.getD k ([], [])).1), ((b.getD k ([], [])).2)))) rfl (fun h3 => ?_) (fun h3 => ?_)
  ·refine qc (qa (qf (.bool (false)) rfl (qb (qq (qy (qh (qh (qy (qh (qm (L' := L) [.bool (false)] (.bool (false)) (.tmp rfl .nil) rfl rF rF sR ?_))))))))))
   exact ⟨(vB (decide_eq_false (fun e => by subst e; simp at *))), rfl, rfl⟩
  refine qs (qa (qd (ii ((k : Int))) rfl (cX (qD (((k + 1 : Nat) : Int)) rfl rfl (by omega) (by omega) (qf (ii (((k + 1 : Nat) : Int))) rfl (qb ?_))))))
  exact ⟨k + 1, _, FLe.refl _, rF, ⟨rfl, rfl, rfl, ⟨⟩⟩, sR, ⟨rfl, (by (try dsimp only) <;> omega), (fun i hi => (Nat.lt_or_ge i k).elim (fun h => hall i h) (fun h => by obtain rfl : i = k := (by omega); first | assumption | exact Classical.not_not.1 (by assumption)))⟩, (by omega)⟩
 refine qZ (qo (qo (qF (qc (qa (qf (.bool (true)) rfl (qb (qq (qm (L' := L) [.bool (true)] (.bool (true)) (.tmp rfl .nil) rfl rF rF sR ?_)))))))))
 exact ⟨(vB (decide_eq_true (ext_pair (by omega) (fun i hi => hall i (by omega))))), rfl, rfl⟩

/- laws.eqSystem -/
theorem eqSystem_spec {F : FH} {L : List HP} {cv : Value} {c : List Int} (hc : IntsF F cv c) {av : Value} {a : List (List Int × List Int)} (ha : PairsF F av a) {dv : Value} {d : List Int} (hd : IntsF F dv d) {bv : Value} {b : List (List Int × List Int)} (hb : PairsF F bv b) (hcl : c.length ≤ 9223372036854775807) (hal : a.length ≤ 9223372036854775807) (hbd : ∀ i, i < a.length → (a.getD i ([], [])).1.length ≤ 9223372036854775807 ∧ (a.getD i ([], [])).2.length ≤ 9223372036854775807) :
    Does prog 11 [.agg #[cv, av], .agg #[dv, bv]] F (L) (fun v F' L' => (.bool (decide (c = d ∧ a = b)) : Value) = v ∧ F = F' ∧ L = L') := by
 refine qA func11 rfl rfl rfl (qc (qa (cX (qO [cv, av] rfl rfl ?_))))
 intro b1
 refine cX (qO [dv, bv] rfl rfl ?_)
 intro b2
 refine qf (.bool (false)) rfl (qb (qc (qc (qa (cX (qj (0) qG rfl qH (by decide) rfl rfl (cX (qw [cv] jc qH rfl rfl (Rd.ownN [_] rfl rfl) (cX (qj (0) qG rfl qH (by decide) rfl rfl (cX (qw [dv] jc qH rfl rfl (Rd.ownN [] rfl rfl) (cX (qn (args := [.agg #[cv], .agg #[dv]]) call37 rfl (eqSig_spec hc hd (hbd := (.inl hcl))) ?_))))))))))))))
 rintro _ _ _ _ ⟨rfl, rfl, rfl⟩
 refine cX (XOp.notD rfl (qb ?_))
 refine qt (p := ¬(c = d)) rfl (fun h1 => ?_) (fun h1 => ?_)
 ·refine qc (qa (qf (.bool (false)) rfl (qb (qq (qh (qm (L' := L) [.bool (false)] (.bool (false)) (.tmp rfl .nil) rfl rF rF (sD (sD sR)) ?_))))))
  exact ⟨(vB (decide_eq_false (by intro e; simp_all))), rfl, rfl⟩
 refine qs (qc (qc (qa (cX (qj (1) qG rfl sizeOf31 (by decide) rfl rfl (cX (qi isAgg31 rfl (Rd.own [_] rfl rfl) (cX (qj (1) qG rfl sizeOf31 (by decide) rfl rfl (cX (qi isAgg31 rfl (Rd.own [] rfl rfl) (cX (qn (args := [av, bv]) call38 rfl (eqRuleS_spec ha hb (hal := (by first | assumption | rfl | omega | simp)) (hbd := (by first | assumption | rfl | omega | simp))) ?_)))))))))))))
 rintro _ _ _ _ ⟨rfl, rfl, rfl⟩
 refine cX (XOp.notD rfl (qb ?_))
 refine qt (p := ¬(a = b)) rfl (fun h2 => ?_) (fun h2 => ?_)
 ·refine qc (qa (qf (.bool (false)) rfl (qb (qq (qh (qm (L' := L) [.bool (false)] (.bool (false)) (.tmp rfl .nil) rfl rF rF (sD (sD sR)) ?_))))))
  exact ⟨(vB (decide_eq_false (by intro e; simp_all))), rfl, rfl⟩
 refine qs (qc (qa (qf (.bool (true)) rfl (qb (qq (qm (L' := L) [.bool (true)] (.bool (true)) (.tmp rfl .nil) rfl rF rF (sD (sD sR)) ?_))))))
 exact ⟨(vB (decide_eq_true (by simp_all))), rfl, rfl⟩

/- laws.toInt64S -/
theorem toInt64S_spec {F : FH} {L : List HP} {xsv : Value} {xs : List Int} (hxs : IntsF F xsv xs) (hlx : xs.length ≤ 4000000) :
    Does prog 9 [xsv] F (L) (fun v F' L' => F = F' ∧ IsSl v ∧ intsH 2 v xs :: L = L') := by
 refine qA func9 rfl rfl rfl (qc (qa (qf (sN) rfl (qb (qc (qa (qd (xsv) rfl (cX (qv qg rfl hxs.slv (cX (XOp.makeSlice (n := (xs).length) (bytes := 8) [ii (0)] qg qM typeInfo2 rfl jt rfl rfl rfl rfl (by omega) (by omega) ?_)))))))))))
 intro v1 hv1
 rw [intsH_zeros]
 refine qf (v1) rfl (qb (qc (qc (qa (qf (ii (0)) rfl (qb (qC (je (α := Nat × List Int) (fun xQ => [(0, xsv), (3, v1), (4, ii (((xQ.1 : Nat) : Int)))]) (fun xQ => intsH 2 v1 xQ.2 :: L) (fun xQ F' => F = F' ∧ (xQ.1 ≤ xs.length) ∧ (xQ.2.length = xs.length) ∧ (xQ.2.take xQ.1 = xs.take xQ.1)) (fun xQ => xs.length - xQ.1) (0, (List.replicate xs.length 0)) ⟨rfl, rfl, rfl, ⟨⟩⟩ (sC sR) ⟨rfl, (by (try dsimp only) <;> omega), (by simp), (rfl)⟩ ?_))))))))
 rintro ⟨k, os⟩ rE _ _ ⟨rfl, hk, hol, hos⟩
 show X _ _ _ _ (envs [(0, xsv), (3, v1), (4, ii ((k : Int)))] rE) _ (intsH 2 v1 os :: L)
 dsimp only at hk hol hos
 refine qc (qc (qa (qd (ii ((k : Int))) rfl (qd (xsv) rfl (cX (qv qg rfl hxs.slv (cX (qL rfl rfl (qb ?_)))))))))
 refine qt (p := (k : Int) < (xs.length : Int)) rfl (fun h1 => ?_) (fun h1 => ?_)
 ·refine qs (qc (qC (qa (qd (v1) rfl (qd (ii ((k : Int))) rfl (qd (xsv) rfl (qd (ii ((k : Int))) rfl (cX (qB k qg qM rfl rfl rfl hxs.slv (by omega) (Nat.mul_one _) (cX (qi jg rfl (hxs.rd (by omega)) (cX (qB k qg qM rfl rfl rfl (intsH.slv [] rfl) (by omega) (Nat.mul_one _) (cX (intsH.storeX (i := k) (v := v1) [] _ (os.set k (xs.getD k 0)) qM rfl rfl rfl (by omega) rfl (qb (qa ?_)))))))))))))))))
  refine qd (ii ((k : Int))) rfl (cX (qD (((k + 1 : Nat) : Int)) rfl rfl (by omega) (by omega) (qf (ii (((k + 1 : Nat) : Int))) rfl (qb ?_))))
  exact ⟨(k + 1, (os.set k (xs.getD k 0))), _, FLe.refl _, rF, ⟨rfl, rfl, rfl, ⟨⟩⟩, (sC sR), ⟨rfl, (by (try dsimp only) <;> omega), (by dsimp only; rw [List.length_set]; exact hol), (by dsimp only; rw [take_set_next (by omega) (by omega), hos, take_succ_getD 0 (by omega)])⟩, (by omega)⟩
 refine qZ (qo (qo (qF (qc (qa (qd (v1) rfl (qf (v1) rfl (qb (qq (qm (L' := intsH 2 v1 os :: L) [v1] (v1) (.tmp rfl .nil) rfl rF rF (sC sR) ?_))))))))))
 refine ⟨rfl, (isSl_lit hv1), ?_⟩
 have hxs : (xs : List Int) = os := by rw [← List.take_of_length_le (l := xs) (i := k) (by omega), ← hos, List.take_of_length_le (by omega)]
 exact congrArg (fun z => intsH 2 _ z :: L) hxs

/- laws.toSig -/
theorem toSig_spec {F : FH} {L : List HP} {xsv : Value} {xs : List Int} (hxs : IntsF F xsv xs) (hlx : xs.length ≤ 4000000) :
    Does prog 33 [.agg #[xsv]] F (L) (fun v F' L' => ∃ (a : Value), (.agg #[a] : Value) = v ∧ (IntsF F' a xs) ∧ (Fresh F F' (star [intsH 2 a xs])) ∧ L = L') := by
 refine qA func33 rfl rfl rfl (qc (qa (cX (qO [xsv] rfl rfl ?_))))
 intro b1
 refine cX (jd [sN] zeroValue30 rfl ?_)
 intro b2
 refine qb (qc (qa (cX (jd [sN] zeroValue30 rfl ?_))))
 intro b3
 refine qb (qc (qa (cX (qj (0) runUnderlying24 rfl qx (by decide) rfl rfl (cX (qi qJ rfl (Rd.own [_, _] rfl rfl) (cX (XOp.frzF <| qn (args := [xsv]) call9 rfl (toInt64S_spec hxs (hlx := (by first | assumption | rfl | omega | simp))) ?_))))))))
 rintro v1 _ _ _ ⟨rfl, hs1, rfl⟩
 refine ⟨_, _, rfl, fun F1 le1 hz1 => ?_⟩
 have hf1 : IntsF F1 v1 ((xs)) := intsH.fz (xs := (xs)) hz1.fz
 refine cX (qj (0) jk rfl qx (by decide) rfl rfl (cX (jr [] _ [v1] qx rfl rfl (qW (qK hf1)) rfl rfl rfl (qb (qc (qa (cX (qw [v1] jc qH rfl rfl (Rd.ownN [] rfl rfl) (cX (qV [_] _ [v1] qH rfl rfl rfl (qI (qW (qK hf1)) qY) rfl rfl rfl (qb (qq (qm (L' := L) [.agg #[v1]] (.agg #[v1]) (.cell rfl (loadNV [v1] jc qH rfl (Rd.ownN [_] rfl rfl)) .nil) rfl le1 rF (sD (sD (sD sR))) ?_)))))))))))))
 exact ⟨_, rfl, hf1, (Fresh.one hz1), rfl⟩

/- laws.toRule -/
theorem toRule_spec {F : FH} {L : List HP} {lv : Value} {l : List Int} (hl : IntsF F lv l) {rv : Value} {r : List Int} (hr : IntsF F rv r) (hll : l.length ≤ 4000000) (hlr : r.length ≤ 4000000) :
    Does prog 74 [.agg #[lv, rv]] F (L) (fun v F' L' => ∃ (a : Value), ∃ (b : Value), (.agg #[a, b] : Value) = v ∧ (IntsF F' a l) ∧ (IntsF F' b r) ∧ (Fresh F F' (star [intsH 2 a l, intsH 2 b r])) ∧ L = L') := by
 refine qA func74 rfl rfl rfl (qc (qa (cX (qO [lv, rv] rfl rfl ?_))))
 intro b1
 refine cX (jd [sN, sN] zeroValue114 rfl ?_)
 intro b2
 refine qb (qc (qa (cX (jd [sN, sN] zeroValue114 rfl ?_))))
 intro b3
 refine qb (qc (qa (cX (qj (0) runUnderlying106 rfl qx (by decide) rfl rfl (cX (qi qJ rfl (Rd.own [_, _] rfl rfl) (cX (XOp.frzF <| qn (args := [lv]) call9 rfl (toInt64S_spec hl (hlx := (by first | assumption | rfl | omega | simp))) ?_))))))))
 rintro v1 _ _ _ ⟨rfl, hs1, rfl⟩
 refine ⟨_, _, rfl, fun F1 le1 hz1 => ?_⟩
 replace hr := hr.mono le1
 have hf1 : IntsF F1 v1 ((l)) := intsH.fz (xs := (l)) hz1.fz
 refine cX (qj (0) qP rfl qx (by decide) rfl rfl (cX (jr [] _ [v1, sN] qx rfl rfl (qW (qK hf1)) rfl rfl rfl (qb (qc (qa (cX (qj (1) runUnderlying106 rfl qx (by decide) rfl rfl (cX (qi qJ rfl (Rd.own [_, _] rfl rfl) (cX (XOp.frzF <| qn (args := [rv]) call9 rfl (toInt64S_spec hr (hlx := (by first | assumption | rfl | omega | simp))) ?_))))))))))))
 rintro v2 _ _ _ ⟨rfl, hs2, rfl⟩
 refine ⟨_, _, rfl, fun F2 le2 hz2 => ?_⟩
 replace hf1 := hf1.mono le2
 have hf2 : IntsF F2 v2 ((r)) := intsH.fz (xs := (r)) hz2.fz
 refine cX (qj (1) qP rfl qx (by decide) rfl rfl (cX (jr [] _ [v1, v2] qx rfl rfl (qW (qK hf2)) rfl rfl rfl (qb (qc (qa (cX (qw [v1, v2] isAgg114 jj rfl rfl (Rd.ownN [] rfl rfl) (cX (qV [_] _ [v1, v2] jj rfl rfl rfl (qI (qW (qK hf1)) (qI (qW (qK hf2)) qY)) rfl rfl rfl (qb (qq (qm (L' := L) [.agg #[v1, v2]] (.agg #[v1, v2]) (.cell rfl (loadNV [v1, v2] isAgg114 jj rfl (Rd.ownN [_] rfl rfl)) .nil) rfl (ql le1 le2) rF (sD (sD (sD sR))) ?_)))))))))))))
 exact ⟨_, _, rfl, hf1, hf2, (Fresh.app (Fresh.one hz1) le1 (Fresh.one hz2) le2), rfl⟩

/- laws.toRuleS -/
theorem toRuleS_spec {F : FH} {L : List HP} {xv : Value} {x : List (List Int × List Int)} (hx : PairsF F xv x) (hlx : x.length ≤ 4000000) (hrb : ∀ i, i < x.length → (x.getD i ([], [])).1.length ≤ 4000000 ∧ (x.getD i ([], [])).2.length ≤ 4000000) :
    Does prog 34 [xv] F (L) (fun v F' L' => ∃ (a : Value), (a : Value) = v ∧ (PairsF F' a x) ∧ (Fresh F F' (star [pairsD 2 114 a x])) ∧ L = L') := by
 refine qA func34 rfl rfl rfl (qc (qa (qf (sN) rfl (qb (qc (qa (qd (xv) rfl (cX (qv runUnderlying25 rfl hx.slv (cX (XOp.makeSlice (n := (x).length) (bytes := 48) [sN, sN] qX jj typeInfo114 rfl zeroValue114 rfl rfl rfl rfl (by omega) (by omega) ?_)))))))))))
 intro v1 hv1
 obtain ⟨cs1, hq1, hc1⟩ : ∃ cs, ((List.range (((x).length) * 2)).map fun i => [sN, sN].toArray[i % [sN, sN].toArray.size]!) = cs ∧ PairsC F cs (List.replicate ((x).length) ([], []) : List (List Int × List Int)) := ⟨_, rfl, PairsC.nils _⟩
 rw [hq1]
 refine qf (v1) rfl (qb (qc (qc (qa (qf (ii (0)) rfl (qb (qC ?_)))))))
 obtain ⟨L0, hD0, hS0⟩ := deepNils2 2 x.length
 rw [hq1] at hD0
 refine je (α := Nat × List (List Int × List Int) × List Value × List HP × FH) (fun xQ => [(0, xv), (3, v1), (4, ii (((xQ.1 : Nat) : Int)))]) (fun xQ => slH 114 2 v1 x.length xQ.2.2.1 :: L) (fun xQ F' => xQ.2.2.2.2 = F' ∧ F ≤ xQ.2.2.2.2 ∧ (PairsC xQ.2.2.2.2 xQ.2.2.1 xQ.2.1) ∧ (xQ.1 ≤ x.length) ∧ (xQ.2.1.length = x.length) ∧ (xQ.2.1.take xQ.1 = x.take xQ.1) ∧ (DeepL 2 (PairO 2) xQ.2.2.1 xQ.2.1 xQ.2.2.2.1) ∧ (Fresh F xQ.2.2.2.2 (star xQ.2.2.2.1))) (fun xQ => x.length - xQ.1) (0, (List.replicate ((x).length) ([], []) : List (List Int × List Int)), cs1, L0, F) ⟨rfl, rfl, rfl, ⟨⟩⟩ (sC sR) ⟨rfl, FLe.refl _, (hc1), (by (try dsimp only) <;> omega), (by simp), (rfl), (hD0), (Fresh.empty hS0)⟩ ?_
 rintro ⟨k, os, cs, Ls, G1⟩ rE _ _ ⟨rfl, leG, hC, hk, hol, hos, hD, hZ⟩
 show X _ _ _ _ (envs [(0, xv), (3, v1), (4, ii ((k : Int)))] rE) _ (slH 114 2 v1 x.length cs :: L)
 replace leG : F ≤ G1 := leG
 dsimp only at hC hk hol hos hD hZ
 have hrk := hrb k
 have leG1 := leG
 replace hx := hx.mono leG1
 refine qc (qc (qa (qd (ii ((k : Int))) rfl (qd (xv) rfl (cX (qv runUnderlying25 rfl hx.slv (cX (qL rfl rfl (qb ?_)))))))))
 refine qt (p := (k : Int) < (x.length : Int)) rfl (fun h1 => ?_) (fun h1 => ?_)
 ·refine qs (qc (qC (qa (qd (v1) rfl (qd (ii ((k : Int))) rfl (qd (xv) rfl (qd (ii ((k : Int))) rfl (cX (qB k runUnderlying25 sizeOf106 rfl rfl rfl hx.slv (by omega) rfl ?_)))))))))
  obtain ⟨a1, a2, ha1, ha2, hr1, hr2⟩ := hx.rd (i := k) (by omega)
  refine cX (qw [a1, a2] isAgg106 sizeOf106 rfl rfl (Rd.two (hr1 _) (hr2 _)) (cX (qn (args := [.agg #[a1, a2]]) call74 rfl (toRule_spec ha1 ha2 (hll := (by first | assumption | rfl | omega | simp)) (hlr := (by first | assumption | rfl | omega | simp))) ?_)))
  rintro _ F1 _ le1 ⟨x1, x2, rfl, hr3, hr4, hr5, rfl⟩
  replace hC := hC.mono le1
  refine cX (qB k qX jj rfl rfl rfl (SlV.own [] rfl) (by omega) rfl (cX (XOp.storeSN (i := k * 2) (m := 2) (vs := [x1, x2]) (cs := cs) [] _ jj rfl rfl rfl (qI (qW (qK hr3)) (qI (qW (qK hr4)) qY)) rfl (show k * 2 + 2 ≤ _ from by have h9 := CO.len hC; (try simp only [List.length_set, List.length_replicate] at h9); omega) (Nat.succ_pos _) ?_)))
  have hc2 := hC.set (j := k) (by (try simp only [List.length_set, List.length_replicate]); omega) hr3 hr4
  refine qb (qa (qd (ii ((k : Int))) rfl (cX (qD (((k + 1 : Nat) : Int)) rfl rfl (by omega) (by omega) (qf (ii (((k + 1 : Nat) : Int))) rfl (qb ?_))))))
  obtain ⟨A, K, B, es, hLs, hel, hR, hg, hput⟩ := hD.at (d := ([], [])) (k := k) (by omega)
  rw [hLs] at hZ
  have hDn := hput _ (((x.getD k ([], [])).1), ((x.getD k ([], [])).2)) [intsH 2 x1 (((x.getD k ([], [])).1)), intsH 2 x2 (((x.getD k ([], [])).2))] rfl ⟨_, _,  rfl, rfl⟩
  exact ⟨(k + 1, (os.set k (((x.getD k ([], [])).1), ((x.getD k ([], [])).2))), (cs.take (k * 2) ++ [x1, x2] ++ cs.drop (k * 2 + 2)), A ++ ([intsH 2 x1 (((x.getD k ([], [])).1)), intsH 2 x2 (((x.getD k ([], [])).2))] ++ B), F1), _, (ql leG1 le1), rF, ⟨rfl, rfl, rfl, ⟨⟩⟩, (sC sR), ⟨rfl, (ql leG1 le1), (hc2), (by (try dsimp only) <;> omega), (by dsimp only; rw [List.length_set]; exact hol), (by dsimp only; rw [take_set_any (by omega), hos, take_succ_getD ([], []) (by omega)]), (hDn), ((Fresh.swap hZ leG1 hr5 le1))⟩, (by omega)⟩
 refine qZ (qo (qo (qF (qc (qa (qd (v1) rfl (qf (v1) rfl (qb (jq [] _ _ rfl (fun F2 le2 hz1 => ?_))))))))))
 replace hC := hC.mono le2
 have hf1 : PairsF F2 v1 os := CO.fz hC (by first | rfl | omega | (rw [List.length_set]; omega) | (simp; done)) hz1.fz
 refine qq (qm (L' := L) [v1] (v1) (.tmp rfl .nil) rfl (ql leG1 le2) rF sR ?_)
 have e : os = x := by rw [← List.take_of_length_le (l := x) (i := k) (by omega), ← hos, List.take_of_length_le (by omega)]
 subst e
 exact ⟨_, rfl, hf1, Fresh.one (Fresh.deep hD hZ leG1 hz1 rfl le2), rfl⟩

/- laws.toSystem -/
theorem toSystem_spec {F : FH} {L : List HP} {arv : Value} {ar : List Int} (har : IntsF F arv ar) {rsv : Value} {rs : List (List Int × List Int)} (hrs : PairsF F rsv rs) (hla : ar.length ≤ 4000000) (hrl : rs.length ≤ 4000000) (hrb : ∀ i, i < rs.length → (rs.getD i ([], [])).1.length ≤ 4000000 ∧ (rs.getD i ([], [])).2.length ≤ 4000000) :
    Does prog 8 [.agg #[arv, rsv]] F (L) (fun v F' L' => ∃ (a : Value), ∃ (b : Value), (.agg #[a, b] : Value) = v ∧ (IntsF F' a ar) ∧ (PairsF F' b rs) ∧ (Fresh F F' (star [intsH 2 a ar, pairsD 2 114 b rs])) ∧ L = L') := by
 refine qA func8 rfl rfl rfl (qc (qa (cX (qO [arv, rsv] rfl rfl ?_))))
 intro b1
 refine cX (jd [sN, sN] zeroValue33 rfl ?_)
 intro b2
 refine qb (qc (qa (cX (jd [sN, sN] zeroValue33 rfl ?_))))
 intro b3
 refine qb (qc (qa (cX (qj (0) runUnderlying27 rfl sizeOf24 (by decide) rfl rfl (cX (qw [arv] isAgg24 sizeOf24 rfl rfl (Rd.ownN [_, _] rfl rfl) (cX (qn (args := [.agg #[arv]]) call33 rfl (toSig_spec har (hlx := (by first | assumption | rfl | omega | simp))) ?_))))))))
 rintro _ F1 _ le1 ⟨x1, rfl, hr1, hr2, rfl⟩
 replace hrs := hrs.mono le1
 refine cX (qj (0) qG rfl qH (by decide) rfl rfl (cX (qV [] _ [x1, sN] qH rfl rfl rfl (qI (qW (qK hr1)) qY) rfl rfl rfl (qb (qc (qa (cX (qj (1) runUnderlying27 rfl sizeOf25 (by decide) rfl rfl (cX (qi isAgg25 rfl (Rd.own [_, _] rfl rfl) (cX (qn (args := [rsv]) call34 rfl (toRuleS_spec hrs (hlx := (by first | assumption | rfl | omega | simp)) (hrb := (by first | assumption | rfl | omega | simp))) ?_))))))))))))
 rintro _ F2 _ le2 ⟨x2, rfl, hr3, hr4, rfl⟩
 replace hr1 := hr1.mono le2
 refine cX (qj (1) qG rfl sizeOf31 (by decide) rfl rfl (cX (jr [] _ [x1, x2] sizeOf31 rfl rfl (qW (PairsF.isSl hr3)) rfl rfl rfl (qb (qc (qa (cX (qw [x1, x2] isAgg33 jo rfl rfl (Rd.ownN [] rfl rfl) (cX (qV [_] _ [x1, x2] jo rfl rfl rfl (qI (qW (qK hr1)) (qI (qW (PairsF.isSl hr3)) qY)) rfl rfl rfl (qb (qq (qm (L' := L) [.agg #[x1, x2]] (.agg #[x1, x2]) (.cell rfl (loadNV [x1, x2] isAgg33 jo rfl (Rd.ownN [_] rfl rfl)) .nil) rfl (ql le1 le2) rF (sD (sD (sD sR))) ?_)))))))))))))
 exact ⟨_, _, rfl, hr1, hr3, (Fresh.app hr2 le1 hr4 le2), rfl⟩

/- impl.redexSteps -/
theorem redexSteps_spec {F : FH} {L : List HP} {arv : Value} {ar : List Int} (har : IntsF F arv ar) {rsv : Value} {rs : List (List Int × List Int)} (hrs : PairsF F rsv rs) {tv : Value} {t : List Int} (ht : IntsF F tv t) :
    Does prog 113 [.agg #[arv, rsv], tv] F (L) (fun v F' L' => ∃ (bt bs : Nat), (.func (.func 138) #[] #[ptr bt 0, ptr bs 0] : Value) = v ∧ FzC F' bt [tv] ∧ FzC F' bs [arv, rsv] ∧ L = L') := by
 refine qA func113 rfl rfl rfl (qc (qa (cX (qO [arv, rsv] rfl rfl ?_))))
 intro b1
 refine cX (qO [tv] rfl (cells_one (qK ht)) ?_)
 intro b2
 refine qf (.nilFunc) rfl (qb (qc (qa (cX (XOp.makeFuncL [] [ptr b2 0, ptr b1 0] rfl rfl (qf (.func (.func 138) #[] #[ptr b2 0, ptr b1 0]) rfl (qb (X.freeze [] _ _ rfl (fun F1 le1 hz1 => ?_)))))))))
 have hf1 : FzC F1 b2 [tv] := Fz.cells hz1
 refine X.freeze [] _ _ rfl (fun F2 le2 hz2 => ?_)
 replace hf1 := hf1.mono le2
 have hf2 : FzC F2 b1 [arv, rsv] := Fz.cells hz2
 refine qq (qm (L' := L) [.func (.func 138) #[] #[ptr b2 0, ptr b1 0]] (.func (.func 138) #[] #[ptr b2 0, ptr b1 0]) (.tmp rfl .nil) rfl (ql le1 le2) rF sR ?_)
 exact ⟨_, _, rfl, hf1, hf2, rfl⟩

/- impl.redexSteps$1 -/
theorem redexIt_spec {F : FH} {L : List HP} {l bo bl bt bs : Nat} {R : Loop} {arv : Value} {ar : List Int} (har : IntsF F arv ar) {rsv : Value} {rs : List (List Int × List Int)} (hrs : PairsF F rsv rs) {tv : Value} {t : List Int} (ht : IntsF F tv t) (hbt : FzC F bt [tv]) (hbs : FzC F bs [arv, rsv]) (hsys : sysOk ar rs = true) (ho : termOk ar t = true) (hyes : ∀ (Fy : FH) (sv : Value) (ss : List StepT) (cs : List Value) (m : Nat) (lb : Bool) (i j : Int) (tov : Value) (to : List Int), F ≤ Fy → IsSl sv → StepsC Fy cs ss → m = ss.length → ss.length ≤ 4000000 → IntsF Fy tov to → Yld prog l [.agg #[.int .i64 i, .int .i64 j, tov], .bool true] Fy (objH l (.loop R) :: cellsH bo [sv] 108 :: slH 113 3 sv m cs :: cellsH bl [.bool (lb)] 4 :: L) (fun v F' L' => .bool true = v ∧ Fy = F' ∧ ∃ sw, IsSl sw ∧ objH l (.loop R) :: cellsH bo [sw] 108 :: slH 113 3 sw (m + 1) (cs ++ [.int .i64 i, .int .i64 j, tov]) :: cellsH bl [.bool (lb)] 4 :: L = L')) (hno : ∀ (Fy : FH) (sv : Value) (cs : List Value) (m : Nat) (lb : Bool) (i j : Int) (tov : Value), F ≤ Fy → IsSl sv → IsSl tov → Yld prog l [.agg #[.int .i64 i, .int .i64 j, tov], .bool false] Fy (objH l (.loop R) :: cellsH bo [sv] 108 :: slH 113 3 sv m cs :: cellsH bl [.bool (lb)] 4 :: L) (fun v F' L' => .bool true = v ∧ Fy = F' ∧ objH l (.loop R) :: cellsH bo [sv] 108 :: slH 113 3 sv m cs :: cellsH bl [.bool (true)] 4 :: L = L')) :
    Does prog 138 [(.func (.yield l) #[] #[]), ptr bt 0, ptr bs 0] F (objH l (.loop R) :: cellsH bo [sN] 108 :: cellsH bl [.bool (false)] 4 :: L) (fun v F' L' => ∃ (sv : Value) (cs : List Value) (Ls : List HP), IsSl sv ∧ StepsC F' cs (stepsL ar rs t) ∧ DeepL 3 (StepO 2) cs (stepsL ar rs t) Ls ∧ Fresh F F' (star Ls) ∧ objH l (.loop R) :: cellsH bo [sv] 108 :: slH 113 3 sv ((stepsL ar rs t).length) cs :: cellsH bl [.bool (longL ar rs t)] 4 :: L = L') := by
 refine qA func138 rfl rfl rfl ?_
 have hnn := jw ht (by have := termOk_len ho; omega)
 have htl := termOk_len ho
 have hrl := (sysOk_iff.1 hsys).2.1
 have hsig := (sysOk_iff.1 hsys).1
 have hsl := sigOk_spec hsig
 refine qc (qa (cX (qi qJ rfl (FzC.rd1 hbt rfl) (cX (qv qg rfl ht.slv (qd (ii (0)) rfl (qb (qC (je (α := Nat × Value × List StepT × List Value × List HP × Nat × Bool × FH) (fun xQ => [(0, (.func (.yield l) #[] #[])), (1, ptr bt 0), (2, ptr bs 0), (9, tv), (10, ii ((t.length : Int))), (11, ii (((xQ.1 : Nat) : Int)))]) (fun xQ => slH 113 3 xQ.2.1 xQ.2.2.2.2.2.1 xQ.2.2.2.1 :: objH l (.loop R) :: cellsH bo [xQ.2.1] 108 :: cellsH bl [.bool (xQ.2.2.2.2.2.2.1)] 4 :: L) (fun xQ F' => xQ.2.2.2.2.2.2.2 = F' ∧ F ≤ xQ.2.2.2.2.2.2.2 ∧ (xQ.1 ≤ t.length) ∧ (IsSl xQ.2.1) ∧ (StepsC xQ.2.2.2.2.2.2.2 xQ.2.2.2.1 xQ.2.2.1) ∧ (xQ.2.2.2.2.2.1 = xQ.2.2.1.length) ∧ (DeepL 3 (StepO 2) xQ.2.2.2.1 xQ.2.2.1 xQ.2.2.2.2.1) ∧ (Fresh F xQ.2.2.2.2.2.2.2 (star xQ.2.2.2.2.1)) ∧ (xQ.2.2.1 = stepsTo ar rs t xQ.1) ∧ (xQ.2.2.2.2.2.2.1 = longTo ar rs t xQ.1)) (fun xQ => t.length - xQ.1) (0, sN, [], [], [], 0, false, F) ⟨rfl, rfl, rfl, rfl, rfl, rfl, ⟨⟩⟩ (qR (Sub.addNil 113 3 _ _) (sC (sC (sC (sC sR))))) ⟨rfl, FLe.refl _, (by (try dsimp only) <;> omega), (⟨_, _, _, rfl⟩), (CO.nil), (rfl), (DeepL.nil), (Fresh.nilL), (rfl), (rfl)⟩ ?_)))))))))
 rintro ⟨k, sv, ss, cs, Ls, m, lb, G1⟩ rE _ _ ⟨rfl, leG, hk, hsv, hC, hm, hD, hZ, hss, hlb⟩
 show X _ _ _ _ (envs [(0, (.func (.yield l) #[] #[])), (1, ptr bt 0), (2, ptr bs 0), (9, tv), (10, ii ((t.length : Int))), (11, ii ((k : Int)))] rE) _ (slH 113 3 sv m cs :: objH l (.loop R) :: cellsH bo [sv] 108 :: cellsH bl [.bool (lb)] 4 :: L)
 replace leG : F ≤ G1 := leG
 dsimp only at hk hsv hC hm hD hZ hss hlb
 have hsl1 := stepsTo_len (ar := ar) (t := t) (rs := rs) hrl k
 have hZo := hZ
 have hss0 := hss
 have hlb0 := hlb
 have leG1 := leG
 replace har := har.mono leG1
 replace hrs := hrs.mono leG1
 replace ht := ht.mono leG1
 replace hbt := hbt.mono leG1
 replace hbs := hbs.mono leG1
 refine qc (qa (cX (qL rfl rfl (qb (qc ?_)))))
 refine qt (p := (k : Int) < (t.length : Int)) rfl (fun h1 => ?_) (fun h1 => ?_)
 ·refine qs (qc (qC (qc (qa (qd (ii ((k : Int))) rfl (cX (qB k qg qM rfl rfl rfl ht.slv (by omega) (Nat.mul_one _) (cX (qi jg rfl (ht.rd (by omega)) (qf (ii ((k : Int))) rfl (qf (ii (t.getD k 0)) rfl (qb (qc (qa (cX (qj (1) qG rfl sizeOf31 (by decide) rfl rfl (cX (qi isAgg31 rfl (FzC.rd1 hbs rfl) (cX (qv qX rfl hrs.slv ?_))))))))))))))))))))
  refine qd (ii (0)) rfl (qb (qC (je (α := Nat × Value × List StepT × List Value × List HP × Nat × Bool × FH) (fun xQ => [(0, (.func (.yield l) #[] #[])), (1, ptr bt 0), (2, ptr bs 0), (4, ii ((k : Int))), (5, ii (t.getD k 0)), (9, tv), (10, ii ((t.length : Int))), (11, ii ((k : Int))), (18, ii ((rs.length : Int))), (19, ii (((xQ.1 : Nat) : Int)))]) (fun xQ => slH 113 3 xQ.2.1 xQ.2.2.2.2.2.1 xQ.2.2.2.1 :: objH l (.loop R) :: cellsH bo [xQ.2.1] 108 :: cellsH bl [.bool (xQ.2.2.2.2.2.2.1)] 4 :: L) (fun xQ F' => xQ.2.2.2.2.2.2.2 = F' ∧ G1 ≤ xQ.2.2.2.2.2.2.2 ∧ (xQ.1 ≤ rs.length) ∧ (IsSl xQ.2.1) ∧ (StepsC xQ.2.2.2.2.2.2.2 xQ.2.2.2.1 xQ.2.2.1) ∧ (xQ.2.2.2.2.2.1 = xQ.2.2.1.length) ∧ (DeepL 3 (StepO 2) xQ.2.2.2.1 xQ.2.2.1 xQ.2.2.2.2.1) ∧ (Fresh F xQ.2.2.2.2.2.2.2 (star xQ.2.2.2.2.1)) ∧ (xQ.2.2.1 = stepsTo ar rs t k ++ stepsRow ar rs t k xQ.1) ∧ (xQ.2.2.2.2.2.2.1 = (longTo ar rs t k || longRow ar rs t k xQ.1))) (fun xQ => rs.length - xQ.1) (0, sv, ss, cs, Ls, m, lb, G1) ⟨rfl, rfl, rfl, rfl, rfl, rfl, rfl, rfl, rfl, rfl, ⟨⟩⟩ (sC (sC (sC (sC sR)))) ⟨rfl, FLe.refl _, (by (try dsimp only) <;> omega), (hsv), (hC), (hm), (hD), (hZ), (by (try dsimp only); rw [hss0]; simp [stepsRow]), (by (try dsimp only); rw [hlb0]; simp [longRow])⟩ ?_)))
  rintro ⟨r, sv, ss, cs, Ls, m, lb, G2⟩ rE _ _ ⟨rfl, leG, hr, hsvi, hCi, hmi, hDi, hZi, hssi, hlbi⟩
  show X _ _ _ _ (envs [(0, (.func (.yield l) #[] #[])), (1, ptr bt 0), (2, ptr bs 0), (4, ii ((k : Int))), (5, ii (t.getD k 0)), (9, tv), (10, ii ((t.length : Int))), (11, ii ((k : Int))), (18, ii ((rs.length : Int))), (19, ii ((r : Int)))] rE) _ (slH 113 3 sv m cs :: objH l (.loop R) :: cellsH bo [sv] 108 :: cellsH bl [.bool (lb)] 4 :: L)
  replace leG : G1 ≤ G2 := leG
  dsimp only at hr hsvi hCi hmi hDi hZi hssi hlbi
  have hsl2 := stepsRow_len (ar := ar) (rs := rs) (t := t) (p := k) r
  have hssl : ss.length ≤ 1000 := by rw [hssi, List.length_append]; omega
  have leG2 := leG
  replace har := har.mono leG2
  replace hrs := hrs.mono leG2
  replace ht := ht.mono leG2
  replace hbt := hbt.mono leG2
  replace hbs := hbs.mono leG2
  replace hC := hC.mono leG2
  refine qc (qa (cX (qL rfl rfl (qb (qc ?_)))))
  refine qt (p := (r : Int) < (rs.length : Int)) rfl (fun h2 => ?_) (fun h2 => ?_)
  ·refine qs (qc (qC (qc (qa (qd (ii ((r : Int))) rfl (qf (ii ((r : Int))) rfl (qb (qc (qc (qa (qd (ii (t.getD k 0)) rfl (cX (qL rfl rfl (qd (.bool (decide ((t.getD k 0 : Int) < 0))) rfl ?_))))))))))))))
   by_cases h3 : (t.getD k 0 : Int) < 0
   ·have hone := one_none (isRedex_var (p := k) (r := r) hsys ho (by omega) (by omega) (show r < rs.length by omega))
    refine qu (t := 24) rfl (vT h3) (qu (t := 24) rfl (vT h3) (qu (t := 24) rfl (vT h3) (qu (t := 24) rfl (vT h3) (qu (t := 24) rfl (vT h3) (qu (t := 24) rfl (vT h3) (cX (ja (.bool (true)) (vT h3) rfl (qb (X.condT rfl (qZ (qo (qF ?_))))))))))))
    refine qa (cX (qD (((r + 1 : Nat) : Int)) rfl rfl (by omega) (by omega) (qd (ii (((r + 1 : Nat) : Int))) rfl (qb ?_))))
    exact ⟨(r + 1, sv, ss, cs, Ls, m, lb, G2), _, leG2, rF, ⟨rfl, rfl, rfl, rfl, rfl, rfl, rfl, rfl, rfl, rfl, ⟨⟩⟩, (sC (sC (sC (sC sR)))), ⟨rfl, leG2, (by (try dsimp only) <;> omega), (hsvi), (hCi), (by (try dsimp only); (try rw [List.length_append, List.length_singleton]); omega), (hDi), (hZi), (by (try dsimp only); rw [hssi, stepsRow_succ, hone.1]; simp), (by (try dsimp only); rw [longRow_succ, hone.2]; (try rw [hlbi]); simp)⟩, (by omega)⟩
   refine qz (t := 24) rfl (vF h3) (qw [arv, rsv] isAgg33 jo rfl rfl (FzC.rd hbs rfl) (qz (t := 24) rfl (vF h3) (qi qJ rfl (FzC.rd1 hbt rfl) (qz (t := 24) rfl (vF h3) (qp (ii ((k : Int))) rfl (qz (t := 24) rfl (vF h3) (qp (ii ((r : Int))) rfl (qz (t := 24) rfl (vF h3) (qn (args := [.agg #[arv, rsv], tv, ii (k : Int), ii (r : Int)]) call139 rfl (redex_spec (p := k) (r := r) har hrs ht (hsys := (by first | assumption | rfl | omega | simp)) (ho := (by first | assumption | rfl | omega | simp)) (hp := (by first | assumption | rfl | omega | simp)) (hr := (by first | assumption | rfl | omega | simp))) ?_)))))))))
   rintro _ _ _ _ ⟨rfl, rfl, rfl⟩
   refine qz (t := 24) rfl (vF h3) (jn rfl (cX (qT (.bool (!(isRedex ar rs t k r))) (vF h3) rfl (qb ?_))))
   refine X.cond (t := !(isRedex ar rs t k r)) rfl (fun h4 => ?_) (fun h4 => ?_)
   ·have hone := one_none (show isRedex ar rs t k r = false by simpa using h4)
    refine qZ (qo (qF (qa (cX (qD (((r + 1 : Nat) : Int)) rfl rfl (by omega) (by omega) (qd (ii (((r + 1 : Nat) : Int))) rfl (qb ?_)))))))
    exact ⟨(r + 1, sv, ss, cs, Ls, m, lb, G2), _, leG2, rF, ⟨rfl, rfl, rfl, rfl, rfl, rfl, rfl, rfl, rfl, rfl, ⟨⟩⟩, (sC (sC (sC (sC sR)))), ⟨rfl, leG2, (by (try dsimp only) <;> omega), (hsvi), (hCi), (by (try dsimp only); (try rw [List.length_append, List.length_singleton]); omega), (hDi), (hZi), (by (try dsimp only); rw [hssi, stepsRow_succ, hone.1]; simp), (by (try dsimp only); rw [longRow_succ, hone.2]; (try rw [hlbi]); simp)⟩, (by omega)⟩
   have hrx : isRedex ar rs t k r = true := by simpa using h4
   refine qs (qc (qa (cX (qw [arv, rsv] isAgg33 jo rfl rfl (FzC.rd hbs rfl) (cX (qi qJ rfl (FzC.rd1 hbt rfl) (qd (ii ((k : Int))) rfl (qd (ii ((r : Int))) rfl (cX (qn (args := [.agg #[arv, rsv], tv, ii (k : Int), ii (r : Int)]) call140 rfl (step_spec (p := k) (r := r) har hrs ht (hsys := (by first | assumption | rfl | omega | simp)) (ho := (by first | assumption | rfl | omega | simp)) (hp := (by first | assumption | rfl | omega | simp)) (hr := (by first | assumption | rfl | omega | simp))) ?_))))))))))
   rintro _ F1 _ le1 ⟨x1, rfl, hr1, hr2, hr3, rfl⟩
   replace hC := hC.mono le1
   replace hCi := hCi.mono le1
   refine qd (.tuple #[x1, .bool ((stepL ar rs t k r).isSome)]) rfl (cX (jb (x1) rfl rfl (cX (jb (.bool ((stepL ar rs t k r).isSome)) rfl rfl (qf (x1) rfl (qf (.bool ((stepL ar rs t k r).isSome)) rfl (qb (qc (X.ofI (by kernel_rfl) (XI.region (jl (qp ((.func (.yield l) #[] #[])) rfl (jl (qp (ii ((k : Int))) rfl ?_))))))))))))))
   refine jl (qp (ii ((r : Int))) rfl (jl (qp (x1) rfl (jl (XOp.build [ii ((k : Int)), ii ((r : Int)), x1] [ii (0), ii (0), sN] [(0, 1), (1, 1), (2, 1)] [(0, [ii ((k : Int))]), (1, [ii ((r : Int))]), (2, [x1])] runUnderlying113 zeroValue113 rfl (.cons rfl qM (.cons rfl qM (.cons rfl qx PlacesAre.nil))) rfl (.cons rfl (.cons rfl (.cons (cells_one (qK hr1)) CellsAre.nil))) (jl (qp (.bool ((stepL ar rs t k r).isSome)) rfl ?_)))))))
   by_cases h5 : ((stepL ar rs t k r).isSome) = true
   ·refine XIL.yield (k := l) (args := [.agg #[ii ((k : Int)), ii ((r : Int)), x1], .bool true]) rfl (by rw [← h5]; rfl) (Yld.weaken (qR (qQ (A := [_, _, _])) (qR (qQ (A := [_])) (qR (qQ (A := [_, _, _])) (qR (qQ (A := [_, _, _])) (sC (sC (sC (sC sR)))))))) ?_)
    have hone := one_some h5
    refine (hyes _ _ _ _ _ _ _ _ _ _ (ql (ql leG1 leG2) le1) hsvi hCi hmi (by omega) hr1).mono ?_
    rintro _ _ _ _ ⟨rfl, rfl, sw1, hs1, rfl⟩
    have hc1 := StepsC.snoc hCi (i := (k : Int)) (j := (r : Int)) hr1
    show XIL _ _ _ _ _ _ _ _ _ (objH l (.loop R) :: cellsH bo [sw1] 108 :: slH 113 3 sw1 (m + 1) ((cs ++ [ii ((k : Int)), ii ((r : Int)), x1])) :: cellsH bl [.bool (lb)] 4 :: L)
    refine jl (jn rfl (XIL.nil (X.condF rfl (qs (qa (cX (qD (((r + 1 : Nat) : Int)) rfl rfl (by omega) (by omega) (qd (ii (((r + 1 : Nat) : Int))) rfl (qb ?_)))))))))
    exact ⟨(r + 1, sw1, (ss ++ [((k : Int), (r : Int), (stepL ar rs t k r).getD [])]), (cs ++ [ii ((k : Int)), ii ((r : Int)), x1]), Ls ++ [intsH 2 x1 ((stepL ar rs t k r).getD [])], m + 1, lb, F1), _, (ql leG2 le1), rF, ⟨rfl, rfl, rfl, rfl, rfl, rfl, rfl, rfl, rfl, rfl, ⟨⟩⟩, (qR (qQ (A := [_, _, _])) (qR (qQ (A := [_, _])) (qR (qQ (A := [_, _])) (qR (qQ (A := [_, _, _])) (sC (sC (sC (sC sR)))))))), ⟨rfl, (ql leG2 le1), (by (try dsimp only) <;> omega), (hs1), (hc1), (by (try dsimp only); (try rw [List.length_append, List.length_singleton]); omega), (DeepL.snoc hDi rfl ⟨_, rfl, rfl⟩), ((Fresh.app hZi (ql leG1 leG2) (Fresh.one hr3) le1)), (by (try dsimp only); rw [hssi, stepsRow_succ, hone.1]; simp), (by (try dsimp only); rw [longRow_succ, hone.2]; (try rw [hlbi]); simp)⟩, (by omega)⟩
   rw [Bool.not_eq_true] at h5
   refine XIL.yield (k := l) (args := [.agg #[ii ((k : Int)), ii ((r : Int)), x1], .bool false]) rfl (by rw [← h5]; rfl) (Yld.weaken (qR (qQ (A := [_, _, _])) (qR (qQ (A := [_])) (qR (qQ (A := [_, _, _])) (qR (qQ (A := [_, _, _])) (sC (sC (sC (sC sR)))))))) ?_)
   have hone := one_long hrx h5
   refine (hno _ _ _ _ _ _ _ _ (ql (ql leG1 leG2) le1) hsvi (qK hr1)).mono ?_
   rintro _ _ _ _ ⟨rfl, rfl, rfl⟩
   show XIL _ _ _ _ _ _ _ _ _ (objH l (.loop R) :: cellsH bo [sv] 108 :: slH 113 3 sv m cs :: cellsH bl [.bool (true)] 4 :: L)
   refine jl (jn rfl (XIL.nil (X.condF rfl (qs (qa (cX (qD (((r + 1 : Nat) : Int)) rfl rfl (by omega) (by omega) (qd (ii (((r + 1 : Nat) : Int))) rfl (qb ?_)))))))))
   exact ⟨(r + 1, sv, ss, cs, Ls, m, true, F1), _, (ql leG2 le1), rF, ⟨rfl, rfl, rfl, rfl, rfl, rfl, rfl, rfl, rfl, rfl, ⟨⟩⟩, (qR (qQ (A := [_, _, _])) (qR (qQ (A := [_, _])) (qR (qQ (A := [_, _])) (qR (qQ (A := [_, _, _])) (sC (sC (sC (sC sR)))))))), ⟨rfl, (ql leG2 le1), (by (try dsimp only) <;> omega), (hsvi), (hCi), (by (try dsimp only); (try rw [List.length_append, List.length_singleton]); omega), (hDi), ((hZi.mono le1)), (by (try dsimp only); rw [hssi, stepsRow_succ, hone.1]; simp), (by (try dsimp only); rw [longRow_succ, hone.2]; (try rw [hlbi]); simp)⟩, (by omega)⟩
  refine qZ (qo (qo (qF (qa (cX (qD (((k + 1 : Nat) : Int)) rfl rfl (by omega) (by omega) (qd (ii (((k + 1 : Nat) : Int))) rfl (qb ?_))))))))
  exact ⟨(k + 1, sv, ss, cs, Ls, m, lb, G2), _, (ql leG1 leG2), rF, ⟨rfl, rfl, rfl, rfl, rfl, rfl, ⟨⟩⟩, (sC (sC (sC (sC sR)))), ⟨rfl, (ql leG1 leG2), (by (try dsimp only) <;> omega), (hsvi), (hCi), (hmi), (hDi), (hZi), (by dsimp only; rw [hssi, stepsTo_succ, show r = rs.length from by omega]), (by dsimp only; rw [hlbi, longTo_succ, show r = rs.length from by omega])⟩, (by omega)⟩
 refine qZ (qo (qo (qF (id (retEndN (L' := objH l (.loop R) :: cellsH bo [sv] 108 :: slH 113 3 sv m cs :: cellsH bl [.bool (lb)] 4 :: L) [] (.tuple #[]) (by exact .nil) rfl leG1 rF (qR (qQ (A := [_, _, _])) (qR (qQ (A := [_])) (qR (qQ (A := [_, _, _])) (qR (qQ (A := [_, _, _])) (sC (sC (sC (sC sR)))))))) ?_)))))
 have hkl : k = t.length := by omega
 have e1 : stepsL ar rs t = ss := by rw [hss, hkl]; rfl
 have e2 : longL ar rs t = lb := by rw [hlb, hkl]; rfl
 rw [e1, e2]
 subst hm
 exact ⟨sv, cs, Ls, hsv, hC, hD, hZ, rfl⟩

/- impl.stepsFrom -/
set_option maxRecDepth 20000 in
theorem stepsFrom_spec {F : FH} {L : List HP} {arv : Value} {ar : List Int} (har : IntsF F arv ar) {rsv : Value} {rs : List (List Int × List Int)} (hrs : PairsF F rsv rs) {tv : Value} {t : List Int} (ht : IntsF F tv t) (hsys : sysOk ar rs = true) (ho : termOk ar t = true) :
    Does prog 77 [.agg #[arv, rsv], tv] F (L) (fun v F' L' => ∃ (a : Value), (.tuple #[a, .bool (longL ar rs t)] : Value) = v ∧ FrStepsF F F' 2 a (stepsL ar rs t) ∧ L = L') := by
 refine Does.of_XF func77 rfl (by kernel_rfl) rfl ?_
 have hnn := jw ht (by have := termOk_len ho; omega)
 have htl := termOk_len ho
 have hrl := (sysOk_iff.1 hsys).2.1
 have hsig := (sysOk_iff.1 hsys).1
 have hsl := sigOk_spec hsig
 refine XF.seq (qa (cX (qO [arv, rsv] rfl rfl ?_)))
 intro b1
 refine qf (sN) rfl (qf (.bool (false)) rfl (qb (XF.seq (qa (cX (jd [sN] zeroValue108 rfl ?_))))))
 intro b2
 refine qb (XF.seq (qa (cX (jd [.bool (false)] zeroValue4 rfl ?_))))
 intro b3
 refine cX (jr [] _ [.bool (false)] sizeOf4 rfl rfl rfl rfl rfl rfl (qb (XF.ofR (XR.seq (qa (cX (qw [arv, rsv] isAgg33 jo rfl rfl (Rd.ownN [_, _] rfl rfl) (qd (tv) rfl (cX (qn (args := [.agg #[arv, rsv], tv]) call113 rfl (redexSteps_spec har hrs ht) ?_))))))))))
 rintro _ F1 _ le1 ⟨x1, x2, rfl, hb1, hb2, rfl⟩
 replace har := har.mono le1
 replace hrs := hrs.mono le1
 replace ht := ht.mono le1
 refine qb (XR.rangeB (gf := 138) (lb := [ptr x1 0, ptr x2 0]) rfl call138 (fun l D R hRs hRp hRps hRa hRb hRz hRg => ?_))
 have hR0 : ({ R with state := .ready, pending := none } : Loop) = R := by
  cases R
  simp only at hRs hRp
  subst hRs hRp
  rfl
 have hyes : ∀ (Fy : FH) (sv : Value) (ss : List StepT) (cs : List Value) (m : Nat) (lb : Bool) (i j : Int) (tov : Value) (to : List Int), F1 ≤ Fy → IsSl sv → StepsC Fy cs ss → m = ss.length → ss.length ≤ 4000000 → IntsF Fy tov to → Yld prog l [.agg #[.int .i64 i, .int .i64 j, tov], .bool true] Fy (objH l (.loop R) :: cellsH b2 [sv] 108 :: slH 113 3 sv m cs :: cellsH b3 [.bool (lb)] 4 :: objH D (.deferred (some [])) :: L) (fun v F' L' => .bool true = v ∧ Fy = F' ∧ ∃ sw, IsSl sw ∧ objH l (.loop R) :: cellsH b2 [sw] 108 :: slH 113 3 sw (m + 1) (cs ++ [.int .i64 i, .int .i64 j, tov]) :: cellsH b3 [.bool (lb)] 4 :: objH D (.deferred (some [])) :: L = L') := by
  intro Fy sv ss cs m lb i j tov to leF hsv hC hm hsb hto
  refine Yld.of_round hRs hRp hRps hRa hRb hRz hRg rfl (by kernel_rfl) (by kernel_rfl) (by kernel_rfl) (XI.slots [(13, .agg #[ii (i), ii (j), tov]), (14, .bool (true)), (6, ptr b2 0), (7, ptr b3 0)] ⟨rfl, rfl, rfl, rfl, ⟨⟩⟩ (fun rE => (XI.seq (XI.region (jl (jd [ii (0), ii (0), sN] zeroValue113 rfl ?_))))))
  intro b4
  refine jl (qV [] _ [ii (i), ii (j), tov] sizeOf113 rfl rfl rfl (qI rfl (qI rfl (qI (qW (qK hto)) qY))) rfl rfl rfl (XIL.nil (XI.region (jl (XOp.assign (.bool (true)) rfl (XIL.nil ?_))))))
  refine ⟨cellsH b4 [ii (i), ii (j), tov] 113 :: cellsH b2 [sv] 108 :: slH 113 3 sv m cs :: cellsH b3 [.bool (lb)] 4 :: objH D (.deferred (some [])) :: L, (qR (qQ (A := [_, _, _, _])) (qR (qQ (A := [_, _, _, _])) (qR (qQ (A := [_, _, _, _])) (qR (qQ (A := [_, _, _])) (qR (qQ (A := [_, _, _, _])) (sC (sC (sC (sC (sC sR)))))))))), ?_⟩
  refine XI.block (XI.seq (XI.region (jl (qp (.bool (true)) rfl (XIL.nil (XI.condT rfl (XI.region (jl (qi isAgg108 rfl (Rd.own [_, _] rfl rfl) (jl (qw [ii (i), ii (j), tov] isAgg113 sizeOf113 rfl rfl (Rd.ownN [_] rfl rfl) (jl (qN (s := 3) [ii (i), ii (j), tov] [ii (0), ii (0), sN] [(0, [ii (i), ii (j), tov])] jp sizeOf113 zeroValue113 rfl (by decide) rfl (.cons rfl CellsAre.nil) rfl ?_)))))))))))))
  intro v1 hv1
  refine jl (XOp.append (m := 1) (bytes := 40) (cs := cs) [_, _, _, _] _ [ii (i), ii (j), tov] jp typeInfo113 rfl rfl rfl rfl rfl rfl rfl (SlV.own [] rfl) rfl (Rd.lit [] rfl) (qI rfl (qI rfl (qI (qW (qK hto)) qY))) (by (try simp only [List.length_append, List.length_nil, List.length_cons, List.length_singleton]); omega) (by (try simp only [List.length_append, List.length_nil, List.length_cons, List.length_singleton]); omega) ?_)
  intro v2 hs1 hn1 hm1
  have hc1 := StepsC.snoc hC (i := i) (j := j) hto
  refine jl (jr [_, _, _] _ [v2] sizeOf108 rfl rfl (qW hs1) rfl rfl rfl (XIL.nil ?_))
  refine ⟨rfl, ?_⟩
  refine ⟨cellsH b2 [v2] 108 :: slH 113 3 v2 ((m) + 1) (cs ++ [ii (i), ii (j), tov]) :: cellsH b3 [.bool (lb)] 4 :: objH D (.deferred (some [])) :: L, (sD (sC (sD (sC (sC (sC sR)))))), ?_⟩
  rw [hR0]
  exact ⟨rfl, rfl, _, hs1, rfl⟩
 have hno : ∀ (Fy : FH) (sv : Value) (cs : List Value) (m : Nat) (lb : Bool) (i j : Int) (tov : Value), F1 ≤ Fy → IsSl sv → IsSl tov → Yld prog l [.agg #[.int .i64 i, .int .i64 j, tov], .bool false] Fy (objH l (.loop R) :: cellsH b2 [sv] 108 :: slH 113 3 sv m cs :: cellsH b3 [.bool (lb)] 4 :: objH D (.deferred (some [])) :: L) (fun v F' L' => .bool true = v ∧ Fy = F' ∧ objH l (.loop R) :: cellsH b2 [sv] 108 :: slH 113 3 sv m cs :: cellsH b3 [.bool (true)] 4 :: objH D (.deferred (some [])) :: L = L') := by
  intro Fy sv cs m lb i j tov leF hsv htv
  refine Yld.of_round hRs hRp hRps hRa hRb hRz hRg rfl (by kernel_rfl) (by kernel_rfl) (by kernel_rfl) (XI.slots [(13, .agg #[ii (i), ii (j), tov]), (14, .bool (false)), (6, ptr b2 0), (7, ptr b3 0)] ⟨rfl, rfl, rfl, rfl, ⟨⟩⟩ (fun rE => (XI.seq (XI.region (jl (jd [ii (0), ii (0), sN] zeroValue113 rfl ?_))))))
  intro b5
  refine jl (qV [] _ [ii (i), ii (j), tov] sizeOf113 rfl rfl rfl (qI rfl (qI rfl (qI (qW htv) qY))) rfl rfl rfl (XIL.nil (XI.region (jl (XOp.assign (.bool (false)) rfl (XIL.nil ?_))))))
  refine ⟨cellsH b5 [ii (i), ii (j), tov] 113 :: cellsH b2 [sv] 108 :: slH 113 3 sv m cs :: cellsH b3 [.bool (lb)] 4 :: objH D (.deferred (some [])) :: L, (qR (qQ (A := [_, _, _, _])) (qR (qQ (A := [_, _, _, _])) (qR (qQ (A := [_, _, _, _])) (qR (qQ (A := [_, _, _])) (qR (qQ (A := [_, _, _, _])) (sC (sC (sC (sC (sC sR)))))))))), ?_⟩
  refine XI.block (XI.seq (XI.region (jl (qp (.bool (false)) rfl (XIL.nil (XI.condF rfl (XI.region (jl (jr [_, _, _, _] _ [.bool (true)] sizeOf4 rfl rfl rfl rfl rfl rfl (XIL.nil ?_))))))))))
  refine ⟨rfl, ?_⟩
  refine ⟨cellsH b2 [sv] 108 :: slH 113 3 sv m cs :: cellsH b3 [.bool (true)] 4 :: objH D (.deferred (some [])) :: L, (sC (sD (sC (sC (sC sR))))), ?_⟩
  rw [hR0]
  exact ⟨rfl, rfl, rfl⟩
 refine (Does.weaken (qR (qQ (A := [_])) (qR (qQ (A := [_, _])) (qR (qQ (A := [_, _, _])) (qR (qQ (A := [_, _, _])) (sC (sC (sC (sC (sD sR))))))))) (redexIt_spec har hrs ht hb1 hb2 hsys ho hyes hno)).mono ?_
 rintro _ F9 _ le9 ⟨sv, cs, Ls, hsv, hC, hD, hZ, rfl⟩
 refine ⟨R, cellsH b2 [sv] 108 :: slH 113 3 sv ((stepsL ar rs t).length) cs :: cellsH b3 [.bool (longL ar rs t)] 4 :: L, by rw [hRs]; simp, hRp, (qR (qQ (A := [_, _, _])) (qR (qQ (A := [_, _, _])) (qR (qQ (A := [_, _, _])) (qR (qQ (A := [_, _, _, _])) (qR (qQ (A := [_, _, _, _])) (sC (sC (sC (sC (sC sR)))))))))), ?_⟩
 refine XI.seq ?_
 refine XI.draw [objH D (.deferred (some [])), cellsH b2 [sv] 108, slH 113 3 sv ((stepsL ar rs t).length) cs, cellsH b3 [.bool (longL ar rs t)] 4] L 3 [] [[], [], [0]] (phiL [qe sv, qe (.bool (longL ar rs t)), qe sv]) (ownL []) mixed rfl rfl (by kernel_rfl) ?_ ?_
 ·refine pD (fun W R z9 => ?_) ?_
  ·refine qk (qi isAgg108 rfl (Rd.own [_] rfl rfl) ?_)
   exact ⟨rfl, rfl, rfl⟩
  refine pD (fun W R z9 => ?_) ?_
  ·refine qk (qi isAgg4 rfl (Rd.own [_, _, _] rfl rfl) ?_)
   exact ⟨rfl, rfl, rfl⟩
  refine pD (fun W R z9 => ?_) ?_
  ·rw [eS (l := [(0, _)]) ⟨z9 0 rfl, ⟨⟩⟩]
   refine qk (XOp.assign (sv) rfl ?_)
   exact ⟨rfl, rfl, rfl⟩
  exact stepsP.nil
 intro W hphi
 rw [eS (l := [(1, _), (2, _)]) ⟨(hphi 1 (by decide)), (hphi 2 (by decide)), ⟨⟩⟩]
 show XIL _ _ _ _ _ _ _ _ _ (objH D (.deferred (some [])) :: cellsH b2 [sv] 108 :: slH 113 3 sv ((stepsL ar rs t).length) cs :: cellsH b3 [.bool (longL ar rs t)] 4 :: L)
 refine jl (XOp.assign (.bool (longL ar rs t)) rfl (XIL.nil (XI.freezeF [_, _] _ _ rfl (fun F2 le2 hz1 => ?_))))
 replace hC := hC.mono le2
 have hf1 : StepsF F2 sv ((stepsL ar rs t)) := CO.fz hC (by first | rfl | omega | (rw [List.length_set]; omega) | (simp; done)) hz1.fz
 refine XI.ret (retEndD (L' := L) [sv, .bool (longL ar rs t)] (.tuple #[sv, .bool (longL ar rs t)]) (fun _ _ => (.tmp rfl (.tmp rfl .nil))) rfl (ql (ql le1 le9) le2) rF (sC (sD (sD sR))) ?_)
 exact ⟨_, rfl, ⟨cs, Ls, StepsC.fzx hC rfl hz1.fz, hD, ((hZ.mono le2).base le1)⟩, rfl⟩

/- impl.reachOk -/
theorem reachOk_spec {F : FH} {L : List HP} {arv : Value} {ar : List Int} (har : IntsF F arv ar) {rsv : Value} {rs : List (List Int × List Int)} (hrs : PairsF F rsv rs) {n : Int} {tsv : Value} {ts : List (List Int)} (hts : RowsF F tsv ts) (hlt : ts.length ≤ 4000000) :
    Does prog 35 [.agg #[arv, rsv], ii (n), tsv] F (L) (fun v F' L' => (.bool (reachOkL ar rs n ts) : Value) = v ∧ F = F' ∧ L = L') := by
 refine qA func35 rfl rfl rfl (qc (qa (cX (qO [arv, rsv] rfl rfl ?_))))
 intro b1
 refine qf (.bool (false)) rfl (qb (qc (qc (qa (cX (qw [arv, rsv] isAgg33 jo rfl rfl (Rd.ownN [] rfl rfl) (cX (qn (args := [.agg #[arv, rsv]]) call75 rfl (SystemOk_spec har hrs) ?_))))))))
 rintro _ _ _ _ ⟨rfl, rfl, rfl⟩
 refine cX (jn rfl (qd (.bool (!(sysOk ar rs))) rfl ?_))
 by_cases h1 : (!(sysOk ar rs)) = true
 ·refine qu (t := 12) rfl (vB h1) (qu (t := 12) rfl (vB h1) (cX (ja (.bool (true)) (vB h1) rfl (qd (.bool (true)) rfl (qu (t := 16) rfl rfl (qu (t := 16) rfl rfl (cX (ja (.bool (true)) rfl rfl (qb (X.condT rfl (qc (qa ?_))))))))))))
  refine qf (.bool (false)) rfl (qb (qq (qh (qm (L' := L) [.bool (false)] (.bool (false)) (.tmp rfl .nil) rfl rF rF (sD sR) ?_))))
  exact ⟨(vB (by unfold reachOkL; simp_all <;> omega)), rfl, rfl⟩
 rw [Bool.not_eq_true] at h1
 refine qz (t := 12) rfl (vB h1) (qp (ii (n)) rfl (qz (t := 12) rfl (vB h1) (qL rfl rfl (cX (qT (.bool (decide ((n : Int) < 0))) (vB h1) rfl (qd (.bool (decide ((n : Int) < 0))) rfl ?_))))))
 by_cases h2 : (n : Int) < 0
 ·refine qu (t := 16) rfl (vT h2) (qu (t := 16) rfl (vT h2) (cX (ja (.bool (true)) (vT h2) rfl (qb (X.condT rfl (qc (qa (qf (.bool (false)) rfl (qb (qq (qh (qm (L' := L) [.bool (false)] (.bool (false)) (.tmp rfl .nil) rfl rF rF (sD sR) ?_))))))))))))
  exact ⟨(vB (by unfold reachOkL; simp_all <;> omega)), rfl, rfl⟩
 refine qz (t := 16) rfl (vF h2) (qp (ii (n)) rfl (qz (t := 16) rfl (vF h2) (XOp.gtr rfl rfl (cX (qT (.bool (decide ((n : Int) > 20))) (vF h2) rfl (qb ?_))))))
 refine qt (p := (n : Int) > 20) rfl (fun h3 => ?_) (fun h3 => ?_)
 ·refine qc (qa (qf (.bool (false)) rfl (qb (qq (qh (qm (L' := L) [.bool (false)] (.bool (false)) (.tmp rfl .nil) rfl rF rF (sD sR) ?_))))))
  exact ⟨(vB (by unfold reachOkL; simp_all <;> omega)), rfl, rfl⟩
 refine qs (qc (qc (qa (qd (tsv) rfl (cX (qv qr rfl hts.slv (qd (ii (0)) rfl (qb (qC (je (α := Nat) (fun k => [(3, ptr b1 0), (20, tsv), (21, ii ((ts.length : Int))), (22, ii ((k : Int)))]) (fun k => cellsH b1 [arv, rsv] 33 :: L) (fun k F' => F = F' ∧ (k ≤ ts.length) ∧ (∀ i, i < k → termOk ar (ts.getD i []) = true)) (fun k => ts.length - k) 0 ⟨rfl, rfl, rfl, rfl, ⟨⟩⟩ (sC sR) ⟨rfl, (by (try dsimp only) <;> omega), (fun i hi => absurd hi (by omega))⟩ ?_))))))))))
 rintro k rE _ _ ⟨rfl, hk, hall⟩
 show X _ _ _ _ (envs [(3, ptr b1 0), (20, tsv), (21, ii ((ts.length : Int))), (22, ii ((k : Int)))] rE) _ (cellsH b1 [arv, rsv] 33 :: L)
 refine qc (qa (cX (qL rfl rfl (qb (qc ?_)))))
 refine qt (p := (k : Int) < (ts.length : Int)) rfl (fun h4 => ?_) (fun h4 => ?_)
 ·refine qs (qc (qC (qc (qa (cX (qB k qr qx rfl rfl rfl hts.slv (by omega) (Nat.mul_one _) ?_))))))
  obtain ⟨a1, ha1, hr1⟩ := hts.rd (i := k) (by omega)
  refine cX (qi qJ rfl (hr1 _) (qf (a1) rfl (qb (qc (qa (cX (qj (0) qG rfl qH (by decide) rfl rfl (cX (qw [arv] jc qH rfl rfl (Rd.ownN [] rfl rfl) (qd (a1) rfl (cX (qn (args := [.agg #[arv], a1]) call76 rfl (TermOk_spec har ha1) ?_))))))))))))
  rintro _ _ _ _ ⟨rfl, rfl, rfl⟩
  refine cX (jn rfl (qb ?_))
  refine X.cond (t := !(termOk ar ((ts.getD k [])))) rfl (fun h5 => ?_) (fun h5 => ?_)
  ·refine qc (qa (qf (.bool (false)) rfl (qb (qq (qy (qh (qh (qy (qh (qm (L' := L) [.bool (false)] (.bool (false)) (.tmp rfl .nil) rfl rF rF (sD sR) ?_))))))))))
   exact ⟨(vB (reachOk_fail (k := k) (by omega) (by simp_all))), rfl, rfl⟩
  refine qs (qa (cX (qD (((k + 1 : Nat) : Int)) rfl rfl (by omega) (by omega) (qd (ii (((k + 1 : Nat) : Int))) rfl (qb ?_)))))
  exact ⟨k + 1, _, FLe.refl _, rF, ⟨rfl, rfl, rfl, rfl, ⟨⟩⟩, (sC sR), ⟨rfl, (by (try dsimp only) <;> omega), (fun i hi => (Nat.lt_or_ge i k).elim (fun h => hall i h) (fun h => by obtain rfl : i = k := (by omega); simp_all))⟩, (by omega)⟩
 refine qZ (qo (qo (qF (qc (qa (qf (.bool (true)) rfl (qb (qq (qm (L' := L) [.bool (true)] (.bool (true)) (.tmp rfl .nil) rfl rF rF (sD sR) ?_)))))))))
 exact ⟨(vB (reachOk_all (by simp_all) (by omega) (fun i hi => hall i (by omega)))), rfl, rfl⟩

/- spec.l7Steps -/
theorem l7Steps_spec {F : FH} {L : List HP} {arv : Value} {ar : List Int} (har : IntsF F arv ar) {rsv : Value} {rs : List (List Int × List Int)} (hrs : PairsF F rsv rs) {tv : Value} {t : List Int} (ht : IntsF F tv t) (hsys : sysOk ar rs = true) (ho : termOk ar t = true) :
    Does prog 71 [.agg #[arv, rsv], tv] F (L) (fun v F' L' => ∃ (a : Value), (a : Value) = v ∧ (StepsF F' a (stepsL ar rs t)) ∧ L = L') := by
 refine qA func71 rfl rfl rfl ?_
 have hnn := jw ht (by have := termOk_len ho; omega)
 have htl := termOk_len ho
 have hrl := (sysOk_iff.1 hsys).2.1
 have hsig := (sysOk_iff.1 hsys).1
 have hsl := sigOk_spec hsig
 refine qc (qa (cX (qO [arv, rsv] rfl rfl ?_)))
 intro b1
 refine qf (sN) rfl (qb (qc (qa (cX (qN (s := 3) [] [ii (0), ii (0), sN] [] jp sizeOf113 zeroValue113 rfl (by decide) rfl CellsAre.nil rfl ?_)))))
 intro v1 hv1
 refine qf (v1) rfl (qb (qc (qc (qa (qf (ii (0)) rfl (qb (qC (je (α := Nat × Value × List StepT × List Value × Nat × FH) (fun xQ => [(1, tv), (2, ptr b1 0), (5, xQ.2.1), (6, ii (((xQ.1 : Nat) : Int)))]) (fun xQ => slH 113 3 xQ.2.1 xQ.2.2.2.2.1 xQ.2.2.2.1 :: cellsH b1 [arv, rsv] 33 :: L) (fun xQ F' => xQ.2.2.2.2.2 = F' ∧ F ≤ xQ.2.2.2.2.2 ∧ (xQ.1 ≤ t.length) ∧ (IsSl xQ.2.1) ∧ (StepsC xQ.2.2.2.2.2 xQ.2.2.2.1 xQ.2.2.1) ∧ (xQ.2.2.2.2.1 = xQ.2.2.1.length) ∧ (xQ.2.2.1 = stepsTo ar rs t xQ.1)) (fun xQ => t.length - xQ.1) (0, v1, [], [], 0, F) ⟨rfl, rfl, rfl, rfl, ⟨⟩⟩ (sC (sC sR)) ⟨rfl, FLe.refl _, (by (try dsimp only) <;> omega), ((isSl_lit hv1)), (CO.nil), (rfl), (rfl)⟩ ?_))))))))
 rintro ⟨k, sv, ss, cs, m, G1⟩ rE _ _ ⟨rfl, leG, hk, hsv, hC, hm, hss⟩
 show X _ _ _ _ (envs [(1, tv), (2, ptr b1 0), (5, sv), (6, ii ((k : Int)))] rE) _ (slH 113 3 sv m cs :: cellsH b1 [arv, rsv] 33 :: L)
 replace leG : F ≤ G1 := leG
 dsimp only at hk hsv hC hm hss
 have hsl1 := stepsTo_len (ar := ar) (t := t) (rs := rs) hrl k
 have hss0 := hss
 have leG1 := leG
 replace har := har.mono leG1
 replace hrs := hrs.mono leG1
 replace ht := ht.mono leG1
 refine qc (qc (qa (qd (ii ((k : Int))) rfl (qd (tv) rfl (cX (qv qg rfl ht.slv (cX (qL rfl rfl (qb ?_)))))))))
 refine qt (p := (k : Int) < (t.length : Int)) rfl (fun h1 => ?_) (fun h1 => ?_)
 ·refine qs (qc (qC (qc (qa (qf (ii (0)) rfl (qb (qC (je (α := Nat × Value × List StepT × List Value × Nat × FH) (fun xQ => [(1, tv), (2, ptr b1 0), (5, xQ.2.1), (6, ii ((k : Int))), (7, ii (((xQ.1 : Nat) : Int)))]) (fun xQ => slH 113 3 xQ.2.1 xQ.2.2.2.2.1 xQ.2.2.2.1 :: cellsH b1 [arv, rsv] 33 :: L) (fun xQ F' => xQ.2.2.2.2.2 = F' ∧ G1 ≤ xQ.2.2.2.2.2 ∧ (xQ.1 ≤ rs.length) ∧ (IsSl xQ.2.1) ∧ (StepsC xQ.2.2.2.2.2 xQ.2.2.2.1 xQ.2.2.1) ∧ (xQ.2.2.2.2.1 = xQ.2.2.1.length) ∧ (xQ.2.2.1 = stepsTo ar rs t k ++ stepsRow ar rs t k xQ.1)) (fun xQ => rs.length - xQ.1) (0, sv, ss, cs, m, G1) ⟨rfl, rfl, rfl, rfl, rfl, ⟨⟩⟩ (sC (sC sR)) ⟨rfl, FLe.refl _, (by (try dsimp only) <;> omega), (hsv), (hC), (hm), (by (try dsimp only); rw [hss0]; simp [stepsRow])⟩ ?_))))))))
  rintro ⟨r, sv, ss, cs, m, G2⟩ rE _ _ ⟨rfl, leG, hr, hsvi, hCi, hmi, hssi⟩
  show X _ _ _ _ (envs [(1, tv), (2, ptr b1 0), (5, sv), (6, ii ((k : Int))), (7, ii ((r : Int)))] rE) _ (slH 113 3 sv m cs :: cellsH b1 [arv, rsv] 33 :: L)
  replace leG : G1 ≤ G2 := leG
  dsimp only at hr hsvi hCi hmi hssi
  have hsl2 := stepsRow_len (ar := ar) (rs := rs) (t := t) (p := k) r
  have hssl : ss.length ≤ 1000 := by rw [hssi, List.length_append]; omega
  have leG2 := leG
  replace har := har.mono leG2
  replace hrs := hrs.mono leG2
  replace ht := ht.mono leG2
  replace hC := hC.mono leG2
  refine qc (qc (qa (qd (ii ((r : Int))) rfl (cX (qj (1) qG rfl sizeOf31 (by decide) rfl rfl (cX (qi isAgg31 rfl (Rd.own [_] rfl rfl) (cX (qv qX rfl hrs.slv (cX (qL rfl rfl (qb ?_))))))))))))
  refine qt (p := (r : Int) < (rs.length : Int)) rfl (fun h2 => ?_) (fun h2 => ?_)
  ·refine qs (qc (qC (qc (qa (cX (qw [arv, rsv] isAgg33 jo rfl rfl (Rd.ownN [_] rfl rfl) (qd (tv) rfl (qd (ii ((k : Int))) rfl (qd (ii ((r : Int))) rfl (cX (qn (args := [.agg #[arv, rsv], tv, ii (k : Int), ii (r : Int)]) call107 rfl (l7Step_spec (p := k) (r := r) har hrs ht (hsys := (by first | assumption | rfl | omega | simp)) (ho := (by first | assumption | rfl | omega | simp)) (hp := (by first | assumption | rfl | omega | simp)) (hr := (by first | assumption | rfl | omega | simp))) ?_)))))))))))
   rintro _ F1 _ le1 ⟨x1, rfl, hr1, rfl⟩
   replace hC := hC.mono le1
   replace hCi := hCi.mono le1
   refine qd (.tuple #[x1, .bool ((stepL ar rs t k r).isSome)]) rfl (cX (jb (x1) rfl rfl (cX (jb (.bool ((stepL ar rs t k r).isSome)) rfl rfl (qf (x1) rfl (qf (.bool ((stepL ar rs t k r).isSome)) rfl (qb (qc (qa (qd (.bool ((stepL ar rs t k r).isSome)) rfl (qb ?_)))))))))))
   refine X.cond (t := (stepL ar rs t k r).isSome) rfl (fun h3 => ?_) (fun h3 => ?_)
   ·have hone : stepOne ar rs t k r = [((k : Int), (r : Int), (stepL ar rs t k r).getD [])] := (one_some h3).1
    refine qa (qd (sv) rfl (qd (ii ((k : Int))) rfl (qd (ii ((r : Int))) rfl (qd (x1) rfl (cX (XOp.build [ii ((k : Int)), ii ((r : Int)), x1] [ii (0), ii (0), sN] [(0, 1), (1, 1), (2, 1)] [(0, [ii ((k : Int))]), (1, [ii ((r : Int))]), (2, [x1])] runUnderlying113 zeroValue113 rfl (.cons rfl qM (.cons rfl qM (.cons rfl qx PlacesAre.nil))) rfl (.cons rfl (.cons rfl (.cons (cells_one (qK hr1)) CellsAre.nil))) (cX (qN (s := 3) [ii ((k : Int)), ii ((r : Int)), x1] [ii (0), ii (0), sN] [(0, [ii ((k : Int)), ii ((r : Int)), x1])] jp sizeOf113 zeroValue113 rfl (by decide) rfl (.cons rfl CellsAre.nil) rfl ?_))))))))
    intro v2 hv2
    refine cX (XOp.append (m := 1) (bytes := 40) (cs := cs) [_] _ [ii ((k : Int)), ii ((r : Int)), x1] jp typeInfo113 rfl rfl rfl rfl rfl rfl rfl (SlV.own [] rfl) rfl (Rd.lit [] rfl) (qI rfl (qI rfl (qI (qW (qK hr1)) qY))) (by (try simp only [List.length_append, List.length_nil, List.length_cons, List.length_singleton]); omega) (by (try simp only [List.length_append, List.length_nil, List.length_cons, List.length_singleton]); omega) ?_)
    intro v3 hs1 hn1 hm1
    have hc1 := StepsC.snoc hCi (i := (k : Int)) (j := (r : Int)) hr1
    refine qf (v3) rfl (qb (qa (qd (ii ((r : Int))) rfl (cX (qD (((r + 1 : Nat) : Int)) rfl rfl (by omega) (by omega) (qf (ii (((r + 1 : Nat) : Int))) rfl (qb ?_)))))))
    exact ⟨(r + 1, v3, ss ++ [((k : Int), (r : Int), (stepL ar rs t k r).getD [])], cs ++ [ii ((k : Int)), ii ((r : Int)), x1], (m) + 1, F1), _, (ql leG2 le1), rF, ⟨rfl, rfl, rfl, rfl, rfl, ⟨⟩⟩, (sD (sC (sC sR))), ⟨rfl, (ql leG2 le1), (by (try dsimp only) <;> omega), (hs1), (hc1), (by (try dsimp only); (try rw [List.length_append, List.length_singleton]); omega), (by (try dsimp only); rw [hssi, stepsRow_succ, hone]; simp)⟩, (by omega)⟩
   have hone : stepOne ar rs t k r = [] := stepOne_no h3
   refine qs (qa (qd (ii ((r : Int))) rfl (cX (qD (((r + 1 : Nat) : Int)) rfl rfl (by omega) (by omega) (qf (ii (((r + 1 : Nat) : Int))) rfl (qb ?_))))))
   exact ⟨(r + 1, sv, ss, cs, m, F1), _, (ql leG2 le1), rF, ⟨rfl, rfl, rfl, rfl, rfl, ⟨⟩⟩, (sC (sC sR)), ⟨rfl, (ql leG2 le1), (by (try dsimp only) <;> omega), (hsvi), (hCi), (by (try dsimp only); (try rw [List.length_append, List.length_singleton]); omega), (by (try dsimp only); rw [hssi, stepsRow_succ, hone]; simp)⟩, (by omega)⟩
  refine qZ (qo (qo (qF (qa (qd (ii ((k : Int))) rfl (cX (qD (((k + 1 : Nat) : Int)) rfl rfl (by omega) (by omega) (qf (ii (((k + 1 : Nat) : Int))) rfl (qb ?_)))))))))
  exact ⟨(k + 1, sv, ss, cs, m, G2), _, (ql leG1 leG2), rF, ⟨rfl, rfl, rfl, rfl, ⟨⟩⟩, (sC (sC sR)), ⟨rfl, (ql leG1 leG2), (by (try dsimp only) <;> omega), (hsvi), (hCi), (hmi), (by (try dsimp only); rw [hssi, stepsTo_succ, show r = rs.length from by omega])⟩, (by omega)⟩
 refine qZ (qo (qo (qF (qc (qa (qd (sv) rfl (qf (sv) rfl (qb (jq [] _ _ rfl (fun F2 le2 hz1 => ?_))))))))))
 replace hC := hC.mono le2
 have hf1 : StepsF F2 sv ss := CO.fz hC (by first | rfl | omega | (rw [List.length_set]; omega) | (simp; done)) hz1.fz
 refine qq (qm (L' := L) [sv] (sv) (.tmp rfl .nil) rfl (ql leG1 le2) rF (sD sR) ?_)
 have e1 : stepsL ar rs t = ss := by rw [hss, show k = t.length from by omega]; rfl
 rw [e1]
 exact ⟨_, rfl, hf1, rfl⟩

/- spec.l1TermPlace -/
theorem l1TermPlace_spec {F : FH} {L : List HP} {tsv : Value} {ts : List (List Int)} (hts : RowsF F tsv ts) {xv : Value} {x : List Int} (hx : IntsF F xv x) (hlt : ts.length ≤ 4000000) (htb : ∀ i, i < ts.length → (ts.getD i []).length ≤ 4000000) (hlx : x.length ≤ 4000000) :
    Does prog 73 [tsv, xv] F (L) (fun v F' L' => (ii (badG (fun y => !decide (y = x)) ts) : Value) = v ∧ F = F' ∧ L = L') := by
 refine qA func73 rfl rfl rfl (qc (qa (qf (ii (0)) rfl (qb (qc (qc (qa (qf (ii (0)) rfl (qb (qC (je (α := Nat) (fun k => [(0, tsv), (1, xv), (5, ii ((k : Int)))]) (fun k => L) (fun k F' => F = F' ∧ (k ≤ ts.length) ∧ (∀ i, i < k → (fun y => !decide (y = x)) (ts.getD i []) = true)) (fun k => ts.length - k) 0 ⟨rfl, rfl, rfl, ⟨⟩⟩ sR ⟨rfl, (by (try dsimp only) <;> omega), (fun i hi => absurd hi (by omega))⟩ ?_)))))))))))
 rintro k rE _ _ ⟨rfl, hk, hall⟩
 show X _ _ _ _ (envs [(0, tsv), (1, xv), (5, ii ((k : Int)))] rE) _ (L)
 have htbk := htb k
 refine qc (qc (qa (qd (ii ((k : Int))) rfl (qd (tsv) rfl (cX (qv qr rfl hts.slv (cX (qL rfl rfl (qb ?_)))))))))
 refine qt (p := (k : Int) < (ts.length : Int)) rfl (fun h1 => ?_) (fun h1 => ?_)
 ·refine qs (qc (qC (qc (qa (qd (tsv) rfl (qd (ii ((k : Int))) rfl (cX (qB k qr qx rfl rfl rfl hts.slv (by omega) (Nat.mul_one _) ?_))))))))
  obtain ⟨a1, ha1, hr1⟩ := hts.rd (i := k) (by omega)
  refine cX (qi qJ rfl (hr1 _) (qd (xv) rfl (cX (qn (args := [a1, xv]) call20 rfl (SameTerm_spec ha1 hx (hbd := (by first | assumption | rfl | omega | (left; simp; done) | (right; simp; done)))) ?_))))
  rintro _ _ _ _ ⟨rfl, rfl, rfl⟩
  refine qb ?_
  refine qt (p := ((ts.getD k [])) = x) rfl (fun h2 => ?_) (fun h2 => ?_)
  ·refine qc (qa (qd (ii ((k : Int))) rfl (qf (ii ((k : Int))) rfl (qb (qq (qy (qh (qh (qy (qh (qm (L' := L) [ii ((k : Int))] (ii ((k : Int))) (.tmp rfl .nil) rfl rF rF sR ?_)))))))))))
   exact ⟨(vI (badG_at [] (by omega) (by simp_all) hall)), rfl, rfl⟩
  refine qs (qa (qd (ii ((k : Int))) rfl (cX (qD (((k + 1 : Nat) : Int)) rfl rfl (by omega) (by omega) (qf (ii (((k + 1 : Nat) : Int))) rfl (qb ?_))))))
  exact ⟨k + 1, _, FLe.refl _, rF, ⟨rfl, rfl, rfl, ⟨⟩⟩, sR, ⟨rfl, (by (try dsimp only) <;> omega), (fun i hi => (Nat.lt_or_ge i k).elim (fun h => hall i h) (fun h => by obtain rfl : i = k := (by omega); simp_all))⟩, (by omega)⟩
 refine qZ (qo (qo (qF (qc (qa (qf (ii (-1)) rfl (qb (qq (qm (L' := L) [ii (-1)] (ii (-1)) (.tmp rfl .nil) rfl rF rF sR ?_)))))))))
 exact ⟨(vI (badG_none [] (fun i hi => hall i (by omega)))), rfl, rfl⟩

/- spec.l9Right -/
theorem l9Right_spec {F : FH} {L : List HP} {arv : Value} {ar : List Int} (har : IntsF F arv ar) {rsv : Value} {rs : List (List Int × List Int)} (hrs : PairsF F rsv rs) {tv : Value} {t : List Int} (ht : IntsF F tv t) {n : Int} (hla : ar.length ≤ 4000000) (hlr : rs.length ≤ 4000000) (hrb : ∀ i, i < rs.length → (rs.getD i ([], [])).1.length ≤ 4000000 ∧ (rs.getD i ([], [])).2.length ≤ 4000000) (hlt : t.length ≤ 4000000) :
    Does prog 30 [.agg #[arv, rsv], tv, ii (n)] F (L) (fun v F' L' => (.bool (reachOkL ar rs n [t]) : Value) = v ∧ F = F' ∧ L = L') := by
 refine qA func30 rfl rfl rfl (qc (qa (cX (qO [arv, rsv] rfl rfl ?_))))
 intro b1
 refine qf (.bool (false)) rfl (qb (qc (qa (cX (qw [arv, rsv] isAgg33 jo rfl rfl (Rd.ownN [] rfl rfl) (qd (tv) rfl (cX (qn (args := [.agg #[arv, rsv], tv]) call70 rfl (l7Right_spec har hrs ht (hla := (by first | assumption | rfl | omega | simp)) (hlr := (by first | assumption | rfl | omega | simp)) (hrb := (by first | assumption | rfl | omega | simp)) (hlt := (by first | assumption | rfl | omega | simp))) ?_))))))))
 rintro _ _ _ _ ⟨rfl, rfl, rfl⟩
 refine qd (.bool (rightB ar rs t)) rfl ?_
 by_cases h1 : (rightB ar rs t) = true
 ·refine qz (t := 10) rfl (vB h1) (qp (ii (n)) rfl (qz (t := 10) rfl (vB h1) (qn (args := [ii (n), ii (0), ii (20)]) call55 rfl (l1In_spec (n := n) (a := 0) (b := 20)) ?_)))
  rintro _ _ _ _ ⟨rfl, rfl, rfl⟩
  refine cX (ja (.bool (decide (0 ≤ n ∧ n ≤ 20))) (vB h1) rfl (qf (.bool (decide (0 ≤ n ∧ n ≤ 20))) rfl (qb (qq (qm (L' := L) [.bool (decide (0 ≤ n ∧ n ≤ 20))] (.bool (decide (0 ≤ n ∧ n ≤ 20))) (.tmp rfl .nil) rfl rF rF (sD sR) ?_)))))
  exact ⟨(vB (by rw [reachOk_right]; simp_all)), rfl, rfl⟩
 rw [Bool.not_eq_true] at h1
 refine qu (t := 10) rfl (vB h1) (qu (t := 10) rfl (vB h1) (cX (qT (.bool (false)) (vB h1) rfl (qf (.bool (false)) rfl (qb (qq (qm (L' := L) [.bool (false)] (.bool (false)) (.tmp rfl .nil) rfl rF rF (sD sR) ?_)))))))
 exact ⟨(vB (by rw [reachOk_right]; simp_all)), rfl, rfl⟩

/- (*strings.Builder).copyCheck -/
theorem copyCheck_fresh {F : FH} {L : List HP} {b0 : Nat} {v0 : Value} :
    Does prog 141 [ptr b0 0] F (cellsH b0 [(.pointer none), v0] 157 :: L) (fun v F' L' => F = F' ∧ cellsH b0 [ptr b0 0, v0] 157 :: L = L') := by
 refine qA func141 rfl rfl rfl (qc (qa (qd (ptr b0 0) rfl (cX (jf rfl (cX (qj (0) runUnderlying157 rfl sizeOf155 (by decide) rfl rfl (cX (qi isAgg155 rfl (Rd.own [] rfl rfl) (cX (XOp.eqNilT underlying155 rfl rfl (qb (X.condT rfl (qa ?_))))))))))))))
 refine qd (ptr b0 0) rfl (qd (ptr b0 0) rfl (cX (XOp.toUnsafe [] underlying155 underlying193 (info_of_run typeInfo157) (by decide) rfl rfl (Nat.succ_pos _) (cX (XOp.externSame (fn := f154) (v := ptr b0 0) (e := Extern.AbiNoEscape.same) func154 (by kernel_rfl) (by kernel_rfl) (by kernel_rfl) (by kernel_rfl) (fun _ => rfl) rfl (cX (XOp.fromUnsafe (n := 2) (m := 2) [] underlying193 underlying155 (info_of_run typeInfo157) rfl rfl rfl (by kernel_rfl) (by kernel_rfl) (cX (jf rfl (cX (qj (0) runUnderlying157 rfl sizeOf155 (by decide) rfl rfl (cX (jr [] _ [ptr b0 0, v0] sizeOf155 rfl rfl rfl rfl rfl rfl (qb (id (retEndN (L' := cellsH b0 [ptr b0 0, v0] 157 :: L) [] (.tuple #[]) (by exact .nil) rfl rF rF (sC sR) ?_))))))))))))))))
 exact ⟨rfl, rfl⟩

/- (*strings.Builder).copyCheck -/
theorem copyCheck_used {F : FH} {L : List HP} {b0 : Nat} {v0 : Value} :
    Does prog 141 [ptr b0 0] F (cellsH b0 [ptr b0 0, v0] 157 :: L) (fun v F' L' => F = F' ∧ cellsH b0 [ptr b0 0, v0] 157 :: L = L') := by
 refine qA func141 rfl rfl rfl (qc (qa (qd (ptr b0 0) rfl (cX (jf rfl (cX (qj (0) runUnderlying157 rfl sizeOf155 (by decide) rfl rfl (cX (qi isAgg155 rfl (Rd.own [] rfl rfl) (cX (XOp.eqNilF underlying155 rfl rfl (qb (X.condF rfl (qc (qa ?_)))))))))))))))
 refine qd (ptr b0 0) rfl (cX (jf rfl (cX (qj (0) runUnderlying157 rfl sizeOf155 (by decide) rfl rfl (cX (qi isAgg155 rfl (Rd.own [] rfl rfl) (qd (ptr b0 0) rfl (cX (XOp.neSamePtr underlying155 (info_of_run typeInfo157) rfl rfl (qb (X.condF rfl (qs (id (retEndN (L' := cellsH b0 [ptr b0 0, v0] 157 :: L) [] (.tuple #[]) (by exact .nil) rfl rF rF (sC sR) ?_))))))))))))))
 exact ⟨rfl, rfl⟩

theorem copyCheck_spec {F : FH} {L : List HP} {b0 : Nat} {v0 pv : Value} (hp : pv = .pointer none ∨ pv = ptr b0 0) : Does prog 141 [ptr b0 0] F (cellsH b0 [pv, v0] 157 :: L) (fun v F' L' => F = F' ∧ cellsH b0 [ptr b0 0, v0] 157 :: L = L') := by
  rcases hp with rfl | rfl
  · exact copyCheck_fresh
  · exact copyCheck_used


/- (*strings.Builder).WriteByte -/
theorem WriteByte_spec {F : FH} {L : List HP} {b0 n : Nat} {v0 pv : Value} {cs : List Value} {m : Int} (hp : pv = .pointer none ∨ pv = ptr b0 0) (hv0 : IsSl v0) (hn : n ≤ 4000000) :
    Does prog 114 [ptr b0 0, .int .u8 (m)] F (cellsH b0 [pv, v0] 157 :: slH 5 1 v0 n cs :: L) (fun v F' L' => (.nilIface : Value) = v ∧ F = F' ∧ ∃ v1, IsSl v1 ∧ cellsH b0 [ptr b0 0, v1] 157 :: slH 5 1 v1 (n + 1) (cs ++ [.int .u8 m]) :: L = L') := by
 refine qA func114 rfl rfl rfl (qc (qa (qf (.nilIface) rfl (qb (qc (qa (qd (ptr b0 0) rfl (cX (qn (args := [ptr b0 0]) call141 rfl (copyCheck_spec (hp := by assumption)) ?_)))))))))
 rintro _ _ _ _ ⟨rfl, rfl⟩
 show XL _ _ _ _ _ _ _ (cellsH b0 [ptr b0 0, v0] 157 :: slH 5 1 v0 n cs :: L)
 refine qb (qc (qa (qd (ptr b0 0) rfl (qd (ptr b0 0) rfl (cX (jf rfl (cX (qj (1) runUnderlying157 rfl sizeOf40 (by decide) rfl rfl (cX (qi isAgg40 rfl (Rd.own [] rfl rfl) (qd (.int .u8 (m)) rfl (cX (qN (s := 1) [.int .u8 (m)] [.int .u8 (0)] [(0, [.int .u8 (m)])] runUnderlying40 sizeOf5 zeroValue5 rfl (by decide) rfl (.cons rfl CellsAre.nil) rfl ?_)))))))))))))
 intro v1 hv1
 refine cX (XOp.append (s := 1) (n := n) (m := 1) (bytes := 1) (cs := cs) [_, _] _ [(.int .u8 (m) : Value)] runUnderlying40 typeInfo5 rfl rfl rfl rfl rfl rfl rfl (SlV.own [] rfl) rfl (fun j9 u9 h9 => Rd.sl [] rfl h9) (qI rfl qY) (by omega) (by omega) ?_)
 intro v2 hs1 _ _
 refine cX (jf rfl (cX (qj (1) runUnderlying157 rfl sizeOf40 (by decide) rfl rfl (cX (jr [_] _ [ptr b0 0, v2] sizeOf40 rfl rfl (qW hs1) rfl rfl rfl (qb (qc (qa (qf (.nilIface) rfl (qb (qq (qm (L' := cellsH b0 [ptr b0 0, v2] 157 :: slH 5 1 v2 ((n + 1)) ((cs ++ [(.int .u8 (m) : Value)])) :: L) [.nilIface] (.nilIface) (.tmp rfl .nil) rfl rF rF (sD (sC (sC sR))) ?_))))))))))))
 exact ⟨rfl, rfl, _, hs1, rfl⟩

/- (*strings.Builder).String -/
theorem String_spec {F : FH} {L : List HP} {b0 n : Nat} {v0 pv : Value} {cs : List Value} (us : List UInt8) (hv0 : IsSl v0) (hn : n ≤ 4000000) (hn0 : 0 < n) (hcs : cs = Go.Lib.byteCells us) :
    Does prog 115 [ptr b0 0] F (cellsH b0 [pv, v0] 157 :: slH 5 1 v0 n cs :: L) (fun v F' L' => (.string ⟨us.toArray⟩ : Value) = v ∧ F = F' ∧ L = L') := by
 refine qA func115 rfl rfl rfl (qc (qa (qf (.string (⟨#[]⟩)) rfl (qb (qc ?_)))))
 refine X.draw [cellsH b0 [pv, v0] 157, slH 5 1 v0 n cs] L 10 [] [[], [0], [1], [2], [3], [], [5], [6], [7], [8]] (phiL [qe (ptr b0 0), qe (ptr b0 0), qe (ptr b0 1), qe v0, qe (.pointer (some (elemA v0 0))), qe (ptr b0 0), qe (ptr b0 0), qe (ptr b0 1), qe v0, qe (ii ((n : Int)) : Value)]) (ownL []) mixed rfl rfl (by kernel_rfl) ?_ ?_
 ·refine pD (fun W R z9 => ?_) ?_
  ·refine qk (qp (ptr b0 0) rfl ?_)
   exact ⟨rfl, rfl, rfl⟩
  refine pD (fun W R z9 => ?_) ?_
  ·rw [eS (l := [(0, _)]) ⟨z9 0 rfl, ⟨⟩⟩]
   refine qk (jf rfl ?_)
   exact ⟨rfl, rfl, rfl⟩
  refine pD (fun W R z9 => ?_) ?_
  ·rw [eS (l := [(1, _)]) ⟨z9 1 rfl, ⟨⟩⟩]
   refine qk (qj (1) runUnderlying157 rfl sizeOf40 (by decide) rfl rfl ?_)
   exact ⟨rfl, rfl, rfl⟩
  refine pD (fun W R z9 => ?_) ?_
  ·rw [eS (l := [(2, _)]) ⟨z9 2 rfl, ⟨⟩⟩]
   refine qk (qi isAgg40 rfl (Rd.own [] rfl rfl) ?_)
   exact ⟨rfl, rfl, rfl⟩
  refine pD (fun W R z9 => ?_) ?_
  ·rw [eS (l := [(3, _)]) ⟨z9 3 rfl, ⟨⟩⟩]
   refine qk (XOp.sliceData (v := v0) (n := n) rfl (SlV.own [_] rfl) (by omega) ?_)
   exact ⟨rfl, rfl, rfl⟩
  refine pD (fun W R z9 => ?_) ?_
  ·refine qk (qp (ptr b0 0) rfl ?_)
   exact ⟨rfl, rfl, rfl⟩
  refine pD (fun W R z9 => ?_) ?_
  ·rw [eS (l := [(5, _)]) ⟨z9 5 rfl, ⟨⟩⟩]
   refine qk (jf rfl ?_)
   exact ⟨rfl, rfl, rfl⟩
  refine pD (fun W R z9 => ?_) ?_
  ·rw [eS (l := [(6, _)]) ⟨z9 6 rfl, ⟨⟩⟩]
   refine qk (qj (1) runUnderlying157 rfl sizeOf40 (by decide) rfl rfl ?_)
   exact ⟨rfl, rfl, rfl⟩
  refine pD (fun W R z9 => ?_) ?_
  ·rw [eS (l := [(7, _)]) ⟨z9 7 rfl, ⟨⟩⟩]
   refine qk (qi isAgg40 rfl (Rd.own [] rfl rfl) ?_)
   exact ⟨rfl, rfl, rfl⟩
  refine pD (fun W R z9 => ?_) ?_
  ·rw [eS (l := [(8, _)]) ⟨z9 8 rfl, ⟨⟩⟩]
   refine qk (qv runUnderlying40 rfl (SlV.own [_] rfl) ?_)
   exact ⟨rfl, rfl, rfl⟩
  exact stepsP.nil
 intro W hphi
 rw [eS (l := [(4, _), (9, _)]) ⟨(hphi 4 (by decide)), (hphi 9 (by decide)), ⟨⟩⟩]
 show XL _ _ _ _ _ _ _ (cellsH b0 [pv, v0] 157 :: slH 5 1 v0 n cs :: L)
 refine cX (XOp.unsafeStr (us := us) (n := n) [_] underlying181 (by kernel_rfl) rfl rfl rfl hcs (by omega) (by omega) (qf (.string (⟨(us).toArray⟩)) rfl (qb (qq (qm (L' := L) [.string (⟨(us).toArray⟩)] (.string (⟨(us).toArray⟩)) (.tmp rfl .nil) rfl rF rF (sD sR) ?_)))))
 exact ⟨rfl, rfl, rfl⟩

/- impl.key -/
theorem key_spec {F : FH} {L : List HP} {tv : Value} {t : List Int} (ht : IntsF F tv t) (hlt : 1 ≤ t.length ∧ t.length ≤ 60) (hsm : ∀ x ∈ t, -24 ≤ x ∧ x < 200) :
    Does prog 78 [tv] F (L) (fun v F' L' => (.string (keyS t) : Value) = v ∧ F = F' ∧ L = L') := by
 refine qA func78 rfl rfl rfl (qc (qa (qf (.string (⟨#[]⟩)) rfl (qb (qc (qa (cX (jd [(.pointer none), sN] zeroValue157 rfl ?_))))))))
 intro b1
 refine qb (qc (qc (qa (qd (tv) rfl (cX (qv qg rfl ht.slv (qd (ii (0)) rfl (qb (qC (X.weaken (Sub.addNil 5 1 none _) ?_))))))))))
 show X _ _ _ _ _ _ (slH 5 1 (sN) 0 ([]) :: cellsH b1 [(.pointer none), sN] 157 :: L)
 refine je (α := Nat × Value × Value × List Value) (fun xQ => [(3, ptr b1 0), (6, tv), (7, ii ((t.length : Int))), (8, ii (((xQ.1 : Nat) : Int)))]) (fun xQ => cellsH b1 [xQ.2.1, xQ.2.2.1] 157 :: slH 5 1 xQ.2.2.1 xQ.1 xQ.2.2.2 :: L) (fun xQ F' => F = F' ∧ (xQ.1 ≤ t.length) ∧ (xQ.2.1 = .pointer none ∨ xQ.2.1 = ptr b1 0) ∧ (IsSl xQ.2.2.1) ∧ (xQ.2.2.2 = bytesC (t.take xQ.1))) (fun xQ => t.length - xQ.1) (0, (.pointer none), sN, []) ⟨rfl, rfl, rfl, rfl, ⟨⟩⟩ (qR (qQ (A := [_])) (sC (sC sR))) ⟨rfl, (by (try dsimp only) <;> omega), (.inl rfl), (⟨_, _, _, rfl⟩), (rfl)⟩ ?_
 rintro ⟨k, pv, bv, cs⟩ rE _ _ ⟨rfl, hk, hp, hbv, hcs⟩
 show X _ _ _ _ (envs [(3, ptr b1 0), (6, tv), (7, ii ((t.length : Int))), (8, ii ((k : Int)))] rE) _ (cellsH b1 [pv, bv] 157 :: slH 5 1 bv k cs :: L)
 dsimp only at hk hp hbv hcs
 have hs9 := fun h : k < t.length => small_get (hsm) h
 refine qc (qa (cX (qL rfl rfl (qb (qc ?_)))))
 refine qt (p := (k : Int) < (t.length : Int)) rfl (fun h1 => ?_) (fun h1 => ?_)
 ·refine qs (qc (qC (qc (qa (cX (qB k qg qM rfl rfl rfl ht.slv (by omega) (Nat.mul_one _) (cX (qi jg rfl (ht.rd (by omega)) (qf (ii (t.getD k 0)) rfl (qb (qa (qd (ii (t.getD k 0)) rfl (cX (qD ((t.getD k 0) + 24) rfl rfl (by omega) (by omega) ?_))))))))))))))
  have hs8 := hs9 (by omega)
  refine cX (XOp.convI (k' := .i64) (a := (t.getD k 0) + 24) ((t.getD k 0) + 24) runUnderlying2 runUnderlying5 rfl (IntWalk.u8_in _ (by omega)) (XL.weaken (qQ (A := [_])) ?_))
  show XL _ _ _ _ _ _ _ (slH 5 1 bv k cs :: cellsH b1 [pv, bv] 157 :: L)
  refine XL.weaken (qQ (A := [_])) ?_
  show XL _ _ _ _ _ _ _ (cellsH b1 [pv, bv] 157 :: slH 5 1 bv k cs :: L)
  refine cX (qn (args := [ptr b1 0, .int .u8 ((t.getD k 0) + 24)]) call114 rfl (WriteByte_spec (m := (t.getD k 0) + 24) (hp := by assumption) (hv0 := by assumption) (hn := by omega)) ?_)
  rintro _ _ _ _ ⟨rfl, rfl, bv1, hs1, rfl⟩
  show XL _ _ _ _ _ _ _ (cellsH b1 [ptr b1 0, bv1] 157 :: slH 5 1 bv1 ((k + 1)) ((cs ++ [(.int .u8 ((t.getD k 0) + 24) : Value)])) :: L)
  refine qb (qa (cX (qD (((k + 1 : Nat) : Int)) rfl rfl (by omega) (by omega) (qd (ii (((k + 1 : Nat) : Int))) rfl (qb ?_)))))
  exact ⟨(k + 1, (ptr b1 0), bv1, (cs ++ [(.int .u8 ((t.getD k 0) + 24) : Value)])), _, FLe.refl _, rF, ⟨rfl, rfl, rfl, rfl, ⟨⟩⟩, (sC (sC sR)), ⟨rfl, (by (try dsimp only) <;> omega), (.inr rfl), (hs1), (by (try dsimp only); rw [hcs]; exact bytesC_next (by omega))⟩, (by omega)⟩
 refine qZ (qo (qo (qF (qc (qa (XL.weaken (qQ (A := [_])) ?_))))))
 show XL _ _ _ _ _ _ _ (slH 5 1 bv k cs :: cellsH b1 [pv, bv] 157 :: L)
 refine XL.weaken (qQ (A := [_])) ?_
 show XL _ _ _ _ _ _ _ (cellsH b1 [pv, bv] 157 :: slH 5 1 bv k cs :: L)
 refine cX (qn (args := [ptr b1 0]) call115 rfl (String_spec (keyU t) (hv0 := by assumption) (hn := by omega) (hn0 := by omega) (hcs := (by rw [hcs, show k = t.length from by omega, List.take_length]; exact bytesC_key hsm))) ?_)
 rintro _ _ _ _ ⟨rfl, rfl, rfl⟩
 refine qf (.string ((⟨(keyU t).toArray⟩ : ByteArray))) rfl (qb (qq (qm (L' := L) [.string ((⟨(keyU t).toArray⟩ : ByteArray))] (.string ((⟨(keyU t).toArray⟩ : ByteArray))) (.tmp rfl .nil) rfl rF rF sR ?_)))
 exact ⟨rfl, rfl, rfl⟩

/- impl.longest -/
set_option maxRecDepth 20000 in
theorem longest_spec {F : FH} {L : List HP} {arv : Value} {ar : List Int} (har : IntsF F arv ar) {rsv : Value} {rs : List (List Int × List Int)} (hrs : PairsF F rsv rs) {tv : Value} {t : List Int} (ht : IntsF F tv t) {n : Int} (hsys : sysOk ar rs = true) (ho : termOk ar t = true) (hn20 : 0 ≤ n ∧ n ≤ 20) :
    Does prog 36 [.agg #[arv, rsv], tv, ii (n)] F (L) (fun v F' L' => (ii (longestL ar rs t n) : Value) = v ∧ L = L') := by
 refine qA func36 rfl rfl rfl ?_
 have hnn := jw ht (by have := termOk_len ho; omega)
 have htl := termOk_len ho
 have hrl := (sysOk_iff.1 hsys).2.1
 have hsig := (sysOk_iff.1 hsys).1
 have hsl := sigOk_spec hsig
 refine qc (qa (cX (qO [arv, rsv] rfl rfl ?_)))
 intro b1
 refine qf (ii (0)) rfl (qb (qc (qa (qd (tv) rfl (cX (qN (s := 1) [tv] [sN] [(0, [tv])] qr qx js rfl (by decide) rfl (.cons (cells_one (qK ht)) CellsAre.nil) rfl ?_))))))
 intro v1 hv1
 refine qf (v1) rfl (qb (qc (qa (cX (XOp.makeMap ?_)))))
 intro b2
 refine qf (.map (some b2)) rfl (qb (qc (qa (qf (ii (0)) rfl (qb (qC ?_))))))
 have hc1 : RowsC F [tv] ([t] : List (List Int)) := (RowsC.snoc (CO.nil : RowsC F [] []) ht)
 refine jq [_] _ _ rfl (fun F1 le1 hz1 => ?_)
 replace har := har.mono le1
 replace hrs := hrs.mono le1
 replace hc1 := hc1.mono le1
 have hf1 : RowsF F1 v1 (([t] : List (List Int))) := CO.fz hc1 (by first | rfl | omega | (rw [List.length_set]; omega) | (simp; done)) hz1.fz
 refine je (α := Nat × Value × RowL × FH) (fun xQ => [(2, ii (n)), (3, ptr b1 0), (7, xQ.2.1), (8, .map (some b2)), (9, ii (((xQ.1 : Nat) : Int)))]) (fun xQ => mapH b2 ([]) :: cellsH b1 [arv, rsv] 33 :: L) (fun xQ F' => xQ.2.2.2 = F' ∧ F1 ≤ xQ.2.2.2 ∧ (RowsF xQ.2.2.2 xQ.2.1 xQ.2.2.1) ∧ ((xQ.1 : Int) ≤ n) ∧ (OkRows ar xQ.2.2.1) ∧ (xQ.2.2.1.length ≤ 60) ∧ (longestL ar rs t n = longestGo ar rs (n.toNat + 1 - xQ.1) (xQ.1 : Int) xQ.2.2.1)) (fun xQ => n.toNat + 1 - xQ.1) (0, v1, ([t] : List (List Int)), F1) ⟨rfl, rfl, rfl, rfl, rfl, ⟨⟩⟩ (sC (sC sR)) ⟨rfl, FLe.refl _, (hf1), (by (try dsimp only) <;> omega), (OkRows.one ho), (by simp), (rfl)⟩ ?_
 rintro ⟨k, lvv, lv, G1⟩ rE _ _ ⟨rfl, leG, hlv, hkn, hok, hll, hgo⟩
 show X _ _ _ _ (envs [(2, ii (n)), (3, ptr b1 0), (7, lvv), (8, .map (some b2)), (9, ii ((k : Int)))] rE) _ (mapH b2 ([]) :: cellsH b1 [arv, rsv] 33 :: L)
 replace leG : F1 ≤ G1 := leG
 dsimp only at hlv hkn hok hll hgo
 have leG1 := leG
 replace har := har.mono leG1
 replace hrs := hrs.mono leG1
 refine qc (qC (qc (qa (qf (sN) rfl (qb (qc (qc (qa (qd (lvv) rfl (cX (qv qr rfl hlv.slv (qd (ii (0)) rfl (qb (qC (je (α := Nat × Value × RowL × List Value × Nat × FH) (fun xQ => [(2, ii (n)), (3, ptr b1 0), (8, .map (some b2)), (9, ii ((k : Int))), (10, xQ.2.1), (24, lvv), (25, ii ((lv.length : Int))), (26, ii (((xQ.1 : Nat) : Int)))]) (fun xQ => slH 22 1 xQ.2.1 xQ.2.2.2.2.1 xQ.2.2.2.1 :: mapH b2 (xQ.2.2.1.map keyS) :: cellsH b1 [arv, rsv] 33 :: L) (fun xQ F' => xQ.2.2.2.2.2 = F' ∧ G1 ≤ xQ.2.2.2.2.2 ∧ (IsSl xQ.2.1) ∧ (RowsC xQ.2.2.2.2.2 xQ.2.2.2.1 xQ.2.2.1) ∧ (xQ.2.2.2.2.1 = xQ.2.2.1.length) ∧ (xQ.1 ≤ lv.length) ∧ (xQ.2.2.1.length ≤ 60) ∧ (OkRows ar xQ.2.2.1) ∧ (nextGo ar rs lv [] = nextGo ar rs (lv.drop xQ.1) xQ.2.2.1)) (fun xQ => lv.length - xQ.1) (0, sN, [], [], 0, G1) ⟨rfl, rfl, rfl, rfl, rfl, rfl, rfl, rfl, ⟨⟩⟩ (qR (Sub.addNil 22 1 _ _) (sC (sC (sC sR)))) ⟨rfl, FLe.refl _, (⟨_, _, _, rfl⟩), (CO.nil), (rfl), (Nat.zero_le _), (by simp), (OkRows.nil), (rfl)⟩ ?_)))))))))))))))
 rintro ⟨q, nv, nx, ncs, nn, G2⟩ rE _ _ ⟨rfl, leG, hnv, hNC, hnn, hq, hnl, hnok, hgo1⟩
 show X _ _ _ _ (envs [(2, ii (n)), (3, ptr b1 0), (8, .map (some b2)), (9, ii ((k : Int))), (10, nv), (24, lvv), (25, ii ((lv.length : Int))), (26, ii ((q : Int)))] rE) _ (slH 22 1 nv nn ncs :: mapH b2 (nx.map keyS) :: cellsH b1 [arv, rsv] 33 :: L)
 replace leG : G1 ≤ G2 := leG
 dsimp only at hnv hNC hnn hq hnl hnok hgo1
 have hqo := fun h : q < lv.length => hok q h
 have hql := fun h : q < lv.length => termOk_len (hok q h)
 have leG2 := leG
 replace har := har.mono leG2
 replace hrs := hrs.mono leG2
 replace hlv := hlv.mono leG2
 refine qc (qa (cX (qL rfl rfl (qb (qc ?_)))))
 refine qt (p := (q : Int) < (lv.length : Int)) rfl (fun h1 => ?_) (fun h1 => ?_)
 ·refine qs (qc (qC (qc (qa (cX (qB q qr qx rfl rfl rfl hlv.slv (by omega) (Nat.mul_one _) ?_))))))
  obtain ⟨a1, ha1, hr1⟩ := hlv.rd (i := q) (by omega)
  refine cX (qi qJ rfl (hr1 _) (qf (a1) rfl (qb (qc (qa (cX (qw [arv, rsv] isAgg33 jo rfl rfl (Rd.ownN [_, _] rfl rfl) (qd (a1) rfl (cX (qn (args := [.agg #[arv, rsv], a1]) call77 rfl (stepsFrom_spec har hrs ha1 (hsys := (hsys)) (ho := (hqo (by omega)))) ?_))))))))))
  rintro _ F2 _ le2 ⟨x1, rfl, hx1, rfl⟩
  replace hNC := hNC.mono le2
  refine qd (.tuple #[x1, .bool (longL ar rs ((lv.getD q [])))]) rfl (cX (jb (x1) rfl rfl (cX (jb (.bool (longL ar rs ((lv.getD q [])))) rfl rfl (qf (x1) rfl (qf (.bool (longL ar rs ((lv.getD q [])))) rfl (qb (qc (qc (qa (qd (.bool (longL ar rs ((lv.getD q [])))) rfl (qb ?_))))))))))))
  refine X.cond (t := longL ar rs ((lv.getD q []))) rfl (fun h2 => ?_) (fun h2 => ?_)
  ·have hlo := h2
   refine qc (qa (qf (ii (-1)) rfl (qb (qq (qh (qy (qh (qh (qy (qh (qy (qh (qh (qy (qm (L' := L) [ii (-1)] (ii (-1)) (.tmp rfl .nil) rfl (ql (ql (ql le1 leG1) leG2) le2) rF (sD (sD (sD sR))) ?_)))))))))))))))
   have e9 : longestL ar rs t n = -1 := hgo.trans (longest_none (by omega) (hgo1.trans (next_long (by omega) hlo)))
   rw [e9]
   exact ⟨rfl, rfl⟩
  have hlo := h2
  refine qs (qc (qc (qa ?_)))
  obtain ⟨cso1, Lso1, hXo1, hDo1, hZo1⟩ := hx1
  skip
  refine qd (x1) rfl (cX (qv jp rfl hXo1.slv (qd (ii (0)) rfl (qb (qC (je (α := Nat × Value × RowL × List Value × Nat × FH) (fun xQ => [(2, ii (n)), (3, ptr b1 0), (8, .map (some b2)), (9, ii ((k : Int))), (10, xQ.2.1), (24, lvv), (25, ii ((lv.length : Int))), (26, ii ((q : Int))), (37, x1), (38, ii (((((stepsL ar rs ((lv.getD q [])))).length : Nat) : Int))), (39, ii (((xQ.1 : Nat) : Int)))]) (fun xQ => slH 22 1 xQ.2.1 xQ.2.2.2.2.1 xQ.2.2.2.1 :: mapH b2 (xQ.2.2.1.map keyS) :: cellsH b1 [arv, rsv] 33 :: L) (fun xQ F' => xQ.2.2.2.2.2 = F' ∧ F2 ≤ xQ.2.2.2.2.2 ∧ (IsSl xQ.2.1) ∧ (RowsC xQ.2.2.2.2.2 xQ.2.2.2.1 xQ.2.2.1) ∧ (xQ.2.2.2.2.1 = xQ.2.2.1.length) ∧ (xQ.1 ≤ (stepsL ar rs (lv.getD q [])).length) ∧ (xQ.2.2.1.length ≤ 60 + xQ.1) ∧ (OkRows ar xQ.2.2.1) ∧ (addN (stepsL ar rs (lv.getD q [])) nx = addN ((stepsL ar rs (lv.getD q [])).drop xQ.1) xQ.2.2.1)) (fun xQ => (stepsL ar rs (lv.getD q [])).length - xQ.1) (0, nv, nx, ncs, nn, F2) ⟨rfl, rfl, rfl, rfl, rfl, rfl, rfl, rfl, rfl, rfl, rfl, ⟨⟩⟩ (sC (sC (sC sR))) ⟨rfl, FLe.refl _, (hnv), (hNC), (hnn), (Nat.zero_le _), (by (try dsimp only) <;> omega), (hnok), (rfl)⟩ ?_))))))
  rintro ⟨j, pv, px, pcs, pn, G3⟩ rE _ _ ⟨rfl, leG, hpv, hPC, hpn, hj, hpl, hpok, hadd⟩
  show X _ _ _ _ (envs [(2, ii (n)), (3, ptr b1 0), (8, .map (some b2)), (9, ii ((k : Int))), (10, pv), (24, lvv), (25, ii ((lv.length : Int))), (26, ii ((q : Int))), (37, x1), (38, ii (((((stepsL ar rs ((lv.getD q [])))).length : Nat) : Int))), (39, ii ((j : Int)))] rE) _ (slH 22 1 pv pn pcs :: mapH b2 (px.map keyS) :: cellsH b1 [arv, rsv] 33 :: L)
  replace leG : F2 ≤ G3 := leG
  dsimp only at hpv hPC hpn hj hpl hpok hadd
  have hnl9 : (stepsL ar rs (lv.getD q [])).length ≤ 1000 := by have h9 := stepsTo_len (ar := ar) (t := (lv.getD q [])) (rs := rs) hrl (lv.getD q []).length; have h8 := hql (by omega); show (stepsTo ar rs (lv.getD q []) (lv.getD q []).length).length ≤ 1000; omega
  have hso := fun h : j < (stepsL ar rs (lv.getD q [])).length => steps_ok hsys (hqo (by omega)) h
  have hsl9 := fun h : j < (stepsL ar rs (lv.getD q [])).length => termOk_len (hso h)
  have leG3 := leG
  replace hNC := hNC.mono leG3
  replace hXo1 := hXo1.mono leG3
  refine qc (qa (cX (qL rfl rfl (qb (qc ?_)))))
  refine qt (p := (j : Int) < ((((stepsL ar rs ((lv.getD q [])))).length : Nat) : Int)) rfl (fun h3 => ?_) (fun h3 => ?_)
  ·refine qs (qc (qC (qc (qa (cX (qB j jp sizeOf113 rfl rfl rfl hXo1.slv (by omega) rfl ?_))))))
   obtain ⟨a2, ha2, hr2, hr3, hr4, hq1⟩ := hXo1.rd (i := j) (by omega)
   refine cX (qw [ii ((((stepsL ar rs ((lv.getD q [])))).getD j (0, 0, [])).1), ii ((((stepsL ar rs ((lv.getD q [])))).getD j (0, 0, [])).2.1), a2] isAgg113 sizeOf113 rfl rfl (Rd.three (hr2 _) (hr3 _) (hr4 _)) (cX (jd [ii (0), ii (0), sN] zeroValue113 rfl ?_)))
   intro b3
   refine cX (qV [] _ [ii ((((stepsL ar rs ((lv.getD q [])))).getD j (0, 0, [])).1), ii ((((stepsL ar rs ((lv.getD q [])))).getD j (0, 0, [])).2.1), a2] sizeOf113 rfl rfl rfl (qI rfl (qI rfl (qI (qW (qK ha2)) qY))) rfl rfl rfl (qb (qc (qa (qd (.map (some b2)) rfl (cX (qj (2) runUnderlying113 rfl qx (by decide) rfl rfl (cX (qi qJ rfl (Rd.own [] rfl rfl) (cX (qn (args := [a2]) call78 rfl (key_spec ha2 (hlt := (hsl9 (by omega))) (hsm := (termOk_small hsig (hso (by omega))))) ?_)))))))))))
   rintro _ _ _ _ ⟨rfl, rfl, rfl⟩
   refine cX (XOp.lookupM (ks := (px.map keyS)) (s := (keyS ((((stepsL ar rs ((lv.getD q [])))).getD j (0, 0, [])).2.2))) (decide (((stepsL ar rs (lv.getD q [])).getD j (0, 0, [])).2.2 ∈ px)) [_, _] (decide_eq_true_iff.trans ⟨fun h9 => List.mem_map.2 ⟨_, h9, rfl⟩, key_in hsig hpok (hso (by omega))⟩) underlying117 underlying9 zeroValue4 rfl rfl rfl (cX (XOp.notD rfl (qb ?_))))
   refine qt (p := ¬(((stepsL ar rs (lv.getD q [])).getD j (0, 0, [])).2.2 ∈ px)) rfl (fun h4 => ?_) (fun h4 => ?_)
   ·have hin : ((stepsL ar rs (lv.getD q [])).getD j (0, 0, [])).2.2 ∉ px := h4
    refine qc (qa (qd (.map (some b2)) rfl (cX (qj (2) runUnderlying113 rfl qx (by decide) rfl rfl (cX (qi qJ rfl (Rd.own [] rfl rfl) (cX (qn (args := [a2]) call78 rfl (key_spec ha2 (hlt := (hsl9 (by omega))) (hsm := (termOk_small hsig (hso (by omega))))) ?_))))))))
    rintro _ _ _ _ ⟨rfl, rfl, rfl⟩
    refine cX (XOp.updateM (ks := (px.map keyS)) (s := (keyS ((((stepsL ar rs ((lv.getD q [])))).getD j (0, 0, [])).2.2))) [_, _] underlying117 underlying9 rfl rfl rfl rfl (fun h9 => hin (key_in hsig hpok (hso (by omega)) h9)) ?_)
    rw [← keys_snoc]
    skip
    refine qb (qa (qd (pv) rfl (cX (qj (2) runUnderlying113 rfl qx (by decide) rfl rfl (cX (qi qJ rfl (Rd.own [] rfl rfl) (cX (qN (s := 1) [a2] [sN] [(0, [a2])] qr qx js rfl (by decide) rfl (.cons (cells_one (qK ha2)) CellsAre.nil) rfl ?_))))))))
    intro v2 hv2
    refine cX (XOp.append (m := 1) (bytes := 24) (cs := pcs) [_, _] _ [a2] qr typeInfo22 rfl rfl rfl rfl rfl rfl rfl (SlV.own [] rfl) rfl (Rd.lit [] rfl) (qI (qW (qK ha2)) qY) (by (try simp only [List.length_append, List.length_nil, List.length_cons, List.length_singleton]); omega) (by (try simp only [List.length_append, List.length_nil, List.length_cons, List.length_singleton]); omega) ?_)
    intro v3 hs1 hn1 hm1
    have hc2 := RowsC.snoc hPC ha2
    refine qf (v3) rfl (qb (qa (cX (qD (((j + 1 : Nat) : Int)) rfl rfl (by omega) (by omega) (qd (ii (((j + 1 : Nat) : Int))) rfl (qb ?_))))))
    exact ⟨(j + 1, v3, px ++ [(((stepsL ar rs ((lv.getD q [])))).getD j (0, 0, [])).2.2], pcs ++ [a2], (pn) + 1, G3), _, leG3, rF, ⟨rfl, rfl, rfl, rfl, rfl, rfl, rfl, rfl, rfl, rfl, rfl, ⟨⟩⟩, (sD (sD (sC (sC (sC sR))))), ⟨rfl, leG3, (hs1), (hc2), (by (try dsimp only); (try rw [List.length_append, List.length_singleton]); omega), (by (try dsimp only) <;> omega), (by (try dsimp only); (try rw [List.length_append, List.length_singleton]); omega), (hpok.snoc (hso (by omega))), (by (try dsimp only); rw [hadd, addN_new (by omega) hin])⟩, (by omega)⟩
   have hin : ((stepsL ar rs (lv.getD q [])).getD j (0, 0, [])).2.2 ∈ px := Classical.not_not.1 h4
   refine qs (qa (cX (qD (((j + 1 : Nat) : Int)) rfl rfl (by omega) (by omega) (qd (ii (((j + 1 : Nat) : Int))) rfl (qb ?_)))))
   exact ⟨(j + 1, pv, px, pcs, pn, G3), _, leG3, rF, ⟨rfl, rfl, rfl, rfl, rfl, rfl, rfl, rfl, rfl, rfl, rfl, ⟨⟩⟩, (sD (sC (sC (sC sR)))), ⟨rfl, leG3, (hpv), (hPC), (by (try dsimp only); (try rw [List.length_append, List.length_singleton]); omega), (by (try dsimp only) <;> omega), (by (try dsimp only); (try rw [List.length_append, List.length_singleton]); omega), (hpok), (by (try dsimp only); rw [hadd, addN_in (by omega) hin])⟩, (by omega)⟩
  refine qZ (qo (qo (qF (qc (qa ?_)))))
  have haq : addN (stepsL ar rs (lv.getD q [])) nx = px := hadd.trans (addN_end (by omega))
  refine qd (pv) rfl (cX (qv qr rfl (SlV.own [] rfl) (cX (XOp.gtr rfl rfl (qb ?_)))))
  refine qt (p := (((pn : Nat) : Int) : Int) > 60) rfl (fun h5 => ?_) (fun h5 => ?_)
  ·refine qc (qa (qf (ii (-1)) rfl (qb (qq (qy (qh (qh (qy (qh (qy (qh (qh (qy (qm (L' := L) [ii (-1)] (ii (-1)) (.tmp rfl .nil) rfl (ql (ql (ql (ql le1 leG1) leG2) le2) leG3) rF (sD (sD (sD sR))) ?_))))))))))))))
   have e9 : longestL ar rs t n = -1 := hgo.trans (longest_none (by omega) (hgo1.trans (next_many (by omega) hlo (by rw [haq]; omega))))
   rw [e9]
   exact ⟨rfl, rfl⟩
  refine qs (qa (cX (qD (((q + 1 : Nat) : Int)) rfl rfl (by omega) (by omega) (qd (ii (((q + 1 : Nat) : Int))) rfl (qb ?_)))))
  exact ⟨(q + 1, pv, px, pcs, pn, G3), _, (ql (ql leG2 le2) leG3), rF, ⟨rfl, rfl, rfl, rfl, rfl, rfl, rfl, rfl, ⟨⟩⟩, (sC (sC (sC sR))), ⟨rfl, (ql (ql leG2 le2) leG3), (hpv), (hPC), (hpn), (by (try dsimp only) <;> omega), (by (try dsimp only); omega), (hpok), (by (try dsimp only); rw [hgo1, next_go (by omega) hlo (by rw [haq]; omega), haq])⟩, (by omega)⟩
 refine qZ (qo (qo (qF (qc (qc (qa (qd (nv) rfl (cX (qv qr rfl (SlV.own [] rfl) (qd (ii (0)) rfl (qb (qC (je (α := Nat) (fun d => [(2, ii (n)), (3, ptr b1 0), (8, .map (some b2)), (9, ii ((k : Int))), (10, nv), (63, nv), (64, ii (((nn : Nat) : Int))), (65, ii ((d : Int)))]) (fun d => slH 22 1 nv nn ncs :: mapH b2 ((nx.drop d).map keyS) :: cellsH b1 [arv, rsv] 33 :: L) (fun d F' => G2 = F' ∧ (d ≤ nx.length)) (fun d => nx.length - d) 0 ⟨rfl, rfl, rfl, rfl, rfl, rfl, rfl, rfl, ⟨⟩⟩ (sC (sC (sC sR))) ⟨rfl, (Nat.zero_le _)⟩ ?_)))))))))))))
 rintro d rE _ _ ⟨rfl, hd⟩
 show X _ _ _ _ (envs [(2, ii (n)), (3, ptr b1 0), (8, .map (some b2)), (9, ii ((k : Int))), (10, nv), (63, nv), (64, ii (((nn : Nat) : Int))), (65, ii ((d : Int)))] rE) _ (slH 22 1 nv nn ncs :: mapH b2 ((nx.drop d).map keyS) :: cellsH b1 [arv, rsv] 33 :: L)
 have hdo := fun h : d < nx.length => hnok d h
 have hdl := fun h : d < nx.length => termOk_len (hnok d h)
 refine qc (qa (cX (qL rfl rfl (qb (qc ?_)))))
 refine qt (p := (d : Int) < ((nn : Nat) : Int)) rfl (fun h6 => ?_) (fun h6 => ?_)
 ·refine qs (qc (qC (qc (qa (cX (qB d qr qx rfl rfl rfl (SlV.own [] rfl) (by omega) (Nat.mul_one _) ?_))))))
  obtain ⟨a3, ha3, he1⟩ := hNC.get (i := d) (by omega)
  refine cX (qi qJ rfl (Rd.sl [] rfl he1) (qf (a3) rfl (qb (qa (qd (.map (some b2)) rfl (qd (a3) rfl (cX (qn (args := [a3]) call78 rfl (key_spec ha3 (hlt := (hdl (by omega))) (hsm := (termOk_small hsig (hdo (by omega))))) ?_))))))))
  rintro _ _ _ _ ⟨rfl, rfl, rfl⟩
  refine cX (XOp.deleteM (s := (keyS ((nx.getD d [])))) (ks := ((nx.drop (d + 1)).map keyS)) [_] underlying117 underlying9 rfl rfl (congrArg (fun z9 => slH 22 1 nv nn ncs :: mapH b2 z9 :: cellsH b1 [arv, rsv] 33 :: L) (keys_drop (by omega)))  (qb (qa (cX (qD (((d + 1 : Nat) : Int)) rfl rfl (by omega) (by omega) (qd (ii (((d + 1 : Nat) : Int))) rfl (qb ?_)))))))
  exact ⟨d + 1, _, FLe.refl _, rF, ⟨rfl, rfl, rfl, rfl, rfl, rfl, rfl, rfl, ⟨⟩⟩, (sC (sC (sC sR))), ⟨rfl, (by (try dsimp only) <;> omega)⟩, (by omega)⟩
 refine qZ (qo (qo (qF (qc (qc (qa ?_))))))
 rw [show (nx.drop d).map keyS = [] from keys_done (by omega)]
 have hnx : nextGo ar rs lv [] = some nx := hgo1.trans (next_end (by omega))
 have hxok := hnok
 have hxl := hnl
 skip
 refine qd (nv) rfl (cX (qv qr rfl (SlV.own [] rfl) (cX (XOp.eql rfl rfl (qb ?_)))))
 refine qt (p := (((nn : Nat) : Int) : Int) = 0) rfl (fun h7 => ?_) (fun h7 => ?_)
 ·refine qc (qa (qd (ii ((k : Int))) rfl (qf (ii ((k : Int))) rfl (qb (qq (qh (qy (qh (qh (qy (qm (L' := L) [ii ((k : Int))] (ii ((k : Int))) (.tmp rfl .nil) rfl (ql (ql le1 leG1) leG2) rF (sD (sD (sD sR))) ?_)))))))))))
  have e8 : nx = [] := List.eq_nil_of_length_eq_zero (by omega)
  have e9 : longestL ar rs t n = (k : Int) := hgo.trans (longest_done (by omega) (by rw [hnx, e8]))
  rw [e9]
  exact ⟨rfl, rfl⟩
 refine qs (qc (qc (qa (qd (ii ((k : Int))) rfl (qd (ii (n)) rfl (cX (XOp.eql rfl rfl (qb ?_))))))))
 refine qt (p := (k : Int) = n) rfl (fun h8 => ?_) (fun h8 => ?_)
 ·refine qc (qa (qf (ii (-1)) rfl (qb (qq (qh (qy (qh (qh (qy (qm (L' := L) [ii (-1)] (ii (-1)) (.tmp rfl .nil) rfl (ql (ql le1 leG1) leG2) rF (sD (sD (sD sR))) ?_))))))))))
  have e7 : nx ≠ [] := fun e8 => by subst e8; simp at hnn; omega
  have e9 : longestL ar rs t n = -1 := hgo.trans ((longest_next (by omega) hnx e7).trans (by rw [show n.toNat + 1 - k - 1 = 0 from by omega]; rfl))
  rw [e9]
  exact ⟨rfl, rfl⟩
 refine qs (qa (qd (nv) rfl (qf (nv) rfl ?_)))
 have hnn9 : nx ≠ [] := fun e9 => by subst e9; simp at hnn; omega
 refine XL.freezeF [] _ _ rfl (fun F3 le3 hz2 => ?_)
 replace hNC := hNC.mono le3
 have hf2 : RowsF F3 nv nx := CO.fz hNC (by first | rfl | omega | (rw [List.length_set]; omega) | (simp; done)) hz2.fz
 skip
 refine qb (qa (qd (ii ((k : Int))) rfl (cX (qD (((k + 1 : Nat) : Int)) rfl rfl (by omega) (by omega) (qf (ii (((k + 1 : Nat) : Int))) rfl (qb ?_))))))
 exact ⟨(k + 1, nv, nx, F3), _, (ql (ql leG1 leG2) le3), rF, ⟨rfl, rfl, rfl, rfl, rfl, ⟨⟩⟩, (sC (sC sR)), ⟨rfl, (ql (ql leG1 leG2) le3), (hf2), (by (try dsimp only) <;> omega), (hxok), (hxl), (by (try dsimp only); rw [hgo, longest_next (by omega) hnx hnn9, show n.toNat + 1 - k - 1 = n.toNat + 1 - (k + 1) from by omega]; rfl)⟩, (by omega)⟩
end Go.Proofs.Ytjpfankibmeaaaa
