/-
  Walks, one after the other (part 2).
-/
import Derived.Test.YtmaaifhmhclhdaaQIL1
import Derived.Test.YtmaaifhmhclhdaaQIB0
set_option linter.unusedSimpArgs false
set_option linter.unusedVariables false
namespace Go.Proofs.Ytmaaifhmhclhdaa
open Go X M Try

/- spec.l2Gives -/
theorem l2Gives_spec {F : FH} {L : List HP} {sv : Value} {s : List (List Int)} (hs : RowsF F sv s) {i : Nat} (hsl : s.length ≤ 4000000) (hi : i ≤ 4000000) (hsb : (s.getD i []).length ≤ 4000000) :
    Does prog 132 [.agg #[sv], .int .i64 ((i : Int))] F (L) (fun v F' L' => F = F' ∧ IsSl v ∧ intsH 2 v (lk s (-1 - (i : Int))) :: L = L') := by
 refine Does.of_X func132 rfl rfl rfl (X.seq (X.region (cX (XOp.box [sv] rfl rfl ?_))))
 intro b1
 refine XL.as ((.slice none 0 0)) rfl (XL.nil (X.seq (X.seq (X.region (XL.mv (.int .i64 ((i : Int))) rfl (cX (XOp.fieldP (0) runUnderlying57 rfl sizeOf42 (by decide) rfl rfl (cX (XOp.load1 isAgg42 rfl (Rd.own [] rfl rfl) (cX (XOp.lenS runUnderlying42 rfl hs.slv (cX (XOp.lss rfl rfl (XL.mv (.bool (decide ((i : Int) < (s.length : Int)))) rfl ?_))))))))))))))
 by_cases h1 : (i : Int) < (s.length : Int)
 ·refine XL.yes (t := 10) rfl (vT h1) (XOp.fieldP (0) runUnderlying57 rfl sizeOf42 (by decide) rfl rfl (XL.yes (t := 10) rfl (vT h1) (XOp.load1 isAgg42 rfl (Rd.own [] rfl rfl) (XL.yes (t := 10) rfl (vT h1) (XOp.move (.int .i64 ((i : Int))) rfl (XL.yes (t := 10) rfl (vT h1) (XOp.indexS i runUnderlying42 sizeOf24 rfl rfl rfl hs.slv (by omega) (Nat.mul_one _) ?_)))))))
  obtain ⟨a1, ha1, hr1⟩ := hs.rd (i := i) (by omega)
  refine XL.yes (t := 10) rfl (vT h1) (XOp.load1 isAgg24 rfl (hr1 _) (XL.yes (t := 10) rfl (vT h1) (XOp.lenS runUnderlying24 rfl ha1.slv (XL.yes (t := 10) rfl (vT h1) (XOp.gtr rfl rfl (cX (XOp.pickT (.bool (decide ((((((s.getD i [])).length : Nat) : Int) : Int) > 0))) (vT h1) rfl (XL.nil ?_))))))))
  refine X.condD (p := (((((s.getD i [])).length : Nat) : Int) : Int) > 0) rfl (fun h2 => ?_) (fun h2 => ?_)
  ·refine X.seq (X.region (cX (XOp.fieldP (0) runUnderlying57 rfl sizeOf42 (by decide) rfl rfl (cX (XOp.load1 isAgg42 rfl (Rd.own [] rfl rfl) (XL.mv (.int .i64 ((i : Int))) rfl (cX (XOp.indexS i runUnderlying42 sizeOf24 rfl rfl rfl hs.slv (by omega) (Nat.mul_one _) (cX (XOp.load1 isAgg24 rfl (hr1 _) (cX (XOp.call (args := [a1]) call141 rfl (l1Copy_spec ha1 (hlt := (by first | assumption | rfl | omega | simp))) ?_))))))))))))
   rintro v1 _ _ _ ⟨rfl, hs1, rfl⟩
   refine XL.as (v1) rfl (XL.nil (X.ret (thenQ_ret (retEnd (L' := intsH 2 v1 ((((s.getD i [])))) :: L) [v1] (v1) (.tmp rfl .nil) rfl rF rF (sC (sD sR)) ?_))))
   refine ⟨rfl, hs1, ?_⟩
   have hxs : (lk s (-1 - (i : Int)) : List Int) = (((s.getD i []))) := lk_copy (by omega)
   exact congrArg (fun z => intsH 2 _ z :: L) hxs
  refine X.skip (X.seq (X.region (XL.mv (.int .i64 ((i : Int))) rfl (cX (XOp.subR ((-1) - ((i : Int))) rfl rfl (by omega) (by omega) (cX (XOp.buildSlice (s := 1) [.int .i64 ((-1) - ((i : Int)))] [.int .i64 (0)] [(0, [.int .i64 ((-1) - ((i : Int)))])] runUnderlying24 sizeOf2 zeroValue2 rfl (by decide) rfl (.cons rfl CellsAre.nil) rfl ?_)))))))
  intro v2 hv1
  refine XL.as (v2) rfl (XL.nil (X.ret (retEnd (L' := intsH 2 v2 ([(-1) - ((i : Int))]) :: L) [v2] (v2) (.tmp rfl .nil) rfl rF rF (sC (sD sR)) ?_)))
  refine ⟨rfl, (isSl_lit hv1), ?_⟩
  have hxs : (lk s (-1 - (i : Int)) : List Int) = [(-1) - ((i : Int))] := lk_self (by first | omega | (rw [getD_out (by omega)]; simp))
  exact congrArg (fun z => intsH 2 _ z :: L) hxs
 refine XL.no (t := 10) rfl (vF h1) (XL.no (t := 10) rfl (vF h1) (XL.no (t := 10) rfl (vF h1) (XL.no (t := 10) rfl (vF h1) (XL.no (t := 10) rfl (vF h1) (XL.no (t := 10) rfl (vF h1) (XL.no (t := 10) rfl (vF h1) (cX (XOp.pickF (.bool (false)) (vF h1) rfl (XL.nil (X.condF rfl ?_))))))))))
 refine X.skip (X.seq (X.region (XL.mv (.int .i64 ((i : Int))) rfl (cX (XOp.subR ((-1) - ((i : Int))) rfl rfl (by omega) (by omega) (cX (XOp.buildSlice (s := 1) [.int .i64 ((-1) - ((i : Int)))] [.int .i64 (0)] [(0, [.int .i64 ((-1) - ((i : Int)))])] runUnderlying24 sizeOf2 zeroValue2 rfl (by decide) rfl (.cons rfl CellsAre.nil) rfl ?_)))))))
 intro v3 hv2
 refine XL.as (v3) rfl (XL.nil (X.ret (retEnd (L' := intsH 2 v3 ([(-1) - ((i : Int))]) :: L) [v3] (v3) (.tmp rfl .nil) rfl rF rF (sC (sD sR)) ?_)))
 refine ⟨rfl, (isSl_lit hv2), ?_⟩
 have hxs : (lk s (-1 - (i : Int)) : List Int) = [(-1) - ((i : Int))] := lk_self (by first | omega | (rw [getD_out (by omega)]; simp))
 exact congrArg (fun z => intsH 2 _ z :: L) hxs

/- spec.l2Plain -/
theorem l2Plain_spec {F : FH} {L : List HP} {sv : Value} {s : List (List Int)} (hs : RowsF F sv s) (hsl : s.length ≤ 24) (hsb : ∀ i, (s.getD i []).length ≤ 4000000) :
    Does prog 149 [.agg #[sv]] F (L) (fun v F' L' => ∃ (a : Value), (.agg #[a] : Value) = v ∧ (RowsF F' a (plainL s)) ∧ L = L') := by
 refine Does.of_X func149 rfl rfl rfl (X.seq (X.region (cX (XOp.box [sv] rfl rfl ?_))))
 intro b1
 refine cX (XOp.alloc [(.slice none 0 0)] zeroValue57 rfl ?_)
 intro b2
 refine XL.nil (X.seq (X.region (cX (XOp.build [(.slice none 0 0)] [(.slice none 0 0)] [(0, 1)] [] runUnderlying57 zeroValue57 rfl (.cons rfl sizeOf42 PlacesAre.nil) rfl CellsAre.nil (cX (XOp.alloc [(.slice none 0 0)] zeroValue57 rfl ?_))))))
 intro b3
 refine cX (XOp.storeN [] _ [(.slice none 0 0)] sizeOf57 rfl rfl rfl (ones_cons rfl ones_nil) rfl rfl rfl (XL.nil (X.seq (X.seq (X.region (XL.as (.int .i64 (0)) rfl (XL.nil (X.block (X.loop (α := Nat × Value × RowL × FH) (fun xQ => [(1, ptr b1 0), (2, ptr b2 0), (3, ptr b3 0), (4, .int .i64 (((xQ.1 : Nat) : Int)))]) (fun xQ => rowsH 24 xQ.2.2.2 xQ.2.1 xQ.2.2.1 :: cellsH b3 [xQ.2.1] 57 :: cellsH b2 [(.slice none 0 0)] 57 :: cellsH b1 [sv] 57 :: L) (fun xQ F' => xQ.2.2.2 = F' ∧ F ≤ xQ.2.2.2 ∧ (IsSl xQ.2.1) ∧ (xQ.2.2.1 = (plainGo 0 s).take xQ.1) ∧ (xQ.1 ≤ s.length)) (fun xQ => s.length - xQ.1) (0, (.slice none 0 0), [], F) ⟨rfl, rfl, rfl, rfl, trivial⟩ (coH.addNil none (sC (sC (sC sR)))) ⟨rfl, FLe.refl _, (⟨_, _, _, rfl⟩), (rfl), (by (try dsimp only) <;> omega)⟩ ?_)))))))))
 rintro ⟨k, ov, os, G1⟩ rE _ _ ⟨rfl, leG, hov, hos, hk⟩
 show X _ _ _ _ (envs [(1, ptr b1 0), (2, ptr b2 0), (3, ptr b3 0), (4, .int .i64 ((k : Int)))] rE) _ (rowsH 24 G1 ov os :: cellsH b3 [ov] 57 :: cellsH b2 [(.slice none 0 0)] 57 :: cellsH b1 [sv] 57 :: L)
 replace leG : F ≤ G1 := leG
 dsimp only at hov hos hk
 have hol : os.length ≤ k := by rw [hos, List.length_take]; omega
 have hsbk := hsb k
 have hlkb : (lk s (-1 - (k : Int))).length ≤ 4000000 := by rw [lk_var]; split <;> simp; exact hsbk
 have leG1 := leG
 replace hs := hs.mono leG1
 refine X.open [] rfl (fun cs1 hc1 => ?_)
 replace hc1 : RowsC G1 cs1 os := hc1
 refine X.seq (X.seq (X.region (XL.mv (.int .i64 ((k : Int))) rfl (cX (XOp.fieldP (0) runUnderlying57 rfl sizeOf42 (by decide) rfl rfl (cX (XOp.load1 isAgg42 rfl (Rd.own [_, _, _] rfl rfl) (cX (XOp.lenS runUnderlying42 rfl hs.slv (cX (XOp.lss rfl rfl (XL.nil ?_))))))))))))
 refine X.condD (p := (k : Int) < (s.length : Int)) rfl (fun h1 => ?_) (fun h1 => ?_)
 ·refine X.skip (X.seq (X.block (X.seq (X.region (cX (XOp.loadN [sv] isAgg57 sizeOf57 rfl rfl (Rd.ownN [_, _, _] rfl rfl) (XL.mv (.int .i64 ((k : Int))) rfl (cX (XOp.frzF <| XOp.call (args := [.agg #[sv], .int .i64 (k : Int)]) call132 rfl (l2Gives_spec (i := k) hs (hsl := (by first | assumption | rfl | omega | simp)) (hi := (by first | assumption | rfl | omega | simp)) (hsb := (hsb k))) ?_)))))))))
  rintro v1 _ _ _ ⟨rfl, hs1, rfl⟩
  refine ⟨_, _, rfl, fun F1 le1 hz1 => ?_⟩
  replace hc1 := hc1.mono le1
  have hf1 : IntsF F1 v1 ((lk s (-1 - (k : Int)))) := intsH.fz (xs := (lk s (-1 - (k : Int)))) hz1.fz
  refine XL.as (v1) rfl (XL.nil (X.seq (X.seq (X.region (XL.mv (v1) rfl (cX (XOp.lenS runUnderlying24 rfl hf1.slv (cX (XOp.eql rfl rfl (XL.mv (.bool (decide ((((((lk s (-1 - (k : Int)))).length : Nat) : Int) : Int) = 1))) rfl ?_))))))))))
  by_cases h2 : (((((lk s (-1 - (k : Int)))).length : Nat) : Int) : Int) = 1
  ·refine XL.yes (t := 20) rfl (vT h2) (XOp.move (v1) rfl (XL.yes (t := 20) rfl (vT h2) (XOp.indexS 0 runUnderlying24 sizeOf2 rfl rfl rfl hf1.slv (by omega) (Nat.mul_one _) (XL.yes (t := 20) rfl (vT h2) (XOp.load1 isAgg2 rfl (hf1.rd (by omega)) (XL.yes (t := 20) rfl (vT h2) (XOp.move (.int .i64 ((k : Int))) rfl (XL.yes (t := 20) rfl (vT h2) (XOp.subR ((-1) - ((k : Int))) rfl rfl (by omega) (by omega) (XL.yes (t := 20) rfl (vT h2) (XOp.eql rfl rfl (cX (XOp.pickT (.bool (decide ((((lk s (-1 - (k : Int)))).getD 0 0 : Int) = (-1) - ((k : Int))))) (vT h2) rfl (XL.nil ?_))))))))))))))
   refine X.condD (p := (((lk s (-1 - (k : Int)))).getD 0 0 : Int) = (-1) - ((k : Int))) rfl (fun h3 => ?_) (fun h3 => ?_)
   ·refine X.region (cX (XOp.buildSlice (s := 1) [] [.int .i64 (0)] [] runUnderlying24 sizeOf2 zeroValue2 rfl (by decide) rfl CellsAre.nil rfl ?_))
    intro v2 hv1
    refine XL.as (v2) rfl (XL.nil (X.region (cX (XOp.fieldP (0) runUnderlying57 rfl sizeOf42 (by decide) rfl rfl (cX (XOp.load1 isAgg42 rfl (Rd.own [_, _] rfl rfl) (XL.mv (v2) rfl (cX (XOp.buildSlice (s := 1) [v2] [(.slice none 0 0)] [(0, [v2])] runUnderlying42 sizeOf24 zeroValue24 rfl (by decide) rfl (.cons (cells_one (isSl_lit hv1)) CellsAre.nil) rfl ?_)))))))))
    intro v3 hv2
    show XL _ _ _ _ _ _ _ (slH 24 1 v3 1 [v2] :: intsH 2 v2 ([] : List Int) :: slH 24 1 ov ((os).length) cs1 :: cellsH b3 [ov] 57 :: cellsH b2 [(.slice none 0 0)] 57 :: cellsH b1 [sv] 57 :: L)
    refine XL.freezeF [_] _ _ rfl (fun F2 le2 hz2 => ?_)
    replace hc1 := hc1.mono le2
    replace hf1 := hf1.mono le2
    have hf2 : IntsF F2 v2 ([]) := intsH.fz (xs := []) hz2.fz
    refine cX (XOp.append (m := 1) (bytes := 24) (cs := cs1) [_] _ [v2] runUnderlying42 typeInfo24 rfl rfl rfl rfl rfl rfl rfl (SlV.own [] rfl) rfl (Rd.lit [] rfl) (ones_cons (one_sl (IntsF.isSl hf2)) ones_nil) (by (try simp only [List.length_append, List.length_nil, List.length_cons, List.length_singleton]); omega) (by (try simp only [List.length_append, List.length_nil, List.length_cons, List.length_singleton]); omega) ?_)
    intro v4 hs2 hn1 hm1
    have hc2 := RowsC.snoc hc1 hf2
    refine cX (XOp.fieldP (0) runUnderlying57 rfl sizeOf42 (by decide) rfl rfl (cX (XOp.store1 [_, _] _ [v4] sizeOf42 rfl rfl (one_sl hs2) rfl rfl rfl (XL.nil (X.region (XL.mv (.int .i64 ((k : Int))) rfl (cX (XOp.addR (((k + 1 : Nat) : Int)) rfl rfl (by omega) (by omega) (XL.as (.int .i64 (((k + 1 : Nat) : Int))) rfl (XL.nil ?_))))))))))
    exact ⟨(k + 1, v4, os ++ [[]], F2), _, (FLe.trans (FLe.trans leG1 le1) le2), rF, ⟨rfl, rfl, rfl, rfl, trivial⟩, (sD (coH.close hc2 (by first | rfl | simp) (sC (sC (sC sR))))), ⟨rfl, (FLe.trans (FLe.trans leG1 le1) le2), (hs2), (by dsimp only; rw [hos, plainGo_take (by omega), plainGo_self (one_eq (by omega) (by omega))]), (by (try dsimp only) <;> omega)⟩, (by omega)⟩
   refine X.skip (X.region (cX (XOp.fieldP (0) runUnderlying57 rfl sizeOf42 (by decide) rfl rfl (cX (XOp.load1 isAgg42 rfl (Rd.own [_] rfl rfl) (XL.mv (v1) rfl (cX (XOp.buildSlice (s := 1) [v1] [(.slice none 0 0)] [(0, [v1])] runUnderlying42 sizeOf24 zeroValue24 rfl (by decide) rfl (.cons (cells_one (IntsF.isSl hf1)) CellsAre.nil) rfl ?_))))))))
   intro v5 hv3
   refine cX (XOp.append (m := 1) (bytes := 24) (cs := cs1) [_] _ [v1] runUnderlying42 typeInfo24 rfl rfl rfl rfl rfl rfl rfl (SlV.own [] rfl) rfl (Rd.lit [] rfl) (ones_cons (one_sl (IntsF.isSl hf1)) ones_nil) (by (try simp only [List.length_append, List.length_nil, List.length_cons, List.length_singleton]); omega) (by (try simp only [List.length_append, List.length_nil, List.length_cons, List.length_singleton]); omega) ?_)
   intro v6 hs3 hn2 hm2
   have hc3 := RowsC.snoc hc1 hf1
   refine cX (XOp.fieldP (0) runUnderlying57 rfl sizeOf42 (by decide) rfl rfl (cX (XOp.store1 [_, _] _ [v6] sizeOf42 rfl rfl (one_sl hs3) rfl rfl rfl (XL.nil (X.region (XL.mv (.int .i64 ((k : Int))) rfl (cX (XOp.addR (((k + 1 : Nat) : Int)) rfl rfl (by omega) (by omega) (XL.as (.int .i64 (((k + 1 : Nat) : Int))) rfl (XL.nil ?_))))))))))
   exact ⟨(k + 1, v6, os ++ [(lk s (-1 - (k : Int)))], F1), _, (FLe.trans leG1 le1), rF, ⟨rfl, rfl, rfl, rfl, trivial⟩, (sD (coH.close hc3 (by first | rfl | simp) (sC (sC (sC sR))))), ⟨rfl, (FLe.trans leG1 le1), (hs3), (by dsimp only; rw [hos, plainGo_take (by omega), plainGo_other (by intro e; have e1 := congrArg List.length e; have e2 := congrArg (fun l => l.getD 0 0) e; simp only [List.length_singleton, List.getD_cons_zero] at e1 e2; omega)]), (by (try dsimp only) <;> omega)⟩, (by omega)⟩
  refine XL.no (t := 20) rfl (vF h2) (XL.no (t := 20) rfl (vF h2) (XL.no (t := 20) rfl (vF h2) (XL.no (t := 20) rfl (vF h2) (XL.no (t := 20) rfl (vF h2) (XL.no (t := 20) rfl (vF h2) (cX (XOp.pickF (.bool (false)) (vF h2) rfl (XL.nil (X.condF rfl (X.skip (X.region ?_)))))))))))
  refine cX (XOp.fieldP (0) runUnderlying57 rfl sizeOf42 (by decide) rfl rfl (cX (XOp.load1 isAgg42 rfl (Rd.own [_] rfl rfl) (XL.mv (v1) rfl (cX (XOp.buildSlice (s := 1) [v1] [(.slice none 0 0)] [(0, [v1])] runUnderlying42 sizeOf24 zeroValue24 rfl (by decide) rfl (.cons (cells_one (IntsF.isSl hf1)) CellsAre.nil) rfl ?_))))))
  intro v7 hv4
  refine cX (XOp.append (m := 1) (bytes := 24) (cs := cs1) [_] _ [v1] runUnderlying42 typeInfo24 rfl rfl rfl rfl rfl rfl rfl (SlV.own [] rfl) rfl (Rd.lit [] rfl) (ones_cons (one_sl (IntsF.isSl hf1)) ones_nil) (by (try simp only [List.length_append, List.length_nil, List.length_cons, List.length_singleton]); omega) (by (try simp only [List.length_append, List.length_nil, List.length_cons, List.length_singleton]); omega) ?_)
  intro v8 hs4 hn3 hm3
  have hc4 := RowsC.snoc hc1 hf1
  refine cX (XOp.fieldP (0) runUnderlying57 rfl sizeOf42 (by decide) rfl rfl (cX (XOp.store1 [_, _] _ [v8] sizeOf42 rfl rfl (one_sl hs4) rfl rfl rfl (XL.nil (X.region (XL.mv (.int .i64 ((k : Int))) rfl (cX (XOp.addR (((k + 1 : Nat) : Int)) rfl rfl (by omega) (by omega) (XL.as (.int .i64 (((k + 1 : Nat) : Int))) rfl (XL.nil ?_))))))))))
  exact ⟨(k + 1, v8, os ++ [(lk s (-1 - (k : Int)))], F1), _, (FLe.trans leG1 le1), rF, ⟨rfl, rfl, rfl, rfl, trivial⟩, (sD (coH.close hc4 (by first | rfl | simp) (sC (sC (sC sR))))), ⟨rfl, (FLe.trans leG1 le1), (hs4), (by dsimp only; rw [hos, plainGo_take (by omega), plainGo_other (by intro e; have e1 := congrArg List.length e; have e2 := congrArg (fun l => l.getD 0 0) e; simp only [List.length_singleton, List.getD_cons_zero] at e1 e2; omega)]), (by (try dsimp only) <;> omega)⟩, (by omega)⟩
 refine X.exit (thenQ_exit (thenQ_exit (blockQ_exit (X.seq (X.block (X.loop (α := Value × RowL × FH) (fun xQ => [(2, ptr b2 0), (3, ptr b3 0)]) (fun xQ => rowsH 24 xQ.2.2 xQ.1 xQ.2.1 :: cellsH b3 [xQ.1] 57 :: cellsH b2 [(.slice none 0 0)] 57 :: cellsH b1 [sv] 57 :: L) (fun xQ F' => xQ.2.2 = F' ∧ G1 ≤ xQ.2.2 ∧ (IsSl xQ.1) ∧ (trim xQ.2.1 = plainL s) ∧ (xQ.2.1.length ≤ 24)) (fun xQ => xQ.2.1.length) (ov, os, G1) ⟨rfl, rfl, trivial⟩ (coH.close hc1 (by first | rfl | simp) (sC (sC (sC sR)))) ⟨rfl, FLe.refl _, (hov), (by dsimp only; rw [hos, plainL, List.take_of_length_le (by rw [plainGo_length]; omega)]), (by dsimp only; rw [hos, List.length_take, plainGo_length]; omega)⟩ ?_))))))
 rintro ⟨ov2, os2, G2⟩ rE _ _ ⟨rfl, leG, hov2, hos2, hl2⟩
 show X _ _ _ _ (envs [(2, ptr b2 0), (3, ptr b3 0)] rE) _ (rowsH 24 G2 ov2 os2 :: cellsH b3 [ov2] 57 :: cellsH b2 [(.slice none 0 0)] 57 :: cellsH b1 [sv] 57 :: L)
 replace leG : G1 ≤ G2 := leG
 dsimp only at hov2 hos2 hl2
 have leG2 := leG
 refine X.open [] rfl (fun cs2 hc5 => ?_)
 replace hc5 : RowsC G2 cs2 os2 := hc5
 refine X.seq (X.seq (X.region (cX (XOp.fieldP (0) runUnderlying57 rfl sizeOf42 (by decide) rfl rfl (cX (XOp.load1 isAgg42 rfl (Rd.own [_] rfl rfl) (cX (XOp.lenS runUnderlying42 rfl (SlV.own [] rfl) (cX (XOp.gtr rfl rfl (XL.mv (.bool (decide (((os2.length : Int) : Int) > 0))) rfl ?_)))))))))))
 by_cases h4 : ((os2.length : Int) : Int) > 0
 ·refine XL.yes (t := 39) rfl (vT h4) (XOp.fieldP (0) runUnderlying57 rfl sizeOf42 (by decide) rfl rfl (XL.yes (t := 39) rfl (vT h4) (XOp.load1 isAgg42 rfl (Rd.own [_] rfl rfl) (XL.yes (t := 39) rfl (vT h4) (XOp.fieldP (0) runUnderlying57 rfl sizeOf42 (by decide) rfl rfl (XL.yes (t := 39) rfl (vT h4) (XOp.load1 isAgg42 rfl (Rd.own [_] rfl rfl) (XL.yes (t := 39) rfl (vT h4) (XOp.lenS runUnderlying42 rfl (SlV.own [] rfl) (XL.yes (t := 39) rfl (vT h4) (XOp.subR (((os2.length - 1 : Nat) : Int)) rfl rfl (by omega) (by omega) (XL.yes (t := 39) rfl (vT h4) (XOp.indexS (os2.length - 1) runUnderlying42 sizeOf24 rfl rfl rfl (SlV.own [] rfl) (by omega) (Nat.mul_one _) ?_)))))))))))))
  obtain ⟨a1, ha1, he1⟩ := hc5.get (i := os2.length - 1) (by omega)
  refine XL.yes (t := 39) rfl (vT h4) (XOp.load1 isAgg24 rfl (Rd.sl [] rfl he1) (XL.yes (t := 39) rfl (vT h4) (XOp.lenS runUnderlying24 rfl ha1.slv (XL.yes (t := 39) rfl (vT h4) (XOp.eql rfl rfl (cX (XOp.pickT (.bool (decide ((((((os2.getD (os2.length - 1) [])).length : Nat) : Int) : Int) = 0))) (vT h4) rfl (XL.nil ?_))))))))
  refine X.condD (p := (((((os2.getD (os2.length - 1) [])).length : Nat) : Int) : Int) = 0) rfl (fun h5 => ?_) (fun h5 => ?_)
  ·refine X.skip (X.block (X.region (cX (XOp.fieldP (0) runUnderlying57 rfl sizeOf42 (by decide) rfl rfl (cX (XOp.load1 isAgg42 rfl (Rd.own [_] rfl rfl) (cX (XOp.fieldP (0) runUnderlying57 rfl sizeOf42 (by decide) rfl rfl (cX (XOp.load1 isAgg42 rfl (Rd.own [_] rfl rfl) (cX (XOp.lenS runUnderlying42 rfl (SlV.own [] rfl) (cX (XOp.subR (((os2.length - 1 : Nat) : Int)) rfl rfl (by omega) (by omega) (cX (XOp.sliceOwn (cs := cs2) [] _ (os2.length - 1) runUnderlying42 sizeOf24 rfl rfl ⟨_, rfl⟩ (by omega) ?_))))))))))))))))
   intro v9 hs5
   have hc6 : RowsC G2 _ _ := CO.take hc5 (k := os2.length - 1) (by omega)
   refine cX (XOp.fieldP (0) runUnderlying57 rfl sizeOf42 (by decide) rfl rfl (cX (XOp.store1 [_] _ [v9] sizeOf42 rfl rfl (one_sl hs5) rfl rfl rfl (XL.nil ?_))))
   exact ⟨(v9, (os2.take (os2.length - 1)), G2), _, leG2, rF, ⟨rfl, rfl, trivial⟩, (coH.close hc6 (by first | rfl | simp) (sC (sC (sC sR)))), ⟨rfl, leG2, (hs5), (by dsimp only; rw [trim_cut (by omega) (List.eq_nil_of_length_eq_zero (by omega))]; exact hos2), (by dsimp only; rw [List.length_take]; omega)⟩, (by dsimp only; rw [List.length_take]; omega)⟩
  refine X.exit (thenQ_exit (thenQ_exit (blockQ_exit (X.seq (X.region (cX (XOp.loadN [ov2] isAgg57 sizeOf57 rfl rfl (Rd.ownN [_] rfl rfl) (cX (XOp.storeN [_, _] _ [ov2] sizeOf57 rfl rfl rfl (ones_cons (one_sl hov2) ones_nil) rfl rfl rfl (XL.nil (X.freezeF [] _ _ rfl (fun F3 le3 hz3 => ?_))))))))))))
  replace hc5 := hc5.mono le3
  have hf3 : RowsF F3 ov2 os2 := CO.fz hc5 (by first | rfl | omega | (rw [List.length_set]; omega) | (simp; done)) hz3.fz
  refine X.ret (retEnd (L' := L) [.agg #[ov2]] (.agg #[ov2]) (.cell rfl (loadNV [ov2] isAgg57 sizeOf57 rfl (Rd.ownN [_] rfl rfl)) .nil) rfl (FLe.trans (FLe.trans leG1 leG2) le3) rF (sD (sD (sD sR))) ?_)
  have e : os2 = plainL s := by rw [← hos2]; exact (trim_last (fun h0 e => by have := congrArg List.length e; simp only [List.length_nil] at this; omega)).symm
  exact ⟨_, rfl, by rw [← e]; exact hf3, rfl⟩
 refine XL.no (t := 39) rfl (vF h4) (XL.no (t := 39) rfl (vF h4) (XL.no (t := 39) rfl (vF h4) (XL.no (t := 39) rfl (vF h4) (XL.no (t := 39) rfl (vF h4) (XL.no (t := 39) rfl (vF h4) (XL.no (t := 39) rfl (vF h4) (XL.no (t := 39) rfl (vF h4) (XL.no (t := 39) rfl (vF h4) (XL.no (t := 39) rfl (vF h4) ?_)))))))))
 refine cX (XOp.pickF (.bool (false)) (vF h4) rfl (XL.nil (X.condF rfl (X.exit (thenQ_exit (thenQ_exit (blockQ_exit (X.seq (X.region (cX (XOp.loadN [ov2] isAgg57 sizeOf57 rfl rfl (Rd.ownN [_] rfl rfl) (cX (XOp.storeN [_, _] _ [ov2] sizeOf57 rfl rfl rfl (ones_cons (one_sl hov2) ones_nil) rfl rfl rfl (XL.nil (X.freezeF [] _ _ rfl (fun F4 le4 hz4 => ?_))))))))))))))))
 replace hc5 := hc5.mono le4
 have hf4 : RowsF F4 ov2 os2 := CO.fz hc5 (by first | rfl | omega | (rw [List.length_set]; omega) | (simp; done)) hz4.fz
 refine X.ret (retEnd (L' := L) [.agg #[ov2]] (.agg #[ov2]) (.cell rfl (loadNV [ov2] isAgg57 sizeOf57 rfl (Rd.ownN [_] rfl rfl)) .nil) rfl (FLe.trans (FLe.trans leG1 leG2) le4) rF (sD (sD (sD sR))) ?_)
 have e : os2 = plainL s := by rw [← hos2]; exact (trim_last (fun h0 e => by have := congrArg List.length e; simp only [List.length_nil] at this; omega)).symm
 exact ⟨_, rfl, by rw [← e]; exact hf4, rfl⟩

/- spec.l4Match -/
theorem l4Match_spec {F : FH} {L : List HP} {arv : Value} {ar : List Int} (har : IntsF F arv ar) {pv : Value} {p : List Int} (hp : IntsF F pv p) {tv : Value} {t : List Int} (ht : IntsF F tv t) (ho : termOk ar t = true) (hpo : termOk ar p = true) :
    Does prog 112 [.agg #[arv], pv, tv] F (L) (fun v F' L' => ∃ (a : Value), (.tuple #[.agg #[a], .bool ((matchB ar p t).isSome)] : Value) = v ∧ (RowsF F' a (matchP ar p t)) ∧ L = L') := by
 refine Does.of_X func112 rfl rfl rfl ?_
 have hpl := termOk_len hpo
 have hpg := fun k (hk : k < p.length) => termOk_ge hpo hk
 have htl := termOk_len ho
 have hsl := sigOk_spec (termOk_sig ho)
 refine X.seq (X.region (cX (XOp.box [arv] rfl rfl ?_)))
 intro b1
 refine cX (XOp.alloc [(.slice none 0 0)] zeroValue57 rfl ?_)
 intro b2
 refine XL.as (.bool (false)) rfl (XL.nil (X.seq (X.region (cX (XOp.makeSlice (n := 24) (bytes := 24) [(.slice none 0 0)] runUnderlying42 sizeOf24 typeInfo24 rfl zeroValue24 rfl rfl rfl rfl (by omega) (by omega) ?_)))))
 intro v1 hv1
 rw [nils]
 have hc1 : RowsC F _ _ := RowsC.nils 24
 refine cX (XOp.build [v1] [(.slice none 0 0)] [(0, 1)] [(0, [v1])] runUnderlying57 zeroValue57 rfl (.cons rfl sizeOf42 PlacesAre.nil) rfl (.cons (cells_one (isSl_lit hv1)) CellsAre.nil) (cX (XOp.alloc [(.slice none 0 0)] zeroValue57 rfl ?_)))
 intro b3
 refine cX (XOp.storeN [] _ [v1] sizeOf57 rfl rfl rfl (ones_cons (one_sl (isSl_lit hv1)) ones_nil) rfl rfl rfl (XL.nil (X.seq (X.region (XL.as (.int .i64 (0)) rfl (XL.nil (X.seq (X.seq (X.region (XL.as (.int .i64 (0)) rfl (XL.nil (X.block (X.loop (α := Nat × Nat × RowL × FH) (fun xQ => [(1, pv), (2, tv), (3, ptr b1 0), (6, ptr b2 0), (8, ptr b3 0), (9, .int .i64 (((xQ.2.1 : Nat) : Int))), (10, .int .i64 (((xQ.1 : Nat) : Int)))]) (fun xQ => cellsH b3 [v1] 57 :: rowsH 24 xQ.2.2.2 v1 xQ.2.2.1 :: cellsH b2 [(.slice none 0 0)] 57 :: cellsH b1 [arv] 26 :: L) (fun xQ F' => xQ.2.2.2 = F' ∧ F ≤ xQ.2.2.2 ∧ (xQ.2.2.1.length = 24) ∧ (xQ.1 ≤ p.length) ∧ (xQ.2.1 ≤ t.length) ∧ (matchB ar p t = mGo ar t (p.drop xQ.1) xQ.2.1 xQ.2.2.1)) (fun xQ => p.length - xQ.1) (0, 0, (List.replicate 24 [] : List (List Int)), F) ⟨rfl, rfl, rfl, rfl, rfl, rfl, rfl, trivial⟩ (sC (coH.close hc1 (by first | rfl | simp) (sC (sC sR)))) ⟨rfl, FLe.refl _, (by simp), (by (try dsimp only) <;> omega), (by (try dsimp only) <;> omega), (rfl)⟩ ?_)))))))))))))
 rintro ⟨k, i, bl, G1⟩ rE _ _ ⟨rfl, leG, hbl, hk, hi, hm⟩
 show X _ _ _ _ (envs [(1, pv), (2, tv), (3, ptr b1 0), (6, ptr b2 0), (8, ptr b3 0), (9, .int .i64 ((i : Int))), (10, .int .i64 ((k : Int)))] rE) _ (cellsH b3 [v1] 57 :: rowsH 24 G1 v1 bl :: cellsH b2 [(.slice none 0 0)] 57 :: cellsH b1 [arv] 26 :: L)
 replace leG : F ≤ G1 := leG
 dsimp only at hbl hk hi hm
 have hpk := hpg k
 have hsl2 := fun h => sub_length (p := i) ho h
 have hee := fun h => endN_spec (p := i) ho h
 have leG1 := leG
 replace har := har.mono leG1
 replace hp := hp.mono leG1
 replace ht := ht.mono leG1
 refine X.open [_] rfl (fun cs1 hc2 => ?_)
 replace hc2 : RowsC G1 cs1 bl := hc2
 refine X.seq (X.seq (X.region (XL.mv (.int .i64 ((k : Int))) rfl (XL.mv (pv) rfl (cX (XOp.lenS runUnderlying24 rfl hp.slv (cX (XOp.lss rfl rfl (XL.nil ?_)))))))))
 refine X.condD (p := (k : Int) < (p.length : Int)) rfl (fun h1 => ?_) (fun h1 => ?_)
 ·refine X.skip (X.seq (X.block (X.seq (X.seq (X.region (XL.mv (.int .i64 ((i : Int))) rfl (XL.mv (tv) rfl (cX (XOp.lenS runUnderlying24 rfl ht.slv (cX (XOp.geq rfl rfl (XL.nil ?_))))))))))))
  refine X.condD (p := (i : Int) ≥ (t.length : Int)) rfl (fun h2 => ?_) (fun h2 => ?_)
  ·refine X.seq (X.region (cX (XOp.build [(.slice none 0 0)] [(.slice none 0 0)] [(0, 1)] [] runUnderlying57 zeroValue57 rfl (.cons rfl sizeOf42 PlacesAre.nil) rfl CellsAre.nil (cX (XOp.storeN [_, _] _ [(.slice none 0 0)] sizeOf57 rfl rfl rfl (ones_cons rfl ones_nil) rfl rfl rfl (XL.as (.bool (false)) rfl (XL.nil (X.ret (thenQ_ret (blockQ_ret (thenQ_ret (thenQ_ret (blockQ_ret (thenQ_ret (retEnd (L' := L) [.agg #[(.slice none 0 0)], .bool (false)] (.tuple #[.agg #[(.slice none 0 0)], .bool (false)]) (.cell rfl (loadNV [(.slice none 0 0)] isAgg57 sizeOf57 rfl (Rd.ownN [_, _] rfl rfl)) (.tmp rfl .nil)) rfl leG1 rF (sD (sD (sD (sD sR)))) ?_)))))))))))))))
   have hz : matchB ar p t = none := hm.trans (mGo_short (by omega) (by omega))
   exact ⟨_, by rw [hz]; rfl, by rw [matchP, hz]; exact SlOf.nilV, rfl⟩
  refine X.skip (X.seq (X.seq (X.region (XL.mv (pv) rfl (XL.mv (.int .i64 ((k : Int))) rfl (cX (XOp.indexS k runUnderlying24 sizeOf2 rfl rfl rfl hp.slv (by omega) (Nat.mul_one _) (cX (XOp.load1 isAgg2 rfl (hp.rd (by omega)) (cX (XOp.geq rfl rfl (XL.nil ?_))))))))))))
  refine X.condD (p := (p.getD k 0 : Int) ≥ 0) rfl (fun h3 => ?_) (fun h3 => ?_)
  ·refine X.seq (X.seq ?_)
   refine X.draw [cellsH b3 [v1] 57, slH 24 1 v1 ((bl).length) cs1, cellsH b2 [(.slice none 0 0)] 57, cellsH b1 [arv] 26] L 8 [[], [], [], [], [], [], [], []] [[], [], [0, 1], [2], [], [], [4, 5], [6]] (phiL [fun us v => v = pv, fun us v => v = (.int .i64 ((k : Int)) : Value), fun us v => v = (.pointer (some (elemA pv (k))) : Value), fun us v => v = (.int .i64 (p.getD k 0) : Value), fun us v => v = tv, fun us v => v = (.int .i64 ((i : Int)) : Value), fun us v => v = (.pointer (some (elemA tv (i))) : Value), fun us v => v = (.int .i64 (t.getD i 0) : Value)]) (ownL [fun us v => [], fun us v => [], fun us v => [], fun us v => [], fun us v => [], fun us v => [], fun us v => [], fun us v => []]) mixed rfl rfl (by kernel_rfl) ?_ ?_
   ·refine pC (fun vals R hpZ => ?_) ?_
    ·refine XG.op (XOp.move (pv) rfl ?_)
     exact ⟨rfl, rfl, rfl⟩
    refine pC (fun vals R hpZ => ?_) ?_
    ·refine XG.op (XOp.move (.int .i64 ((k : Int))) rfl ?_)
     exact ⟨rfl, rfl, rfl⟩
    refine pC (fun vals R hpZ => ?_) ?_
    ·rw [eS (l := [(0, pv), (1, (.int .i64 ((k : Int)) : Value))]) ⟨hpZ 0 (by decide), hpZ 1 (by decide), trivial⟩]
     refine XG.op (XOp.indexS k runUnderlying24 sizeOf2 rfl rfl rfl hp.slv (by omega) (Nat.mul_one _) ?_)
     exact ⟨rfl, rfl, rfl⟩
    refine pC (fun vals R hpZ => ?_) ?_
    ·rw [eS (l := [(2, (.pointer (some (elemA pv (k))) : Value))]) ⟨hpZ 2 (by decide), trivial⟩]
     refine XG.op (XOp.load1 isAgg2 rfl (hp.rd (by omega)) ?_)
     exact ⟨rfl, rfl, rfl⟩
    refine pC (fun vals R hpZ => ?_) ?_
    ·refine XG.op (XOp.move (tv) rfl ?_)
     exact ⟨rfl, rfl, rfl⟩
    refine pC (fun vals R hpZ => ?_) ?_
    ·refine XG.op (XOp.move (.int .i64 ((i : Int))) rfl ?_)
     exact ⟨rfl, rfl, rfl⟩
    refine pC (fun vals R hpZ => ?_) ?_
    ·rw [eS (l := [(4, tv), (5, (.int .i64 ((i : Int)) : Value))]) ⟨hpZ 4 (by decide), hpZ 5 (by decide), trivial⟩]
     refine XG.op (XOp.indexS i runUnderlying24 sizeOf2 rfl rfl rfl ht.slv (by omega) (Nat.mul_one _) ?_)
     exact ⟨rfl, rfl, rfl⟩
    refine pC (fun vals R hpZ => ?_) ?_
    ·rw [eS (l := [(6, (.pointer (some (elemA tv (i))) : Value))]) ⟨hpZ 6 (by decide), trivial⟩]
     refine XG.op (XOp.load1 isAgg2 rfl (ht.rd (by omega)) ?_)
     exact ⟨rfl, rfl, rfl⟩
    exact stepsP.nil
   intro vals hphi
   rw [eS (l := [(3, (.int .i64 (p.getD k 0) : Value)), (7, (.int .i64 (t.getD i 0) : Value))]) ⟨(hphi 3 (by decide)), (hphi 7 (by decide)), trivial⟩]
   show XL _ _ _ _ _ _ _ (cellsH b3 [v1] 57 :: slH 24 1 v1 ((bl).length) cs1 :: cellsH b2 [(.slice none 0 0)] 57 :: cellsH b1 [arv] 26 :: L)
   refine cX (XOp.neq rfl rfl (XL.nil ?_))
   refine X.condD (p := (p.getD k 0 : Int) ≠ t.getD i 0) rfl (fun h4 => ?_) (fun h4 => ?_)
   ·refine X.seq (X.region (cX (XOp.build [(.slice none 0 0)] [(.slice none 0 0)] [(0, 1)] [] runUnderlying57 zeroValue57 rfl (.cons rfl sizeOf42 PlacesAre.nil) rfl CellsAre.nil (cX (XOp.storeN [_, _] _ [(.slice none 0 0)] sizeOf57 rfl rfl rfl (ones_cons rfl ones_nil) rfl rfl rfl (XL.as (.bool (false)) rfl (XL.nil (X.ret (thenQ_ret (thenQ_ret (blockQ_ret (thenQ_ret (thenQ_ret (blockQ_ret (thenQ_ret (retEnd (L' := L) [.agg #[(.slice none 0 0)], .bool (false)] (.tuple #[.agg #[(.slice none 0 0)], .bool (false)]) (.cell rfl (loadNV [(.slice none 0 0)] isAgg57 sizeOf57 rfl (Rd.ownN [_, _] rfl rfl)) (.tmp rfl .nil)) rfl leG1 rF (sD (sD (sD (sD sR)))) ?_))))))))))))))))
    have hz : matchB ar p t = none := hm.trans (mGo_ne (by omega) (by omega) (by omega) (by omega))
    exact ⟨_, by rw [hz]; rfl, by rw [matchP, hz]; exact SlOf.nilV, rfl⟩
   refine X.skip (X.seq (X.region (XL.mv (.int .i64 ((i : Int))) rfl (cX (XOp.addR (((i + 1 : Nat) : Int)) rfl rfl (by omega) (by omega) (XL.as (.int .i64 (((i + 1 : Nat) : Int))) rfl (XL.nil (X.exit (thenQ_exit (blockQ_exit (X.region (XL.mv (.int .i64 ((k : Int))) rfl (cX (XOp.addR (((k + 1 : Nat) : Int)) rfl rfl (by omega) (by omega) (XL.as (.int .i64 (((k + 1 : Nat) : Int))) rfl ?_)))))))))))))))
   refine XL.nil ?_
   exact ⟨(k + 1, i + 1, bl, G1), _, leG1, rF, ⟨rfl, rfl, rfl, rfl, rfl, rfl, rfl, trivial⟩, (sC (coH.close hc2 (by first | rfl | simp) (sC (sC sR)))), ⟨rfl, leG1, (by (try dsimp only); (try simp only [List.length_set]) <;> omega), (by (try dsimp only) <;> omega), (by (try dsimp only) <;> omega), (hm.trans (mGo_sym (by omega) (by omega) (by omega) (by omega)))⟩, (by omega)⟩
  refine X.skip (X.seq (X.region (cX (XOp.loadN [arv] isAgg26 sizeOf26 rfl rfl (Rd.ownN [_, _, _] rfl rfl) (XL.mv (tv) rfl (XL.mv (.int .i64 ((i : Int))) rfl (cX (XOp.frzF <| XOp.call (args := [.agg #[arv], tv, .int .i64 (i : Int)]) call111 rfl (l1Sub_spec (p := i) har ht (ho := (by first | assumption | rfl | omega | simp)) (hp := (by first | assumption | rfl | omega | simp))) ?_))))))))
  rintro v2 _ _ _ ⟨rfl, hs1, rfl⟩
  refine ⟨_, _, rfl, fun F1 le1 hz1 => ?_⟩
  replace hp := hp.mono le1
  replace hc2 := hc2.mono le1
  have hf1 : IntsF F1 v2 ((sub ar t i)) := intsH.fz (xs := (sub ar t i)) hz1.fz
  refine XL.as (v2) rfl (XL.nil (X.seq ?_))
  refine X.draw [cellsH b3 [v1] 57, slH 24 1 v1 ((bl).length) cs1, cellsH b2 [(.slice none 0 0)] 57, cellsH b1 [arv] 26] L 7 [[], [], [], [], [], [], []] [[], [0], [], [], [2, 3], [4], [5]] (phiL [fun us v => v = ptr b3 0, fun us v => v = v1, fun us v => v = pv, fun us v => v = (.int .i64 ((k : Int)) : Value), fun us v => v = (.pointer (some (elemA pv (k))) : Value), fun us v => v = (.int .i64 (p.getD k 0) : Value), fun us v => v = (.int .i64 ((-1) - (p.getD k 0)) : Value)]) (ownL [fun us v => [], fun us v => [], fun us v => [], fun us v => [], fun us v => [], fun us v => [], fun us v => []]) mixed rfl rfl (by kernel_rfl) ?_ ?_
  ·refine pC (fun vals R hpZ => ?_) ?_
   ·refine XG.op (XOp.fieldP (0) runUnderlying57 rfl sizeOf42 (by decide) rfl rfl ?_)
    exact ⟨rfl, rfl, rfl⟩
   refine pC (fun vals R hpZ => ?_) ?_
   ·rw [eS (l := [(0, ptr b3 0)]) ⟨hpZ 0 (by decide), trivial⟩]
    refine XG.op (XOp.load1 isAgg42 rfl (Rd.own [] rfl rfl) ?_)
    exact ⟨rfl, rfl, rfl⟩
   refine pC (fun vals R hpZ => ?_) ?_
   ·refine XG.op (XOp.move (pv) rfl ?_)
    exact ⟨rfl, rfl, rfl⟩
   refine pC (fun vals R hpZ => ?_) ?_
   ·refine XG.op (XOp.move (.int .i64 ((k : Int))) rfl ?_)
    exact ⟨rfl, rfl, rfl⟩
   refine pC (fun vals R hpZ => ?_) ?_
   ·rw [eS (l := [(2, pv), (3, (.int .i64 ((k : Int)) : Value))]) ⟨hpZ 2 (by decide), hpZ 3 (by decide), trivial⟩]
    refine XG.op (XOp.indexS k runUnderlying24 sizeOf2 rfl rfl rfl hp.slv (by omega) (Nat.mul_one _) ?_)
    exact ⟨rfl, rfl, rfl⟩
   refine pC (fun vals R hpZ => ?_) ?_
   ·rw [eS (l := [(4, (.pointer (some (elemA pv (k))) : Value))]) ⟨hpZ 4 (by decide), trivial⟩]
    refine XG.op (XOp.load1 isAgg2 rfl (hp.rd (by omega)) ?_)
    exact ⟨rfl, rfl, rfl⟩
   refine pC (fun vals R hpZ => ?_) ?_
   ·rw [eS (l := [(5, (.int .i64 (p.getD k 0) : Value))]) ⟨hpZ 5 (by decide), trivial⟩]
    refine XG.op (XOp.subR ((-1) - (p.getD k 0)) rfl rfl (by omega) (by omega) ?_)
    exact ⟨rfl, rfl, rfl⟩
   exact stepsP.nil
  intro vals hphi
  rw [eS (l := [(1, v1), (6, (.int .i64 ((-1) - (p.getD k 0)) : Value))]) ⟨(hphi 1 (by decide)), (hphi 6 (by decide)), trivial⟩]
  show XL _ _ _ _ _ _ _ (cellsH b3 [v1] 57 :: slH 24 1 v1 ((bl).length) cs1 :: cellsH b2 [(.slice none 0 0)] 57 :: cellsH b1 [arv] 26 :: L)
  refine cX (XOp.indexS (((-1) - (p.getD k 0)).toNat) runUnderlying42 sizeOf24 rfl rfl (by omega) (SlV.own [_] rfl) (by omega) (Nat.mul_one _) ?_)
  obtain ⟨a1, ha1, he1⟩ := hc2.get (i := ((-1) - (p.getD k 0)).toNat) (by omega)
  refine cX (XOp.load1 isAgg24 rfl (Rd.sl [_] rfl he1) (XL.as (a1) rfl (XL.nil (X.seq (X.seq (X.region (XL.mv (a1) rfl (cX (XOp.lenS runUnderlying24 rfl ha1.slv (cX (XOp.gtr rfl rfl (XL.mv (.bool (decide ((((((bl.getD (((-1) - (p.getD k 0)).toNat) [])).length : Nat) : Int) : Int) > 0))) rfl ?_))))))))))))
  by_cases h5 : (((((bl.getD (((-1) - (p.getD k 0)).toNat) [])).length : Nat) : Int) : Int) > 0
  ·refine XL.yes (t := 59) rfl (vT h5) (XOp.move (a1) rfl (XL.yes (t := 59) rfl (vT h5) (XOp.move (v2) rfl (XL.yes (t := 59) rfl (vT h5) (XOp.call (args := [a1, v2]) call96 rfl (SameTerm_spec ha1 hf1 (hbd := (by first | assumption | rfl | omega | (left; simp; done) | (right; simp; done)))) ?_)))))
   rintro _ _ _ _ ⟨rfl, rfl, rfl⟩
   refine XL.yes (t := 59) rfl (vT h5) (XOp.notD rfl (cX (XOp.pickT (.bool (decide (¬(((bl.getD (((-1) - (p.getD k 0)).toNat) [])) = ((sub ar t i)))))) (vT h5) rfl (XL.nil ?_))))
   refine X.condD (p := ¬(((bl.getD (((-1) - (p.getD k 0)).toNat) [])) = ((sub ar t i)))) rfl (fun h6 => ?_) (fun h6 => ?_)
   ·refine X.seq (X.region (cX (XOp.build [(.slice none 0 0)] [(.slice none 0 0)] [(0, 1)] [] runUnderlying57 zeroValue57 rfl (.cons rfl sizeOf42 PlacesAre.nil) rfl CellsAre.nil (cX (XOp.storeN [_, _] _ [(.slice none 0 0)] sizeOf57 rfl rfl rfl (ones_cons rfl ones_nil) rfl rfl rfl (XL.as (.bool (false)) rfl (XL.nil (X.ret (thenQ_ret (blockQ_ret (thenQ_ret (thenQ_ret (blockQ_ret (thenQ_ret (retEnd (L' := L) [.agg #[(.slice none 0 0)], .bool (false)] (.tuple #[.agg #[(.slice none 0 0)], .bool (false)]) (.cell rfl (loadNV [(.slice none 0 0)] isAgg57 sizeOf57 rfl (Rd.ownN [_, _] rfl rfl)) (.tmp rfl .nil)) rfl (FLe.trans leG1 le1) rF (sD (sD (sD (sD sR)))) ?_)))))))))))))))
    have hz : matchB ar p t = none := hm.trans (mGo_clash (by omega) (by omega) (by omega) (by intro e; have := congrArg List.length (show bl.getD (-1 - p.getD k 0).toNat [] = [] from e); simp only [List.length_nil] at this; omega) (by assumption))
    exact ⟨_, by rw [hz]; rfl, by rw [matchP, hz]; exact SlOf.nilV, rfl⟩
   refine X.skip (X.seq ?_)
   refine X.draw [cellsH b3 [v1] 57, slH 24 1 v1 ((bl).length) cs1, cellsH b2 [(.slice none 0 0)] 57, cellsH b1 [arv] 26] L 8 [[], [], [], [], [], [], [], []] [[], [0], [], [], [2, 3], [4], [5], []] (phiL [fun us v => v = ptr b3 0, fun us v => v = v1, fun us v => v = pv, fun us v => v = (.int .i64 ((k : Int)) : Value), fun us v => v = (.pointer (some (elemA pv (k))) : Value), fun us v => v = (.int .i64 (p.getD k 0) : Value), fun us v => v = (.int .i64 ((-1) - (p.getD k 0)) : Value), fun us v => v = v2]) (ownL [fun us v => [], fun us v => [], fun us v => [], fun us v => [], fun us v => [], fun us v => [], fun us v => [], fun us v => []]) mixed rfl rfl (by kernel_rfl) ?_ ?_
   ·refine pC (fun vals R hpZ => ?_) ?_
    ·refine XG.op (XOp.fieldP (0) runUnderlying57 rfl sizeOf42 (by decide) rfl rfl ?_)
     exact ⟨rfl, rfl, rfl⟩
    refine pC (fun vals R hpZ => ?_) ?_
    ·rw [eS (l := [(0, ptr b3 0)]) ⟨hpZ 0 (by decide), trivial⟩]
     refine XG.op (XOp.load1 isAgg42 rfl (Rd.own [] rfl rfl) ?_)
     exact ⟨rfl, rfl, rfl⟩
    refine pC (fun vals R hpZ => ?_) ?_
    ·refine XG.op (XOp.move (pv) rfl ?_)
     exact ⟨rfl, rfl, rfl⟩
    refine pC (fun vals R hpZ => ?_) ?_
    ·refine XG.op (XOp.move (.int .i64 ((k : Int))) rfl ?_)
     exact ⟨rfl, rfl, rfl⟩
    refine pC (fun vals R hpZ => ?_) ?_
    ·rw [eS (l := [(2, pv), (3, (.int .i64 ((k : Int)) : Value))]) ⟨hpZ 2 (by decide), hpZ 3 (by decide), trivial⟩]
     refine XG.op (XOp.indexS k runUnderlying24 sizeOf2 rfl rfl rfl hp.slv (by omega) (Nat.mul_one _) ?_)
     exact ⟨rfl, rfl, rfl⟩
    refine pC (fun vals R hpZ => ?_) ?_
    ·rw [eS (l := [(4, (.pointer (some (elemA pv (k))) : Value))]) ⟨hpZ 4 (by decide), trivial⟩]
     refine XG.op (XOp.load1 isAgg2 rfl (hp.rd (by omega)) ?_)
     exact ⟨rfl, rfl, rfl⟩
    refine pC (fun vals R hpZ => ?_) ?_
    ·rw [eS (l := [(5, (.int .i64 (p.getD k 0) : Value))]) ⟨hpZ 5 (by decide), trivial⟩]
     refine XG.op (XOp.subR ((-1) - (p.getD k 0)) rfl rfl (by omega) (by omega) ?_)
     exact ⟨rfl, rfl, rfl⟩
    refine pC (fun vals R hpZ => ?_) ?_
    ·refine XG.op (XOp.move (v2) rfl ?_)
     exact ⟨rfl, rfl, rfl⟩
    exact stepsP.nil
   intro vals hphi
   rw [eS (l := [(1, v1), (6, (.int .i64 ((-1) - (p.getD k 0)) : Value)), (7, v2)]) ⟨(hphi 1 (by decide)), (hphi 6 (by decide)), (hphi 7 (by decide)), trivial⟩]
   show XL _ _ _ _ _ _ _ (cellsH b3 [v1] 57 :: slH 24 1 v1 ((bl).length) cs1 :: cellsH b2 [(.slice none 0 0)] 57 :: cellsH b1 [arv] 26 :: L)
   refine cX (XOp.indexS (((-1) - (p.getD k 0)).toNat) runUnderlying42 sizeOf24 rfl rfl (by omega) (SlV.own [_] rfl) (by omega) (Nat.mul_one _) (cX (XOp.storeS (i := ((-1) - (p.getD k 0)).toNat) (cs := cs1) [_] _ sizeOf24 rfl rfl (one_sl (IntsF.isSl hf1)) rfl (by have h9 := CO.len hc2; (try simp only [List.length_set, List.length_replicate] at h9 ⊢) <;> omega) ?_)))
   have hc3 := hc2.set (((-1) - (p.getD k 0)).toNat) hf1
   refine XL.nil (X.region (XL.mv (.int .i64 ((i : Int))) rfl (XL.mv (v2) rfl (cX (XOp.lenS runUnderlying24 rfl hf1.slv (cX (XOp.addR (((i + (((sub ar t i)).length) : Nat) : Int)) rfl rfl (by omega) (by omega) (XL.as (.int .i64 (((i + (((sub ar t i)).length) : Nat) : Int))) rfl (XL.nil (X.region (XL.mv (.int .i64 ((k : Int))) rfl (cX (XOp.addR (((k + 1 : Nat) : Int)) rfl rfl (by omega) (by omega) (XL.as (.int .i64 (((k + 1 : Nat) : Int))) rfl ?_))))))))))))))
   refine XL.nil ?_
   exact ⟨(k + 1, i + (((sub ar t i)).length), (bl.set (((-1) - (p.getD k 0)).toNat) ((sub ar t i))), F1), _, (FLe.trans leG1 le1), rF, ⟨rfl, rfl, rfl, rfl, rfl, rfl, rfl, trivial⟩, (sC (coH.close hc3 (by first | rfl | simp) (sC (sC sR)))), ⟨rfl, (FLe.trans leG1 le1), (by (try dsimp only); (try simp only [List.length_set]) <;> omega), (by (try dsimp only) <;> omega), (by (try dsimp only) <;> omega), (hm.trans (m4_next (by omega) (by omega) (by omega) (by first | (left; exact List.eq_nil_of_length_eq_zero (show (bl.getD (-1 - p.getD k 0).toNat []).length = 0 by omega)) | (right; first | assumption | exact Classical.not_not.1 (by assumption)))))⟩, (by omega)⟩
  refine XL.no (t := 59) rfl (vF h5) (XL.no (t := 59) rfl (vF h5) (XL.no (t := 59) rfl (vF h5) (XL.no (t := 59) rfl (vF h5) (cX (XOp.pickF (.bool (false)) (vF h5) rfl (XL.nil (X.condF rfl (X.skip (X.seq ?_)))))))))
  refine X.draw [cellsH b3 [v1] 57, slH 24 1 v1 ((bl).length) cs1, cellsH b2 [(.slice none 0 0)] 57, cellsH b1 [arv] 26] L 8 [[], [], [], [], [], [], [], []] [[], [0], [], [], [2, 3], [4], [5], []] (phiL [fun us v => v = ptr b3 0, fun us v => v = v1, fun us v => v = pv, fun us v => v = (.int .i64 ((k : Int)) : Value), fun us v => v = (.pointer (some (elemA pv (k))) : Value), fun us v => v = (.int .i64 (p.getD k 0) : Value), fun us v => v = (.int .i64 ((-1) - (p.getD k 0)) : Value), fun us v => v = v2]) (ownL [fun us v => [], fun us v => [], fun us v => [], fun us v => [], fun us v => [], fun us v => [], fun us v => [], fun us v => []]) mixed rfl rfl (by kernel_rfl) ?_ ?_
  ·refine pC (fun vals R hpZ => ?_) ?_
   ·refine XG.op (XOp.fieldP (0) runUnderlying57 rfl sizeOf42 (by decide) rfl rfl ?_)
    exact ⟨rfl, rfl, rfl⟩
   refine pC (fun vals R hpZ => ?_) ?_
   ·rw [eS (l := [(0, ptr b3 0)]) ⟨hpZ 0 (by decide), trivial⟩]
    refine XG.op (XOp.load1 isAgg42 rfl (Rd.own [] rfl rfl) ?_)
    exact ⟨rfl, rfl, rfl⟩
   refine pC (fun vals R hpZ => ?_) ?_
   ·refine XG.op (XOp.move (pv) rfl ?_)
    exact ⟨rfl, rfl, rfl⟩
   refine pC (fun vals R hpZ => ?_) ?_
   ·refine XG.op (XOp.move (.int .i64 ((k : Int))) rfl ?_)
    exact ⟨rfl, rfl, rfl⟩
   refine pC (fun vals R hpZ => ?_) ?_
   ·rw [eS (l := [(2, pv), (3, (.int .i64 ((k : Int)) : Value))]) ⟨hpZ 2 (by decide), hpZ 3 (by decide), trivial⟩]
    refine XG.op (XOp.indexS k runUnderlying24 sizeOf2 rfl rfl rfl hp.slv (by omega) (Nat.mul_one _) ?_)
    exact ⟨rfl, rfl, rfl⟩
   refine pC (fun vals R hpZ => ?_) ?_
   ·rw [eS (l := [(4, (.pointer (some (elemA pv (k))) : Value))]) ⟨hpZ 4 (by decide), trivial⟩]
    refine XG.op (XOp.load1 isAgg2 rfl (hp.rd (by omega)) ?_)
    exact ⟨rfl, rfl, rfl⟩
   refine pC (fun vals R hpZ => ?_) ?_
   ·rw [eS (l := [(5, (.int .i64 (p.getD k 0) : Value))]) ⟨hpZ 5 (by decide), trivial⟩]
    refine XG.op (XOp.subR ((-1) - (p.getD k 0)) rfl rfl (by omega) (by omega) ?_)
    exact ⟨rfl, rfl, rfl⟩
   refine pC (fun vals R hpZ => ?_) ?_
   ·refine XG.op (XOp.move (v2) rfl ?_)
    exact ⟨rfl, rfl, rfl⟩
   exact stepsP.nil
  intro vals hphi
  rw [eS (l := [(1, v1), (6, (.int .i64 ((-1) - (p.getD k 0)) : Value)), (7, v2)]) ⟨(hphi 1 (by decide)), (hphi 6 (by decide)), (hphi 7 (by decide)), trivial⟩]
  show XL _ _ _ _ _ _ _ (cellsH b3 [v1] 57 :: slH 24 1 v1 ((bl).length) cs1 :: cellsH b2 [(.slice none 0 0)] 57 :: cellsH b1 [arv] 26 :: L)
  refine cX (XOp.indexS (((-1) - (p.getD k 0)).toNat) runUnderlying42 sizeOf24 rfl rfl (by omega) (SlV.own [_] rfl) (by omega) (Nat.mul_one _) (cX (XOp.storeS (i := ((-1) - (p.getD k 0)).toNat) (cs := cs1) [_] _ sizeOf24 rfl rfl (one_sl (IntsF.isSl hf1)) rfl (by have h9 := CO.len hc2; (try simp only [List.length_set, List.length_replicate] at h9 ⊢) <;> omega) ?_)))
  have hc4 := hc2.set (((-1) - (p.getD k 0)).toNat) hf1
  refine XL.nil (X.region (XL.mv (.int .i64 ((i : Int))) rfl (XL.mv (v2) rfl (cX (XOp.lenS runUnderlying24 rfl hf1.slv (cX (XOp.addR (((i + (((sub ar t i)).length) : Nat) : Int)) rfl rfl (by omega) (by omega) (XL.as (.int .i64 (((i + (((sub ar t i)).length) : Nat) : Int))) rfl (XL.nil (X.region (XL.mv (.int .i64 ((k : Int))) rfl (cX (XOp.addR (((k + 1 : Nat) : Int)) rfl rfl (by omega) (by omega) (XL.as (.int .i64 (((k + 1 : Nat) : Int))) rfl ?_))))))))))))))
  refine XL.nil ?_
  exact ⟨(k + 1, i + (((sub ar t i)).length), (bl.set (((-1) - (p.getD k 0)).toNat) ((sub ar t i))), F1), _, (FLe.trans leG1 le1), rF, ⟨rfl, rfl, rfl, rfl, rfl, rfl, rfl, trivial⟩, (sC (coH.close hc4 (by first | rfl | simp) (sC (sC sR)))), ⟨rfl, (FLe.trans leG1 le1), (by (try dsimp only); (try simp only [List.length_set]) <;> omega), (by (try dsimp only) <;> omega), (by (try dsimp only) <;> omega), (hm.trans (m4_next (by omega) (by omega) (by omega) (by first | (left; exact List.eq_nil_of_length_eq_zero (show (bl.getD (-1 - p.getD k 0).toNat []).length = 0 by omega)) | (right; first | assumption | exact Classical.not_not.1 (by assumption)))))⟩, (by omega)⟩
 refine X.exit (thenQ_exit (thenQ_exit (blockQ_exit (X.seq (X.region (cX (XOp.loadN [v1] isAgg57 sizeOf57 rfl rfl (Rd.ownN [] rfl rfl) ?_)))))))
 have hmb := (matchB_len (hm.trans (mGo_done (by omega)))).2
 refine XL.freezeF [_] _ _ rfl (fun F2 le2 hz2 => ?_)
 replace hc2 := hc2.mono le2
 have hf2 : RowsF F2 v1 bl := CO.fz hc2 (by first | rfl | omega | (rw [List.length_set]; omega) | (simp; done)) hz2.fz
 refine cX (XOp.call (args := [.agg #[v1]]) call149 rfl (l2Plain_spec hf2 (hsl := (by omega)) (hsb := (fun j => by have := hmb j; omega))) ?_)
 rintro _ F3 _ le3 ⟨x1, rfl, hr1, rfl⟩
 refine cX (XOp.storeN [_] _ [x1] sizeOf57 rfl rfl rfl (ones_cons (one_sl (RowsF.isSl hr1)) ones_nil) rfl rfl rfl (XL.as (.bool (true)) rfl (XL.nil (X.ret (retEnd (L' := L) [.agg #[x1], .bool (true)] (.tuple #[.agg #[x1], .bool (true)]) (.cell rfl (loadNV [x1] isAgg57 sizeOf57 rfl (Rd.ownN [_] rfl rfl)) (.tmp rfl .nil)) rfl (FLe.trans (FLe.trans leG1 le2) le3) rF (sD (sD (sD sR))) ?_)))))
 have hz : matchB ar p t = some bl := hm.trans (mGo_done (by omega))
 exact ⟨_, by rw [hz]; rfl, by rw [matchP, hz]; exact hr1, rfl⟩
end Go.Proofs.Ytmaaifhmhclhdaa
set_option linter.unusedSimpArgs false
set_option linter.unusedVariables false
namespace Go.Proofs.Ytmaaifhmhclhdaa
open Go X M Try

/- spec.l7Right -/
theorem l7Right_spec {F : FH} {L : List HP} {arv : Value} {ar : List Int} (har : IntsF F arv ar) {rsv : Value} {rs : List (List Int × List Int)} (hrs : PairsF F rsv rs) {tv : Value} {t : List Int} (ht : IntsF F tv t) (hla : ar.length ≤ 4000000) (hlr : rs.length ≤ 4000000) (hrb : ∀ i, i < rs.length → (rs.getD i ([], [])).1.length ≤ 4000000 ∧ (rs.getD i ([], [])).2.length ≤ 4000000) (hlt : t.length ≤ 4000000) :
    Does prog 57 [.agg #[arv, rsv], tv] F (L) (fun v F' L' => (.bool (rightB ar rs t) : Value) = v ∧ F = F' ∧ L = L') := by
 refine Does.of_X func57 rfl rfl rfl (X.seq (X.region (cX (XOp.box [arv, rsv] rfl rfl ?_))))
 intro b1
 refine XL.as (.bool (false)) rfl (XL.nil (X.seq (X.region (cX (XOp.loadN [arv, rsv] isAgg29 sizeOf29 rfl rfl (Rd.ownN [] rfl rfl) (cX (XOp.call (args := [.agg #[arv, rsv]]) call110 rfl (sSystemOk_spec har hrs (hla := (by first | assumption | rfl | omega | simp)) (hlr := (by first | assumption | rfl | omega | simp)) (hrb := (by first | assumption | rfl | omega | simp))) ?_)))))))
 rintro _ _ _ _ ⟨rfl, rfl, rfl⟩
 refine XL.mv (.bool (sysOk ar rs)) rfl ?_
 by_cases h1 : (sysOk ar rs) = true
 ·refine XL.yes (t := 7) rfl (vB h1) (XOp.fieldP (0) runUnderlying29 rfl sizeOf26 (by decide) rfl rfl (XL.yes (t := 7) rfl (vB h1) (XOp.loadN [arv] isAgg26 sizeOf26 rfl rfl (Rd.ownN [] rfl rfl) (XL.yes (t := 7) rfl (vB h1) (XOp.move (tv) rfl (XL.yes (t := 7) rfl (vB h1) (XOp.call (args := [.agg #[arv], tv]) call83 rfl (sTermOk_spec har ht (hla := (by first | assumption | rfl | omega | simp)) (hlt := (by first | assumption | rfl | omega | simp))) ?_)))))))
  rintro _ _ _ _ ⟨rfl, rfl, rfl⟩
  refine cX (XOp.pickT (.bool (termOk ar t)) (vB h1) rfl (XL.as (.bool (termOk ar t)) rfl (XL.nil (X.ret (retEnd (L' := L) [.bool (termOk ar t)] (.bool (termOk ar t)) (.tmp rfl .nil) rfl rF rF (sD sR) ?_)))))
  exact ⟨(vB (by rw [rightB]; simp_all)), rfl, rfl⟩
 rw [Bool.not_eq_true] at h1
 refine XL.no (t := 7) rfl (vB h1) (XL.no (t := 7) rfl (vB h1) (XL.no (t := 7) rfl (vB h1) (XL.no (t := 7) rfl (vB h1) (cX (XOp.pickF (.bool (false)) (vB h1) rfl (XL.as (.bool (false)) rfl (XL.nil (X.ret (retEnd (L' := L) [.bool (false)] (.bool (false)) (.tmp rfl .nil) rfl rF rF (sD sR) ?_)))))))))
 exact ⟨(vB (by rw [rightB]; simp_all)), rfl, rfl⟩
end Go.Proofs.Ytmaaifhmhclhdaa
set_option linter.unusedSimpArgs false
set_option linter.unusedVariables false
namespace Go.Proofs.Ytmaaifhmhclhdaa
open Go X M Try
end Go.Proofs.Ytmaaifhmhclhdaa
set_option linter.unusedSimpArgs false
set_option linter.unusedVariables false
namespace Go.Proofs.Ytmaaifhmhclhdaa
open Go X M Try

/- spec.l2Filled -/
theorem l2Filled_spec {F : FH} {L : List HP} {sv : Value} {s : List (List Int)} (hs : RowsF F sv s) {tv : Value} {t : List Int} (ht : IntsF F tv t) (hsl : s.length ≤ 4000000) (hsb : ∀ i, (s.getD i []).length ≤ 4000000) (htl : t.length ≤ 4000000) (htg : ∀ k, k < t.length → -4000000 ≤ t.getD k 0) :
    Does prog 84 [.agg #[sv], tv] F (L) (fun v F' L' => ∃ (a : Value), (.tuple #[a, .bool ((fillL s t).isSome)] : Value) = v ∧ (IntsF F' a ((fillL s t).getD [])) ∧ L = L') := by
 refine Does.of_X func84 rfl rfl rfl (X.seq (X.region (cX (XOp.box [sv] rfl rfl ?_))))
 intro b1
 refine XL.as ((.slice none 0 0)) rfl (XL.as (.bool (false)) rfl (XL.nil (X.seq (X.region (cX (XOp.buildSlice (s := 1) [] [.int .i64 (0)] [] runUnderlying24 sizeOf2 zeroValue2 rfl (by decide) rfl CellsAre.nil rfl ?_))))))
 intro v1 hv1
 refine XL.as (v1) rfl (XL.nil (X.seq (X.seq (X.region (XL.as (.int .i64 (0)) rfl (XL.nil (X.block (X.loop (α := Nat × Value × List Int) (fun xQ => [(1, tv), (2, ptr b1 0), (6, xQ.2.1), (7, .int .i64 (((xQ.1 : Nat) : Int)))]) (fun xQ => intsH 2 xQ.2.1 xQ.2.2 :: cellsH b1 [sv] 57 :: L) (fun xQ F' => F = F' ∧ (IsSl xQ.2.1) ∧ (xQ.1 ≤ t.length) ∧ (fillL s t = fillGo s (t.drop xQ.1) xQ.2.2) ∧ (xQ.2.2.length ≤ 60)) (fun xQ => t.length - xQ.1) (0, v1, []) ⟨rfl, rfl, rfl, rfl, trivial⟩ (sC (sC sR)) ⟨rfl, ((isSl_lit hv1)), (by (try dsimp only) <;> omega), (rfl), (by simp)⟩ ?_))))))))
 rintro ⟨k, ov, os⟩ rE _ _ ⟨rfl, hov, hk, hm, hol⟩
 show X _ _ _ _ (envs [(1, tv), (2, ptr b1 0), (6, ov), (7, .int .i64 ((k : Int)))] rE) _ (intsH 2 ov os :: cellsH b1 [sv] 57 :: L)
 dsimp only at hov hk hm hol
 have htk := htg k
 have hlk0 := lk_bound (N := 4000000) (by omega) hsb (-1 - (((-1 - t.getD k 0).toNat : Nat) : Int))
 refine X.seq (X.seq (X.region (XL.mv (.int .i64 ((k : Int))) rfl (XL.mv (tv) rfl (cX (XOp.lenS runUnderlying24 rfl ht.slv (cX (XOp.lss rfl rfl (XL.nil ?_)))))))))
 refine X.condD (p := (k : Int) < (t.length : Int)) rfl (fun h1 => ?_) (fun h1 => ?_)
 ·refine X.skip (X.seq (X.block (X.seq (X.seq (X.region (XL.mv (tv) rfl (XL.mv (.int .i64 ((k : Int))) rfl (cX (XOp.indexS k runUnderlying24 sizeOf2 rfl rfl rfl ht.slv (by omega) (Nat.mul_one _) (cX (XOp.load1 isAgg2 rfl (ht.rd (by omega)) (cX (XOp.lss rfl rfl (XL.nil ?_))))))))))))))
  refine X.condD (p := (t.getD k 0 : Int) < 0) rfl (fun h2 => ?_) (fun h2 => ?_)
  ·refine X.drawG [intsH 2 ov os, cellsH b1 [sv] 57] L 8 [[], [], [], [], [], [], [], []] [[], [], [], [], [2, 3], [4], [5], [1, 6]] [[], [], [], [], [], [], [], []] (phiG [fun FF us v => v = ov, fun FF us v => v = (.agg #[sv] : Value), fun FF us v => v = tv, fun FF us v => v = (.int .i64 ((k : Int)) : Value), fun FF us v => v = (.pointer (some (elemA tv (k))) : Value), fun FF us v => v = (.int .i64 (t.getD k 0) : Value), fun FF us v => v = (.int .i64 ((-1) - (t.getD k 0)) : Value), fun FF us v => ((v) : Value) = v ∧ (IntsF FF (v) (lk s (-1 - ((((-1) - (t.getD k 0)).toNat) : Int))))]) (ownL [fun us v => [], fun us v => [], fun us v => [], fun us v => [], fun us v => [], fun us v => [], fun us v => [], fun us v => []]) mixed rfl rfl (by kernel_rfl) (by kernel_rfl) (MonoG.get (mC (fun le h => h) (mC (fun le h => h) (mC (fun le h => h) (mC (fun le h => h) (mC (fun le h => h) (mC (fun le h => h) (mC (fun le h => h) (mC (fun le h => ⟨h.1, h.2.mono le⟩) MonoG.nil))))))))) ?_ ?_
   ·refine gC (fun vals Fs R leFs hpZ => ?_) ?_
    ·refine XG.op (XOp.move (ov) rfl ?_)
     exact ⟨rfl, rfl⟩
    refine gC (fun vals Fs R leFs hpZ => ?_) ?_
    ·replace hs := hs.mono leFs
     replace ht := ht.mono leFs
     refine XG.op (XOp.loadN [sv] isAgg57 sizeOf57 rfl rfl (Rd.ownN [_] rfl rfl) ?_)
     exact ⟨rfl, rfl⟩
    refine gC (fun vals Fs R leFs hpZ => ?_) ?_
    ·refine XG.op (XOp.move (tv) rfl ?_)
     exact ⟨rfl, rfl⟩
    refine gC (fun vals Fs R leFs hpZ => ?_) ?_
    ·refine XG.op (XOp.move (.int .i64 ((k : Int))) rfl ?_)
     exact ⟨rfl, rfl⟩
    refine gC (fun vals Fs R leFs hpZ => ?_) ?_
    ·replace hs := hs.mono leFs
     replace ht := ht.mono leFs
     rw [eS (l := [(2, tv), (3, (.int .i64 ((k : Int)) : Value))]) ⟨(hpZ 2 (by decide)), (hpZ 3 (by decide)), trivial⟩]
     refine XG.op (XOp.indexS k runUnderlying24 sizeOf2 rfl rfl rfl ht.slv (by omega) (Nat.mul_one _) ?_)
     exact ⟨rfl, rfl⟩
    refine gC (fun vals Fs R leFs hpZ => ?_) ?_
    ·replace hs := hs.mono leFs
     replace ht := ht.mono leFs
     rw [eS (l := [(4, (.pointer (some (elemA tv (k))) : Value))]) ⟨(hpZ 4 (by decide)), trivial⟩]
     refine XG.op (XOp.load1 isAgg2 rfl (ht.rd (by omega)) ?_)
     exact ⟨rfl, rfl⟩
    refine gC (fun vals Fs R leFs hpZ => ?_) ?_
    ·rw [eS (l := [(5, (.int .i64 (t.getD k 0) : Value))]) ⟨(hpZ 5 (by decide)), trivial⟩]
     refine XG.op (XOp.subR ((-1) - (t.getD k 0)) rfl rfl (by omega) (by omega) ?_)
     exact ⟨rfl, rfl⟩
    refine gC (fun vals Fs R leFs hpZ => ?_) ?_
    ·replace hs := hs.mono leFs
     replace ht := ht.mono leFs
     rw [eS (l := [(1, (.agg #[sv] : Value)), (6, (.int .i64 ((-1) - (t.getD k 0)) : Value))]) ⟨(hpZ 1 (by decide)), (hpZ 6 (by decide)), trivial⟩]
     refine XG.op (XOp.frzF <| XOp.call (args := [.agg #[sv], .int .i64 ((((-1) - (t.getD k 0)).toNat : Nat) : Int)]) call132 (by rw [show ((((-1) - (t.getD k 0)).toNat : Nat) : Int) = (-1) - (t.getD k 0) from by omega]; rfl) (l2Gives_spec (i := ((-1) - (t.getD k 0)).toNat) hs (hsl := (by first | assumption | rfl | omega | simp)) (hi := (by first | assumption | rfl | omega | simp)) (hsb := (hsb _))) ?_)
     rintro v3 _ _ _ ⟨rfl, hs2, rfl⟩
     refine ⟨_, _, rfl, fun F1 le1 hz1 => ?_⟩
     replace ht := ht.mono le1
     have hf1 : IntsF F1 v3 ((lk s (-1 - ((((-1) - (t.getD k 0)).toNat) : Int)))) := intsH.fz (xs := (lk s (-1 - ((((-1) - (t.getD k 0)).toNat) : Int)))) hz1.fz
     exact ⟨⟨rfl, hf1⟩, rfl⟩
    exact stepsG.nil
   intro vals F2 le2 hphi
   obtain ⟨e7, f7_1ha⟩ := hphi 7 (by decide)
   generalize hu1 : ((vals 7)) = u1 at e7 f7_1ha
   rw [eS (l := [(0, ov), (7, u1)]) ⟨(hphi 0 (by decide)), hu1, trivial⟩]
   replace ht := ht.mono le2
   show XL _ _ _ _ _ _ _ (intsH 2 ov os :: cellsH b1 [sv] 57 :: L)
   refine cX (XOp.appendI [] _ runUnderlying24 typeInfo2 rfl rfl rfl rfl rfl rfl f7_1ha (by (try simp only [List.length_append, List.length_nil, List.length_cons, List.length_singleton, List.length_take, List.length_drop]); omega) ?_)
   intro v4 hs3 hn1 hm1
   refine XL.as (v4) rfl (XL.nil (X.seq (X.region (XL.mv (v4) rfl (cX (XOp.lenS runUnderlying24 rfl (intsH.slv [] rfl) (cX (XOp.gtr rfl rfl (XL.nil ?_)))))))))
   refine X.condD (p := ((((os ++ ((lk s (-1 - ((((-1) - (t.getD k 0)).toNat) : Int))))).length : Nat) : Int) : Int) > 60) rfl (fun h3 => ?_) (fun h3 => ?_)
   ·refine X.seq (X.region (cX (XOp.buildSlice (s := 1) [] [.int .i64 (0)] [] runUnderlying24 sizeOf2 zeroValue2 rfl (by decide) rfl CellsAre.nil rfl ?_)))
    intro v5 hv2
    refine XL.as (v5) rfl (XL.as (.bool (false)) rfl (XL.nil ?_))
    show X _ _ _ _ _ _ (intsH 2 v5 ([] : List Int) :: intsH 2 v4 (os ++ ((lk s (-1 - ((((-1) - (t.getD k 0)).toNat) : Int))))) :: cellsH b1 [sv] 57 :: L)
    refine X.freezeF [] _ _ rfl (fun F3 le3 hz2 => ?_)
    replace ht := ht.mono le3
    have hf2 : IntsF F3 v5 ([]) := intsH.fz (xs := []) hz2.fz
    refine X.ret (blockQ_ret (thenQ_ret (thenQ_ret (blockQ_ret (thenQ_ret (retEnd (L' := L) [v5, .bool (false)] (.tuple #[v5, .bool (false)]) (.tmp rfl (.tmp rfl .nil)) rfl (FLe.trans le2 le3) rF (sD (sD sR)) ?_))))))
    have hz : fillL s t = none := hm.trans (fillGo_long (a := os ++ ((lk s (-1 - ((((-1) - (t.getD k 0)).toNat) : Int))))) (by omega) (by rw [show (-1 - (((-1 - t.getD k 0).toNat : Nat) : Int)) = t.getD k 0 from by omega]) (by omega))
    exact ⟨_, by rw [hz]; rfl, by rw [hz]; exact hf2, rfl⟩
   refine X.skip (X.region (XL.mv (.int .i64 ((k : Int))) rfl (cX (XOp.addR (((k + 1 : Nat) : Int)) rfl rfl (by omega) (by omega) (XL.as (.int .i64 (((k + 1 : Nat) : Int))) rfl (XL.nil ?_))))))
   exact ⟨(k + 1, v4, os ++ ((lk s (-1 - ((((-1) - (t.getD k 0)).toNat) : Int))))), _, FLe.refl _, le2, ⟨rfl, rfl, rfl, rfl, trivial⟩, (sC (sC sR)), ⟨rfl, (hs3), (by (try dsimp only) <;> omega), (by dsimp only; exact hm.trans (fillGo_next (by omega) (by rw [show (-1 - (((-1 - t.getD k 0).toNat : Nat) : Int)) = t.getD k 0 from by omega]) (by omega))), (by dsimp only; omega)⟩, (by omega)⟩
  refine X.region (XL.mv (ov) rfl (XL.mv (tv) rfl (XL.mv (.int .i64 ((k : Int))) rfl (cX (XOp.indexS k runUnderlying24 sizeOf2 rfl rfl rfl ht.slv (by omega) (Nat.mul_one _) (cX (XOp.load1 isAgg2 rfl (ht.rd (by omega)) (cX (XOp.buildSlice (s := 1) [.int .i64 (t.getD k 0)] [.int .i64 (0)] [(0, [.int .i64 (t.getD k 0)])] runUnderlying24 sizeOf2 zeroValue2 rfl (by decide) rfl (.cons rfl CellsAre.nil) rfl ?_)))))))))
  intro v6 hv3
  refine cX (XOp.append1 (u := t.getD k 0) [_] _ runUnderlying24 typeInfo2 rfl rfl rfl rfl rfl rfl (SlV.own [] rfl) (Rd.sl [] rfl rfl) (by (try simp only [List.length_append, List.length_nil, List.length_cons, List.length_singleton, List.length_take, List.length_drop]); omega) ?_)
  intro v7 hs4 hn2
  refine XL.as (v7) rfl (XL.nil (X.seq (X.region (XL.mv (v7) rfl (cX (XOp.lenS runUnderlying24 rfl (intsH.slv [_] rfl) (cX (XOp.gtr rfl rfl (XL.nil ?_)))))))))
  refine X.condD (p := ((((os ++ [t.getD k 0]).length : Nat) : Int) : Int) > 60) rfl (fun h4 => ?_) (fun h4 => ?_)
  ·refine X.seq (X.region (cX (XOp.buildSlice (s := 1) [] [.int .i64 (0)] [] runUnderlying24 sizeOf2 zeroValue2 rfl (by decide) rfl CellsAre.nil rfl ?_)))
   intro v8 hv4
   refine XL.as (v8) rfl (XL.as (.bool (false)) rfl (XL.nil ?_))
   show X _ _ _ _ _ _ (intsH 2 v8 ([] : List Int) :: slH 2 1 v6 1 [.int .i64 (t.getD k 0)] :: intsH 2 v7 (os ++ [t.getD k 0]) :: cellsH b1 [sv] 57 :: L)
   refine X.freezeF [] _ _ rfl (fun F4 le4 hz3 => ?_)
   have hf3 : IntsF F4 v8 ([]) := intsH.fz (xs := []) hz3.fz
   refine X.ret (blockQ_ret (thenQ_ret (thenQ_ret (blockQ_ret (thenQ_ret (retEnd (L' := L) [v8, .bool (false)] (.tuple #[v8, .bool (false)]) (.tmp rfl (.tmp rfl .nil)) rfl le4 rF (sD (sD (sD sR))) ?_))))))
   have hz : fillL s t = none := hm.trans (fillGo_long (a := os ++ [t.getD k 0]) (by omega) (by rw [lk_sym (by omega)]) (by omega))
   exact ⟨_, by rw [hz]; rfl, by rw [hz]; exact hf3, rfl⟩
  refine X.skip (X.region (XL.mv (.int .i64 ((k : Int))) rfl (cX (XOp.addR (((k + 1 : Nat) : Int)) rfl rfl (by omega) (by omega) (XL.as (.int .i64 (((k + 1 : Nat) : Int))) rfl (XL.nil ?_))))))
  exact ⟨(k + 1, v7, os ++ [t.getD k 0]), _, FLe.refl _, rF, ⟨rfl, rfl, rfl, rfl, trivial⟩, (sD (sC (sC sR))), ⟨rfl, (hs4), (by (try dsimp only) <;> omega), (by dsimp only; exact hm.trans (fillGo_next (by omega) (by rw [lk_sym (by omega)]) (by omega))), (by dsimp only; omega)⟩, (by omega)⟩
 refine X.exit (thenQ_exit (thenQ_exit (blockQ_exit (X.seq (X.region (XL.mv (ov) rfl (XL.as (ov) rfl (XL.as (.bool (true)) rfl (XL.nil (X.freezeF [] _ _ rfl (fun F5 le5 hz4 => ?_)))))))))))
 have hf4 : IntsF F5 ov os := intsH.fz (xs := os) hz4.fz
 refine X.ret (retEnd (L' := L) [ov, .bool (true)] (.tuple #[ov, .bool (true)]) (.tmp rfl (.tmp rfl .nil)) rfl le5 rF (sD sR) ?_)
 have hz : fillL s t = some os := hm.trans (fillGo_done (by omega))
 exact ⟨_, by rw [hz]; rfl, by rw [hz]; exact hf4, rfl⟩

/- spec.l3Put -/
theorem l3Put_spec {F : FH} {L : List HP} {arv : Value} {ar : List Int} (har : IntsF F arv ar) {tv : Value} {t : List Int} (ht : IntsF F tv t) {p : Nat} {uv : Value} {u : List Int} (hu : IntsF F uv u) (ho : termOk ar t = true) (hp : p < t.length) (hul : u.length ≤ 4000000) :
    Does prog 94 [.agg #[arv], tv, .int .i64 ((p : Int)), uv] F (L) (fun v F' L' => ∃ (a : Value), (.tuple #[a, .bool ((putL ar t p u).isSome)] : Value) = v ∧ (IntsF F' a ((putL ar t p u).getD [])) ∧ L = L') := by
 refine Does.of_X func94 rfl rfl rfl ?_
 have hsig := termOk_sig ho
 have hsl := sigOk_spec hsig
 have htl := termOk_len ho
 have hee := endN_spec ho hp
 refine X.seq (X.region (cX (XOp.box [arv] rfl rfl ?_)))
 intro b1
 refine XL.as ((.slice none 0 0)) rfl (XL.as (.bool (false)) rfl (XL.nil (X.seq (X.region (XL.mv (tv) rfl (XL.mv (.int .i64 ((p : Int))) rfl (cX (XOp.sliceI 0 p runUnderlying24 sizeOf2 rfl ht rfl ⟨_, rfl⟩ (by omega) (by omega) ?_))))))))
 intro v1 hv1 hn1
 refine cX (XOp.call (args := [v1]) call141 rfl (l1Copy_spec hv1 (hlt := (by simp; omega))) ?_)
 rintro v2 _ _ _ ⟨rfl, hs1, rfl⟩
 refine XL.mv (uv) rfl (cX (XOp.appendI [] _ runUnderlying24 typeInfo2 rfl rfl rfl rfl rfl rfl hu (by (try simp only [List.length_append, List.length_nil, List.length_cons, List.length_singleton, List.length_take, List.length_drop]); omega) ?_))
 intro v3 hs2 hn2 hm1
 refine XL.as (v3) rfl (XL.nil (X.seq (X.region (XL.mv (v3) rfl (XL.mv (tv) rfl (cX (XOp.loadN [arv] isAgg26 sizeOf26 rfl rfl (Rd.ownN [_] rfl rfl) (XL.mv (tv) rfl (XL.mv (.int .i64 ((p : Int))) rfl (cX (XOp.call (args := [.agg #[arv], tv, .int .i64 (p : Int)]) call59 rfl (l1End_ok (p := p) har ht (ho := (by first | assumption | rfl | omega | (left; simp; done) | (right; simp; done))) (hp := (by first | assumption | rfl | omega | (left; simp; done) | (right; simp; done)))) ?_)))))))))))
 rintro _ _ _ _ ⟨rfl, rfl, rfl⟩
 refine cX (XOp.sliceI (endN ar t p) ((t).length) runUnderlying24 sizeOf2 rfl ht ⟨_, rfl⟩ rfl (by omega) (by omega) ?_)
 intro v4 hv2 hn3
 refine cX (XOp.appendI [] _ runUnderlying24 typeInfo2 rfl rfl rfl rfl rfl rfl hv2 (by (try simp only [List.length_append, List.length_nil, List.length_cons, List.length_singleton, List.length_take, List.length_drop]); omega) ?_)
 intro v5 hs3 hn4 hm2
 refine XL.as (v5) rfl (XL.nil (X.seq (X.seq (X.region (XL.mv (v5) rfl (cX (XOp.lenS runUnderlying24 rfl (intsH.slv [] rfl) (cX (XOp.gtr rfl rfl (XL.nil ?_))))))))))
 refine X.condD (p := ((((((((((t.drop 0).take (p - 0))))) ++ u) ++ (((t.drop (endN ar t p)).take (((t).length) - (endN ar t p))))).length : Nat) : Int) : Int) > 60) rfl (fun h1 => ?_) (fun h1 => ?_)
 ·refine X.seq (X.region (cX (XOp.buildSlice (s := 1) [] [.int .i64 (0)] [] runUnderlying24 sizeOf2 zeroValue2 rfl (by decide) rfl CellsAre.nil rfl ?_)))
  intro v6 hv3
  refine XL.as (v6) rfl (XL.as (.bool (false)) rfl (XL.nil ?_))
  show X _ _ _ _ _ _ (intsH 2 v6 ([] : List Int) :: intsH 2 v5 (((((((t.drop 0).take (p - 0))))) ++ u) ++ (((t.drop (endN ar t p)).take (((t).length) - (endN ar t p))))) :: cellsH b1 [arv] 26 :: L)
  refine X.freezeF [] _ _ rfl (fun F1 le1 hz1 => ?_)
  have hf1 : IntsF F1 v6 ([]) := intsH.fz (xs := []) hz1.fz
  refine X.ret (thenQ_ret (retEnd (L' := L) [v6, .bool (false)] (.tuple #[v6, .bool (false)]) (.tmp rfl (.tmp rfl .nil)) rfl le1 rF (sD (sD sR)) ?_))
  have hz : putL ar t p u = none := putL_none put_three (by omega)
  exact ⟨_, by rw [hz]; rfl, by rw [hz]; exact hf1, rfl⟩
 refine X.skip (X.seq (X.region (XL.mv (v5) rfl (XL.as (v5) rfl (XL.as (.bool (true)) rfl (XL.nil (X.freezeF [] _ _ rfl (fun F2 le2 hz2 => ?_))))))))
 have hf2 : IntsF F2 v5 (((((((t.drop 0).take (p - 0))))) ++ u) ++ (((t.drop (endN ar t p)).take (((t).length) - (endN ar t p))))) := intsH.fz (xs := ((((((t.drop 0).take (p - 0))))) ++ u) ++ (((t.drop (endN ar t p)).take (((t).length) - (endN ar t p))))) hz2.fz
 refine X.ret (retEnd (L' := L) [v5, .bool (true)] (.tuple #[v5, .bool (true)]) (.tmp rfl (.tmp rfl .nil)) rfl le2 rF (sD sR) ?_)
 have hz := putL_some (ar := ar) (t := t) (p := p) (u := u) put_three (by omega)
 exact ⟨_, by rw [hz]; rfl, by rw [hz]; exact hf2, rfl⟩

/- spec.l7Step -/
theorem l7Step_spec {F : FH} {L : List HP} {arv : Value} {ar : List Int} (har : IntsF F arv ar) {rsv : Value} {rs : List (List Int × List Int)} (hrs : PairsF F rsv rs) {tv : Value} {t : List Int} (ht : IntsF F tv t) {p : Nat} {r : Nat} (hsys : sysOk ar rs = true) (ho : termOk ar t = true) (hp : p < t.length) (hr : r < rs.length) :
    Does prog 118 [.agg #[arv, rsv], tv, .int .i64 ((p : Int)), .int .i64 ((r : Int))] F (L) (fun v F' L' => ∃ (a : Value), (.tuple #[a, .bool ((stepL ar rs t p r).isSome)] : Value) = v ∧ (IntsF F' a ((stepL ar rs t p r).getD [])) ∧ L = L') := by
 refine Does.of_X func118 rfl rfl rfl ?_
 have hnn := notNil_of_pos ht (by have := termOk_len ho; omega)
 have htl := termOk_len ho
 have hrl := (sysOk_iff.1 hsys).2.1
 have hsig := (sysOk_iff.1 hsys).1
 have hsl := sigOk_spec hsig
 have hR := ruleOk_iff.1 ((sysOk_iff.1 hsys).2.2 r hr)
 have hRl := hR.left
 have hRr := hR.right
 have hso := sub_ok ho hp
 have hsb := sub_length ho hp
 have hee := endN_spec ho hp
 have hRrl := termOk_len hRr
 have hRg := fun k (hk : k < (rs.getD r ([], [])).2.length) => termOk_ge hRr hk
 have hmp := matchP_len (ar := ar) (p := (rs.getD r ([], [])).1) (t := sub ar t p)
 have hmp2 := hmp.2
 have hmp3 := hmp.1
 refine X.seq (X.region (cX (XOp.box [arv, rsv] rfl rfl ?_)))
 intro b1
 refine XL.as ((.slice none 0 0)) rfl (XL.as (.bool (false)) rfl (XL.nil (X.seq (X.region (cX (XOp.fieldP (1) runUnderlying29 rfl sizeOf27 (by decide) rfl rfl (cX (XOp.load1 isAgg27 rfl (Rd.own [] rfl rfl) (XL.mv (.int .i64 ((r : Int))) rfl (cX (XOp.indexS r runUnderlying27 sizeOf93 rfl rfl rfl hrs.slv (by omega) rfl ?_)))))))))))
 obtain ⟨a1, a2, ha1, ha2, hr1, hr2⟩ := hrs.rd (i := r) (by omega)
 refine cX (XOp.loadN [a1, a2] isAgg93 sizeOf93 rfl rfl (Rd.two (hr1 _) (hr2 _)) (cX (XOp.alloc [(.slice none 0 0), (.slice none 0 0)] zeroValue93 rfl ?_)))
 intro b2
 refine cX (XOp.storeN [] _ [a1, a2] sizeOf93 rfl rfl rfl (ones_cons (one_sl (IntsF.isSl ha1)) (ones_cons (one_sl (IntsF.isSl ha2)) ones_nil)) rfl rfl rfl (XL.nil (X.seq ?_)))
 refine X.drawG [cellsH b2 [a1, a2] 93, cellsH b1 [arv, rsv] 29] L 15 [[], [], [], [], [], [], [], [], [], [], [9], [9], [], [], [9, 13]] [[], [0], [], [2], [], [4], [], [], [5, 6, 7], [1, 3, 8], [9], [9, 10], [9, 10], [], [9, 11, 13]] [[], [], [], [], [], [], [], [], [], [], [], [], [], [], [13]] (phiG [fun FF us v => v = ptr b1 0, fun FF us v => v = (.agg #[arv] : Value), fun FF us v => v = ptr b2 0, fun FF us v => v = a1, fun FF us v => v = ptr b1 0, fun FF us v => v = (.agg #[arv] : Value), fun FF us v => v = tv, fun FF us v => v = (.int .i64 ((p : Int)) : Value), fun FF us v => ((v) : Value) = v ∧ (IntsF FF (v) (sub ar t p)), fun FF us v => (.tuple #[.agg #[((aggAt (tupAt v 0) 0))], .bool ((matchB ar ((rs.getD r ([], [])).1) ((sub ar t p))).isSome)] : Value) = v ∧ (RowsF FF ((aggAt (tupAt v 0) 0)) (matchP ar ((rs.getD r ([], [])).1) ((sub ar t p)))), fun FF us v => v = (.tuple #[.agg #[((aggAt (tupAt (us.getD 0 undef) 0) 0))], .bool ((matchB ar ((rs.getD r ([], [])).1) ((sub ar t p))).isSome)] : Value), fun FF us v => v = (.agg #[((aggAt (tupAt (us.getD 0 undef) 0) 0))] : Value), fun FF us v => v = (.bool ((matchB ar ((rs.getD r ([], [])).1) ((sub ar t p))).isSome) : Value), fun FF us v => v = ptr (blk v) 0, fun FF us v => True]) (ownL [fun us v => [], fun us v => [], fun us v => [], fun us v => [], fun us v => [], fun us v => [], fun us v => [], fun us v => [], fun us v => [], fun us v => [], fun us v => [], fun us v => [], fun us v => [], fun us v => [cellsH (blk v) [(.slice none 0 0)] 57], fun us v => [cellsH (blk (us.getD 1 undef)) [((aggAt (tupAt (us.getD 0 undef) 0) 0))] 57]]) mixed rfl rfl (by kernel_rfl) (by kernel_rfl) (MonoG.get (mC (fun le h => h) (mC (fun le h => h) (mC (fun le h => h) (mC (fun le h => h) (mC (fun le h => h) (mC (fun le h => h) (mC (fun le h => h) (mC (fun le h => h) (mC (fun le h => ⟨h.1, h.2.mono le⟩) (mC (fun le h => ⟨h.1, h.2.mono le⟩) (mC (fun le h => h) (mC (fun le h => h) (mC (fun le h => h) (mC (fun le h => h) (mC (fun le h => h) MonoG.nil)))))))))))))))) ?_ ?_
 ·refine gC (fun vals Fs R leFs hpZ => ?_) ?_
  ·refine XG.op (XOp.fieldP (0) runUnderlying29 rfl sizeOf26 (by decide) rfl rfl ?_)
   exact ⟨rfl, rfl⟩
  refine gC (fun vals Fs R leFs hpZ => ?_) ?_
  ·replace har := har.mono leFs
   replace ht := ht.mono leFs
   replace ha1 := ha1.mono leFs
   replace ha2 := ha2.mono leFs
   rw [eS (l := [(0, ptr b1 0)]) ⟨(hpZ 0 (by decide)), trivial⟩]
   refine XG.op (XOp.loadN [arv] isAgg26 sizeOf26 rfl rfl (Rd.ownN [_] rfl rfl) ?_)
   exact ⟨rfl, rfl⟩
  refine gC (fun vals Fs R leFs hpZ => ?_) ?_
  ·refine XG.op (XOp.fieldP (0) runUnderlying93 rfl sizeOf24 (by decide) rfl rfl ?_)
   exact ⟨rfl, rfl⟩
  refine gC (fun vals Fs R leFs hpZ => ?_) ?_
  ·replace har := har.mono leFs
   replace ht := ht.mono leFs
   replace ha1 := ha1.mono leFs
   replace ha2 := ha2.mono leFs
   rw [eS (l := [(2, ptr b2 0)]) ⟨(hpZ 2 (by decide)), trivial⟩]
   refine XG.op (XOp.load1 isAgg24 rfl (Rd.own [] rfl rfl) ?_)
   exact ⟨rfl, rfl⟩
  refine gC (fun vals Fs R leFs hpZ => ?_) ?_
  ·refine XG.op (XOp.fieldP (0) runUnderlying29 rfl sizeOf26 (by decide) rfl rfl ?_)
   exact ⟨rfl, rfl⟩
  refine gC (fun vals Fs R leFs hpZ => ?_) ?_
  ·replace har := har.mono leFs
   replace ht := ht.mono leFs
   replace ha1 := ha1.mono leFs
   replace ha2 := ha2.mono leFs
   rw [eS (l := [(4, ptr b1 0)]) ⟨(hpZ 4 (by decide)), trivial⟩]
   refine XG.op (XOp.loadN [arv] isAgg26 sizeOf26 rfl rfl (Rd.ownN [_] rfl rfl) ?_)
   exact ⟨rfl, rfl⟩
  refine gC (fun vals Fs R leFs hpZ => ?_) ?_
  ·refine XG.op (XOp.move (tv) rfl ?_)
   exact ⟨rfl, rfl⟩
  refine gC (fun vals Fs R leFs hpZ => ?_) ?_
  ·refine XG.op (XOp.move (.int .i64 ((p : Int))) rfl ?_)
   exact ⟨rfl, rfl⟩
  refine gC (fun vals Fs R leFs hpZ => ?_) ?_
  ·replace har := har.mono leFs
   replace ht := ht.mono leFs
   replace ha1 := ha1.mono leFs
   replace ha2 := ha2.mono leFs
   rw [eS (l := [(5, (.agg #[arv] : Value)), (6, tv), (7, (.int .i64 ((p : Int)) : Value))]) ⟨(hpZ 5 (by decide)), (hpZ 6 (by decide)), (hpZ 7 (by decide)), trivial⟩]
   refine XG.op (XOp.frzF <| XOp.call (args := [.agg #[arv], tv, .int .i64 (p : Int)]) call111 rfl (l1Sub_spec (p := p) har ht (ho := (by first | assumption | rfl | omega | simp)) (hp := (by first | assumption | rfl | omega | simp))) ?_)
   rintro v2 _ _ _ ⟨rfl, hs2, rfl⟩
   refine ⟨_, _, rfl, fun F2 le2 hz1 => ?_⟩
   replace har := har.mono le2
   replace ht := ht.mono le2
   replace ha1 := ha1.mono le2
   replace ha2 := ha2.mono le2
   have hf1 : IntsF F2 v2 ((sub ar t p)) := intsH.fz (xs := (sub ar t p)) hz1.fz
   exact ⟨⟨rfl, hf1⟩, rfl⟩
  refine gC (fun vals Fs R leFs hpZ => ?_) ?_
  ·obtain ⟨e8, f8_1ha⟩ := hpZ 8 (by decide)
   replace har := har.mono leFs
   replace ht := ht.mono leFs
   replace ha1 := ha1.mono leFs
   replace ha2 := ha2.mono leFs
   rw [eS (l := [(1, (.agg #[arv] : Value)), (3, a1), (8, ((vals 8)))]) ⟨(hpZ 1 (by decide)), (hpZ 3 (by decide)), (e8).symm, trivial⟩]
   refine XG.op (XOp.call (args := [.agg #[arv], a1, ((vals 8))]) call112 rfl (l4Match_spec har ha1 f8_1ha (ho := (by first | assumption | rfl | omega | simp)) (hpo := (by first | assumption | rfl | omega | simp))) ?_)
   rintro _ F3 _ le3 ⟨x2, rfl, hr4, rfl⟩
   replace har := har.mono le3
   replace ht := ht.mono le3
   replace ha2 := ha2.mono le3
   replace f8_1ha := f8_1ha.mono le3
   exact ⟨⟨rfl, hr4⟩, rfl⟩
  refine gC (fun vals Fs R leFs hpZ => ?_) ?_
  ·obtain ⟨e9, f9_1hr⟩ := hpZ 9 (by decide)
   rw [eS (l := [(9, (.tuple #[.agg #[((aggAt (tupAt (vals 9) 0) 0))], .bool ((matchB ar ((rs.getD r ([], [])).1) ((sub ar t p))).isSome)] : Value))]) ⟨(e9).symm, trivial⟩]
   refine XG.op (XOp.move (.tuple #[.agg #[((aggAt (tupAt (vals 9) 0) 0))], .bool ((matchB ar ((rs.getD r ([], [])).1) ((sub ar t p))).isSome)]) rfl ?_)
   exact ⟨rfl, rfl⟩
  refine gC (fun vals Fs R leFs hpZ => ?_) ?_
  ·obtain ⟨e9, f9_1hr⟩ := hpZ 9 (by decide)
   have e10 : vals 10 = (.tuple #[.agg #[((aggAt (tupAt (vals 9) 0) 0))], .bool ((matchB ar ((rs.getD r ([], [])).1) ((sub ar t p))).isSome)] : Value) := hpZ 10 (by decide)
   rw [eS (l := [(9, (.tuple #[.agg #[((aggAt (tupAt (vals 9) 0) 0))], .bool ((matchB ar ((rs.getD r ([], [])).1) ((sub ar t p))).isSome)] : Value)), (10, (.tuple #[.agg #[((aggAt (tupAt (vals 9) 0) 0))], .bool ((matchB ar ((rs.getD r ([], [])).1) ((sub ar t p))).isSome)] : Value))]) ⟨(e9).symm, e10, trivial⟩]
   refine XG.op (XOp.extract (.agg #[((aggAt (tupAt (vals 9) 0) 0))]) rfl rfl ?_)
   exact ⟨rfl, rfl⟩
  refine gC (fun vals Fs R leFs hpZ => ?_) ?_
  ·obtain ⟨e9, f9_1hr⟩ := hpZ 9 (by decide)
   have e10 : vals 10 = (.tuple #[.agg #[((aggAt (tupAt (vals 9) 0) 0))], .bool ((matchB ar ((rs.getD r ([], [])).1) ((sub ar t p))).isSome)] : Value) := hpZ 10 (by decide)
   rw [eS (l := [(9, (.tuple #[.agg #[((aggAt (tupAt (vals 9) 0) 0))], .bool ((matchB ar ((rs.getD r ([], [])).1) ((sub ar t p))).isSome)] : Value)), (10, (.tuple #[.agg #[((aggAt (tupAt (vals 9) 0) 0))], .bool ((matchB ar ((rs.getD r ([], [])).1) ((sub ar t p))).isSome)] : Value))]) ⟨(e9).symm, e10, trivial⟩]
   refine XG.op (XOp.extract (.bool ((matchB ar ((rs.getD r ([], [])).1) ((sub ar t p))).isSome)) rfl rfl ?_)
   exact ⟨rfl, rfl⟩
  refine gC (fun vals Fs R leFs hpZ => ?_) ?_
  ·replace har := har.mono leFs
   replace ht := ht.mono leFs
   replace ha2 := ha2.mono leFs
   refine XG.op (XOp.alloc [(.slice none 0 0)] zeroValue57 rfl ?_)
   intro b4
   exact ⟨rfl, rfl⟩
  refine gC (fun vals Fs R leFs hpZ => ?_) ?_
  ·obtain ⟨e9, f9_1hr⟩ := hpZ 9 (by decide)
   have e11 : vals 11 = (.agg #[((aggAt (tupAt (vals 9) 0) 0))] : Value) := hpZ 11 (by decide)
   have e13 : vals 13 = ptr (blk (vals 13)) 0 := hpZ 13 (by decide)
   replace har := har.mono leFs
   replace ht := ht.mono leFs
   replace ha2 := ha2.mono leFs
   rw [eS (l := [(9, (.tuple #[.agg #[((aggAt (tupAt (vals 9) 0) 0))], .bool ((matchB ar ((rs.getD r ([], [])).1) ((sub ar t p))).isSome)] : Value)), (11, (.agg #[((aggAt (tupAt (vals 9) 0) 0))] : Value)), (13, ptr (blk (vals 13)) 0)]) ⟨(e9).symm, e11, e13, trivial⟩]
   show XG _ _ _ _ _ (cellsH (blk (vals 13)) [(.slice none 0 0)] 57 :: ([cellsH b2 [a1, a2] 93, cellsH b1 [arv, rsv] 29] ++ R)) _
   refine XG.op (XOp.storeN [] _ [((aggAt (tupAt (vals 9) 0) 0))] sizeOf57 rfl rfl rfl (ones_cons (one_sl (RowsF.isSl f9_1hr)) ones_nil) rfl rfl rfl ?_)
   exact ⟨trivial, rfl⟩
  exact stepsG.nil
 intro vals F4 le4 hphi
 obtain ⟨e8, f8_1ha⟩ := hphi 8 (by decide)
 obtain ⟨e9, f9_1hr⟩ := hphi 9 (by decide)
 have e10 : vals 10 = (.tuple #[.agg #[((aggAt (tupAt (vals 9) 0) 0))], .bool ((matchB ar ((rs.getD r ([], [])).1) ((sub ar t p))).isSome)] : Value) := hphi 10 (by decide)
 have e11 : vals 11 = (.agg #[((aggAt (tupAt (vals 9) 0) 0))] : Value) := hphi 11 (by decide)
 have e13 : vals 13 = ptr (blk (vals 13)) 0 := hphi 13 (by decide)
 generalize hu1 : ((vals 8)) = u1 at e8 f8_1ha e9 f9_1hr e10 e11 e13
 generalize hu2 : ((aggAt (tupAt (vals 9) 0) 0)) = u2 at e8 f8_1ha e9 f9_1hr e10 e11 e13
 generalize hu3 : blk (vals 13) = b5 at e8 f8_1ha e9 f9_1hr e10 e11 e13
 rw [eS (l := [(9, (.tuple #[.agg #[u2], .bool ((matchB ar ((rs.getD r ([], [])).1) ((sub ar t p))).isSome)] : Value)), (12, (.bool ((matchB ar ((rs.getD r ([], [])).1) ((sub ar t p))).isSome) : Value)), (13, ptr b5 0)]) ⟨(e9).symm, (hphi 12 (by decide)), e13, trivial⟩]
 replace har := har.mono le4
 replace ht := ht.mono le4
 replace ha2 := ha2.mono le4
 show XL _ _ _ _ _ _ _ (cellsH b5 [u2] 57 :: cellsH b2 [a1, a2] 93 :: cellsH b1 [arv, rsv] 29 :: L)
 refine XL.as (.bool ((matchB ar ((rs.getD r ([], [])).1) ((sub ar t p))).isSome)) rfl (XL.nil (X.seq (X.seq (X.region (XL.mv (.bool ((matchB ar ((rs.getD r ([], [])).1) ((sub ar t p))).isSome)) rfl (cX (XOp.notB rfl (XL.nil ?_))))))))
 refine X.cond (t := !((matchB ar ((rs.getD r ([], [])).1) ((sub ar t p))).isSome)) rfl (fun h1 => ?_) (fun h1 => ?_)
 ·have hms : (matchB ar (rs.getD r ([], [])).1 (sub ar t p)).isSome = false := by simpa using h1
  refine X.seq (X.region (cX (XOp.buildSlice (s := 1) [] [.int .i64 (0)] [] runUnderlying24 sizeOf2 zeroValue2 rfl (by decide) rfl CellsAre.nil rfl ?_)))
  intro v3 hv1
  refine XL.as (v3) rfl (XL.as (.bool (false)) rfl (XL.nil ?_))
  show X _ _ _ _ _ _ (intsH 2 v3 ([] : List Int) :: cellsH b5 [u2] 57 :: cellsH b2 [a1, a2] 93 :: cellsH b1 [arv, rsv] 29 :: L)
  refine X.freezeF [] _ _ rfl (fun F5 le5 hz2 => ?_)
  replace har := har.mono le5
  replace ht := ht.mono le5
  replace ha2 := ha2.mono le5
  replace f9_1hr := f9_1hr.mono le5
  have hf2 : IntsF F5 v3 ([]) := intsH.fz (xs := []) hz2.fz
  refine X.ret (thenQ_ret (retEnd (L' := L) [v3, .bool (false)] (.tuple #[v3, .bool (false)]) (.tmp rfl (.tmp rfl .nil)) rfl (FLe.trans le4 le5) rF (sD (sD (sD sR))) ?_))
  have hz := stepL_nomatch hms
  exact ⟨_, by rw [hz]; rfl, by rw [hz]; exact hf2, rfl⟩
 have hms : (matchB ar (rs.getD r ([], [])).1 (sub ar t p)).isSome = true := by simpa using h1
 refine X.skip (X.seq (X.region (cX (XOp.loadN [u2] isAgg57 sizeOf57 rfl rfl (Rd.ownN [] rfl rfl) (cX (XOp.fieldP (1) runUnderlying93 rfl sizeOf24 (by decide) rfl rfl (cX (XOp.load1 isAgg24 rfl (Rd.own [_] rfl rfl) (cX (XOp.call (args := [.agg #[u2], a2]) call84 rfl (l2Filled_spec f9_1hr ha2 (hsl := (by first | assumption | rfl | omega | simp)) (hsb := (fun i => by have := hmp2 i; omega)) (htl := (by first | assumption | rfl | omega | simp)) (htg := (fun k hk => by have := hRg k hk; omega))) ?_))))))))))
 rintro _ F6 _ le6 ⟨x3, rfl, hr5, rfl⟩
 replace har := har.mono le6
 replace ht := ht.mono le6
 refine XL.mv (.tuple #[x3, .bool ((fillL (matchP ar ((rs.getD r ([], [])).1) ((sub ar t p))) ((rs.getD r ([], [])).2)).isSome)]) rfl (cX (XOp.extract (x3) rfl rfl (cX (XOp.extract (.bool ((fillL (matchP ar ((rs.getD r ([], [])).1) ((sub ar t p))) ((rs.getD r ([], [])).2)).isSome)) rfl rfl (XL.as (x3) rfl (XL.as (.bool ((fillL (matchP ar ((rs.getD r ([], [])).1) ((sub ar t p))) ((rs.getD r ([], [])).2)).isSome)) rfl (XL.nil (X.seq (X.seq (X.region (XL.mv (.bool ((fillL (matchP ar ((rs.getD r ([], [])).1) ((sub ar t p))) ((rs.getD r ([], [])).2)).isSome)) rfl (cX (XOp.notB rfl (XL.nil ?_))))))))))))))
 refine X.cond (t := !((fillL (matchP ar ((rs.getD r ([], [])).1) ((sub ar t p))) ((rs.getD r ([], [])).2)).isSome)) rfl (fun h2 => ?_) (fun h2 => ?_)
 ·have hfs : (fillL (matchP ar (rs.getD r ([], [])).1 (sub ar t p)) (rs.getD r ([], [])).2).isSome = false := by simpa using h2
  refine X.seq (X.region (cX (XOp.buildSlice (s := 1) [] [.int .i64 (0)] [] runUnderlying24 sizeOf2 zeroValue2 rfl (by decide) rfl CellsAre.nil rfl ?_)))
  intro v4 hv2
  refine XL.as (v4) rfl (XL.as (.bool (false)) rfl (XL.nil ?_))
  show X _ _ _ _ _ _ (intsH 2 v4 ([] : List Int) :: cellsH b5 [u2] 57 :: cellsH b2 [a1, a2] 93 :: cellsH b1 [arv, rsv] 29 :: L)
  refine X.freezeF [] _ _ rfl (fun F7 le7 hz3 => ?_)
  replace har := har.mono le7
  replace ht := ht.mono le7
  replace hr5 := hr5.mono le7
  have hf3 : IntsF F7 v4 ([]) := intsH.fz (xs := []) hz3.fz
  refine X.ret (thenQ_ret (retEnd (L' := L) [v4, .bool (false)] (.tuple #[v4, .bool (false)]) (.tmp rfl (.tmp rfl .nil)) rfl (FLe.trans (FLe.trans le4 le6) le7) rF (sD (sD (sD sR))) ?_))
  have hz := stepL_nofill hms hfs
  exact ⟨_, by rw [hz]; rfl, by rw [hz]; exact hf3, rfl⟩
 have hfs : (fillL (matchP ar (rs.getD r ([], [])).1 (sub ar t p)) (rs.getD r ([], [])).2).isSome = true := by simpa using h2
 have hfl := fill_getD_len hfs (by omega)
 refine X.skip (X.seq (X.region (cX (XOp.fieldP (0) runUnderlying29 rfl sizeOf26 (by decide) rfl rfl (cX (XOp.loadN [arv] isAgg26 sizeOf26 rfl rfl (Rd.ownN [_, _] rfl rfl) (XL.mv (tv) rfl (XL.mv (.int .i64 ((p : Int))) rfl (XL.mv (x3) rfl (cX (XOp.call (args := [.agg #[arv], tv, .int .i64 (p : Int), x3]) call94 rfl (l3Put_spec (p := p) har ht hr5 (ho := (by first | assumption | rfl | omega | simp)) (hp := (by first | assumption | rfl | omega | simp)) (hul := (by first | assumption | rfl | omega | simp))) ?_)))))))))))
 rintro _ F8 _ le8 ⟨x4, rfl, hr6, rfl⟩
 refine cX (XOp.extract (x4) rfl rfl (cX (XOp.extract (.bool ((putL ar t p ((fillL (matchP ar ((rs.getD r ([], [])).1) ((sub ar t p))) ((rs.getD r ([], [])).2)).getD [])).isSome)) rfl rfl (XL.as (x4) rfl (XL.as (.bool ((putL ar t p ((fillL (matchP ar ((rs.getD r ([], [])).1) ((sub ar t p))) ((rs.getD r ([], [])).2)).getD [])).isSome)) rfl (XL.nil (X.ret (retEnd (L' := L) [x4, .bool ((putL ar t p ((fillL (matchP ar ((rs.getD r ([], [])).1) ((sub ar t p))) ((rs.getD r ([], [])).2)).getD [])).isSome)] (.tuple #[x4, .bool ((putL ar t p ((fillL (matchP ar ((rs.getD r ([], [])).1) ((sub ar t p))) ((rs.getD r ([], [])).2)).getD [])).isSome)]) (.tmp rfl (.tmp rfl .nil)) rfl (FLe.trans (FLe.trans le4 le6) le8) rF (sD (sD (sD sR))) ?_))))))))
 have hz := stepL_put hms hfs
 exact ⟨_, by rw [hz], by rw [hz]; exact hr6, rfl⟩
end Go.Proofs.Ytmaaifhmhclhdaa
set_option linter.unusedSimpArgs false
set_option linter.unusedVariables false
namespace Go.Proofs.Ytmaaifhmhclhdaa
open Go X M Try
end Go.Proofs.Ytmaaifhmhclhdaa
set_option linter.unusedSimpArgs false
set_option linter.unusedVariables false
namespace Go.Proofs.Ytmaaifhmhclhdaa
open Go X M Try
end Go.Proofs.Ytmaaifhmhclhdaa
set_option linter.unusedSimpArgs false
set_option linter.unusedVariables false
namespace Go.Proofs.Ytmaaifhmhclhdaa
open Go X M Try
end Go.Proofs.Ytmaaifhmhclhdaa
set_option linter.unusedSimpArgs false
set_option linter.unusedVariables false
namespace Go.Proofs.Ytmaaifhmhclhdaa
open Go X M Try
end Go.Proofs.Ytmaaifhmhclhdaa
set_option linter.unusedSimpArgs false
set_option linter.unusedVariables false
namespace Go.Proofs.Ytmaaifhmhclhdaa
open Go X M Try
end Go.Proofs.Ytmaaifhmhclhdaa
set_option linter.unusedSimpArgs false
set_option linter.unusedVariables false
namespace Go.Proofs.Ytmaaifhmhclhdaa
open Go X M Try

/- impl.stepArgs -/
theorem stepArgs_spec {F : FH} {L : List HP} {arv : Value} {ar : List Int} (har : IntsF F arv ar) {rsv : Value} {rs : List (List Int × List Int)} (hrs : PairsF F rsv rs) {tv : Value} {t : List Int} (ht : IntsF F tv t) {p : Int} {r : Int} :
    Does prog 65 [.agg #[arv, rsv], tv, .int .i64 (p), .int .i64 (r)] F (L) (fun v F' L' => (.bool (stepAtOk ar rs t p r) : Value) = v ∧ F = F' ∧ L = L') := by
 refine Does.of_X func65 rfl rfl rfl (X.seq (X.region (cX (XOp.box [arv, rsv] rfl rfl ?_))))
 intro b1
 refine XL.as (.bool (false)) rfl (XL.nil (X.seq (X.region (cX (XOp.loadN [arv, rsv] isAgg29 sizeOf29 rfl rfl (Rd.ownN [] rfl rfl) (cX (XOp.call (args := [.agg #[arv, rsv]]) call51 rfl (SystemOk_spec har hrs) ?_)))))))
 rintro _ _ _ _ ⟨rfl, rfl, rfl⟩
 refine XL.mv (.bool (sysOk ar rs)) rfl ?_
 by_cases h1 : (sysOk ar rs) = true
 ·refine XL.yes (t := 11) rfl (vB h1) (XOp.fieldP (0) runUnderlying29 rfl sizeOf26 (by decide) rfl rfl (XL.yes (t := 11) rfl (vB h1) (XOp.loadN [arv] isAgg26 sizeOf26 rfl rfl (Rd.ownN [] rfl rfl) (XL.yes (t := 11) rfl (vB h1) (XOp.move (tv) rfl (XL.yes (t := 11) rfl (vB h1) (XOp.move (.int .i64 (p)) rfl (XL.yes (t := 11) rfl (vB h1) (XOp.call (args := [.agg #[arv], tv, .int .i64 (p)]) call60 rfl (posOk_spec (n := p) har ht) ?_)))))))))
  rintro _ _ _ _ ⟨rfl, rfl, rfl⟩
  refine cX (XOp.pickT (.bool (posOk ar t p)) (vB h1) rfl (XL.mv (.bool (posOk ar t p)) rfl ?_))
  by_cases h2 : (posOk ar t p) = true
  ·refine XL.yes (t := 18) rfl (vB h2) (XOp.move (.int .i64 (r)) rfl (XL.yes (t := 18) rfl (vB h2) (XOp.geq rfl rfl (cX (XOp.pickT (.bool (decide ((r : Int) ≥ 0))) (vB h2) rfl (XL.mv (.bool (decide ((r : Int) ≥ 0))) rfl ?_))))))
   by_cases h3 : (r : Int) ≥ 0
   ·refine XL.yes (t := 22) rfl (vT h3) (XOp.move (.int .i64 (r)) rfl (XL.yes (t := 22) rfl (vT h3) (XOp.fieldP (1) runUnderlying29 rfl sizeOf27 (by decide) rfl rfl (XL.yes (t := 22) rfl (vT h3) (XOp.load1 isAgg27 rfl (Rd.own [] rfl rfl) (XL.yes (t := 22) rfl (vT h3) (XOp.lenS runUnderlying27 rfl hrs.slv (XL.yes (t := 22) rfl (vT h3) (XOp.lss rfl rfl (cX (XOp.pickT (.bool (decide ((r : Int) < (rs.length : Int)))) (vT h3) rfl (XL.as (.bool (decide ((r : Int) < (rs.length : Int)))) rfl (XL.nil (X.ret (retEnd (L' := L) [.bool (decide ((r : Int) < (rs.length : Int)))] (.bool (decide ((r : Int) < (rs.length : Int)))) (.tmp rfl .nil) rfl rF rF (sD sR) ?_)))))))))))))))
    exact ⟨(vB (by unfold stepAtOk rightB; cases hA : sysOk ar rs <;> cases hB : termOk ar t <;> simp_all [posOk] <;> omega)), rfl, rfl⟩
   refine XL.no (t := 22) rfl (vF h3) (XL.no (t := 22) rfl (vF h3) (XL.no (t := 22) rfl (vF h3) (XL.no (t := 22) rfl (vF h3) (XL.no (t := 22) rfl (vF h3) (cX (XOp.pickF (.bool (false)) (vF h3) rfl (XL.as (.bool (false)) rfl (XL.nil (X.ret (retEnd (L' := L) [.bool (false)] (.bool (false)) (.tmp rfl .nil) rfl rF rF (sD sR) ?_))))))))))
   exact ⟨(vB (by unfold stepAtOk rightB; cases hA : sysOk ar rs <;> cases hB : termOk ar t <;> simp_all [posOk] <;> omega)), rfl, rfl⟩
  rw [Bool.not_eq_true] at h2
  refine XL.no (t := 18) rfl (vB h2) (XL.no (t := 18) rfl (vB h2) (cX (XOp.pickF (.bool (false)) (vB h2) rfl (XL.mv (.bool (false)) rfl (XL.no (t := 22) rfl rfl (XL.no (t := 22) rfl rfl (XL.no (t := 22) rfl rfl (XL.no (t := 22) rfl rfl (XL.no (t := 22) rfl rfl (cX (XOp.pickF (.bool (false)) rfl rfl ?_)))))))))))
  refine XL.as (.bool (false)) rfl (XL.nil (X.ret (retEnd (L' := L) [.bool (false)] (.bool (false)) (.tmp rfl .nil) rfl rF rF (sD sR) ?_)))
  exact ⟨(vB (by unfold stepAtOk rightB; cases hA : sysOk ar rs <;> cases hB : termOk ar t <;> simp_all [posOk] <;> omega)), rfl, rfl⟩
 rw [Bool.not_eq_true] at h1
 refine XL.no (t := 11) rfl (vB h1) (XL.no (t := 11) rfl (vB h1) (XL.no (t := 11) rfl (vB h1) (XL.no (t := 11) rfl (vB h1) (XL.no (t := 11) rfl (vB h1) (cX (XOp.pickF (.bool (false)) (vB h1) rfl (XL.mv (.bool (false)) rfl (XL.no (t := 18) rfl rfl (XL.no (t := 18) rfl rfl (cX (XOp.pickF (.bool (false)) rfl rfl ?_)))))))))))
 refine XL.mv (.bool (false)) rfl (XL.no (t := 22) rfl rfl (XL.no (t := 22) rfl rfl (XL.no (t := 22) rfl rfl (XL.no (t := 22) rfl rfl (XL.no (t := 22) rfl rfl (cX (XOp.pickF (.bool (false)) rfl rfl (XL.as (.bool (false)) rfl (XL.nil (X.ret (retEnd (L' := L) [.bool (false)] (.bool (false)) (.tmp rfl .nil) rfl rF rF (sD sR) ?_)))))))))))
 exact ⟨(vB (by unfold stepAtOk rightB; cases hA : sysOk ar rs <;> cases hB : termOk ar t <;> simp_all [posOk] <;> omega)), rfl, rfl⟩

/- impl.StepAt -/
theorem StepAt_spec {F : FH} {L : List HP} {arv : Value} {ar : List Int} (har : IntsF F arv ar) {rsv : Value} {rs : List (List Int × List Int)} (hrs : PairsF F rsv rs) {tv : Value} {t : List Int} (ht : IntsF F tv t) {p : Int} {r : Int} :
    Does prog 33 [.agg #[arv, rsv], tv, .int .i64 (p), .int .i64 (r)] F (L) (fun v F' L' => ∃ (a : Value), (.tuple #[a, .bool ((stepAtL ar rs t p r).isSome)] : Value) = v ∧ (IntsF F' a ((stepAtL ar rs t p r).getD [])) ∧ (Fresh F F' (intsH 2 a ((stepAtL ar rs t p r).getD []))) ∧ L = L') := by
 refine Does.of_X func33 rfl rfl rfl (X.seq (X.region (cX (XOp.box [arv, rsv] rfl rfl ?_))))
 intro b1
 refine XL.as ((.slice none 0 0)) rfl (XL.as (.bool (false)) rfl (XL.nil (X.seq (X.seq (X.region (cX (XOp.loadN [arv, rsv] isAgg29 sizeOf29 rfl rfl (Rd.ownN [] rfl rfl) (XL.mv (tv) rfl (XL.mv (.int .i64 (p)) rfl (XL.mv (.int .i64 (r)) rfl (cX (XOp.call (args := [.agg #[arv, rsv], tv, .int .i64 (p), .int .i64 (r)]) call65 rfl (stepArgs_spec (p := p) (r := r) har hrs ht) ?_))))))))))))
 rintro _ _ _ _ ⟨rfl, rfl, rfl⟩
 refine cX (XOp.notB rfl (XL.nil ?_))
 refine X.cond (t := !(stepAtOk ar rs t p r)) rfl (fun h1 => ?_) (fun h1 => ?_)
 ·have hz0 : stepAtL ar rs t p r = none := by rw [stepAtL, if_neg (by simpa using h1)]
  refine X.seq (X.region (XL.as ((.slice none 0 0)) rfl (XL.as (.bool (false)) rfl (XL.nil (X.ret (thenQ_ret (retEnd (L' := L) [(.slice none 0 0), .bool (false)] (.tuple #[(.slice none 0 0), .bool (false)]) (.tmp rfl (.tmp rfl .nil)) rfl rF rF (sD sR) ?_)))))))
  exact ⟨_, by rw [hz0]; rfl, by rw [hz0]; exact IntsF.nilV, by rw [hz0]; exact Fresh.ofNil _, rfl⟩
 have hok : stepAtOk ar rs t p r = true := by simpa using h1
 have hok2 := hok
 unfold stepAtOk rightB at hok2
 simp only [Bool.and_eq_true, decide_eq_true_eq] at hok2
 obtain ⟨⟨⟨hsys, ho⟩, hp1⟩, hr1⟩ := hok2
 refine X.skip (X.seq (X.region (cX (XOp.loadN [arv, rsv] isAgg29 sizeOf29 rfl rfl (Rd.ownN [] rfl rfl) (XL.mv (tv) rfl (XL.mv (.int .i64 (p)) rfl (XL.mv (.int .i64 (r)) rfl (cX (XOp.call (args := [.agg #[arv, rsv], tv, .int .i64 (((p).toNat : Nat) : Int), .int .i64 (((r).toNat : Nat) : Int)]) call81 (by rw [show (((p).toNat : Nat) : Int) = p from by omega, show (((r).toNat : Nat) : Int) = r from by omega]; rfl) (step_spec (p := (p).toNat) (r := (r).toNat) har hrs ht (hsys := (by first | assumption | rfl | omega | simp)) (ho := (by first | assumption | rfl | omega | simp)) (hp := (by first | assumption | rfl | omega | simp)) (hr := (by first | assumption | rfl | omega | simp))) ?_)))))))))
 rintro _ F1 _ le1 ⟨x1, rfl, hr1, hr2, hr3, rfl⟩
 refine cX (XOp.extract (x1) rfl rfl (cX (XOp.extract (.bool ((stepL ar rs t ((p).toNat) ((r).toNat)).isSome)) rfl rfl (XL.as (x1) rfl (XL.as (.bool ((stepL ar rs t ((p).toNat) ((r).toNat)).isSome)) rfl (XL.nil (X.ret (retEnd (L' := L) [x1, .bool ((stepL ar rs t ((p).toNat) ((r).toNat)).isSome)] (.tuple #[x1, .bool ((stepL ar rs t ((p).toNat) ((r).toNat)).isSome)]) (.tmp rfl (.tmp rfl .nil)) rfl le1 rF (sD sR) ?_))))))))
 have e := show stepAtL ar rs t p r = stepL ar rs t p.toNat r.toNat from by rw [stepAtL, if_pos hok]
 exact ⟨_, by rw [e], by rw [e]; exact hr1, by rw [e]; exact hr3, rfl⟩
end Go.Proofs.Ytmaaifhmhclhdaa
set_option linter.unusedSimpArgs false
set_option linter.unusedVariables false
namespace Go.Proofs.Ytmaaifhmhclhdaa
open Go X M Try

/- impl.walkOk -/
theorem walkOk_spec {F : FH} {L : List HP} {arv : Value} {ar : List Int} (har : IntsF F arv ar) {rsv : Value} {rs : List (List Int × List Int)} (hrs : PairsF F rsv rs) {fv : Value} {f : List Int} (hf : IntsF F fv f) {ssv : Value} {ss : List StepT} (hss : StepsF F ssv ss) (hlf : f.length ≤ 4000000) (hsb : ∀ i, i < ss.length → (ss.getD i (0, 0, [])).2.2.length ≤ 4000000) :
    Does prog 91 [.agg #[arv, rsv], .agg #[fv, ssv]] F (L) (fun v F' L' => (.bool (((termOk ar f && decide (ss.length ≤ 60)) && goOk ar rs f ss)) : Value) = v ∧ F = F' ∧ L = L') := by
 refine Does.of_X func91 rfl rfl rfl (X.seq (X.region (cX (XOp.box [arv, rsv] rfl rfl ?_))))
 intro b1
 refine cX (XOp.box [fv, ssv] rfl rfl ?_)
 intro b2
 refine XL.as (.bool (false)) rfl (XL.nil (X.seq (X.seq (X.region (cX (XOp.fieldP (0) runUnderlying29 rfl sizeOf26 (by decide) rfl rfl (cX (XOp.loadN [arv] isAgg26 sizeOf26 rfl rfl (Rd.ownN [_] rfl rfl) (cX (XOp.fieldP (0) runUnderlying60 rfl sizeOf24 (by decide) rfl rfl (cX (XOp.load1 isAgg24 rfl (Rd.own [] rfl rfl) (cX (XOp.call (args := [.agg #[arv], fv]) call52 rfl (TermOk_spec har hf) ?_))))))))))))))
 rintro _ _ _ _ ⟨rfl, rfl, rfl⟩
 refine cX (XOp.notB rfl (XL.mv (.bool (!(termOk ar f))) rfl ?_))
 by_cases h1 : (!(termOk ar f)) = true
 ·refine XL.no (t := 16) rfl (vB h1) (XL.no (t := 16) rfl (vB h1) (XL.no (t := 16) rfl (vB h1) (XL.no (t := 16) rfl (vB h1) (cX (XOp.pickT (.bool (true)) (vB h1) rfl (XL.nil (X.condT rfl (X.seq (X.region (XL.as (.bool (false)) rfl (XL.nil ?_)))))))))))
  refine X.ret (thenQ_ret (retEnd (L' := L) [.bool (false)] (.bool (false)) (.tmp rfl .nil) rfl rF rF (sD (sD sR)) ?_))
  exact ⟨(vB (by simp_all <;> omega)), rfl, rfl⟩
 rw [Bool.not_eq_true] at h1
 refine XL.yes (t := 16) rfl (vB h1) (XOp.fieldP (1) runUnderlying60 rfl sizeOf45 (by decide) rfl rfl (XL.yes (t := 16) rfl (vB h1) (XOp.load1 isAgg45 rfl (Rd.own [] rfl rfl) (XL.yes (t := 16) rfl (vB h1) (XOp.lenS runUnderlying45 rfl hss.slv (XL.yes (t := 16) rfl (vB h1) (XOp.gtr rfl rfl (cX (XOp.pickF (.bool (decide (((ss.length : Int) : Int) > 60))) (vB h1) rfl (XL.nil ?_))))))))))
 refine X.condD (p := ((ss.length : Int) : Int) > 60) rfl (fun h2 => ?_) (fun h2 => ?_)
 ·refine X.seq (X.region (XL.as (.bool (false)) rfl (XL.nil (X.ret (thenQ_ret (retEnd (L' := L) [.bool (false)] (.bool (false)) (.tmp rfl .nil) rfl rF rF (sD (sD sR)) ?_))))))
  exact ⟨(vB (by simp_all <;> omega)), rfl, rfl⟩
 refine X.skip (X.seq (X.region (cX (XOp.fieldP (0) runUnderlying60 rfl sizeOf24 (by decide) rfl rfl (cX (XOp.load1 isAgg24 rfl (Rd.own [] rfl rfl) (XL.as (fv) rfl (XL.nil (X.seq (X.seq (X.region (cX (XOp.fieldP (1) runUnderlying60 rfl sizeOf45 (by decide) rfl rfl (cX (XOp.load1 isAgg45 rfl (Rd.own [] rfl rfl) (cX (XOp.lenS runUnderlying45 rfl hss.slv (XL.mv (.int .i64 (0)) rfl (XL.nil (X.block ?_))))))))))))))))))))
 refine X.loop (α := Nat × Value × List Int × FH) (fun xQ => [(2, ptr b1 0), (5, xQ.2.1), (25, ssv), (26, .int .i64 ((ss.length : Int))), (27, .int .i64 (((xQ.1 : Nat) : Int)))]) (fun xQ => cellsH b2 [fv, ssv] 60 :: cellsH b1 [arv, rsv] 29 :: L) (fun xQ F' => xQ.2.2.2 = F' ∧ F ≤ xQ.2.2.2 ∧ (IntsF xQ.2.2.2 xQ.2.1 xQ.2.2.1) ∧ (xQ.1 ≤ ss.length) ∧ (goOk ar rs f ss = goOk ar rs xQ.2.2.1 (ss.drop xQ.1)) ∧ (xQ.2.2.1.length ≤ 4000000)) (fun xQ => ss.length - xQ.1) (0, fv, f, F) ⟨rfl, rfl, rfl, rfl, rfl, trivial⟩ (sC (sC sR)) ⟨rfl, FLe.refl _, (hf), (by (try dsimp only) <;> omega), (rfl), (hlf)⟩ ?_
 rintro ⟨k, cv, cur, G1⟩ rE _ _ ⟨rfl, leG, hcv, hk, hgo, hcl⟩
 show X _ _ _ _ (envs [(2, ptr b1 0), (5, cv), (25, ssv), (26, .int .i64 ((ss.length : Int))), (27, .int .i64 ((k : Int)))] rE) _ (cellsH b2 [fv, ssv] 60 :: cellsH b1 [arv, rsv] 29 :: L)
 replace leG : F ≤ G1 := leG
 dsimp only at hcv hk hgo hcl
 have hsk := hsb k
 have leG1 := leG
 replace har := har.mono leG1
 replace hrs := hrs.mono leG1
 replace hss := hss.mono leG1
 refine X.seq (X.region (cX (XOp.lss rfl rfl (XL.nil (X.seq ?_)))))
 refine X.condD (p := (k : Int) < (ss.length : Int)) rfl (fun h3 => ?_) (fun h3 => ?_)
 ·refine X.skip (X.seq (X.block (X.seq (X.region (cX (XOp.indexS k runUnderlying45 sizeOf48 rfl rfl rfl hss.slv (by omega) rfl ?_))))))
  obtain ⟨a1, ha1, hr1, hr2, hr3⟩ := hss.rd (i := k) (by omega)
  refine cX (XOp.loadN [.int .i64 ((ss.getD k (0, 0, [])).1), .int .i64 ((ss.getD k (0, 0, [])).2.1), a1] isAgg48 sizeOf48 rfl rfl (Rd.three (hr1 _) (hr2 _) (hr3 _)) (cX (XOp.alloc [.int .i64 (0), .int .i64 (0), (.slice none 0 0)] zeroValue48 rfl ?_)))
  intro b3
  refine cX (XOp.storeN [] _ [.int .i64 ((ss.getD k (0, 0, [])).1), .int .i64 ((ss.getD k (0, 0, [])).2.1), a1] sizeOf48 rfl rfl rfl (ones_cons rfl (ones_cons rfl (ones_cons (one_sl (IntsF.isSl ha1)) ones_nil))) rfl rfl rfl (XL.nil (X.seq (X.region (cX (XOp.loadN [arv, rsv] isAgg29 sizeOf29 rfl rfl (Rd.ownN [_, _] rfl rfl) (XL.mv (cv) rfl (cX (XOp.fieldP (0) runUnderlying48 rfl sizeOf2 (by decide) rfl rfl (cX (XOp.load1 isAgg2 rfl (Rd.own [] rfl rfl) (cX (XOp.fieldP (1) runUnderlying48 rfl sizeOf2 (by decide) rfl rfl (cX (XOp.load1 isAgg2 rfl (Rd.own [] rfl rfl) (cX (XOp.call (args := [.agg #[arv, rsv], cv, .int .i64 ((ss.getD k (0, 0, [])).1), .int .i64 ((ss.getD k (0, 0, [])).2.1)]) call33 rfl (StepAt_spec (p := (ss.getD k (0, 0, [])).1) (r := (ss.getD k (0, 0, [])).2.1) har hrs hcv) ?_)))))))))))))))))
  rintro _ F1 _ le1 ⟨x1, rfl, hr4, hr5, rfl⟩
  replace ha1 := ha1.mono le1
  refine XL.mv (.tuple #[x1, .bool ((stepAtL ar rs cur ((ss.getD k (0, 0, [])).1) ((ss.getD k (0, 0, [])).2.1)).isSome)]) rfl (cX (XOp.extract (x1) rfl rfl (cX (XOp.extract (.bool ((stepAtL ar rs cur ((ss.getD k (0, 0, [])).1) ((ss.getD k (0, 0, [])).2.1)).isSome)) rfl rfl (XL.as (x1) rfl (XL.as (.bool ((stepAtL ar rs cur ((ss.getD k (0, 0, [])).1) ((ss.getD k (0, 0, [])).2.1)).isSome)) rfl (XL.nil (X.seq (X.seq (X.region (XL.mv (.bool ((stepAtL ar rs cur ((ss.getD k (0, 0, [])).1) ((ss.getD k (0, 0, [])).2.1)).isSome)) rfl (cX (XOp.notB rfl (XL.mv (.bool (!((stepAtL ar rs cur ((ss.getD k (0, 0, [])).1) ((ss.getD k (0, 0, [])).2.1)).isSome))) rfl ?_))))))))))))))
  by_cases h4 : (!((stepAtL ar rs cur ((ss.getD k (0, 0, [])).1) ((ss.getD k (0, 0, [])).2.1)).isSome)) = true
  ·have hu1 : (stepAtL ar rs cur (ss.getD k (0, 0, [])).1 (ss.getD k (0, 0, [])).2.1).isSome = false := by simpa using h4
   refine XL.no (t := 43) rfl (vB h4) (XL.no (t := 43) rfl (vB h4) (XL.no (t := 43) rfl (vB h4) (XL.no (t := 43) rfl (vB h4) (XL.no (t := 43) rfl (vB h4) (cX (XOp.pickT (.bool (true)) (vB h4) rfl (XL.nil (X.condT rfl (X.seq (X.region (XL.as (.bool (false)) rfl ?_)))))))))))
   refine XL.nil (X.ret (thenQ_ret (blockQ_ret (thenQ_ret (thenQ_ret (blockQ_ret (thenQ_ret (retEnd (L' := L) [.bool (false)] (.bool (false)) (.tmp rfl .nil) rfl rF (FLe.trans leG1 le1) (sD (sD (sD sR))) ?_))))))))
   exact ⟨(vB (by have hz := goOk_fail (ar := ar) (rs := rs) (t := cur) (ss := ss) (k := k) (by omega) (by first | exact .inl hu1 | exact .inr hu2); rw [hgo, hz]; simp)), rfl, rfl⟩
  rw [Bool.not_eq_true] at h4
  have hu1 : (stepAtL ar rs cur (ss.getD k (0, 0, [])).1 (ss.getD k (0, 0, [])).2.1).isSome = true := by simpa using h4
  refine XL.yes (t := 43) rfl (vB h4) (XOp.move (x1) rfl (XL.yes (t := 43) rfl (vB h4) (XOp.fieldP (2) runUnderlying48 rfl sizeOf24 (by decide) rfl rfl (XL.yes (t := 43) rfl (vB h4) (XOp.load1 isAgg24 rfl (Rd.own [] rfl rfl) (XL.yes (t := 43) rfl (vB h4) (XOp.call (args := [x1, a1]) call73 rfl (Equal_spec hr4 ha1 (hbd := (by first | assumption | rfl | omega | (left; simp; done) | (right; simp; done)))) ?_)))))))
  rintro _ _ _ _ ⟨rfl, rfl, rfl⟩
  refine XL.yes (t := 43) rfl (vB h4) (XOp.notD rfl (cX (XOp.pickF (.bool (decide (¬(((stepAtL ar rs cur ((ss.getD k (0, 0, [])).1) ((ss.getD k (0, 0, [])).2.1)).getD []) = ((ss.getD k (0, 0, [])).2.2))))) (vB h4) rfl (XL.nil ?_))))
  refine X.condD (p := ¬(((stepAtL ar rs cur ((ss.getD k (0, 0, [])).1) ((ss.getD k (0, 0, [])).2.1)).getD []) = ((ss.getD k (0, 0, [])).2.2))) rfl (fun h5 => ?_) (fun h5 => ?_)
  ·have hu2 : (stepAtL ar rs cur (ss.getD k (0, 0, [])).1 (ss.getD k (0, 0, [])).2.1).getD [] ≠ (ss.getD k (0, 0, [])).2.2 := h5
   refine X.seq (X.region (XL.as (.bool (false)) rfl (XL.nil (X.ret (thenQ_ret (blockQ_ret (thenQ_ret (thenQ_ret (blockQ_ret (thenQ_ret (retEnd (L' := L) [.bool (false)] (.bool (false)) (.tmp rfl .nil) rfl rF (FLe.trans leG1 le1) (sD (sD (sD sR))) ?_)))))))))))
   exact ⟨(vB (by have hz := goOk_fail (ar := ar) (rs := rs) (t := cur) (ss := ss) (k := k) (by omega) (by first | exact .inl hu1 | exact .inr hu2); rw [hgo, hz]; simp)), rfl, rfl⟩
  have hu2 : (stepAtL ar rs cur (ss.getD k (0, 0, [])).1 (ss.getD k (0, 0, [])).2.1).getD [] = (ss.getD k (0, 0, [])).2.2 := Classical.not_not.1 h5
  refine X.skip (X.region (XL.mv (x1) rfl (XL.as (x1) rfl (XL.nil (X.region (cX (XOp.addR (((k + 1 : Nat) : Int)) rfl rfl (by omega) (by omega) (XL.mv (.int .i64 (((k + 1 : Nat) : Int))) rfl (XL.nil ?_)))))))))
  exact ⟨(k + 1, x1, (stepAtL ar rs cur ((ss.getD k (0, 0, [])).1) ((ss.getD k (0, 0, [])).2.1)).getD [], F1), _, (FLe.trans leG1 le1), rF, ⟨rfl, rfl, rfl, rfl, rfl, trivial⟩, (sD (sC (sC sR))), ⟨rfl, (FLe.trans leG1 le1), (hr4), (by (try dsimp only) <;> omega), (by (try dsimp only); rw [hgo]; exact goOk_next (by omega) hu1 hu2), (by (try dsimp only); rw [hu2]; exact hsk (by omega))⟩, (by omega)⟩
 refine X.exit (thenQ_exit (thenQ_exit (blockQ_exit (X.seq (X.region (XL.as (.bool (true)) rfl (XL.nil (X.ret (retEnd (L' := L) [.bool (true)] (.bool (true)) (.tmp rfl .nil) rfl rF leG1 (sD (sD sR)) ?_)))))))))
 exact ⟨(vB (by rw [hgo, goOk_end (by omega)]; simp_all <;> omega)), rfl, rfl⟩

/- impl.WalkOk -/
theorem WalkOk_spec {F : FH} {L : List HP} {arv : Value} {ar : List Int} (har : IntsF F arv ar) {rsv : Value} {rs : List (List Int × List Int)} (hrs : PairsF F rsv rs) {fv : Value} {f : List Int} (hf : IntsF F fv f) {ssv : Value} {ss : List StepT} (hss : StepsF F ssv ss) (hlf : f.length ≤ 4000000) (hsb : ∀ i, i < ss.length → (ss.getD i (0, 0, [])).2.2.length ≤ 4000000) :
    Does prog 39 [.agg #[arv, rsv], .agg #[fv, ssv]] F (L) (fun v F' L' => (.bool (walkOkL ar rs f ss) : Value) = v ∧ F = F' ∧ L = L') := by
 refine Does.of_X func39 rfl rfl rfl (X.seq (X.region (cX (XOp.box [arv, rsv] rfl rfl ?_))))
 intro b1
 refine cX (XOp.box [fv, ssv] rfl rfl ?_)
 intro b2
 refine XL.as (.bool (false)) rfl (XL.nil (X.seq (X.region (cX (XOp.loadN [arv, rsv] isAgg29 sizeOf29 rfl rfl (Rd.ownN [_] rfl rfl) (cX (XOp.call (args := [.agg #[arv, rsv]]) call51 rfl (SystemOk_spec har hrs) ?_)))))))
 rintro _ _ _ _ ⟨rfl, rfl, rfl⟩
 refine XL.mv (.bool (sysOk ar rs)) rfl ?_
 by_cases h1 : (sysOk ar rs) = true
 ·refine XL.yes (t := 7) rfl (vB h1) (XOp.loadN [arv, rsv] isAgg29 sizeOf29 rfl rfl (Rd.ownN [_] rfl rfl) (XL.yes (t := 7) rfl (vB h1) (XOp.loadN [fv, ssv] isAgg60 sizeOf60 rfl rfl (Rd.ownN [] rfl rfl) (XL.yes (t := 7) rfl (vB h1) (XOp.call (args := [.agg #[arv, rsv], .agg #[fv, ssv]]) call91 rfl (walkOk_spec har hrs hf hss (hlf := (by first | assumption | rfl | omega | simp)) (hsb := (by first | assumption | rfl | omega | simp))) ?_)))))
  rintro _ _ _ _ ⟨rfl, rfl, rfl⟩
  refine cX (XOp.pickT (.bool (((termOk ar f && decide (ss.length ≤ 60)) && goOk ar rs f ss))) (vB h1) rfl (XL.as (.bool (((termOk ar f && decide (ss.length ≤ 60)) && goOk ar rs f ss))) rfl (XL.nil (X.ret (retEnd (L' := L) [.bool (((termOk ar f && decide (ss.length ≤ 60)) && goOk ar rs f ss))] (.bool (((termOk ar f && decide (ss.length ≤ 60)) && goOk ar rs f ss))) (.tmp rfl .nil) rfl rF rF (sD (sD sR)) ?_)))))
  exact ⟨(vB (by rw [walkOkL, rightB]; simp_all [Bool.and_assoc])), rfl, rfl⟩
 rw [Bool.not_eq_true] at h1
 refine XL.no (t := 7) rfl (vB h1) (XL.no (t := 7) rfl (vB h1) (XL.no (t := 7) rfl (vB h1) (cX (XOp.pickF (.bool (false)) (vB h1) rfl (XL.as (.bool (false)) rfl (XL.nil (X.ret (retEnd (L' := L) [.bool (false)] (.bool (false)) (.tmp rfl .nil) rfl rF rF (sD (sD sR)) ?_))))))))
 exact ⟨(vB (by rw [walkOkL, rightB]; simp_all [Bool.and_assoc])), rfl, rfl⟩

/- (impl.Walk).end -/
theorem walkEnd_spec {F : FH} {L : List HP} {fv : Value} {f : List Int} (hf : IntsF F fv f) {ssv : Value} {ss : List StepT} (hss : StepsF F ssv ss) (hlss : ss.length ≤ 4000000) :
    Does prog 99 [.agg #[fv, ssv]] F (L) (fun v F' L' => F = F' ∧ ∃ (a : Value), (a : Value) = v ∧ (IntsF F' a (endL f ss)) ∧ L = L') := by
 refine Does.of_X func99 rfl rfl rfl (X.seq (X.region (cX (XOp.box [fv, ssv] rfl rfl ?_))))
 intro b1
 refine XL.as ((.slice none 0 0)) rfl (XL.nil (X.seq (X.seq (X.region (cX (XOp.fieldP (1) runUnderlying60 rfl sizeOf45 (by decide) rfl rfl (cX (XOp.load1 isAgg45 rfl (Rd.own [] rfl rfl) (cX (XOp.lenS runUnderlying45 rfl hss.slv (XL.as (.int .i64 ((ss.length : Int))) rfl (XL.nil (X.seq (X.region (XL.mv (.int .i64 ((ss.length : Int))) rfl (cX (XOp.gtr rfl rfl (XL.nil ?_))))))))))))))))))
 refine X.condD (p := ((ss.length : Int) : Int) > 0) rfl (fun h1 => ?_) (fun h1 => ?_)
 ·refine X.seq (X.region (cX (XOp.fieldP (1) runUnderlying60 rfl sizeOf45 (by decide) rfl rfl (cX (XOp.load1 isAgg45 rfl (Rd.own [] rfl rfl) (XL.mv (.int .i64 ((ss.length : Int))) rfl (cX (XOp.subR (((((ss).length) - 1 : Nat) : Int)) rfl rfl (by omega) (by omega) (cX (XOp.indexS (((ss).length) - 1) runUnderlying45 sizeOf48 rfl rfl rfl hss.slv (by omega) rfl (cX (XOp.fieldE ((((ss).length) - 1) * 3 + 2) runUnderlying48 rfl sizeOf24 (by decide) rfl rfl ?_))))))))))))
  obtain ⟨a1, ha1, hr1, hr2, hr3⟩ := hss.rd (i := ((ss).length) - 1) (by omega)
  refine cX (XOp.load1 isAgg24 rfl (hr3 _) (XL.as (a1) rfl (XL.nil (X.ret (thenQ_ret (retEnd (L' := L) [a1] (a1) (.tmp rfl .nil) rfl rF rF (sD sR) ?_))))))
  exact ⟨rfl, _, rfl, by rw [endL, if_neg (by omega)]; exact ha1, rfl⟩
 refine X.skip (X.seq (X.region (cX (XOp.fieldP (0) runUnderlying60 rfl sizeOf24 (by decide) rfl rfl (cX (XOp.load1 isAgg24 rfl (Rd.own [] rfl rfl) (XL.as (fv) rfl (XL.nil (X.ret (retEnd (L' := L) [fv] (fv) (.tmp rfl .nil) rfl rF rF (sD sR) ?_))))))))))
 exact ⟨rfl, _, rfl, by rw [endL, if_pos (by omega)]; exact hf, rfl⟩

/- impl.EndTerm -/
theorem EndTerm_spec {F : FH} {L : List HP} {arv : Value} {ar : List Int} (har : IntsF F arv ar) {rsv : Value} {rs : List (List Int × List Int)} (hrs : PairsF F rsv rs) {fv : Value} {f : List Int} (hf : IntsF F fv f) {ssv : Value} {ss : List StepT} (hss : StepsF F ssv ss) (hlf : f.length ≤ 4000000) (hsb : ∀ i, i < ss.length → (ss.getD i (0, 0, [])).2.2.length ≤ 4000000) :
    Does prog 44 [.agg #[arv, rsv], .agg #[fv, ssv]] F (L) (fun v F' L' => F = F' ∧ IsSl v ∧ intsH 2 v (endT ar rs f ss) :: L = L') := by
 refine Does.of_X func44 rfl rfl rfl (X.seq (X.region (cX (XOp.box [arv, rsv] rfl rfl ?_))))
 intro b1
 refine cX (XOp.box [fv, ssv] rfl rfl ?_)
 intro b2
 refine XL.as ((.slice none 0 0)) rfl (XL.nil (X.seq (X.seq (X.region (cX (XOp.loadN [arv, rsv] isAgg29 sizeOf29 rfl rfl (Rd.ownN [_] rfl rfl) (cX (XOp.loadN [fv, ssv] isAgg60 sizeOf60 rfl rfl (Rd.ownN [] rfl rfl) (cX (XOp.call (args := [.agg #[arv, rsv], .agg #[fv, ssv]]) call39 rfl (WalkOk_spec har hrs hf hss (hlf := (by first | assumption | rfl | omega | simp)) (hsb := (by first | assumption | rfl | omega | simp))) ?_))))))))))
 rintro _ _ _ _ ⟨rfl, rfl, rfl⟩
 refine cX (XOp.notB rfl (XL.nil ?_))
 refine X.cond (t := !(walkOkL ar rs f ss)) rfl (fun h1 => ?_) (fun h1 => ?_)
 ·refine X.seq (X.region (XL.as ((.slice none 0 0)) rfl (XL.nil (X.ret (thenQ_ret (retEnd (L' := intsH 2 ((.slice none 0 0)) ([]) :: L) [(.slice none 0 0)] ((.slice none 0 0)) (.tmp rfl .nil) rfl rF rF (Sub.trans (intsH.addNil 2 none _) (sC (sD (sD sR)))) ?_))))))
  refine ⟨rfl, ⟨_, _, _, rfl⟩, ?_⟩
  have hxs : (endT ar rs f ss : List Int) = [] := by rw [endT, if_neg (by simp_all)]
  exact congrArg (fun z => intsH 2 _ z :: L) hxs
 have hwk : walkOkL ar rs f ss = true := by simpa using h1
 have hel := termOk_len (right_iff.1 (walkOk_end hwk)).2
 have hwl := (walkOkL_iff.1 hwk).2.1
 refine X.skip (X.seq (X.region (cX (XOp.loadN [fv, ssv] isAgg60 sizeOf60 rfl rfl (Rd.ownN [] rfl rfl) (cX (XOp.call (args := [.agg #[fv, ssv]]) call99 rfl (walkEnd_spec hf hss (hlss := (by first | assumption | rfl | omega | simp))) ?_))))))
 rintro _ _ _ _ ⟨rfl, x1, rfl, hr1, rfl⟩
 refine cX (XOp.call (args := [x1]) call97 rfl (Clone_spec hr1 (hlt := (by first | assumption | rfl | omega | simp))) ?_)
 rintro v1 _ _ _ ⟨rfl, hs1, rfl⟩
 refine XL.as (v1) rfl (XL.nil (X.ret (retEnd (L' := intsH 2 v1 (((endL f ss))) :: L) [v1] (v1) (.tmp rfl .nil) rfl rF rF (sC (sD (sD sR))) ?_)))
 refine ⟨rfl, hs1, ?_⟩
 have hxs : (endT ar rs f ss : List Int) = ((endL f ss)) := by rw [endT, if_pos hwk]
 exact congrArg (fun z => intsH 2 _ z :: L) hxs

/- spec.StepAt -/
theorem sStepAt_spec {F : FH} {L : List HP} {arv : Value} {ar : List Int} (har : IntsF F arv ar) {rsv : Value} {rs : List (List Int × List Int)} (hrs : PairsF F rsv rs) {tv : Value} {t : List Int} (ht : IntsF F tv t) {p : Int} {r : Int} (hla : ar.length ≤ 4000000) (hlr : rs.length ≤ 4000000) (hrb : ∀ i, i < rs.length → (rs.getD i ([], [])).1.length ≤ 4000000 ∧ (rs.getD i ([], [])).2.length ≤ 4000000) (hlt : t.length ≤ 4000000) :
    Does prog 95 [.agg #[arv, rsv], tv, .int .i64 (p), .int .i64 (r)] F (L) (fun v F' L' => ∃ (a : Value), (.tuple #[a, .bool ((stepAtL ar rs t p r).isSome)] : Value) = v ∧ (IntsF F' a ((stepAtL ar rs t p r).getD [])) ∧ L = L') := by
 refine Does.of_X func95 rfl rfl rfl (X.seq (X.region (cX (XOp.box [arv, rsv] rfl rfl ?_))))
 intro b1
 refine XL.as ((.slice none 0 0)) rfl (XL.as (.bool (false)) rfl (XL.nil (X.seq (X.seq (X.region (cX (XOp.loadN [arv, rsv] isAgg29 sizeOf29 rfl rfl (Rd.ownN [] rfl rfl) (XL.mv (tv) rfl (cX (XOp.call (args := [.agg #[arv, rsv], tv]) call57 rfl (l7Right_spec har hrs ht (hla := (by first | assumption | rfl | omega | simp)) (hlr := (by first | assumption | rfl | omega | simp)) (hrb := (by first | assumption | rfl | omega | simp)) (hlt := (by first | assumption | rfl | omega | simp))) ?_))))))))))
 rintro _ _ _ _ ⟨rfl, rfl, rfl⟩
 refine cX (XOp.notB rfl (XL.mv (.bool (!(rightB ar rs t))) rfl ?_))
 by_cases h1 : (!(rightB ar rs t)) = true
 ·refine XL.no (t := 14) rfl (vB h1) (XL.no (t := 14) rfl (vB h1) (XL.no (t := 14) rfl (vB h1) (XL.no (t := 14) rfl (vB h1) (cX (XOp.pickT (.bool (true)) (vB h1) rfl (XL.mv (.bool (true)) rfl (XL.no (t := 20) rfl rfl (XL.no (t := 20) rfl rfl (XL.no (t := 20) rfl rfl (XL.no (t := 20) rfl rfl ?_))))))))))
  refine XL.no (t := 20) rfl rfl (XL.no (t := 20) rfl rfl (XL.no (t := 20) rfl rfl (cX (XOp.pickT (.bool (true)) rfl rfl (XL.nil (X.condT rfl (X.seq (X.region (cX (XOp.buildSlice (s := 1) [] [.int .i64 (0)] [] runUnderlying24 sizeOf2 zeroValue2 rfl (by decide) rfl CellsAre.nil rfl ?_))))))))))
  intro v1 hv1
  refine XL.as (v1) rfl (XL.as (.bool (false)) rfl (XL.nil ?_))
  show X _ _ _ _ _ _ (intsH 2 v1 ([] : List Int) :: cellsH b1 [arv, rsv] 29 :: L)
  refine X.freezeF [] _ _ rfl (fun F1 le1 hz1 => ?_)
  replace har := har.mono le1
  replace hrs := hrs.mono le1
  replace ht := ht.mono le1
  have hf1 : IntsF F1 v1 ([]) := intsH.fz (xs := []) hz1.fz
  refine X.ret (thenQ_ret (retEnd (L' := L) [v1, .bool (false)] (.tuple #[v1, .bool (false)]) (.tmp rfl (.tmp rfl .nil)) rfl le1 rF (sD sR) ?_))
  have hz0 : stepAtL ar rs t p r = none := by rw [stepAtL, if_neg (by unfold stepAtOk; cases hA : rightB ar rs t <;> simp_all <;> omega)]
  exact ⟨_, by rw [hz0]; rfl, by rw [hz0]; exact hf1, rfl⟩
 rw [Bool.not_eq_true] at h1
 refine XL.yes (t := 14) rfl (vB h1) (XOp.move (tv) rfl (XL.yes (t := 14) rfl (vB h1) (XOp.move (.int .i64 (p)) rfl (XL.yes (t := 14) rfl (vB h1) (XOp.call (args := [tv, .int .i64 (p)]) call93 rfl (l1There_spec (n := p) ht (hbd := (by first | assumption | rfl | omega | simp))) ?_)))))
 rintro _ _ _ _ ⟨rfl, rfl, rfl⟩
 refine XL.yes (t := 14) rfl (vB h1) (XOp.notD rfl (cX (XOp.pickF (.bool (decide (¬(0 ≤ p ∧ p < (t.length : Int))))) (vB h1) rfl (XL.mv (.bool (decide (¬(0 ≤ p ∧ p < (t.length : Int))))) rfl ?_))))
 by_cases h2 : ¬(0 ≤ p ∧ p < (t.length : Int))
 ·refine XL.no (t := 20) rfl (vT h2) (XL.no (t := 20) rfl (vT h2) (XL.no (t := 20) rfl (vT h2) (XL.no (t := 20) rfl (vT h2) (XL.no (t := 20) rfl (vT h2) (XL.no (t := 20) rfl (vT h2) (XL.no (t := 20) rfl (vT h2) (cX (XOp.pickT (.bool (true)) (vT h2) rfl (XL.nil (X.condT rfl ?_))))))))))
  refine X.seq (X.region (cX (XOp.buildSlice (s := 1) [] [.int .i64 (0)] [] runUnderlying24 sizeOf2 zeroValue2 rfl (by decide) rfl CellsAre.nil rfl ?_)))
  intro v2 hv2
  refine XL.as (v2) rfl (XL.as (.bool (false)) rfl (XL.nil ?_))
  show X _ _ _ _ _ _ (intsH 2 v2 ([] : List Int) :: cellsH b1 [arv, rsv] 29 :: L)
  refine X.freezeF [] _ _ rfl (fun F2 le2 hz2 => ?_)
  replace har := har.mono le2
  replace hrs := hrs.mono le2
  replace ht := ht.mono le2
  have hf2 : IntsF F2 v2 ([]) := intsH.fz (xs := []) hz2.fz
  refine X.ret (thenQ_ret (retEnd (L' := L) [v2, .bool (false)] (.tuple #[v2, .bool (false)]) (.tmp rfl (.tmp rfl .nil)) rfl le2 rF (sD sR) ?_))
  have hz0 : stepAtL ar rs t p r = none := by rw [stepAtL, if_neg (by unfold stepAtOk; cases hA : rightB ar rs t <;> simp_all <;> omega)]
  exact ⟨_, by rw [hz0]; rfl, by rw [hz0]; exact hf2, rfl⟩
 refine XL.yes (t := 20) rfl (vF h2) (XOp.move (.int .i64 (r)) rfl (XL.yes (t := 20) rfl (vF h2) (XOp.fieldP (1) runUnderlying29 rfl sizeOf27 (by decide) rfl rfl (XL.yes (t := 20) rfl (vF h2) (XOp.load1 isAgg27 rfl (Rd.own [] rfl rfl) (XL.yes (t := 20) rfl (vF h2) (XOp.lenS runUnderlying27 rfl hrs.slv (XL.yes (t := 20) rfl (vF h2) (XOp.subR (((rs.length : Int)) - 1) rfl rfl (by omega) (by omega) (XL.yes (t := 20) rfl (vF h2) (XOp.call (args := [.int .i64 (r), .int .i64 (0), .int .i64 (((rs.length : Int)) - 1)]) call122 rfl (l1In_spec (n := r) (a := 0) (b := ((rs.length : Int)) - 1)) ?_)))))))))))
 rintro _ _ _ _ ⟨rfl, rfl, rfl⟩
 refine XL.yes (t := 20) rfl (vF h2) (XOp.notD rfl (cX (XOp.pickF (.bool (decide (¬(0 ≤ r ∧ r ≤ (((rs.length : Int)) - 1))))) (vF h2) rfl (XL.nil ?_))))
 refine X.condD (p := ¬(0 ≤ r ∧ r ≤ (((rs.length : Int)) - 1))) rfl (fun h3 => ?_) (fun h3 => ?_)
 ·refine X.seq (X.region (cX (XOp.buildSlice (s := 1) [] [.int .i64 (0)] [] runUnderlying24 sizeOf2 zeroValue2 rfl (by decide) rfl CellsAre.nil rfl ?_)))
  intro v3 hv3
  refine XL.as (v3) rfl (XL.as (.bool (false)) rfl (XL.nil ?_))
  show X _ _ _ _ _ _ (intsH 2 v3 ([] : List Int) :: cellsH b1 [arv, rsv] 29 :: L)
  refine X.freezeF [] _ _ rfl (fun F3 le3 hz3 => ?_)
  replace har := har.mono le3
  replace hrs := hrs.mono le3
  replace ht := ht.mono le3
  have hf3 : IntsF F3 v3 ([]) := intsH.fz (xs := []) hz3.fz
  refine X.ret (thenQ_ret (retEnd (L' := L) [v3, .bool (false)] (.tuple #[v3, .bool (false)]) (.tmp rfl (.tmp rfl .nil)) rfl le3 rF (sD sR) ?_))
  have hz0 : stepAtL ar rs t p r = none := by rw [stepAtL, if_neg (by unfold stepAtOk; cases hA : rightB ar rs t <;> simp_all <;> omega)]
  exact ⟨_, by rw [hz0]; rfl, by rw [hz0]; exact hf3, rfl⟩
 refine X.skip (X.seq (X.region ?_))
 have hok : stepAtOk ar rs t p r = true := by unfold stepAtOk; cases hA : rightB ar rs t <;> simp_all <;> omega
 have hok2 := hok
 unfold stepAtOk rightB at hok2
 simp only [Bool.and_eq_true, decide_eq_true_eq] at hok2
 obtain ⟨⟨⟨hsys, ho⟩, hp1⟩, hr1⟩ := hok2
 refine cX (XOp.loadN [arv, rsv] isAgg29 sizeOf29 rfl rfl (Rd.ownN [] rfl rfl) (XL.mv (tv) rfl (XL.mv (.int .i64 (p)) rfl (XL.mv (.int .i64 (r)) rfl (cX (XOp.call (args := [.agg #[arv, rsv], tv, .int .i64 (((p).toNat : Nat) : Int), .int .i64 (((r).toNat : Nat) : Int)]) call118 (by rw [show (((p).toNat : Nat) : Int) = p from by omega, show (((r).toNat : Nat) : Int) = r from by omega]; rfl) (l7Step_spec (p := (p).toNat) (r := (r).toNat) har hrs ht (hsys := (by first | assumption | rfl | omega | simp)) (ho := (by first | assumption | rfl | omega | simp)) (hp := (by first | assumption | rfl | omega | simp)) (hr := (by first | assumption | rfl | omega | simp))) ?_))))))
 rintro _ F4 _ le4 ⟨x1, rfl, hr1, rfl⟩
 refine cX (XOp.extract (x1) rfl rfl (cX (XOp.extract (.bool ((stepL ar rs t ((p).toNat) ((r).toNat)).isSome)) rfl rfl (XL.as (x1) rfl (XL.as (.bool ((stepL ar rs t ((p).toNat) ((r).toNat)).isSome)) rfl (XL.nil (X.ret (retEnd (L' := L) [x1, .bool ((stepL ar rs t ((p).toNat) ((r).toNat)).isSome)] (.tuple #[x1, .bool ((stepL ar rs t ((p).toNat) ((r).toNat)).isSome)]) (.tmp rfl (.tmp rfl .nil)) rfl le4 rF (sD sR) ?_))))))))
 have e := show stepAtL ar rs t p r = stepL ar rs t p.toNat r.toNat from by rw [stepAtL, if_pos hok]
 exact ⟨_, by rw [e], by rw [e]; exact hr1, rfl⟩

/- spec.WalkOk -/
theorem sWalkOk_spec {F : FH} {L : List HP} {arv : Value} {ar : List Int} (har : IntsF F arv ar) {rsv : Value} {rs : List (List Int × List Int)} (hrs : PairsF F rsv rs) {fv : Value} {f : List Int} (hf : IntsF F fv f) {ssv : Value} {ss : List StepT} (hss : StepsF F ssv ss) (hla : ar.length ≤ 4000000) (hlr : rs.length ≤ 4000000) (hrb : ∀ i, i < rs.length → (rs.getD i ([], [])).1.length ≤ 4000000 ∧ (rs.getD i ([], [])).2.length ≤ 4000000) (hlf : f.length ≤ 4000000) (hlss : ss.length ≤ 4000000) (hsb : ∀ i, i < ss.length → (ss.getD i (0, 0, [])).2.2.length ≤ 4000000) :
    Does prog 42 [.agg #[arv, rsv], .agg #[fv, ssv]] F (L) (fun v F' L' => (.bool (walkOkL ar rs f ss) : Value) = v ∧ F = F' ∧ L = L') := by
 refine Does.of_X func42 rfl rfl rfl (X.seq (X.region (cX (XOp.box [arv, rsv] rfl rfl ?_))))
 intro b1
 refine cX (XOp.box [fv, ssv] rfl rfl ?_)
 intro b2
 refine XL.as (.bool (false)) rfl (XL.nil (X.seq (X.seq (X.region (cX (XOp.loadN [arv, rsv] isAgg29 sizeOf29 rfl rfl (Rd.ownN [_] rfl rfl) (cX (XOp.fieldP (0) runUnderlying60 rfl sizeOf24 (by decide) rfl rfl (cX (XOp.load1 isAgg24 rfl (Rd.own [] rfl rfl) (cX (XOp.call (args := [.agg #[arv, rsv], fv]) call57 rfl (l7Right_spec har hrs hf (hla := (by first | assumption | rfl | omega | simp)) (hlr := (by first | assumption | rfl | omega | simp)) (hrb := (by first | assumption | rfl | omega | simp)) (hlt := (by first | assumption | rfl | omega | simp))) ?_))))))))))))
 rintro _ _ _ _ ⟨rfl, rfl, rfl⟩
 refine cX (XOp.notB rfl (XL.mv (.bool (!(rightB ar rs f))) rfl ?_))
 by_cases h1 : (!(rightB ar rs f)) = true
 ·refine XL.no (t := 14) rfl (vB h1) (XL.no (t := 14) rfl (vB h1) (XL.no (t := 14) rfl (vB h1) (XL.no (t := 14) rfl (vB h1) (cX (XOp.pickT (.bool (true)) (vB h1) rfl (XL.nil (X.condT rfl (X.seq (X.region (XL.as (.bool (false)) rfl (XL.nil ?_)))))))))))
  refine X.ret (thenQ_ret (retEnd (L' := L) [.bool (false)] (.bool (false)) (.tmp rfl .nil) rfl rF rF (sD (sD sR)) ?_))
  exact ⟨(vB (by unfold walkOkL; simp_all <;> omega)), rfl, rfl⟩
 rw [Bool.not_eq_true] at h1
 refine XL.yes (t := 14) rfl (vB h1) (XOp.fieldP (1) runUnderlying60 rfl sizeOf45 (by decide) rfl rfl (XL.yes (t := 14) rfl (vB h1) (XOp.load1 isAgg45 rfl (Rd.own [] rfl rfl) (XL.yes (t := 14) rfl (vB h1) (XOp.lenS runUnderlying45 rfl hss.slv (XL.yes (t := 14) rfl (vB h1) (XOp.gtr rfl rfl (cX (XOp.pickF (.bool (decide (((ss.length : Int) : Int) > 60))) (vB h1) rfl (XL.nil ?_))))))))))
 refine X.condD (p := ((ss.length : Int) : Int) > 60) rfl (fun h2 => ?_) (fun h2 => ?_)
 ·refine X.seq (X.region (XL.as (.bool (false)) rfl (XL.nil (X.ret (thenQ_ret (retEnd (L' := L) [.bool (false)] (.bool (false)) (.tmp rfl .nil) rfl rF rF (sD (sD sR)) ?_))))))
  exact ⟨(vB (by unfold walkOkL; simp_all <;> omega)), rfl, rfl⟩
 refine X.skip (X.seq (X.region (cX (XOp.fieldP (0) runUnderlying60 rfl sizeOf24 (by decide) rfl rfl (cX (XOp.load1 isAgg24 rfl (Rd.own [] rfl rfl) (XL.as (fv) rfl (XL.nil (X.seq (X.seq (X.region (XL.as (.int .i64 (0)) rfl (XL.nil (X.block (X.loop (α := Nat × Value × List Int × FH) (fun xQ => [(2, ptr b1 0), (3, ptr b2 0), (5, xQ.2.1), (6, .int .i64 (((xQ.1 : Nat) : Int)))]) (fun xQ => cellsH b2 [fv, ssv] 60 :: cellsH b1 [arv, rsv] 29 :: L) (fun xQ F' => xQ.2.2.2 = F' ∧ F ≤ xQ.2.2.2 ∧ (IntsF xQ.2.2.2 xQ.2.1 xQ.2.2.1) ∧ (xQ.1 ≤ ss.length) ∧ (goOk ar rs f ss = goOk ar rs xQ.2.2.1 (ss.drop xQ.1)) ∧ (xQ.2.2.1.length ≤ 4000000)) (fun xQ => ss.length - xQ.1) (0, fv, f, F) ⟨rfl, rfl, rfl, rfl, trivial⟩ (sC (sC sR)) ⟨rfl, FLe.refl _, (hf), (by (try dsimp only) <;> omega), (rfl), (hlf)⟩ ?_)))))))))))))))
 rintro ⟨k, cv, cur, G1⟩ rE _ _ ⟨rfl, leG, hcv, hk, hgo, hcl⟩
 show X _ _ _ _ (envs [(2, ptr b1 0), (3, ptr b2 0), (5, cv), (6, .int .i64 ((k : Int)))] rE) _ (cellsH b2 [fv, ssv] 60 :: cellsH b1 [arv, rsv] 29 :: L)
 replace leG : F ≤ G1 := leG
 dsimp only at hcv hk hgo hcl
 have hsk := hsb k
 have leG1 := leG
 replace har := har.mono leG1
 replace hrs := hrs.mono leG1
 replace hss := hss.mono leG1
 refine X.seq (X.seq (X.region (XL.mv (.int .i64 ((k : Int))) rfl (cX (XOp.fieldP (1) runUnderlying60 rfl sizeOf45 (by decide) rfl rfl (cX (XOp.load1 isAgg45 rfl (Rd.own [] rfl rfl) (cX (XOp.lenS runUnderlying45 rfl hss.slv (cX (XOp.lss rfl rfl (XL.nil ?_))))))))))))
 refine X.condD (p := (k : Int) < (ss.length : Int)) rfl (fun h3 => ?_) (fun h3 => ?_)
 ·refine X.skip (X.seq (X.block (X.seq ?_)))
  obtain ⟨a1, ha1, hr1, hr2, hr3⟩ := hss.rd (i := k) (by omega)
  refine X.drawG [cellsH b2 [fv, ssv] 60, cellsH b1 [arv, rsv] 29] L 19 [[], [], [], [], [], [], [], [], [], [], [], [], [], [], [], [14], [14], [], [14]] [[], [], [], [2], [], [3, 4], [5], [6], [], [8], [], [9, 10], [11], [12], [0, 1, 7, 13], [14], [14, 15], [14, 15], [14, 16]] [[], [], [], [], [], [], [], [], [], [], [], [], [], [], [], [], [], [], []] (phiG [fun FF us v => v = (.agg #[arv, rsv] : Value), fun FF us v => v = cv, fun FF us v => v = ptr b2 1, fun FF us v => v = ssv, fun FF us v => v = (.int .i64 ((k : Int)) : Value), fun FF us v => v = (.pointer (some (elemA ssv (k * 3))) : Value), fun FF us v => v = (.pointer (some (elemA ssv (k * 3))) : Value), fun FF us v => v = (.int .i64 ((ss.getD k (0, 0, [])).1) : Value), fun FF us v => v = ptr b2 1, fun FF us v => v = ssv, fun FF us v => v = (.int .i64 ((k : Int)) : Value), fun FF us v => v = (.pointer (some (elemA ssv (k * 3))) : Value), fun FF us v => v = (.pointer (some (elemA ssv (k * 3 + 1))) : Value), fun FF us v => v = (.int .i64 ((ss.getD k (0, 0, [])).2.1) : Value), fun FF us v => (.tuple #[((tupAt v 0)), .bool ((stepAtL ar rs cur ((ss.getD k (0, 0, [])).1) ((ss.getD k (0, 0, [])).2.1)).isSome)] : Value) = v ∧ (IntsF FF ((tupAt v 0)) ((stepAtL ar rs cur ((ss.getD k (0, 0, [])).1) ((ss.getD k (0, 0, [])).2.1)).getD [])), fun FF us v => v = (.tuple #[((tupAt (us.getD 0 undef) 0)), .bool ((stepAtL ar rs cur ((ss.getD k (0, 0, [])).1) ((ss.getD k (0, 0, [])).2.1)).isSome)] : Value), fun FF us v => v = ((tupAt (us.getD 0 undef) 0)), fun FF us v => v = (.bool ((stepAtL ar rs cur ((ss.getD k (0, 0, [])).1) ((ss.getD k (0, 0, [])).2.1)).isSome) : Value), fun FF us v => v = ((tupAt (us.getD 0 undef) 0))]) (ownL [fun us v => [], fun us v => [], fun us v => [], fun us v => [], fun us v => [], fun us v => [], fun us v => [], fun us v => [], fun us v => [], fun us v => [], fun us v => [], fun us v => [], fun us v => [], fun us v => [], fun us v => [], fun us v => [], fun us v => [], fun us v => [], fun us v => []]) mixed rfl rfl (by kernel_rfl) (by kernel_rfl) (MonoG.get (mC (fun le h => h) (mC (fun le h => h) (mC (fun le h => h) (mC (fun le h => h) (mC (fun le h => h) (mC (fun le h => h) (mC (fun le h => h) (mC (fun le h => h) (mC (fun le h => h) (mC (fun le h => h) (mC (fun le h => h) (mC (fun le h => h) (mC (fun le h => h) (mC (fun le h => h) (mC (fun le h => ⟨h.1, h.2.mono le⟩) (mC (fun le h => h) (mC (fun le h => h) (mC (fun le h => h) (mC (fun le h => h) MonoG.nil)))))))))))))))))))) ?_ ?_
  ·refine gC (fun vals Fs R leFs hpZ => ?_) ?_
   ·replace har := har.mono leFs
    replace hrs := hrs.mono leFs
    replace hss := hss.mono leFs
    replace hcv := hcv.mono leFs
    replace ha1 := ha1.mono leFs
    replace hr1 := Rd.monoA hr1 leFs
    replace hr2 := Rd.monoA hr2 leFs
    replace hr3 := Rd.monoA hr3 leFs
    refine XG.op (XOp.loadN [arv, rsv] isAgg29 sizeOf29 rfl rfl (Rd.ownN [_] rfl rfl) ?_)
    exact ⟨rfl, rfl⟩
   refine gC (fun vals Fs R leFs hpZ => ?_) ?_
   ·refine XG.op (XOp.move (cv) rfl ?_)
    exact ⟨rfl, rfl⟩
   refine gC (fun vals Fs R leFs hpZ => ?_) ?_
   ·refine XG.op (XOp.fieldP (1) runUnderlying60 rfl sizeOf45 (by decide) rfl rfl ?_)
    exact ⟨rfl, rfl⟩
   refine gC (fun vals Fs R leFs hpZ => ?_) ?_
   ·replace har := har.mono leFs
    replace hrs := hrs.mono leFs
    replace hss := hss.mono leFs
    replace hcv := hcv.mono leFs
    replace ha1 := ha1.mono leFs
    replace hr1 := Rd.monoA hr1 leFs
    replace hr2 := Rd.monoA hr2 leFs
    replace hr3 := Rd.monoA hr3 leFs
    rw [eS (l := [(2, ptr b2 1)]) ⟨(hpZ 2 (by decide)), trivial⟩]
    refine XG.op (XOp.load1 isAgg45 rfl (Rd.own [] rfl rfl) ?_)
    exact ⟨rfl, rfl⟩
   refine gC (fun vals Fs R leFs hpZ => ?_) ?_
   ·refine XG.op (XOp.move (.int .i64 ((k : Int))) rfl ?_)
    exact ⟨rfl, rfl⟩
   refine gC (fun vals Fs R leFs hpZ => ?_) ?_
   ·replace har := har.mono leFs
    replace hrs := hrs.mono leFs
    replace hss := hss.mono leFs
    replace hcv := hcv.mono leFs
    replace ha1 := ha1.mono leFs
    replace hr1 := Rd.monoA hr1 leFs
    replace hr2 := Rd.monoA hr2 leFs
    replace hr3 := Rd.monoA hr3 leFs
    rw [eS (l := [(3, ssv), (4, (.int .i64 ((k : Int)) : Value))]) ⟨(hpZ 3 (by decide)), (hpZ 4 (by decide)), trivial⟩]
    refine XG.op (XOp.indexS k runUnderlying45 sizeOf48 rfl rfl rfl hss.slv (by omega) rfl ?_)
    exact ⟨rfl, rfl⟩
   refine gC (fun vals Fs R leFs hpZ => ?_) ?_
   ·rw [eS (l := [(5, (.pointer (some (elemA ssv (k * 3))) : Value))]) ⟨(hpZ 5 (by decide)), trivial⟩]
    refine XG.op (XOp.fieldE (k * 3) runUnderlying48 rfl sizeOf2 (by decide) rfl rfl ?_)
    exact ⟨rfl, rfl⟩
   refine gC (fun vals Fs R leFs hpZ => ?_) ?_
   ·replace har := har.mono leFs
    replace hrs := hrs.mono leFs
    replace hss := hss.mono leFs
    replace hcv := hcv.mono leFs
    replace ha1 := ha1.mono leFs
    replace hr1 := Rd.monoA hr1 leFs
    replace hr2 := Rd.monoA hr2 leFs
    replace hr3 := Rd.monoA hr3 leFs
    rw [eS (l := [(6, (.pointer (some (elemA ssv (k * 3))) : Value))]) ⟨(hpZ 6 (by decide)), trivial⟩]
    refine XG.op (XOp.load1 isAgg2 rfl (hr1 _) ?_)
    exact ⟨rfl, rfl⟩
   refine gC (fun vals Fs R leFs hpZ => ?_) ?_
   ·refine XG.op (XOp.fieldP (1) runUnderlying60 rfl sizeOf45 (by decide) rfl rfl ?_)
    exact ⟨rfl, rfl⟩
   refine gC (fun vals Fs R leFs hpZ => ?_) ?_
   ·replace har := har.mono leFs
    replace hrs := hrs.mono leFs
    replace hss := hss.mono leFs
    replace hcv := hcv.mono leFs
    replace ha1 := ha1.mono leFs
    replace hr2 := Rd.monoA hr2 leFs
    replace hr3 := Rd.monoA hr3 leFs
    rw [eS (l := [(8, ptr b2 1)]) ⟨(hpZ 8 (by decide)), trivial⟩]
    refine XG.op (XOp.load1 isAgg45 rfl (Rd.own [] rfl rfl) ?_)
    exact ⟨rfl, rfl⟩
   refine gC (fun vals Fs R leFs hpZ => ?_) ?_
   ·refine XG.op (XOp.move (.int .i64 ((k : Int))) rfl ?_)
    exact ⟨rfl, rfl⟩
   refine gC (fun vals Fs R leFs hpZ => ?_) ?_
   ·replace har := har.mono leFs
    replace hrs := hrs.mono leFs
    replace hss := hss.mono leFs
    replace hcv := hcv.mono leFs
    replace ha1 := ha1.mono leFs
    replace hr2 := Rd.monoA hr2 leFs
    replace hr3 := Rd.monoA hr3 leFs
    rw [eS (l := [(9, ssv), (10, (.int .i64 ((k : Int)) : Value))]) ⟨(hpZ 9 (by decide)), (hpZ 10 (by decide)), trivial⟩]
    refine XG.op (XOp.indexS k runUnderlying45 sizeOf48 rfl rfl rfl hss.slv (by omega) rfl ?_)
    exact ⟨rfl, rfl⟩
   refine gC (fun vals Fs R leFs hpZ => ?_) ?_
   ·rw [eS (l := [(11, (.pointer (some (elemA ssv (k * 3))) : Value))]) ⟨(hpZ 11 (by decide)), trivial⟩]
    refine XG.op (XOp.fieldE (k * 3 + 1) runUnderlying48 rfl sizeOf2 (by decide) rfl rfl ?_)
    exact ⟨rfl, rfl⟩
   refine gC (fun vals Fs R leFs hpZ => ?_) ?_
   ·replace har := har.mono leFs
    replace hrs := hrs.mono leFs
    replace hss := hss.mono leFs
    replace hcv := hcv.mono leFs
    replace ha1 := ha1.mono leFs
    replace hr2 := Rd.monoA hr2 leFs
    replace hr3 := Rd.monoA hr3 leFs
    rw [eS (l := [(12, (.pointer (some (elemA ssv (k * 3 + 1))) : Value))]) ⟨(hpZ 12 (by decide)), trivial⟩]
    refine XG.op (XOp.load1 isAgg2 rfl (hr2 _) ?_)
    exact ⟨rfl, rfl⟩
   refine gC (fun vals Fs R leFs hpZ => ?_) ?_
   ·replace har := har.mono leFs
    replace hrs := hrs.mono leFs
    replace hss := hss.mono leFs
    replace hcv := hcv.mono leFs
    replace ha1 := ha1.mono leFs
    replace hr3 := Rd.monoA hr3 leFs
    rw [eS (l := [(0, (.agg #[arv, rsv] : Value)), (1, cv), (7, (.int .i64 ((ss.getD k (0, 0, [])).1) : Value)), (13, (.int .i64 ((ss.getD k (0, 0, [])).2.1) : Value))]) ⟨(hpZ 0 (by decide)), (hpZ 1 (by decide)), (hpZ 7 (by decide)), (hpZ 13 (by decide)), trivial⟩]
    refine XG.op (XOp.call (args := [.agg #[arv, rsv], cv, .int .i64 ((ss.getD k (0, 0, [])).1), .int .i64 ((ss.getD k (0, 0, [])).2.1)]) call95 rfl (sStepAt_spec (p := (ss.getD k (0, 0, [])).1) (r := (ss.getD k (0, 0, [])).2.1) har hrs hcv (hla := (by first | assumption | rfl | omega | simp)) (hlr := (by first | assumption | rfl | omega | simp)) (hrb := (by first | assumption | rfl | omega | simp)) (hlt := (by first | assumption | rfl | omega | simp))) ?_)
    rintro _ F2 _ le2 ⟨x2, rfl, hr5, rfl⟩
    replace hss := hss.mono le2
    replace ha1 := ha1.mono le2
    replace hr3 := Rd.monoA hr3 le2
    exact ⟨⟨rfl, hr5⟩, rfl⟩
   refine gC (fun vals Fs R leFs hpZ => ?_) ?_
   ·obtain ⟨e14, f14_1hr⟩ := hpZ 14 (by decide)
    rw [eS (l := [(14, (.tuple #[((tupAt (vals 14) 0)), .bool ((stepAtL ar rs cur ((ss.getD k (0, 0, [])).1) ((ss.getD k (0, 0, [])).2.1)).isSome)] : Value))]) ⟨(e14).symm, trivial⟩]
    refine XG.op (XOp.move (.tuple #[((tupAt (vals 14) 0)), .bool ((stepAtL ar rs cur ((ss.getD k (0, 0, [])).1) ((ss.getD k (0, 0, [])).2.1)).isSome)]) rfl ?_)
    exact ⟨rfl, rfl⟩
   refine gC (fun vals Fs R leFs hpZ => ?_) ?_
   ·obtain ⟨e14, f14_1hr⟩ := hpZ 14 (by decide)
    have e15 : vals 15 = (.tuple #[((tupAt (vals 14) 0)), .bool ((stepAtL ar rs cur ((ss.getD k (0, 0, [])).1) ((ss.getD k (0, 0, [])).2.1)).isSome)] : Value) := hpZ 15 (by decide)
    rw [eS (l := [(14, (.tuple #[((tupAt (vals 14) 0)), .bool ((stepAtL ar rs cur ((ss.getD k (0, 0, [])).1) ((ss.getD k (0, 0, [])).2.1)).isSome)] : Value)), (15, (.tuple #[((tupAt (vals 14) 0)), .bool ((stepAtL ar rs cur ((ss.getD k (0, 0, [])).1) ((ss.getD k (0, 0, [])).2.1)).isSome)] : Value))]) ⟨(e14).symm, e15, trivial⟩]
    refine XG.op (XOp.extract (((tupAt (vals 14) 0))) rfl rfl ?_)
    exact ⟨rfl, rfl⟩
   refine gC (fun vals Fs R leFs hpZ => ?_) ?_
   ·obtain ⟨e14, f14_1hr⟩ := hpZ 14 (by decide)
    have e15 : vals 15 = (.tuple #[((tupAt (vals 14) 0)), .bool ((stepAtL ar rs cur ((ss.getD k (0, 0, [])).1) ((ss.getD k (0, 0, [])).2.1)).isSome)] : Value) := hpZ 15 (by decide)
    rw [eS (l := [(14, (.tuple #[((tupAt (vals 14) 0)), .bool ((stepAtL ar rs cur ((ss.getD k (0, 0, [])).1) ((ss.getD k (0, 0, [])).2.1)).isSome)] : Value)), (15, (.tuple #[((tupAt (vals 14) 0)), .bool ((stepAtL ar rs cur ((ss.getD k (0, 0, [])).1) ((ss.getD k (0, 0, [])).2.1)).isSome)] : Value))]) ⟨(e14).symm, e15, trivial⟩]
    refine XG.op (XOp.extract (.bool ((stepAtL ar rs cur ((ss.getD k (0, 0, [])).1) ((ss.getD k (0, 0, [])).2.1)).isSome)) rfl rfl ?_)
    exact ⟨rfl, rfl⟩
   refine gC (fun vals Fs R leFs hpZ => ?_) ?_
   ·obtain ⟨e14, f14_1hr⟩ := hpZ 14 (by decide)
    have e16 : vals 16 = ((tupAt (vals 14) 0)) := hpZ 16 (by decide)
    rw [eS (l := [(14, (.tuple #[((tupAt (vals 14) 0)), .bool ((stepAtL ar rs cur ((ss.getD k (0, 0, [])).1) ((ss.getD k (0, 0, [])).2.1)).isSome)] : Value)), (16, ((tupAt (vals 14) 0)))]) ⟨(e14).symm, e16, trivial⟩]
    refine XG.op (XOp.assign (((tupAt (vals 14) 0))) rfl ?_)
    exact ⟨rfl, rfl⟩
   exact stepsG.nil
  intro vals F3 le3 hphi
  obtain ⟨e14, f14_1hr⟩ := hphi 14 (by decide)
  have e15 : vals 15 = (.tuple #[((tupAt (vals 14) 0)), .bool ((stepAtL ar rs cur ((ss.getD k (0, 0, [])).1) ((ss.getD k (0, 0, [])).2.1)).isSome)] : Value) := hphi 15 (by decide)
  have e16 : vals 16 = ((tupAt (vals 14) 0)) := hphi 16 (by decide)
  have e18 : vals 18 = ((tupAt (vals 14) 0)) := hphi 18 (by decide)
  generalize hu1 : ((tupAt (vals 14) 0)) = u1 at e14 f14_1hr e15 e16 e18
  rw [eS (l := [(14, (.tuple #[u1, .bool ((stepAtL ar rs cur ((ss.getD k (0, 0, [])).1) ((ss.getD k (0, 0, [])).2.1)).isSome)] : Value)), (17, (.bool ((stepAtL ar rs cur ((ss.getD k (0, 0, [])).1) ((ss.getD k (0, 0, [])).2.1)).isSome) : Value)), (18, u1)]) ⟨(e14).symm, (hphi 17 (by decide)), e18, trivial⟩]
  replace hss := hss.mono le3
  replace ha1 := ha1.mono le3
  replace hr3 := Rd.monoA hr3 le3
  show XL _ _ _ _ _ _ _ (cellsH b2 [fv, ssv] 60 :: cellsH b1 [arv, rsv] 29 :: L)
  refine XL.as (.bool ((stepAtL ar rs cur ((ss.getD k (0, 0, [])).1) ((ss.getD k (0, 0, [])).2.1)).isSome)) rfl (XL.nil (X.seq (X.seq (X.region (XL.mv (.bool ((stepAtL ar rs cur ((ss.getD k (0, 0, [])).1) ((ss.getD k (0, 0, [])).2.1)).isSome)) rfl (cX (XOp.notB rfl (XL.mv (.bool (!((stepAtL ar rs cur ((ss.getD k (0, 0, [])).1) ((ss.getD k (0, 0, [])).2.1)).isSome))) rfl ?_))))))))
  by_cases h4 : (!((stepAtL ar rs cur ((ss.getD k (0, 0, [])).1) ((ss.getD k (0, 0, [])).2.1)).isSome)) = true
  ·have hu1 : (stepAtL ar rs cur (ss.getD k (0, 0, [])).1 (ss.getD k (0, 0, [])).2.1).isSome = false := by simpa using h4
   refine XL.no (t := 49) rfl (vB h4) (XL.no (t := 49) rfl (vB h4) (XL.no (t := 49) rfl (vB h4) (XL.no (t := 49) rfl (vB h4) (XL.no (t := 49) rfl (vB h4) (XL.no (t := 49) rfl (vB h4) (XL.no (t := 49) rfl (vB h4) (XL.no (t := 49) rfl (vB h4) (XL.no (t := 49) rfl (vB h4) (cX (XOp.pickT (.bool (true)) (vB h4) rfl ?_))))))))))
   refine XL.nil (X.condT rfl (X.seq (X.region (XL.as (.bool (false)) rfl (XL.nil (X.ret (thenQ_ret (blockQ_ret (thenQ_ret (thenQ_ret (blockQ_ret (thenQ_ret (retEnd (L' := L) [.bool (false)] (.bool (false)) (.tmp rfl .nil) rfl rF (FLe.trans leG1 le3) (sD (sD sR)) ?_)))))))))))))
   exact ⟨(vB (by have hz := goOk_fail (ar := ar) (rs := rs) (t := cur) (ss := ss) (k := k) (by omega) (by first | exact .inl hu1 | exact .inr hu2); rw [walkOkL, hgo, hz]; simp)), rfl, rfl⟩
  rw [Bool.not_eq_true] at h4
  have hu1 : (stepAtL ar rs cur (ss.getD k (0, 0, [])).1 (ss.getD k (0, 0, [])).2.1).isSome = true := by simpa using h4
  refine XL.yes (t := 49) rfl (vB h4) (XOp.move (u1) rfl (XL.yes (t := 49) rfl (vB h4) (XOp.fieldP (1) runUnderlying60 rfl sizeOf45 (by decide) rfl rfl (XL.yes (t := 49) rfl (vB h4) (XOp.load1 isAgg45 rfl (Rd.own [] rfl rfl) (XL.yes (t := 49) rfl (vB h4) (XOp.move (.int .i64 ((k : Int))) rfl (XL.yes (t := 49) rfl (vB h4) (XOp.indexS k runUnderlying45 sizeOf48 rfl rfl rfl hss.slv (by omega) rfl (XL.yes (t := 49) rfl (vB h4) (XOp.fieldE (k * 3 + 2) runUnderlying48 rfl sizeOf24 (by decide) rfl rfl (XL.yes (t := 49) rfl (vB h4) (XOp.load1 isAgg24 rfl (hr3 _) (XL.yes (t := 49) rfl (vB h4) (XOp.call (args := [u1, a1]) call96 rfl (SameTerm_spec f14_1hr ha1 (hbd := (by first | assumption | rfl | omega | (left; simp; done) | (right; simp; done)))) ?_)))))))))))))))
  rintro _ _ _ _ ⟨rfl, rfl, rfl⟩
  refine XL.yes (t := 49) rfl (vB h4) (XOp.notD rfl (cX (XOp.pickF (.bool (decide (¬(((stepAtL ar rs cur ((ss.getD k (0, 0, [])).1) ((ss.getD k (0, 0, [])).2.1)).getD []) = ((ss.getD k (0, 0, [])).2.2))))) (vB h4) rfl (XL.nil ?_))))
  refine X.condD (p := ¬(((stepAtL ar rs cur ((ss.getD k (0, 0, [])).1) ((ss.getD k (0, 0, [])).2.1)).getD []) = ((ss.getD k (0, 0, [])).2.2))) rfl (fun h5 => ?_) (fun h5 => ?_)
  ·have hu2 : (stepAtL ar rs cur (ss.getD k (0, 0, [])).1 (ss.getD k (0, 0, [])).2.1).getD [] ≠ (ss.getD k (0, 0, [])).2.2 := h5
   refine X.seq (X.region (XL.as (.bool (false)) rfl (XL.nil (X.ret (thenQ_ret (blockQ_ret (thenQ_ret (thenQ_ret (blockQ_ret (thenQ_ret (retEnd (L' := L) [.bool (false)] (.bool (false)) (.tmp rfl .nil) rfl rF (FLe.trans leG1 le3) (sD (sD sR)) ?_)))))))))))
   exact ⟨(vB (by have hz := goOk_fail (ar := ar) (rs := rs) (t := cur) (ss := ss) (k := k) (by omega) (by first | exact .inl hu1 | exact .inr hu2); rw [walkOkL, hgo, hz]; simp)), rfl, rfl⟩
  have hu2 : (stepAtL ar rs cur (ss.getD k (0, 0, [])).1 (ss.getD k (0, 0, [])).2.1).getD [] = (ss.getD k (0, 0, [])).2.2 := Classical.not_not.1 h5
  refine X.skip (X.region (XL.mv (u1) rfl (XL.as (u1) rfl (XL.nil (X.region (XL.mv (.int .i64 ((k : Int))) rfl (cX (XOp.addR (((k + 1 : Nat) : Int)) rfl rfl (by omega) (by omega) (XL.as (.int .i64 (((k + 1 : Nat) : Int))) rfl (XL.nil ?_))))))))))
  exact ⟨(k + 1, u1, (stepAtL ar rs cur ((ss.getD k (0, 0, [])).1) ((ss.getD k (0, 0, [])).2.1)).getD [], F3), _, (FLe.trans leG1 le3), rF, ⟨rfl, rfl, rfl, rfl, trivial⟩, (sC (sC sR)), ⟨rfl, (FLe.trans leG1 le3), (f14_1hr), (by (try dsimp only) <;> omega), (by (try dsimp only); rw [hgo]; exact goOk_next (by omega) hu1 hu2), (by (try dsimp only); rw [hu2]; exact hsk (by omega))⟩, (by omega)⟩
 refine X.exit (thenQ_exit (thenQ_exit (blockQ_exit (X.seq (X.region (XL.as (.bool (true)) rfl (XL.nil (X.ret (retEnd (L' := L) [.bool (true)] (.bool (true)) (.tmp rfl .nil) rfl rF leG1 (sD (sD sR)) ?_)))))))))
 exact ⟨(vB (by rw [walkOkL, hgo, goOk_end (by omega)]; simp_all <;> omega)), rfl, rfl⟩
end Go.Proofs.Ytmaaifhmhclhdaa
set_option linter.unusedSimpArgs false
set_option linter.unusedVariables false
namespace Go.Proofs.Ytmaaifhmhclhdaa
open Go X M Try

/- impl.SubstOk -/
theorem SubstOk_spec {F : FH} {L : List HP} {arv : Value} {ar : List Int} (har : IntsF F arv ar) {sv : Value} {s : List (List Int)} (hs : RowsF F sv s) :
    Does prog 101 [.agg #[arv], .agg #[sv]] F (L) (fun v F' L' => (.bool (substOk ar s) : Value) = v ∧ F = F' ∧ L = L') := by
 refine Does.of_X func101 rfl rfl rfl (X.seq (X.region (cX (XOp.box [arv] rfl rfl ?_))))
 intro b1
 refine cX (XOp.box [sv] rfl rfl ?_)
 intro b2
 refine XL.as (.bool (false)) rfl (XL.nil (X.seq (X.seq (X.region (cX (XOp.loadN [arv] isAgg26 sizeOf26 rfl rfl (Rd.ownN [_] rfl rfl) (cX (XOp.call (args := [.agg #[arv]]) call106 rfl (SigOk_spec har) ?_))))))))
 rintro _ _ _ _ ⟨rfl, rfl, rfl⟩
 refine cX (XOp.notB rfl (XL.mv (.bool (!(sigOk ar))) rfl ?_))
 by_cases h1 : (!(sigOk ar)) = true
 ·refine XL.no (t := 10) rfl (vB h1) (XL.no (t := 10) rfl (vB h1) (XL.no (t := 10) rfl (vB h1) (XL.no (t := 10) rfl (vB h1) (cX (XOp.pickT (.bool (true)) (vB h1) rfl (XL.nil (X.condT rfl (X.seq (X.region (XL.as (.bool (false)) rfl (XL.nil ?_)))))))))))
  refine X.ret (thenQ_ret (retEnd (L' := L) [.bool (false)] (.bool (false)) (.tmp rfl .nil) rfl rF rF (sD (sD sR)) ?_))
  exact ⟨(vB (substOk_false (fun h => by have := h.1; have := h.2.1; simp_all <;> omega))), rfl, rfl⟩
 rw [Bool.not_eq_true] at h1
 refine XL.yes (t := 10) rfl (vB h1) (XOp.fieldP (0) runUnderlying57 rfl sizeOf42 (by decide) rfl rfl (XL.yes (t := 10) rfl (vB h1) (XOp.load1 isAgg42 rfl (Rd.own [] rfl rfl) (XL.yes (t := 10) rfl (vB h1) (XOp.lenS runUnderlying42 rfl hs.slv (XL.yes (t := 10) rfl (vB h1) (XOp.gtr rfl rfl (cX (XOp.pickF (.bool (decide (((s.length : Int) : Int) > 24))) (vB h1) rfl (XL.nil ?_))))))))))
 refine X.condD (p := ((s.length : Int) : Int) > 24) rfl (fun h2 => ?_) (fun h2 => ?_)
 ·refine X.seq (X.region (XL.as (.bool (false)) rfl (XL.nil (X.ret (thenQ_ret (retEnd (L' := L) [.bool (false)] (.bool (false)) (.tmp rfl .nil) rfl rF rF (sD (sD sR)) ?_))))))
  exact ⟨(vB (substOk_false (fun h => by have := h.1; have := h.2.1; simp_all <;> omega))), rfl, rfl⟩
 refine X.skip (X.seq (X.seq (X.region (cX (XOp.fieldP (0) runUnderlying57 rfl sizeOf42 (by decide) rfl rfl (cX (XOp.load1 isAgg42 rfl (Rd.own [] rfl rfl) (cX (XOp.lenS runUnderlying42 rfl hs.slv (XL.mv (.int .i64 (0)) rfl (XL.nil (X.block (X.loop (α := Nat) (fun k => [(2, ptr b1 0), (17, sv), (18, .int .i64 ((s.length : Int))), (19, .int .i64 ((k : Int)))]) (fun k => cellsH b2 [sv] 57 :: cellsH b1 [arv] 26 :: L) (fun k F' => F = F' ∧ (k ≤ s.length) ∧ (∀ i, i < k → s.getD i [] = [] ∨ termOk ar (s.getD i []) = true)) (fun k => s.length - k) 0 ⟨rfl, rfl, rfl, rfl, trivial⟩ (sC (sC sR)) ⟨rfl, (by (try dsimp only) <;> omega), (fun i hi => absurd hi (by omega))⟩ ?_)))))))))))))
 rintro k rE _ _ ⟨rfl, hk, hall⟩
 show X _ _ _ _ (envs [(2, ptr b1 0), (17, sv), (18, .int .i64 ((s.length : Int))), (19, .int .i64 ((k : Int)))] rE) _ (cellsH b2 [sv] 57 :: cellsH b1 [arv] 26 :: L)
 refine X.seq (X.region (cX (XOp.lss rfl rfl (XL.nil (X.seq ?_)))))
 refine X.condD (p := (k : Int) < (s.length : Int)) rfl (fun h3 => ?_) (fun h3 => ?_)
 ·refine X.skip (X.seq (X.block (X.seq (X.region (cX (XOp.indexS k runUnderlying42 sizeOf24 rfl rfl rfl hs.slv (by omega) (Nat.mul_one _) ?_))))))
  obtain ⟨a1, ha1, hr1⟩ := hs.rd (i := k) (by omega)
  refine cX (XOp.load1 isAgg24 rfl (hr1 _) (XL.as (a1) rfl (XL.nil (X.seq (X.region (XL.mv (a1) rfl (cX (XOp.lenS runUnderlying24 rfl ha1.slv (cX (XOp.gtr rfl rfl (XL.mv (.bool (decide ((((((s.getD k [])).length : Nat) : Int) : Int) > 0))) rfl ?_)))))))))))
  by_cases h4 : (((((s.getD k [])).length : Nat) : Int) : Int) > 0
  ·refine XL.yes (t := 26) rfl (vT h4) (XOp.loadN [arv] isAgg26 sizeOf26 rfl rfl (Rd.ownN [_] rfl rfl) (XL.yes (t := 26) rfl (vT h4) (XOp.move (a1) rfl (XL.yes (t := 26) rfl (vT h4) (XOp.call (args := [.agg #[arv], a1]) call52 rfl (TermOk_spec har ha1) ?_)))))
   rintro _ _ _ _ ⟨rfl, rfl, rfl⟩
   refine XL.yes (t := 26) rfl (vT h4) (XOp.notB rfl (cX (XOp.pickT (.bool (!(termOk ar ((s.getD k []))))) (vT h4) rfl (XL.nil ?_))))
   refine X.cond (t := !(termOk ar ((s.getD k [])))) rfl (fun h5 => ?_) (fun h5 => ?_)
   ·refine X.seq (X.region (XL.as (.bool (false)) rfl (XL.nil (X.ret (blockQ_ret (thenQ_ret (thenQ_ret (blockQ_ret (thenQ_ret (retEnd (L' := L) [.bool (false)] (.bool (false)) (.tmp rfl .nil) rfl rF rF (sD (sD sR)) ?_))))))))))
    exact ⟨(vB (substOk_false (fun h => by have h9 := h.2.2 k (by omega); rcases h9 with h9 | h9; (have := congrArg List.length h9; simp only [List.length_nil] at this; omega); simp_all))), rfl, rfl⟩
   refine X.skip (X.region (cX (XOp.addR (((k + 1 : Nat) : Int)) rfl rfl (by omega) (by omega) (XL.mv (.int .i64 (((k + 1 : Nat) : Int))) rfl (XL.nil ?_)))))
   exact ⟨k + 1, _, FLe.refl _, rF, ⟨rfl, rfl, rfl, rfl, trivial⟩, (sC (sC sR)), ⟨rfl, (by (try dsimp only) <;> omega), (fun i hi => (Nat.lt_or_ge i k).elim (fun h => hall i h) (fun h => by obtain rfl : i = k := (by omega); first | exact .inr (by assumption) | exact .inl (len_nil (by assumption)) | (have := len_nil (by assumption); simp_all) | simp_all))⟩, (by omega)⟩
  refine XL.no (t := 26) rfl (vF h4) (XL.no (t := 26) rfl (vF h4) (XL.no (t := 26) rfl (vF h4) (XL.no (t := 26) rfl (vF h4) (cX (XOp.pickF (.bool (false)) (vF h4) rfl (XL.nil (X.condF rfl (X.skip (X.region (cX (XOp.addR (((k + 1 : Nat) : Int)) rfl rfl (by omega) (by omega) (XL.mv (.int .i64 (((k + 1 : Nat) : Int))) rfl ?_))))))))))))
  refine XL.nil ?_
  exact ⟨k + 1, _, FLe.refl _, rF, ⟨rfl, rfl, rfl, rfl, trivial⟩, (sC (sC sR)), ⟨rfl, (by (try dsimp only) <;> omega), (fun i hi => (Nat.lt_or_ge i k).elim (fun h => hall i h) (fun h => by obtain rfl : i = k := (by omega); first | exact .inr (by assumption) | exact .inl (len_nil (by assumption)) | (have := len_nil (by assumption); simp_all) | simp_all))⟩, (by omega)⟩
 refine X.exit (thenQ_exit (thenQ_exit (blockQ_exit (X.seq (X.region (XL.as (.bool (true)) rfl (XL.nil (X.ret (retEnd (L' := L) [.bool (true)] (.bool (true)) (.tmp rfl .nil) rfl rF rF (sD (sD sR)) ?_)))))))))
 exact ⟨(vB (substOk_iff.2 ⟨by simp_all, by omega, fun i hi => hall i (by omega)⟩)), rfl, rfl⟩

/- spec.SubstOk -/
theorem sSubstOk_spec {F : FH} {L : List HP} {arv : Value} {ar : List Int} (har : IntsF F arv ar) {sv : Value} {s : List (List Int)} (hs : RowsF F sv s) (hla : ar.length ≤ 4000000) (hsl : s.length ≤ 4000000) (hsb : ∀ i, i < s.length → (s.getD i []).length ≤ 4000000) :
    Does prog 86 [.agg #[arv], .agg #[sv]] F (L) (fun v F' L' => (.bool (substOk ar s) : Value) = v ∧ F = F' ∧ L = L') := by
 refine Does.of_X func86 rfl rfl rfl (X.seq (X.region (cX (XOp.box [arv] rfl rfl ?_))))
 intro b1
 refine cX (XOp.box [sv] rfl rfl ?_)
 intro b2
 refine XL.as (.bool (false)) rfl (XL.nil (X.seq (X.seq (X.region (cX (XOp.loadN [arv] isAgg26 sizeOf26 rfl rfl (Rd.ownN [_] rfl rfl) (cX (XOp.call (args := [.agg #[arv]]) call131 rfl (sSigOk_spec har (hla := (by first | assumption | rfl | omega | simp))) ?_))))))))
 rintro _ _ _ _ ⟨rfl, rfl, rfl⟩
 refine cX (XOp.notB rfl (XL.mv (.bool (!(sigOk ar))) rfl ?_))
 by_cases h1 : (!(sigOk ar)) = true
 ·refine XL.no (t := 9) rfl (vB h1) (XL.no (t := 9) rfl (vB h1) (XL.no (t := 9) rfl (vB h1) (XL.no (t := 9) rfl (vB h1) (cX (XOp.pickT (.bool (true)) (vB h1) rfl (XL.nil (X.condT rfl (X.seq (X.region (XL.as (.bool (false)) rfl (XL.nil ?_)))))))))))
  refine X.ret (thenQ_ret (retEnd (L' := L) [.bool (false)] (.bool (false)) (.tmp rfl .nil) rfl rF rF (sD (sD sR)) ?_))
  exact ⟨(vB (substOk_false (fun h => by have := h.1; have := h.2.1; simp_all <;> omega))), rfl, rfl⟩
 rw [Bool.not_eq_true] at h1
 refine XL.yes (t := 9) rfl (vB h1) (XOp.fieldP (0) runUnderlying57 rfl sizeOf42 (by decide) rfl rfl (XL.yes (t := 9) rfl (vB h1) (XOp.load1 isAgg42 rfl (Rd.own [] rfl rfl) (XL.yes (t := 9) rfl (vB h1) (XOp.lenS runUnderlying42 rfl hs.slv (XL.yes (t := 9) rfl (vB h1) (XOp.gtr rfl rfl (cX (XOp.pickF (.bool (decide (((s.length : Int) : Int) > 24))) (vB h1) rfl (XL.nil ?_))))))))))
 refine X.condD (p := ((s.length : Int) : Int) > 24) rfl (fun h2 => ?_) (fun h2 => ?_)
 ·refine X.seq (X.region (XL.as (.bool (false)) rfl (XL.nil (X.ret (thenQ_ret (retEnd (L' := L) [.bool (false)] (.bool (false)) (.tmp rfl .nil) rfl rF rF (sD (sD sR)) ?_))))))
  exact ⟨(vB (substOk_false (fun h => by have := h.1; have := h.2.1; simp_all <;> omega))), rfl, rfl⟩
 refine X.skip (X.seq (X.seq (X.region (XL.as (.int .i64 (0)) rfl (XL.nil (X.block (X.loop (α := Nat) (fun k => [(2, ptr b1 0), (3, ptr b2 0), (5, .int .i64 ((k : Int)))]) (fun k => cellsH b2 [sv] 57 :: cellsH b1 [arv] 26 :: L) (fun k F' => F = F' ∧ (k ≤ s.length) ∧ (∀ i, i < k → s.getD i [] = [] ∨ termOk ar (s.getD i []) = true)) (fun k => s.length - k) 0 ⟨rfl, rfl, rfl, trivial⟩ (sC (sC sR)) ⟨rfl, (by (try dsimp only) <;> omega), (fun i hi => absurd hi (by omega))⟩ ?_)))))))
 rintro k rE _ _ ⟨rfl, hk, hall⟩
 show X _ _ _ _ (envs [(2, ptr b1 0), (3, ptr b2 0), (5, .int .i64 ((k : Int)))] rE) _ (cellsH b2 [sv] 57 :: cellsH b1 [arv] 26 :: L)
 have hsbk := hsb k
 refine X.seq (X.seq (X.region (XL.mv (.int .i64 ((k : Int))) rfl (cX (XOp.fieldP (0) runUnderlying57 rfl sizeOf42 (by decide) rfl rfl (cX (XOp.load1 isAgg42 rfl (Rd.own [] rfl rfl) (cX (XOp.lenS runUnderlying42 rfl hs.slv (cX (XOp.lss rfl rfl (XL.nil ?_))))))))))))
 refine X.condD (p := (k : Int) < (s.length : Int)) rfl (fun h3 => ?_) (fun h3 => ?_)
 ·refine X.skip (X.seq (X.block (X.seq ?_)))
  obtain ⟨a1, ha1, hr1⟩ := hs.rd (i := k) (by omega)
  by_cases h4 : (((((s.getD k [])).length : Nat) : Int) : Int) > 0
  ·refine X.draw [cellsH b2 [sv] 57, cellsH b1 [arv] 26] L 14 [[], [], [], [], [], [], [], [], [], [], [], [], [], []] [[], [0], [], [1, 2], [3], [4], [5], [6], [7], [7], [7, 9], [7], [7, 10, 11], [7, 12]] (phiL [fun us v => v = ptr b2 0, fun us v => v = sv, fun us v => v = (.int .i64 ((k : Int)) : Value), fun us v => v = (.pointer (some (elemA sv (k))) : Value), fun us v => v = a1, fun us v => v = (.int .i64 (((((s.getD k [])).length : Nat) : Int)) : Value), fun us v => v = (.bool (decide ((((((s.getD k [])).length : Nat) : Int) : Int) > 0)) : Value), fun us v => v = (.bool (decide ((((((s.getD k [])).length : Nat) : Int) : Int) > 0)) : Value), fun us v => v = (.agg #[arv] : Value), fun us v => v = ptr b2 0, fun us v => v = sv, fun us v => v = (.int .i64 ((k : Int)) : Value), fun us v => v = (.pointer (some (elemA sv (k))) : Value), fun us v => v = a1]) (ownL [fun us v => [], fun us v => [], fun us v => [], fun us v => [], fun us v => [], fun us v => [], fun us v => [], fun us v => [], fun us v => [], fun us v => [], fun us v => [], fun us v => [], fun us v => [], fun us v => []]) mixed rfl rfl (by kernel_rfl) ?_ ?_
   ·refine pC (fun vals R hpZ => ?_) ?_
    ·refine XG.op (XOp.fieldP (0) runUnderlying57 rfl sizeOf42 (by decide) rfl rfl ?_)
     exact ⟨rfl, rfl, rfl⟩
    refine pC (fun vals R hpZ => ?_) ?_
    ·rw [eS (l := [(0, ptr b2 0)]) ⟨hpZ 0 (by decide), trivial⟩]
     refine XG.op (XOp.load1 isAgg42 rfl (Rd.own [] rfl rfl) ?_)
     exact ⟨rfl, rfl, rfl⟩
    refine pC (fun vals R hpZ => ?_) ?_
    ·refine XG.op (XOp.move (.int .i64 ((k : Int))) rfl ?_)
     exact ⟨rfl, rfl, rfl⟩
    refine pC (fun vals R hpZ => ?_) ?_
    ·rw [eS (l := [(1, sv), (2, (.int .i64 ((k : Int)) : Value))]) ⟨hpZ 1 (by decide), hpZ 2 (by decide), trivial⟩]
     refine XG.op (XOp.indexS k runUnderlying42 sizeOf24 rfl rfl rfl hs.slv (by omega) (Nat.mul_one _) ?_)
     exact ⟨rfl, rfl, rfl⟩
    refine pC (fun vals R hpZ => ?_) ?_
    ·rw [eS (l := [(3, (.pointer (some (elemA sv (k))) : Value))]) ⟨hpZ 3 (by decide), trivial⟩]
     refine XG.op (XOp.load1 isAgg24 rfl (hr1 _) ?_)
     exact ⟨rfl, rfl, rfl⟩
    refine pC (fun vals R hpZ => ?_) ?_
    ·rw [eS (l := [(4, a1)]) ⟨hpZ 4 (by decide), trivial⟩]
     refine XG.op (XOp.lenS runUnderlying24 rfl ha1.slv ?_)
     exact ⟨rfl, rfl, rfl⟩
    refine pC (fun vals R hpZ => ?_) ?_
    ·rw [eS (l := [(5, (.int .i64 (((((s.getD k [])).length : Nat) : Int)) : Value))]) ⟨hpZ 5 (by decide), trivial⟩]
     refine XG.op (XOp.gtr rfl rfl ?_)
     exact ⟨rfl, rfl, rfl⟩
    refine pC (fun vals R hpZ => ?_) ?_
    ·rw [eS (l := [(6, (.bool (decide ((((((s.getD k [])).length : Nat) : Int) : Int) > 0)) : Value))]) ⟨hpZ 6 (by decide), trivial⟩]
     refine XG.op (XOp.move (.bool (decide ((((((s.getD k [])).length : Nat) : Int) : Int) > 0))) rfl ?_)
     exact ⟨rfl, rfl, rfl⟩
    refine pC (fun vals R hpZ => ?_) ?_
    ·rw [eS (l := [(7, (.bool (decide ((((((s.getD k [])).length : Nat) : Int) : Int) > 0)) : Value))]) ⟨hpZ 7 (by decide), trivial⟩]
     refine XG.yes (t := 29) rfl (vT h4) (XOp.loadN [arv] isAgg26 sizeOf26 rfl rfl (Rd.ownN [_] rfl rfl) ?_)
     exact ⟨rfl, rfl, rfl⟩
    refine pC (fun vals R hpZ => ?_) ?_
    ·rw [eS (l := [(7, (.bool (decide ((((((s.getD k [])).length : Nat) : Int) : Int) > 0)) : Value))]) ⟨hpZ 7 (by decide), trivial⟩]
     refine XG.yes (t := 29) rfl (vT h4) (XOp.fieldP (0) runUnderlying57 rfl sizeOf42 (by decide) rfl rfl ?_)
     exact ⟨rfl, rfl, rfl⟩
    refine pC (fun vals R hpZ => ?_) ?_
    ·rw [eS (l := [(7, (.bool (decide ((((((s.getD k [])).length : Nat) : Int) : Int) > 0)) : Value)), (9, ptr b2 0)]) ⟨hpZ 7 (by decide), hpZ 9 (by decide), trivial⟩]
     refine XG.yes (t := 29) rfl (vT h4) (XOp.load1 isAgg42 rfl (Rd.own [] rfl rfl) ?_)
     exact ⟨rfl, rfl, rfl⟩
    refine pC (fun vals R hpZ => ?_) ?_
    ·rw [eS (l := [(7, (.bool (decide ((((((s.getD k [])).length : Nat) : Int) : Int) > 0)) : Value))]) ⟨hpZ 7 (by decide), trivial⟩]
     refine XG.yes (t := 29) rfl (vT h4) (XOp.move (.int .i64 ((k : Int))) rfl ?_)
     exact ⟨rfl, rfl, rfl⟩
    refine pC (fun vals R hpZ => ?_) ?_
    ·rw [eS (l := [(7, (.bool (decide ((((((s.getD k [])).length : Nat) : Int) : Int) > 0)) : Value)), (10, sv), (11, (.int .i64 ((k : Int)) : Value))]) ⟨hpZ 7 (by decide), hpZ 10 (by decide), hpZ 11 (by decide), trivial⟩]
     refine XG.yes (t := 29) rfl (vT h4) (XOp.indexS k runUnderlying42 sizeOf24 rfl rfl rfl hs.slv (by omega) (Nat.mul_one _) ?_)
     exact ⟨rfl, rfl, rfl⟩
    refine pC (fun vals R hpZ => ?_) ?_
    ·rw [eS (l := [(7, (.bool (decide ((((((s.getD k [])).length : Nat) : Int) : Int) > 0)) : Value)), (12, (.pointer (some (elemA sv (k))) : Value))]) ⟨hpZ 7 (by decide), hpZ 12 (by decide), trivial⟩]
     refine XG.yes (t := 29) rfl (vT h4) (XOp.load1 isAgg24 rfl (hr1 _) ?_)
     exact ⟨rfl, rfl, rfl⟩
    exact stepsP.nil
   intro vals hphi
   rw [eS (l := [(7, (.bool (decide ((((((s.getD k [])).length : Nat) : Int) : Int) > 0)) : Value)), (8, (.agg #[arv] : Value)), (13, a1)]) ⟨(hphi 7 (by decide)), (hphi 8 (by decide)), (hphi 13 (by decide)), trivial⟩]
   show XL _ _ _ _ _ _ _ (cellsH b2 [sv] 57 :: cellsH b1 [arv] 26 :: L)
   refine XL.yes (t := 29) rfl (vT h4) (XOp.call (args := [.agg #[arv], a1]) call83 rfl (sTermOk_spec har ha1 (hla := (by first | assumption | rfl | omega | simp)) (hlt := (by first | assumption | rfl | omega | simp))) ?_)
   rintro _ _ _ _ ⟨rfl, rfl, rfl⟩
   refine XL.yes (t := 29) rfl (vT h4) (XOp.notB rfl (cX (XOp.pickT (.bool (!(termOk ar ((s.getD k []))))) (vT h4) rfl (XL.nil ?_))))
   refine X.cond (t := !(termOk ar ((s.getD k [])))) rfl (fun h5 => ?_) (fun h5 => ?_)
   ·refine X.seq (X.region (XL.as (.bool (false)) rfl (XL.nil (X.ret (blockQ_ret (thenQ_ret (thenQ_ret (blockQ_ret (thenQ_ret (retEnd (L' := L) [.bool (false)] (.bool (false)) (.tmp rfl .nil) rfl rF rF (sD (sD sR)) ?_))))))))))
    exact ⟨(vB (substOk_false (fun h => by have h9 := h.2.2 k (by omega); rcases h9 with h9 | h9; (have := congrArg List.length h9; simp only [List.length_nil] at this; omega); simp_all))), rfl, rfl⟩
   refine X.skip (X.region (XL.mv (.int .i64 ((k : Int))) rfl (cX (XOp.addR (((k + 1 : Nat) : Int)) rfl rfl (by omega) (by omega) (XL.as (.int .i64 (((k + 1 : Nat) : Int))) rfl (XL.nil ?_))))))
   exact ⟨k + 1, _, FLe.refl _, rF, ⟨rfl, rfl, rfl, trivial⟩, (sC (sC sR)), ⟨rfl, (by (try dsimp only) <;> omega), (fun i hi => (Nat.lt_or_ge i k).elim (fun h => hall i h) (fun h => by obtain rfl : i = k := (by omega); first | exact .inr (by assumption) | exact .inl (len_nil (by assumption)) | (have := len_nil (by assumption); simp_all) | simp_all))⟩, (by omega)⟩
  refine X.draw [cellsH b2 [sv] 57, cellsH b1 [arv] 26] L 14 [[], [], [], [], [], [], [], [], [], [], [], [], [], []] [[], [0], [], [1, 2], [3], [4], [5], [6], [7], [7], [7, 9], [7], [7, 10, 11], [7, 12]] (phiL [fun us v => v = ptr b2 0, fun us v => v = sv, fun us v => v = (.int .i64 ((k : Int)) : Value), fun us v => v = (.pointer (some (elemA sv (k))) : Value), fun us v => v = a1, fun us v => v = (.int .i64 (((((s.getD k [])).length : Nat) : Int)) : Value), fun us v => v = (.bool (decide ((((((s.getD k [])).length : Nat) : Int) : Int) > 0)) : Value), fun us v => v = (.bool (decide ((((((s.getD k [])).length : Nat) : Int) : Int) > 0)) : Value), fun us v => v = undef, fun us v => v = undef, fun us v => v = undef, fun us v => v = undef, fun us v => v = undef, fun us v => v = undef]) (ownL [fun us v => [], fun us v => [], fun us v => [], fun us v => [], fun us v => [], fun us v => [], fun us v => [], fun us v => [], fun us v => [], fun us v => [], fun us v => [], fun us v => [], fun us v => [], fun us v => []]) mixed rfl rfl (by kernel_rfl) ?_ ?_
  ·refine pC (fun vals R hpZ => ?_) ?_
   ·refine XG.op (XOp.fieldP (0) runUnderlying57 rfl sizeOf42 (by decide) rfl rfl ?_)
    exact ⟨rfl, rfl, rfl⟩
   refine pC (fun vals R hpZ => ?_) ?_
   ·rw [eS (l := [(0, ptr b2 0)]) ⟨hpZ 0 (by decide), trivial⟩]
    refine XG.op (XOp.load1 isAgg42 rfl (Rd.own [] rfl rfl) ?_)
    exact ⟨rfl, rfl, rfl⟩
   refine pC (fun vals R hpZ => ?_) ?_
   ·refine XG.op (XOp.move (.int .i64 ((k : Int))) rfl ?_)
    exact ⟨rfl, rfl, rfl⟩
   refine pC (fun vals R hpZ => ?_) ?_
   ·rw [eS (l := [(1, sv), (2, (.int .i64 ((k : Int)) : Value))]) ⟨hpZ 1 (by decide), hpZ 2 (by decide), trivial⟩]
    refine XG.op (XOp.indexS k runUnderlying42 sizeOf24 rfl rfl rfl hs.slv (by omega) (Nat.mul_one _) ?_)
    exact ⟨rfl, rfl, rfl⟩
   refine pC (fun vals R hpZ => ?_) ?_
   ·rw [eS (l := [(3, (.pointer (some (elemA sv (k))) : Value))]) ⟨hpZ 3 (by decide), trivial⟩]
    refine XG.op (XOp.load1 isAgg24 rfl (hr1 _) ?_)
    exact ⟨rfl, rfl, rfl⟩
   refine pC (fun vals R hpZ => ?_) ?_
   ·rw [eS (l := [(4, a1)]) ⟨hpZ 4 (by decide), trivial⟩]
    refine XG.op (XOp.lenS runUnderlying24 rfl ha1.slv ?_)
    exact ⟨rfl, rfl, rfl⟩
   refine pC (fun vals R hpZ => ?_) ?_
   ·rw [eS (l := [(5, (.int .i64 (((((s.getD k [])).length : Nat) : Int)) : Value))]) ⟨hpZ 5 (by decide), trivial⟩]
    refine XG.op (XOp.gtr rfl rfl ?_)
    exact ⟨rfl, rfl, rfl⟩
   refine pC (fun vals R hpZ => ?_) ?_
   ·rw [eS (l := [(6, (.bool (decide ((((((s.getD k [])).length : Nat) : Int) : Int) > 0)) : Value))]) ⟨hpZ 6 (by decide), trivial⟩]
    refine XG.op (XOp.move (.bool (decide ((((((s.getD k [])).length : Nat) : Int) : Int) > 0))) rfl ?_)
    exact ⟨rfl, rfl, rfl⟩
   refine pC (fun vals R hpZ => ?_) ?_
   ·rw [eS (l := [(7, (.bool (decide ((((((s.getD k [])).length : Nat) : Int) : Int) > 0)) : Value))]) ⟨hpZ 7 (by decide), trivial⟩]
    exact XG.no (t := 29) rfl (vF h4) ⟨rfl, rfl, rfl⟩
   refine pC (fun vals R hpZ => ?_) ?_
   ·rw [eS (l := [(7, (.bool (decide ((((((s.getD k [])).length : Nat) : Int) : Int) > 0)) : Value))]) ⟨hpZ 7 (by decide), trivial⟩]
    exact XG.no (t := 29) rfl (vF h4) ⟨rfl, rfl, rfl⟩
   refine pC (fun vals R hpZ => ?_) ?_
   ·rw [eS (l := [(7, (.bool (decide ((((((s.getD k [])).length : Nat) : Int) : Int) > 0)) : Value)), (9, undef)]) ⟨hpZ 7 (by decide), hpZ 9 (by decide), trivial⟩]
    exact XG.no (t := 29) rfl (vF h4) ⟨rfl, rfl, rfl⟩
   refine pC (fun vals R hpZ => ?_) ?_
   ·rw [eS (l := [(7, (.bool (decide ((((((s.getD k [])).length : Nat) : Int) : Int) > 0)) : Value))]) ⟨hpZ 7 (by decide), trivial⟩]
    exact XG.no (t := 29) rfl (vF h4) ⟨rfl, rfl, rfl⟩
   refine pC (fun vals R hpZ => ?_) ?_
   ·rw [eS (l := [(7, (.bool (decide ((((((s.getD k [])).length : Nat) : Int) : Int) > 0)) : Value)), (10, undef), (11, undef)]) ⟨hpZ 7 (by decide), hpZ 10 (by decide), hpZ 11 (by decide), trivial⟩]
    exact XG.no (t := 29) rfl (vF h4) ⟨rfl, rfl, rfl⟩
   refine pC (fun vals R hpZ => ?_) ?_
   ·rw [eS (l := [(7, (.bool (decide ((((((s.getD k [])).length : Nat) : Int) : Int) > 0)) : Value)), (12, undef)]) ⟨hpZ 7 (by decide), hpZ 12 (by decide), trivial⟩]
    exact XG.no (t := 29) rfl (vF h4) ⟨rfl, rfl, rfl⟩
   exact stepsP.nil
  intro vals hphi
  rw [eS (l := [(7, (.bool (decide ((((((s.getD k [])).length : Nat) : Int) : Int) > 0)) : Value)), (8, undef), (13, undef)]) ⟨(hphi 7 (by decide)), (hphi 8 (by decide)), (hphi 13 (by decide)), trivial⟩]
  show XL _ _ _ _ _ _ _ (cellsH b2 [sv] 57 :: cellsH b1 [arv] 26 :: L)
  refine XL.no (t := 29) rfl (vF h4) (XL.no (t := 29) rfl (vF h4) (cX (XOp.pickF (.bool (false)) (vF h4) rfl (XL.nil (X.condF rfl (X.skip (X.region (XL.mv (.int .i64 ((k : Int))) rfl (cX (XOp.addR (((k + 1 : Nat) : Int)) rfl rfl (by omega) (by omega) (XL.as (.int .i64 (((k + 1 : Nat) : Int))) rfl (XL.nil ?_))))))))))))
  exact ⟨k + 1, _, FLe.refl _, rF, ⟨rfl, rfl, rfl, trivial⟩, (sC (sC sR)), ⟨rfl, (by (try dsimp only) <;> omega), (fun i hi => (Nat.lt_or_ge i k).elim (fun h => hall i h) (fun h => by obtain rfl : i = k := (by omega); first | exact .inr (by assumption) | exact .inl (len_nil (by assumption)) | (have := len_nil (by assumption); simp_all) | simp_all))⟩, (by omega)⟩
 refine X.exit (thenQ_exit (thenQ_exit (blockQ_exit (X.seq (X.region (XL.as (.bool (true)) rfl (XL.nil (X.ret (retEnd (L' := L) [.bool (true)] (.bool (true)) (.tmp rfl .nil) rfl rF rF (sD (sD sR)) ?_)))))))))
 exact ⟨(vB (substOk_iff.2 ⟨by simp_all, by omega, fun i hi => hall i (by omega)⟩)), rfl, rfl⟩
end Go.Proofs.Ytmaaifhmhclhdaa
set_option linter.unusedSimpArgs false
set_option linter.unusedVariables false
namespace Go.Proofs.Ytmaaifhmhclhdaa
open Go X M Try
end Go.Proofs.Ytmaaifhmhclhdaa
set_option linter.unusedSimpArgs false
set_option linter.unusedVariables false
namespace Go.Proofs.Ytmaaifhmhclhdaa
open Go X M Try

/- spec.l7Steps -/
theorem l7Steps_spec {F : FH} {L : List HP} {arv : Value} {ar : List Int} (har : IntsF F arv ar) {rsv : Value} {rs : List (List Int × List Int)} (hrs : PairsF F rsv rs) {tv : Value} {t : List Int} (ht : IntsF F tv t) (hsys : sysOk ar rs = true) (ho : termOk ar t = true) :
    Does prog 68 [.agg #[arv, rsv], tv] F (L) (fun v F' L' => ∃ (a : Value), (a : Value) = v ∧ (StepsF F' a (stepsL ar rs t)) ∧ L = L') := by
 refine Does.of_X func68 rfl rfl rfl ?_
 have hnn := notNil_of_pos ht (by have := termOk_len ho; omega)
 have htl := termOk_len ho
 have hrl := (sysOk_iff.1 hsys).2.1
 have hsig := (sysOk_iff.1 hsys).1
 have hsl := sigOk_spec hsig
 refine X.seq (X.region (cX (XOp.box [arv, rsv] rfl rfl ?_)))
 intro b1
 refine XL.as ((.slice none 0 0)) rfl (XL.nil (X.seq (X.region (cX (XOp.buildSlice (s := 3) [] [.int .i64 (0), .int .i64 (0), (.slice none 0 0)] [] runUnderlying45 sizeOf48 zeroValue48 rfl (by decide) rfl CellsAre.nil rfl ?_)))))
 intro v1 hv1
 refine XL.as (v1) rfl (XL.nil (X.seq (X.seq (X.region (XL.as (.int .i64 (0)) rfl (XL.nil (X.block (X.loop (α := Nat × Value × List StepT × List Value × Nat × FH) (fun xQ => [(1, tv), (2, ptr b1 0), (5, xQ.2.1), (6, .int .i64 (((xQ.1 : Nat) : Int)))]) (fun xQ => slH 48 3 xQ.2.1 xQ.2.2.2.2.1 xQ.2.2.2.1 :: cellsH b1 [arv, rsv] 29 :: L) (fun xQ F' => xQ.2.2.2.2.2 = F' ∧ F ≤ xQ.2.2.2.2.2 ∧ (xQ.1 ≤ t.length) ∧ (IsSl xQ.2.1) ∧ (StepsC xQ.2.2.2.2.2 xQ.2.2.2.1 xQ.2.2.1) ∧ (xQ.2.2.2.2.1 = xQ.2.2.1.length) ∧ (xQ.2.2.1 = stepsTo ar rs t xQ.1)) (fun xQ => t.length - xQ.1) (0, v1, [], [], 0, F) ⟨rfl, rfl, rfl, rfl, trivial⟩ (sC (sC sR)) ⟨rfl, FLe.refl _, (by (try dsimp only) <;> omega), ((isSl_lit hv1)), (CO.nil), (rfl), (rfl)⟩ ?_))))))))
 rintro ⟨k, sv, ss, cs, m, G1⟩ rE _ _ ⟨rfl, leG, hk, hsv, hC, hm, hss⟩
 show X _ _ _ _ (envs [(1, tv), (2, ptr b1 0), (5, sv), (6, .int .i64 ((k : Int)))] rE) _ (slH 48 3 sv m cs :: cellsH b1 [arv, rsv] 29 :: L)
 replace leG : F ≤ G1 := leG
 dsimp only at hk hsv hC hm hss
 have hsl1 := stepsTo_len (ar := ar) (t := t) (rs := rs) hrl k
 have hss0 := hss
 have leG1 := leG
 replace har := har.mono leG1
 replace hrs := hrs.mono leG1
 replace ht := ht.mono leG1
 refine X.seq (X.seq (X.region (XL.mv (.int .i64 ((k : Int))) rfl (XL.mv (tv) rfl (cX (XOp.lenS runUnderlying24 rfl ht.slv (cX (XOp.lss rfl rfl (XL.nil ?_)))))))))
 refine X.condD (p := (k : Int) < (t.length : Int)) rfl (fun h1 => ?_) (fun h1 => ?_)
 ·refine X.skip (X.seq (X.block (X.seq (X.region (XL.as (.int .i64 (0)) rfl (XL.nil (X.block (X.loop (α := Nat × Value × List StepT × List Value × Nat × FH) (fun xQ => [(1, tv), (2, ptr b1 0), (5, xQ.2.1), (6, .int .i64 ((k : Int))), (7, .int .i64 (((xQ.1 : Nat) : Int)))]) (fun xQ => slH 48 3 xQ.2.1 xQ.2.2.2.2.1 xQ.2.2.2.1 :: cellsH b1 [arv, rsv] 29 :: L) (fun xQ F' => xQ.2.2.2.2.2 = F' ∧ G1 ≤ xQ.2.2.2.2.2 ∧ (xQ.1 ≤ rs.length) ∧ (IsSl xQ.2.1) ∧ (StepsC xQ.2.2.2.2.2 xQ.2.2.2.1 xQ.2.2.1) ∧ (xQ.2.2.2.2.1 = xQ.2.2.1.length) ∧ (xQ.2.2.1 = stepsTo ar rs t k ++ stepsRow ar rs t k xQ.1)) (fun xQ => rs.length - xQ.1) (0, sv, ss, cs, m, G1) ⟨rfl, rfl, rfl, rfl, rfl, trivial⟩ (sC (sC sR)) ⟨rfl, FLe.refl _, (by (try dsimp only) <;> omega), (hsv), (hC), (hm), (by (try dsimp only); rw [hss0]; simp [stepsRow])⟩ ?_))))))))
  rintro ⟨r, sv, ss, cs, m, G2⟩ rE _ _ ⟨rfl, leG, hr, hsvi, hCi, hmi, hssi⟩
  show X _ _ _ _ (envs [(1, tv), (2, ptr b1 0), (5, sv), (6, .int .i64 ((k : Int))), (7, .int .i64 ((r : Int)))] rE) _ (slH 48 3 sv m cs :: cellsH b1 [arv, rsv] 29 :: L)
  replace leG : G1 ≤ G2 := leG
  dsimp only at hr hsvi hCi hmi hssi
  have hsl2 := stepsRow_len (ar := ar) (rs := rs) (t := t) (p := k) r
  have hssl : ss.length ≤ 1000 := by rw [hssi, List.length_append]; omega
  have leG2 := leG
  replace har := har.mono leG2
  replace hrs := hrs.mono leG2
  replace ht := ht.mono leG2
  replace hC := hC.mono leG2
  refine X.seq (X.seq (X.region (XL.mv (.int .i64 ((r : Int))) rfl (cX (XOp.fieldP (1) runUnderlying29 rfl sizeOf27 (by decide) rfl rfl (cX (XOp.load1 isAgg27 rfl (Rd.own [_] rfl rfl) (cX (XOp.lenS runUnderlying27 rfl hrs.slv (cX (XOp.lss rfl rfl (XL.nil ?_))))))))))))
  refine X.condD (p := (r : Int) < (rs.length : Int)) rfl (fun h2 => ?_) (fun h2 => ?_)
  ·refine X.skip (X.seq (X.block (X.seq (X.region (cX (XOp.loadN [arv, rsv] isAgg29 sizeOf29 rfl rfl (Rd.ownN [_] rfl rfl) (XL.mv (tv) rfl (XL.mv (.int .i64 ((k : Int))) rfl (XL.mv (.int .i64 ((r : Int))) rfl (cX (XOp.call (args := [.agg #[arv, rsv], tv, .int .i64 (k : Int), .int .i64 (r : Int)]) call118 rfl (l7Step_spec (p := k) (r := r) har hrs ht (hsys := (by first | assumption | rfl | omega | simp)) (ho := (by first | assumption | rfl | omega | simp)) (hp := (by first | assumption | rfl | omega | simp)) (hr := (by first | assumption | rfl | omega | simp))) ?_)))))))))))
   rintro _ F1 _ le1 ⟨x1, rfl, hr1, rfl⟩
   replace hC := hC.mono le1
   replace hCi := hCi.mono le1
   refine XL.mv (.tuple #[x1, .bool ((stepL ar rs t k r).isSome)]) rfl (cX (XOp.extract (x1) rfl rfl (cX (XOp.extract (.bool ((stepL ar rs t k r).isSome)) rfl rfl (XL.as (x1) rfl (XL.as (.bool ((stepL ar rs t k r).isSome)) rfl (XL.nil (X.seq (X.region (XL.mv (.bool ((stepL ar rs t k r).isSome)) rfl (XL.nil ?_)))))))))))
   refine X.cond (t := (stepL ar rs t k r).isSome) rfl (fun h3 => ?_) (fun h3 => ?_)
   ·have hone : stepOne ar rs t k r = [((k : Int), (r : Int), (stepL ar rs t k r).getD [])] := (one_some h3).1
    refine X.region (XL.mv (sv) rfl (XL.mv (.int .i64 ((k : Int))) rfl (XL.mv (.int .i64 ((r : Int))) rfl (XL.mv (x1) rfl (cX (XOp.build [.int .i64 ((k : Int)), .int .i64 ((r : Int)), x1] [.int .i64 (0), .int .i64 (0), (.slice none 0 0)] [(0, 1), (1, 1), (2, 1)] [(0, [.int .i64 ((k : Int))]), (1, [.int .i64 ((r : Int))]), (2, [x1])] runUnderlying48 zeroValue48 rfl (.cons rfl sizeOf2 (.cons rfl sizeOf2 (.cons rfl sizeOf24 PlacesAre.nil))) rfl (.cons rfl (.cons rfl (.cons (cells_one (IntsF.isSl hr1)) CellsAre.nil))) (cX (XOp.buildSlice (s := 3) [.int .i64 ((k : Int)), .int .i64 ((r : Int)), x1] [.int .i64 (0), .int .i64 (0), (.slice none 0 0)] [(0, [.int .i64 ((k : Int)), .int .i64 ((r : Int)), x1])] runUnderlying45 sizeOf48 zeroValue48 rfl (by decide) rfl (.cons rfl CellsAre.nil) rfl ?_))))))))
    intro v2 hv2
    refine cX (XOp.append (m := 1) (bytes := 40) (cs := cs) [_] _ [.int .i64 ((k : Int)), .int .i64 ((r : Int)), x1] runUnderlying45 typeInfo48 rfl rfl rfl rfl rfl rfl rfl (SlV.own [] rfl) rfl (Rd.lit [] rfl) (ones_cons rfl (ones_cons rfl (ones_cons (one_sl (IntsF.isSl hr1)) ones_nil))) (by (try simp only [List.length_append, List.length_nil, List.length_cons, List.length_singleton]); omega) (by (try simp only [List.length_append, List.length_nil, List.length_cons, List.length_singleton]); omega) ?_)
    intro v3 hs1 hn1 hm1
    have hc1 := StepsC.snoc hCi (i := (k : Int)) (j := (r : Int)) hr1
    refine XL.as (v3) rfl (XL.nil (X.region (XL.mv (.int .i64 ((r : Int))) rfl (cX (XOp.addR (((r + 1 : Nat) : Int)) rfl rfl (by omega) (by omega) (XL.as (.int .i64 (((r + 1 : Nat) : Int))) rfl (XL.nil ?_)))))))
    exact ⟨(r + 1, v3, ss ++ [((k : Int), (r : Int), (stepL ar rs t k r).getD [])], cs ++ [.int .i64 ((k : Int)), .int .i64 ((r : Int)), x1], (m) + 1, F1), _, (FLe.trans leG2 le1), rF, ⟨rfl, rfl, rfl, rfl, rfl, trivial⟩, (sD (sC (sC sR))), ⟨rfl, (FLe.trans leG2 le1), (by (try dsimp only) <;> omega), (hs1), (hc1), (by (try dsimp only); (try rw [List.length_append, List.length_singleton]); omega), (by (try dsimp only); rw [hssi, stepsRow_succ, hone]; simp)⟩, (by omega)⟩
   have hone : stepOne ar rs t k r = [] := stepOne_no h3
   refine X.skip (X.region (XL.mv (.int .i64 ((r : Int))) rfl (cX (XOp.addR (((r + 1 : Nat) : Int)) rfl rfl (by omega) (by omega) (XL.as (.int .i64 (((r + 1 : Nat) : Int))) rfl (XL.nil ?_))))))
   exact ⟨(r + 1, sv, ss, cs, m, F1), _, (FLe.trans leG2 le1), rF, ⟨rfl, rfl, rfl, rfl, rfl, trivial⟩, (sC (sC sR)), ⟨rfl, (FLe.trans leG2 le1), (by (try dsimp only) <;> omega), (hsvi), (hCi), (by (try dsimp only); (try rw [List.length_append, List.length_singleton]); omega), (by (try dsimp only); rw [hssi, stepsRow_succ, hone]; simp)⟩, (by omega)⟩
  refine X.exit (thenQ_exit (thenQ_exit (blockQ_exit (X.region (XL.mv (.int .i64 ((k : Int))) rfl (cX (XOp.addR (((k + 1 : Nat) : Int)) rfl rfl (by omega) (by omega) (XL.as (.int .i64 (((k + 1 : Nat) : Int))) rfl (XL.nil ?_)))))))))
  exact ⟨(k + 1, sv, ss, cs, m, G2), _, (FLe.trans leG1 leG2), rF, ⟨rfl, rfl, rfl, rfl, trivial⟩, (sC (sC sR)), ⟨rfl, (FLe.trans leG1 leG2), (by (try dsimp only) <;> omega), (hsvi), (hCi), (hmi), (by (try dsimp only); rw [hssi, stepsTo_succ, show r = rs.length from by omega])⟩, (by omega)⟩
 refine X.exit (thenQ_exit (thenQ_exit (blockQ_exit (X.seq (X.region (XL.mv (sv) rfl (XL.as (sv) rfl (XL.nil (X.freezeF [] _ _ rfl (fun F2 le2 hz1 => ?_))))))))))
 replace hC := hC.mono le2
 have hf1 : StepsF F2 sv ss := CO.fz hC (by first | rfl | omega | (rw [List.length_set]; omega) | (simp; done)) hz1.fz
 refine X.ret (retEnd (L' := L) [sv] (sv) (.tmp rfl .nil) rfl (FLe.trans leG1 le2) rF (sD sR) ?_)
 have e1 : stepsL ar rs t = ss := by rw [hss, show k = t.length from by omega]; rfl
 rw [e1]
 exact ⟨_, rfl, hf1, rfl⟩
end Go.Proofs.Ytmaaifhmhclhdaa
