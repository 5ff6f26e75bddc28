/-
  Walks, one after the other (part 2).
-/
import Derived.Test.YtmaaifhmhclhdaaGreatQHL1
import Derived.Test.YtmaaifhmhclhdaaGreatQHB0
set_option linter.unusedSimpArgs false
set_option linter.unusedVariables false
namespace Go.Proofs.YtmaaifhmhclhdaaGreat
open Go X M Tryz

/- spec.l2Gives -/
theorem l2Gives_spec {F : FH} {L : List HP} {sv : Value} {s : List (List Int)} (hs : RowsF F sv s) {i : Nat} (hsl : s.length ≤ 4000000) (hi : i ≤ 4000000) (hsb : (s.getD i []).length ≤ 4000000) :
    Does prog 169 [.agg #[sv], .int .i64 ((i : Int))] F (L) (fun v F' L' => F = F' ∧ IsSl v ∧ intsH 2 v (lk s (-1 - (i : Int))) :: L = L') := by
 refine Does.of_X func169 rfl rfl rfl (X.seq (X.region (cX (XOp.box [sv] rfl rfl ?_))))
 intro b1
 refine XL.as ((.slice none 0 0)) rfl (XL.nil (X.seq (X.seq (X.region (XL.mv (.int .i64 ((i : Int))) rfl (cX (XOp.fieldP (0) runUnderlying76 rfl sizeOf47 (by decide) rfl rfl (cX (XOp.load1 isAgg47 rfl (Rd.own [] rfl rfl) (cX (XOp.lenS runUnderlying47 rfl hs.slv (cX (XOp.lss rfl rfl (XL.mv (.bool (decide ((i : Int) < (s.length : Int)))) rfl ?_))))))))))))))
 by_cases h1 : (i : Int) < (s.length : Int)
 ·refine XL.yes (t := 10) rfl (vT h1) (XOp.fieldP (0) runUnderlying76 rfl sizeOf47 (by decide) rfl rfl (XL.yes (t := 10) rfl (vT h1) (XOp.load1 isAgg47 rfl (Rd.own [] rfl rfl) (XL.yes (t := 10) rfl (vT h1) (XOp.move (.int .i64 ((i : Int))) rfl (XL.yes (t := 10) rfl (vT h1) (XOp.indexS i runUnderlying47 sizeOf24 rfl rfl rfl hs.slv (by omega) (Nat.mul_one _) ?_)))))))
  obtain ⟨a1, ha1, hr1⟩ := hs.rd (i := i) (by omega)
  refine XL.yes (t := 10) rfl (vT h1) (XOp.load1 isAgg24 rfl (hr1 _) (XL.yes (t := 10) rfl (vT h1) (XOp.lenS runUnderlying24 rfl ha1.slv (XL.yes (t := 10) rfl (vT h1) (XOp.gtr rfl rfl (cX (XOp.pickT (.bool (decide ((((((s.getD i [])).length : Nat) : Int) : Int) > 0))) (vT h1) rfl (XL.nil ?_))))))))
  refine X.condD (p := (((((s.getD i [])).length : Nat) : Int) : Int) > 0) rfl (fun h2 => ?_) (fun h2 => ?_)
  ·refine X.seq (X.region (cX (XOp.fieldP (0) runUnderlying76 rfl sizeOf47 (by decide) rfl rfl (cX (XOp.load1 isAgg47 rfl (Rd.own [] rfl rfl) (XL.mv (.int .i64 ((i : Int))) rfl (cX (XOp.indexS i runUnderlying47 sizeOf24 rfl rfl rfl hs.slv (by omega) (Nat.mul_one _) (cX (XOp.load1 isAgg24 rfl (hr1 _) (cX (XOp.call (args := [a1]) call52 rfl (l1Copy_spec ha1 (hlt := (by first | assumption | rfl | omega | simp))) ?_))))))))))))
   rintro v1 _ _ _ ⟨rfl, hs1, rfl⟩
   refine XL.as (v1) rfl (XL.nil (X.ret (thenQ_ret (retEnd (L' := intsH 2 v1 ((((s.getD i [])))) :: L) [v1] (v1) (.tmp rfl .nil) rfl rF rF (sC (sD sR)) ?_))))
   refine ⟨rfl, hs1, ?_⟩
   have hxs : (lk s (-1 - (i : Int)) : List Int) = (((s.getD i []))) := lk_copy (by omega)
   exact congrArg (fun z => intsH 2 _ z :: L) hxs
  refine X.skip (X.seq (X.region (XL.mv (.int .i64 ((i : Int))) rfl (cX (XOp.subR ((-1) - ((i : Int))) rfl rfl (by omega) (by omega) (cX (XOp.buildSlice (s := 1) [.int .i64 ((-1) - ((i : Int)))] [.int .i64 (0)] [(0, [.int .i64 ((-1) - ((i : Int)))])] runUnderlying24 sizeOf2 zeroValue2 rfl (by decide) rfl (.cons rfl CellsAre.nil) rfl ?_)))))))
  intro v2 hv1
  refine XL.as (v2) rfl (XL.nil (X.ret (retEnd (L' := intsH 2 v2 ([(-1) - ((i : Int))]) :: L) [v2] (v2) (.tmp rfl .nil) rfl rF rF (sC (sD sR)) ?_)))
  refine ⟨rfl, (isSl_lit hv1), ?_⟩
  have hxs : (lk s (-1 - (i : Int)) : List Int) = [(-1) - ((i : Int))] := lk_self (by first | omega | (rw [getD_out (by omega)]; simp))
  exact congrArg (fun z => intsH 2 _ z :: L) hxs
 refine XL.no (t := 10) rfl (vF h1) (XL.no (t := 10) rfl (vF h1) (XL.no (t := 10) rfl (vF h1) (XL.no (t := 10) rfl (vF h1) (XL.no (t := 10) rfl (vF h1) (XL.no (t := 10) rfl (vF h1) (XL.no (t := 10) rfl (vF h1) (cX (XOp.pickF (.bool (false)) (vF h1) rfl (XL.nil (X.condF rfl ?_))))))))))
 refine X.skip (X.seq (X.region (XL.mv (.int .i64 ((i : Int))) rfl (cX (XOp.subR ((-1) - ((i : Int))) rfl rfl (by omega) (by omega) (cX (XOp.buildSlice (s := 1) [.int .i64 ((-1) - ((i : Int)))] [.int .i64 (0)] [(0, [.int .i64 ((-1) - ((i : Int)))])] runUnderlying24 sizeOf2 zeroValue2 rfl (by decide) rfl (.cons rfl CellsAre.nil) rfl ?_)))))))
 intro v3 hv2
 refine XL.as (v3) rfl (XL.nil (X.ret (retEnd (L' := intsH 2 v3 ([(-1) - ((i : Int))]) :: L) [v3] (v3) (.tmp rfl .nil) rfl rF rF (sC (sD sR)) ?_)))
 refine ⟨rfl, (isSl_lit hv2), ?_⟩
 have hxs : (lk s (-1 - (i : Int)) : List Int) = [(-1) - ((i : Int))] := lk_self (by first | omega | (rw [getD_out (by omega)]; simp))
 exact congrArg (fun z => intsH 2 _ z :: L) hxs

/- spec.l2Plain -/
theorem l2Plain_spec {F : FH} {L : List HP} {sv : Value} {s : List (List Int)} (hs : RowsF F sv s) (hsl : s.length ≤ 24) (hsb : ∀ i, (s.getD i []).length ≤ 4000000) :
    Does prog 168 [.agg #[sv]] F (L) (fun v F' L' => ∃ (a : Value), (.agg #[a] : Value) = v ∧ (RowsF F' a (plainL s)) ∧ L = L') := by
 refine Does.of_X func168 rfl rfl rfl (X.seq (X.region (cX (XOp.box [sv] rfl rfl ?_))))
 intro b1
 refine cX (XOp.alloc [(.slice none 0 0)] zeroValue76 rfl ?_)
 intro b2
 refine XL.nil (X.seq (X.region (cX (XOp.build [(.slice none 0 0)] [(.slice none 0 0)] [(0, 1)] [] runUnderlying76 zeroValue76 rfl (.cons rfl sizeOf47 PlacesAre.nil) rfl CellsAre.nil (cX (XOp.alloc [(.slice none 0 0)] zeroValue76 rfl ?_))))))
 intro b3
 refine cX (XOp.storeN [] _ [(.slice none 0 0)] sizeOf76 rfl rfl rfl (ones_cons rfl ones_nil) rfl rfl rfl (XL.nil (X.seq (X.seq (X.region (XL.as (.int .i64 (0)) rfl (XL.nil (X.block (X.loop (α := Nat × Value × RowL × FH) (fun xQ => [(1, ptr b1 0), (2, ptr b2 0), (3, ptr b3 0), (4, .int .i64 (((xQ.1 : Nat) : Int)))]) (fun xQ => rowsH 24 xQ.2.2.2 xQ.2.1 xQ.2.2.1 :: cellsH b3 [xQ.2.1] 76 :: cellsH b2 [(.slice none 0 0)] 76 :: cellsH b1 [sv] 76 :: L) (fun xQ F' => xQ.2.2.2 = F' ∧ F ≤ xQ.2.2.2 ∧ (IsSl xQ.2.1) ∧ (xQ.2.2.1 = (plainGo 0 s).take xQ.1) ∧ (xQ.1 ≤ s.length)) (fun xQ => s.length - xQ.1) (0, (.slice none 0 0), [], F) ⟨rfl, rfl, rfl, rfl, trivial⟩ (coH.addNil none (sC (sC (sC sR)))) ⟨rfl, FLe.refl _, (⟨_, _, _, rfl⟩), (rfl), (by (try dsimp only) <;> omega)⟩ ?_)))))))))
 rintro ⟨k, ov, os, G1⟩ rE _ _ ⟨rfl, leG, hov, hos, hk⟩
 show X _ _ _ _ (envs [(1, ptr b1 0), (2, ptr b2 0), (3, ptr b3 0), (4, .int .i64 ((k : Int)))] rE) _ (rowsH 24 G1 ov os :: cellsH b3 [ov] 76 :: cellsH b2 [(.slice none 0 0)] 76 :: cellsH b1 [sv] 76 :: L)
 replace leG : F ≤ G1 := leG
 dsimp only at hov hos hk
 have hol : os.length ≤ k := by rw [hos, List.length_take]; omega
 have hsbk := hsb k
 have hlkb : (lk s (-1 - (k : Int))).length ≤ 4000000 := by rw [lk_var]; split <;> simp; exact hsbk
 have leG1 := leG
 replace hs := hs.mono leG1
 refine X.open [] rfl (fun cs1 hc1 => ?_)
 replace hc1 : RowsC G1 cs1 os := hc1
 refine X.seq (X.seq (X.region (XL.mv (.int .i64 ((k : Int))) rfl (cX (XOp.fieldP (0) runUnderlying76 rfl sizeOf47 (by decide) rfl rfl (cX (XOp.load1 isAgg47 rfl (Rd.own [_, _, _] rfl rfl) (cX (XOp.lenS runUnderlying47 rfl hs.slv (cX (XOp.lss rfl rfl (XL.nil ?_))))))))))))
 refine X.condD (p := (k : Int) < (s.length : Int)) rfl (fun h1 => ?_) (fun h1 => ?_)
 ·refine X.skip (X.seq (X.block (X.seq (X.region (cX (XOp.loadN [sv] isAgg76 sizeOf76 rfl rfl (Rd.ownN [_, _, _] rfl rfl) (XL.mv (.int .i64 ((k : Int))) rfl (cX (XOp.frzF <| XOp.call (args := [.agg #[sv], .int .i64 (k : Int)]) call169 rfl (l2Gives_spec (i := k) hs (hsl := (by first | assumption | rfl | omega | simp)) (hi := (by first | assumption | rfl | omega | simp)) (hsb := (hsb k))) ?_)))))))))
  rintro v1 _ _ _ ⟨rfl, hs1, rfl⟩
  refine ⟨_, _, rfl, fun F1 le1 hz1 => ?_⟩
  replace hc1 := hc1.mono le1
  have hf1 : IntsF F1 v1 ((lk s (-1 - (k : Int)))) := intsH.fz (xs := (lk s (-1 - (k : Int)))) hz1.fz
  refine XL.as (v1) rfl (XL.nil (X.seq (X.seq (X.region (XL.mv (v1) rfl (cX (XOp.lenS runUnderlying24 rfl hf1.slv (cX (XOp.eql rfl rfl (XL.mv (.bool (decide ((((((lk s (-1 - (k : Int)))).length : Nat) : Int) : Int) = 1))) rfl ?_))))))))))
  by_cases h2 : (((((lk s (-1 - (k : Int)))).length : Nat) : Int) : Int) = 1
  ·refine XL.yes (t := 20) rfl (vT h2) (XOp.move (v1) rfl (XL.yes (t := 20) rfl (vT h2) (XOp.indexS 0 runUnderlying24 sizeOf2 rfl rfl rfl hf1.slv (by omega) (Nat.mul_one _) (XL.yes (t := 20) rfl (vT h2) (XOp.load1 isAgg2 rfl (hf1.rd (by omega)) (XL.yes (t := 20) rfl (vT h2) (XOp.move (.int .i64 ((k : Int))) rfl (XL.yes (t := 20) rfl (vT h2) (XOp.subR ((-1) - ((k : Int))) rfl rfl (by omega) (by omega) (XL.yes (t := 20) rfl (vT h2) (XOp.eql rfl rfl (cX (XOp.pickT (.bool (decide ((((lk s (-1 - (k : Int)))).getD 0 0 : Int) = (-1) - ((k : Int))))) (vT h2) rfl (XL.nil ?_))))))))))))))
   refine X.condD (p := (((lk s (-1 - (k : Int)))).getD 0 0 : Int) = (-1) - ((k : Int))) rfl (fun h3 => ?_) (fun h3 => ?_)
   ·refine X.region (cX (XOp.buildSlice (s := 1) [] [.int .i64 (0)] [] runUnderlying24 sizeOf2 zeroValue2 rfl (by decide) rfl CellsAre.nil rfl ?_))
    intro v2 hv1
    refine XL.as (v2) rfl (XL.nil (X.region (cX (XOp.fieldP (0) runUnderlying76 rfl sizeOf47 (by decide) rfl rfl (cX (XOp.load1 isAgg47 rfl (Rd.own [_, _] rfl rfl) (XL.mv (v2) rfl (cX (XOp.buildSlice (s := 1) [v2] [(.slice none 0 0)] [(0, [v2])] runUnderlying47 sizeOf24 zeroValue24 rfl (by decide) rfl (.cons (cells_one (isSl_lit hv1)) CellsAre.nil) rfl ?_)))))))))
    intro v3 hv2
    show XL _ _ _ _ _ _ _ (slH 24 1 v3 1 [v2] :: intsH 2 v2 ([] : List Int) :: slH 24 1 ov ((os).length) cs1 :: cellsH b3 [ov] 76 :: cellsH b2 [(.slice none 0 0)] 76 :: cellsH b1 [sv] 76 :: L)
    refine XL.freezeF [_] _ _ rfl (fun F2 le2 hz2 => ?_)
    replace hc1 := hc1.mono le2
    replace hf1 := hf1.mono le2
    have hf2 : IntsF F2 v2 ([]) := intsH.fz (xs := []) hz2.fz
    refine cX (XOp.append (m := 1) (bytes := 24) (cs := cs1) [_] _ [v2] runUnderlying47 typeInfo24 rfl rfl rfl rfl rfl rfl rfl (SlV.own [] rfl) rfl (Rd.lit [] rfl) (ones_cons (one_sl (IntsF.isSl hf2)) ones_nil) (by (try simp only [List.length_append, List.length_nil, List.length_cons, List.length_singleton]); omega) (by (try simp only [List.length_append, List.length_nil, List.length_cons, List.length_singleton]); omega) ?_)
    intro v4 hs2 hn1 hm1
    have hc2 := RowsC.snoc hc1 hf2
    refine cX (XOp.fieldP (0) runUnderlying76 rfl sizeOf47 (by decide) rfl rfl (cX (XOp.store1 [_, _] _ [v4] sizeOf47 rfl rfl (one_sl hs2) rfl rfl rfl (XL.nil (X.region (XL.mv (.int .i64 ((k : Int))) rfl (cX (XOp.addR (((k + 1 : Nat) : Int)) rfl rfl (by omega) (by omega) (XL.as (.int .i64 (((k + 1 : Nat) : Int))) rfl (XL.nil ?_))))))))))
    exact ⟨(k + 1, v4, os ++ [[]], F2), _, (FLe.trans (FLe.trans leG1 le1) le2), rF, ⟨rfl, rfl, rfl, rfl, trivial⟩, (sD (coH.close hc2 (by first | rfl | simp) (sC (sC (sC sR))))), ⟨rfl, (FLe.trans (FLe.trans leG1 le1) le2), (hs2), (by dsimp only; rw [hos, plainGo_take (by omega), plainGo_self (one_eq (by omega) (by omega))]), (by (try dsimp only) <;> omega)⟩, (by omega)⟩
   refine X.skip (X.region (cX (XOp.fieldP (0) runUnderlying76 rfl sizeOf47 (by decide) rfl rfl (cX (XOp.load1 isAgg47 rfl (Rd.own [_] rfl rfl) (XL.mv (v1) rfl (cX (XOp.buildSlice (s := 1) [v1] [(.slice none 0 0)] [(0, [v1])] runUnderlying47 sizeOf24 zeroValue24 rfl (by decide) rfl (.cons (cells_one (IntsF.isSl hf1)) CellsAre.nil) rfl ?_))))))))
   intro v5 hv3
   refine cX (XOp.append (m := 1) (bytes := 24) (cs := cs1) [_] _ [v1] runUnderlying47 typeInfo24 rfl rfl rfl rfl rfl rfl rfl (SlV.own [] rfl) rfl (Rd.lit [] rfl) (ones_cons (one_sl (IntsF.isSl hf1)) ones_nil) (by (try simp only [List.length_append, List.length_nil, List.length_cons, List.length_singleton]); omega) (by (try simp only [List.length_append, List.length_nil, List.length_cons, List.length_singleton]); omega) ?_)
   intro v6 hs3 hn2 hm2
   have hc3 := RowsC.snoc hc1 hf1
   refine cX (XOp.fieldP (0) runUnderlying76 rfl sizeOf47 (by decide) rfl rfl (cX (XOp.store1 [_, _] _ [v6] sizeOf47 rfl rfl (one_sl hs3) rfl rfl rfl (XL.nil (X.region (XL.mv (.int .i64 ((k : Int))) rfl (cX (XOp.addR (((k + 1 : Nat) : Int)) rfl rfl (by omega) (by omega) (XL.as (.int .i64 (((k + 1 : Nat) : Int))) rfl (XL.nil ?_))))))))))
   exact ⟨(k + 1, v6, os ++ [(lk s (-1 - (k : Int)))], F1), _, (FLe.trans leG1 le1), rF, ⟨rfl, rfl, rfl, rfl, trivial⟩, (sD (coH.close hc3 (by first | rfl | simp) (sC (sC (sC sR))))), ⟨rfl, (FLe.trans leG1 le1), (hs3), (by dsimp only; rw [hos, plainGo_take (by omega), plainGo_other (by intro e; have e1 := congrArg List.length e; have e2 := congrArg (fun l => l.getD 0 0) e; simp only [List.length_singleton, List.getD_cons_zero] at e1 e2; omega)]), (by (try dsimp only) <;> omega)⟩, (by omega)⟩
  refine XL.no (t := 20) rfl (vF h2) (XL.no (t := 20) rfl (vF h2) (XL.no (t := 20) rfl (vF h2) (XL.no (t := 20) rfl (vF h2) (XL.no (t := 20) rfl (vF h2) (XL.no (t := 20) rfl (vF h2) (cX (XOp.pickF (.bool (false)) (vF h2) rfl (XL.nil (X.condF rfl (X.skip (X.region ?_)))))))))))
  refine cX (XOp.fieldP (0) runUnderlying76 rfl sizeOf47 (by decide) rfl rfl (cX (XOp.load1 isAgg47 rfl (Rd.own [_] rfl rfl) (XL.mv (v1) rfl (cX (XOp.buildSlice (s := 1) [v1] [(.slice none 0 0)] [(0, [v1])] runUnderlying47 sizeOf24 zeroValue24 rfl (by decide) rfl (.cons (cells_one (IntsF.isSl hf1)) CellsAre.nil) rfl ?_))))))
  intro v7 hv4
  refine cX (XOp.append (m := 1) (bytes := 24) (cs := cs1) [_] _ [v1] runUnderlying47 typeInfo24 rfl rfl rfl rfl rfl rfl rfl (SlV.own [] rfl) rfl (Rd.lit [] rfl) (ones_cons (one_sl (IntsF.isSl hf1)) ones_nil) (by (try simp only [List.length_append, List.length_nil, List.length_cons, List.length_singleton]); omega) (by (try simp only [List.length_append, List.length_nil, List.length_cons, List.length_singleton]); omega) ?_)
  intro v8 hs4 hn3 hm3
  have hc4 := RowsC.snoc hc1 hf1
  refine cX (XOp.fieldP (0) runUnderlying76 rfl sizeOf47 (by decide) rfl rfl (cX (XOp.store1 [_, _] _ [v8] sizeOf47 rfl rfl (one_sl hs4) rfl rfl rfl (XL.nil (X.region (XL.mv (.int .i64 ((k : Int))) rfl (cX (XOp.addR (((k + 1 : Nat) : Int)) rfl rfl (by omega) (by omega) (XL.as (.int .i64 (((k + 1 : Nat) : Int))) rfl (XL.nil ?_))))))))))
  exact ⟨(k + 1, v8, os ++ [(lk s (-1 - (k : Int)))], F1), _, (FLe.trans leG1 le1), rF, ⟨rfl, rfl, rfl, rfl, trivial⟩, (sD (coH.close hc4 (by first | rfl | simp) (sC (sC (sC sR))))), ⟨rfl, (FLe.trans leG1 le1), (hs4), (by dsimp only; rw [hos, plainGo_take (by omega), plainGo_other (by intro e; have e1 := congrArg List.length e; have e2 := congrArg (fun l => l.getD 0 0) e; simp only [List.length_singleton, List.getD_cons_zero] at e1 e2; omega)]), (by (try dsimp only) <;> omega)⟩, (by omega)⟩
 refine X.exit (thenQ_exit (thenQ_exit (blockQ_exit (X.seq (X.block (X.loop (α := Value × RowL × FH) (fun xQ => [(2, ptr b2 0), (3, ptr b3 0)]) (fun xQ => rowsH 24 xQ.2.2 xQ.1 xQ.2.1 :: cellsH b3 [xQ.1] 76 :: cellsH b2 [(.slice none 0 0)] 76 :: cellsH b1 [sv] 76 :: L) (fun xQ F' => xQ.2.2 = F' ∧ G1 ≤ xQ.2.2 ∧ (IsSl xQ.1) ∧ (trim xQ.2.1 = plainL s) ∧ (xQ.2.1.length ≤ 24)) (fun xQ => xQ.2.1.length) (ov, os, G1) ⟨rfl, rfl, trivial⟩ (coH.close hc1 (by first | rfl | simp) (sC (sC (sC sR)))) ⟨rfl, FLe.refl _, (hov), (by dsimp only; rw [hos, plainL, List.take_of_length_le (by rw [plainGo_length]; omega)]), (by dsimp only; rw [hos, List.length_take, plainGo_length]; omega)⟩ ?_))))))
 rintro ⟨ov2, os2, G2⟩ rE _ _ ⟨rfl, leG, hov2, hos2, hl2⟩
 show X _ _ _ _ (envs [(2, ptr b2 0), (3, ptr b3 0)] rE) _ (rowsH 24 G2 ov2 os2 :: cellsH b3 [ov2] 76 :: cellsH b2 [(.slice none 0 0)] 76 :: cellsH b1 [sv] 76 :: L)
 replace leG : G1 ≤ G2 := leG
 dsimp only at hov2 hos2 hl2
 have leG2 := leG
 refine X.open [] rfl (fun cs2 hc5 => ?_)
 replace hc5 : RowsC G2 cs2 os2 := hc5
 refine X.seq (X.seq (X.region (cX (XOp.fieldP (0) runUnderlying76 rfl sizeOf47 (by decide) rfl rfl (cX (XOp.load1 isAgg47 rfl (Rd.own [_] rfl rfl) (cX (XOp.lenS runUnderlying47 rfl (SlV.own [] rfl) (cX (XOp.gtr rfl rfl (XL.mv (.bool (decide (((os2.length : Int) : Int) > 0))) rfl ?_)))))))))))
 by_cases h4 : ((os2.length : Int) : Int) > 0
 ·refine XL.yes (t := 39) rfl (vT h4) (XOp.fieldP (0) runUnderlying76 rfl sizeOf47 (by decide) rfl rfl (XL.yes (t := 39) rfl (vT h4) (XOp.load1 isAgg47 rfl (Rd.own [_] rfl rfl) (XL.yes (t := 39) rfl (vT h4) (XOp.fieldP (0) runUnderlying76 rfl sizeOf47 (by decide) rfl rfl (XL.yes (t := 39) rfl (vT h4) (XOp.load1 isAgg47 rfl (Rd.own [_] rfl rfl) (XL.yes (t := 39) rfl (vT h4) (XOp.lenS runUnderlying47 rfl (SlV.own [] rfl) (XL.yes (t := 39) rfl (vT h4) (XOp.subR (((os2.length - 1 : Nat) : Int)) rfl rfl (by omega) (by omega) (XL.yes (t := 39) rfl (vT h4) (XOp.indexS (os2.length - 1) runUnderlying47 sizeOf24 rfl rfl rfl (SlV.own [] rfl) (by omega) (Nat.mul_one _) ?_)))))))))))))
  obtain ⟨a1, ha1, he1⟩ := hc5.get (i := os2.length - 1) (by omega)
  refine XL.yes (t := 39) rfl (vT h4) (XOp.load1 isAgg24 rfl (Rd.sl [] rfl he1) (XL.yes (t := 39) rfl (vT h4) (XOp.lenS runUnderlying24 rfl ha1.slv (XL.yes (t := 39) rfl (vT h4) (XOp.eql rfl rfl (cX (XOp.pickT (.bool (decide ((((((os2.getD (os2.length - 1) [])).length : Nat) : Int) : Int) = 0))) (vT h4) rfl (XL.nil ?_))))))))
  refine X.condD (p := (((((os2.getD (os2.length - 1) [])).length : Nat) : Int) : Int) = 0) rfl (fun h5 => ?_) (fun h5 => ?_)
  ·refine X.skip (X.block (X.region (cX (XOp.fieldP (0) runUnderlying76 rfl sizeOf47 (by decide) rfl rfl (cX (XOp.load1 isAgg47 rfl (Rd.own [_] rfl rfl) (cX (XOp.fieldP (0) runUnderlying76 rfl sizeOf47 (by decide) rfl rfl (cX (XOp.load1 isAgg47 rfl (Rd.own [_] rfl rfl) (cX (XOp.lenS runUnderlying47 rfl (SlV.own [] rfl) (cX (XOp.subR (((os2.length - 1 : Nat) : Int)) rfl rfl (by omega) (by omega) (cX (XOp.sliceOwn (cs := cs2) [] _ (os2.length - 1) runUnderlying47 sizeOf24 rfl rfl ⟨_, rfl⟩ (by omega) ?_))))))))))))))))
   intro v9 hs5
   have hc6 : RowsC G2 _ _ := CO.take hc5 (k := os2.length - 1) (by omega)
   refine cX (XOp.fieldP (0) runUnderlying76 rfl sizeOf47 (by decide) rfl rfl (cX (XOp.store1 [_] _ [v9] sizeOf47 rfl rfl (one_sl hs5) rfl rfl rfl (XL.nil ?_))))
   exact ⟨(v9, (os2.take (os2.length - 1)), G2), _, leG2, rF, ⟨rfl, rfl, trivial⟩, (coH.close hc6 (by first | rfl | simp) (sC (sC (sC sR)))), ⟨rfl, leG2, (hs5), (by dsimp only; rw [trim_cut (by omega) (List.eq_nil_of_length_eq_zero (by omega))]; exact hos2), (by dsimp only; rw [List.length_take]; omega)⟩, (by dsimp only; rw [List.length_take]; omega)⟩
  refine X.exit (thenQ_exit (thenQ_exit (blockQ_exit (X.seq (X.region (cX (XOp.loadN [ov2] isAgg76 sizeOf76 rfl rfl (Rd.ownN [_] rfl rfl) (cX (XOp.storeN [_, _] _ [ov2] sizeOf76 rfl rfl rfl (ones_cons (one_sl hov2) ones_nil) rfl rfl rfl (XL.nil (X.freezeF [] _ _ rfl (fun F3 le3 hz3 => ?_))))))))))))
  replace hc5 := hc5.mono le3
  have hf3 : RowsF F3 ov2 os2 := CO.fz hc5 (by first | rfl | omega | (rw [List.length_set]; omega) | (simp; done)) hz3.fz
  refine X.ret (retEnd (L' := L) [.agg #[ov2]] (.agg #[ov2]) (.cell rfl (loadNV [ov2] isAgg76 sizeOf76 rfl (Rd.ownN [_] rfl rfl)) .nil) rfl (FLe.trans (FLe.trans leG1 leG2) le3) rF (sD (sD (sD sR))) ?_)
  have e : os2 = plainL s := by rw [← hos2]; exact (trim_last (fun h0 e => by have := congrArg List.length e; simp only [List.length_nil] at this; omega)).symm
  exact ⟨_, rfl, by rw [← e]; exact hf3, rfl⟩
 refine XL.no (t := 39) rfl (vF h4) (XL.no (t := 39) rfl (vF h4) (XL.no (t := 39) rfl (vF h4) (XL.no (t := 39) rfl (vF h4) (XL.no (t := 39) rfl (vF h4) (XL.no (t := 39) rfl (vF h4) (XL.no (t := 39) rfl (vF h4) (XL.no (t := 39) rfl (vF h4) (XL.no (t := 39) rfl (vF h4) (XL.no (t := 39) rfl (vF h4) ?_)))))))))
 refine cX (XOp.pickF (.bool (false)) (vF h4) rfl (XL.nil (X.condF rfl (X.exit (thenQ_exit (thenQ_exit (blockQ_exit (X.seq (X.region (cX (XOp.loadN [ov2] isAgg76 sizeOf76 rfl rfl (Rd.ownN [_] rfl rfl) (cX (XOp.storeN [_, _] _ [ov2] sizeOf76 rfl rfl rfl (ones_cons (one_sl hov2) ones_nil) rfl rfl rfl (XL.nil (X.freezeF [] _ _ rfl (fun F4 le4 hz4 => ?_))))))))))))))))
 replace hc5 := hc5.mono le4
 have hf4 : RowsF F4 ov2 os2 := CO.fz hc5 (by first | rfl | omega | (rw [List.length_set]; omega) | (simp; done)) hz4.fz
 refine X.ret (retEnd (L' := L) [.agg #[ov2]] (.agg #[ov2]) (.cell rfl (loadNV [ov2] isAgg76 sizeOf76 rfl (Rd.ownN [_] rfl rfl)) .nil) rfl (FLe.trans (FLe.trans leG1 leG2) le4) rF (sD (sD (sD sR))) ?_)
 have e : os2 = plainL s := by rw [← hos2]; exact (trim_last (fun h0 e => by have := congrArg List.length e; simp only [List.length_nil] at this; omega)).symm
 exact ⟨_, rfl, by rw [← e]; exact hf4, rfl⟩

/- spec.l4Match -/
theorem l4Match_spec {F : FH} {L : List HP} {arv : Value} {ar : List Int} (har : IntsF F arv ar) {pv : Value} {p : List Int} (hp : IntsF F pv p) {tv : Value} {t : List Int} (ht : IntsF F tv t) (ho : termOk ar t = true) (hpo : termOk ar p = true) :
    Does prog 109 [.agg #[arv], pv, tv] F (L) (fun v F' L' => ∃ (a : Value), (.tuple #[.agg #[a], .bool ((matchB ar p t).isSome)] : Value) = v ∧ (RowsF F' a (matchP ar p t)) ∧ L = L') := by
 refine Does.of_X func109 rfl rfl rfl ?_
 have hpl := termOk_len hpo
 have hpg := fun k (hk : k < p.length) => termOk_ge hpo hk
 have htl := termOk_len ho
 have hsl := sigOk_spec (termOk_sig ho)
 refine X.seq (X.region (cX (XOp.box [arv] rfl rfl ?_)))
 intro b1
 refine cX (XOp.alloc [(.slice none 0 0)] zeroValue76 rfl ?_)
 intro b2
 refine XL.as (.bool (false)) rfl (XL.nil (X.seq (X.region (cX (XOp.makeSlice (n := 24) (bytes := 24) [(.slice none 0 0)] runUnderlying47 sizeOf24 typeInfo24 rfl zeroValue24 rfl rfl rfl rfl (by omega) (by omega) ?_)))))
 intro v1 hv1
 rw [nils]
 have hc1 : RowsC F _ _ := RowsC.nils 24
 refine cX (XOp.build [v1] [(.slice none 0 0)] [(0, 1)] [(0, [v1])] runUnderlying76 zeroValue76 rfl (.cons rfl sizeOf47 PlacesAre.nil) rfl (.cons (cells_one (isSl_lit hv1)) CellsAre.nil) (cX (XOp.alloc [(.slice none 0 0)] zeroValue76 rfl ?_)))
 intro b3
 refine cX (XOp.storeN [] _ [v1] sizeOf76 rfl rfl rfl (ones_cons (one_sl (isSl_lit hv1)) ones_nil) rfl rfl rfl (XL.nil (X.seq (X.region (XL.as (.int .i64 (0)) rfl (XL.nil (X.seq (X.seq (X.region (XL.as (.int .i64 (0)) rfl (XL.nil (X.block (X.loop (α := Nat × Nat × RowL × FH) (fun xQ => [(1, pv), (2, tv), (3, ptr b1 0), (6, ptr b2 0), (8, ptr b3 0), (9, .int .i64 (((xQ.2.1 : Nat) : Int))), (10, .int .i64 (((xQ.1 : Nat) : Int)))]) (fun xQ => cellsH b3 [v1] 76 :: rowsH 24 xQ.2.2.2 v1 xQ.2.2.1 :: cellsH b2 [(.slice none 0 0)] 76 :: cellsH b1 [arv] 26 :: L) (fun xQ F' => xQ.2.2.2 = F' ∧ F ≤ xQ.2.2.2 ∧ (xQ.2.2.1.length = 24) ∧ (xQ.1 ≤ p.length) ∧ (xQ.2.1 ≤ t.length) ∧ (matchB ar p t = mGo ar t (p.drop xQ.1) xQ.2.1 xQ.2.2.1)) (fun xQ => p.length - xQ.1) (0, 0, (List.replicate 24 [] : List (List Int)), F) ⟨rfl, rfl, rfl, rfl, rfl, rfl, rfl, trivial⟩ (sC (coH.close hc1 (by first | rfl | simp) (sC (sC sR)))) ⟨rfl, FLe.refl _, (by simp), (by (try dsimp only) <;> omega), (by (try dsimp only) <;> omega), (rfl)⟩ ?_)))))))))))))
 rintro ⟨k, i, bl, G1⟩ rE _ _ ⟨rfl, leG, hbl, hk, hi, hm⟩
 show X _ _ _ _ (envs [(1, pv), (2, tv), (3, ptr b1 0), (6, ptr b2 0), (8, ptr b3 0), (9, .int .i64 ((i : Int))), (10, .int .i64 ((k : Int)))] rE) _ (cellsH b3 [v1] 76 :: rowsH 24 G1 v1 bl :: cellsH b2 [(.slice none 0 0)] 76 :: cellsH b1 [arv] 26 :: L)
 replace leG : F ≤ G1 := leG
 dsimp only at hbl hk hi hm
 have hpk := hpg k
 have hsl2 := fun h => sub_length (p := i) ho h
 have hee := fun h => endN_spec (p := i) ho h
 have leG1 := leG
 replace har := har.mono leG1
 replace hp := hp.mono leG1
 replace ht := ht.mono leG1
 refine X.open [_] rfl (fun cs1 hc2 => ?_)
 replace hc2 : RowsC G1 cs1 bl := hc2
 refine X.seq (X.seq (X.region (XL.mv (.int .i64 ((k : Int))) rfl (XL.mv (pv) rfl (cX (XOp.lenS runUnderlying24 rfl hp.slv (cX (XOp.lss rfl rfl (XL.nil ?_)))))))))
 refine X.condD (p := (k : Int) < (p.length : Int)) rfl (fun h1 => ?_) (fun h1 => ?_)
 ·refine X.skip (X.seq (X.block (X.seq (X.seq (X.region (XL.mv (.int .i64 ((i : Int))) rfl (XL.mv (tv) rfl (cX (XOp.lenS runUnderlying24 rfl ht.slv (cX (XOp.geq rfl rfl (XL.nil ?_))))))))))))
  refine X.condD (p := (i : Int) ≥ (t.length : Int)) rfl (fun h2 => ?_) (fun h2 => ?_)
  ·refine X.seq (X.region (cX (XOp.build [(.slice none 0 0)] [(.slice none 0 0)] [(0, 1)] [] runUnderlying76 zeroValue76 rfl (.cons rfl sizeOf47 PlacesAre.nil) rfl CellsAre.nil (cX (XOp.storeN [_, _] _ [(.slice none 0 0)] sizeOf76 rfl rfl rfl (ones_cons rfl ones_nil) rfl rfl rfl (XL.as (.bool (false)) rfl (XL.nil (X.ret (thenQ_ret (blockQ_ret (thenQ_ret (thenQ_ret (blockQ_ret (thenQ_ret (retEnd (L' := L) [.agg #[(.slice none 0 0)], .bool (false)] (.tuple #[.agg #[(.slice none 0 0)], .bool (false)]) (.cell rfl (loadNV [(.slice none 0 0)] isAgg76 sizeOf76 rfl (Rd.ownN [_, _] rfl rfl)) (.tmp rfl .nil)) rfl leG1 rF (sD (sD (sD (sD sR)))) ?_)))))))))))))))
   have hz : matchB ar p t = none := hm.trans (mGo_short (by omega) (by omega))
   exact ⟨_, by rw [hz]; rfl, by rw [matchP, hz]; exact SlOf.nilV, rfl⟩
  refine X.skip (X.seq (X.seq (X.region (XL.mv (pv) rfl (XL.mv (.int .i64 ((k : Int))) rfl (cX (XOp.indexS k runUnderlying24 sizeOf2 rfl rfl rfl hp.slv (by omega) (Nat.mul_one _) (cX (XOp.load1 isAgg2 rfl (hp.rd (by omega)) (cX (XOp.geq rfl rfl (XL.nil ?_))))))))))))
  refine X.condD (p := (p.getD k 0 : Int) ≥ 0) rfl (fun h3 => ?_) (fun h3 => ?_)
  ·refine X.seq (X.seq ?_)
   refine X.draw [cellsH b3 [v1] 76, slH 24 1 v1 ((bl).length) cs1, cellsH b2 [(.slice none 0 0)] 76, cellsH b1 [arv] 26] L 8 [[], [], [], [], [], [], [], []] [[], [], [0, 1], [2], [], [], [4, 5], [6]] (phiL [fun us v => v = pv, fun us v => v = (.int .i64 ((k : Int)) : Value), fun us v => v = (.pointer (some (elemA pv (k))) : Value), fun us v => v = (.int .i64 (p.getD k 0) : Value), fun us v => v = tv, fun us v => v = (.int .i64 ((i : Int)) : Value), fun us v => v = (.pointer (some (elemA tv (i))) : Value), fun us v => v = (.int .i64 (t.getD i 0) : Value)]) (ownL [fun us v => [], fun us v => [], fun us v => [], fun us v => [], fun us v => [], fun us v => [], fun us v => [], fun us v => []]) mixed rfl rfl (by kernel_rfl) ?_ ?_
   ·refine pC (fun vals R hpZ => ?_) ?_
    ·refine XG.op (XOp.move (pv) rfl ?_)
     exact ⟨rfl, rfl, rfl⟩
    refine pC (fun vals R hpZ => ?_) ?_
    ·refine XG.op (XOp.move (.int .i64 ((k : Int))) rfl ?_)
     exact ⟨rfl, rfl, rfl⟩
    refine pC (fun vals R hpZ => ?_) ?_
    ·rw [eS (l := [(0, pv), (1, (.int .i64 ((k : Int)) : Value))]) ⟨hpZ 0 (by decide), hpZ 1 (by decide), trivial⟩]
     refine XG.op (XOp.indexS k runUnderlying24 sizeOf2 rfl rfl rfl hp.slv (by omega) (Nat.mul_one _) ?_)
     exact ⟨rfl, rfl, rfl⟩
    refine pC (fun vals R hpZ => ?_) ?_
    ·rw [eS (l := [(2, (.pointer (some (elemA pv (k))) : Value))]) ⟨hpZ 2 (by decide), trivial⟩]
     refine XG.op (XOp.load1 isAgg2 rfl (hp.rd (by omega)) ?_)
     exact ⟨rfl, rfl, rfl⟩
    refine pC (fun vals R hpZ => ?_) ?_
    ·refine XG.op (XOp.move (tv) rfl ?_)
     exact ⟨rfl, rfl, rfl⟩
    refine pC (fun vals R hpZ => ?_) ?_
    ·refine XG.op (XOp.move (.int .i64 ((i : Int))) rfl ?_)
     exact ⟨rfl, rfl, rfl⟩
    refine pC (fun vals R hpZ => ?_) ?_
    ·rw [eS (l := [(4, tv), (5, (.int .i64 ((i : Int)) : Value))]) ⟨hpZ 4 (by decide), hpZ 5 (by decide), trivial⟩]
     refine XG.op (XOp.indexS i runUnderlying24 sizeOf2 rfl rfl rfl ht.slv (by omega) (Nat.mul_one _) ?_)
     exact ⟨rfl, rfl, rfl⟩
    refine pC (fun vals R hpZ => ?_) ?_
    ·rw [eS (l := [(6, (.pointer (some (elemA tv (i))) : Value))]) ⟨hpZ 6 (by decide), trivial⟩]
     refine XG.op (XOp.load1 isAgg2 rfl (ht.rd (by omega)) ?_)
     exact ⟨rfl, rfl, rfl⟩
    exact stepsP.nil
   intro vals hphi
   rw [eS (l := [(3, (.int .i64 (p.getD k 0) : Value)), (7, (.int .i64 (t.getD i 0) : Value))]) ⟨(hphi 3 (by decide)), (hphi 7 (by decide)), trivial⟩]
   show XL _ _ _ _ _ _ _ (cellsH b3 [v1] 76 :: slH 24 1 v1 ((bl).length) cs1 :: cellsH b2 [(.slice none 0 0)] 76 :: cellsH b1 [arv] 26 :: L)
   refine cX (XOp.neq rfl rfl (XL.nil ?_))
   refine X.condD (p := (p.getD k 0 : Int) ≠ t.getD i 0) rfl (fun h4 => ?_) (fun h4 => ?_)
   ·refine X.seq (X.region (cX (XOp.build [(.slice none 0 0)] [(.slice none 0 0)] [(0, 1)] [] runUnderlying76 zeroValue76 rfl (.cons rfl sizeOf47 PlacesAre.nil) rfl CellsAre.nil (cX (XOp.storeN [_, _] _ [(.slice none 0 0)] sizeOf76 rfl rfl rfl (ones_cons rfl ones_nil) rfl rfl rfl (XL.as (.bool (false)) rfl (XL.nil (X.ret (thenQ_ret (thenQ_ret (blockQ_ret (thenQ_ret (thenQ_ret (blockQ_ret (thenQ_ret (retEnd (L' := L) [.agg #[(.slice none 0 0)], .bool (false)] (.tuple #[.agg #[(.slice none 0 0)], .bool (false)]) (.cell rfl (loadNV [(.slice none 0 0)] isAgg76 sizeOf76 rfl (Rd.ownN [_, _] rfl rfl)) (.tmp rfl .nil)) rfl leG1 rF (sD (sD (sD (sD sR)))) ?_))))))))))))))))
    have hz : matchB ar p t = none := hm.trans (mGo_ne (by omega) (by omega) (by omega) (by omega))
    exact ⟨_, by rw [hz]; rfl, by rw [matchP, hz]; exact SlOf.nilV, rfl⟩
   refine X.skip (X.seq (X.region (XL.mv (.int .i64 ((i : Int))) rfl (cX (XOp.addR (((i + 1 : Nat) : Int)) rfl rfl (by omega) (by omega) (XL.as (.int .i64 (((i + 1 : Nat) : Int))) rfl (XL.nil (X.exit (thenQ_exit (blockQ_exit (X.region (XL.mv (.int .i64 ((k : Int))) rfl (cX (XOp.addR (((k + 1 : Nat) : Int)) rfl rfl (by omega) (by omega) (XL.as (.int .i64 (((k + 1 : Nat) : Int))) rfl ?_)))))))))))))))
   refine XL.nil ?_
   exact ⟨(k + 1, i + 1, bl, G1), _, leG1, rF, ⟨rfl, rfl, rfl, rfl, rfl, rfl, rfl, trivial⟩, (sC (coH.close hc2 (by first | rfl | simp) (sC (sC sR)))), ⟨rfl, leG1, (by (try dsimp only); (try simp only [List.length_set]) <;> omega), (by (try dsimp only) <;> omega), (by (try dsimp only) <;> omega), (hm.trans (mGo_sym (by omega) (by omega) (by omega) (by omega)))⟩, (by omega)⟩
  refine X.skip (X.seq (X.region (cX (XOp.loadN [arv] isAgg26 sizeOf26 rfl rfl (Rd.ownN [_, _, _] rfl rfl) (XL.mv (tv) rfl (XL.mv (.int .i64 ((i : Int))) rfl (cX (XOp.frzF <| XOp.call (args := [.agg #[arv], tv, .int .i64 (i : Int)]) call110 rfl (l1Sub_spec (p := i) har ht (ho := (by first | assumption | rfl | omega | simp)) (hp := (by first | assumption | rfl | omega | simp))) ?_))))))))
  rintro v2 _ _ _ ⟨rfl, hs1, rfl⟩
  refine ⟨_, _, rfl, fun F1 le1 hz1 => ?_⟩
  replace hp := hp.mono le1
  replace hc2 := hc2.mono le1
  have hf1 : IntsF F1 v2 ((sub ar t i)) := intsH.fz (xs := (sub ar t i)) hz1.fz
  refine XL.as (v2) rfl (XL.nil (X.seq ?_))
  refine X.draw [cellsH b3 [v1] 76, slH 24 1 v1 ((bl).length) cs1, cellsH b2 [(.slice none 0 0)] 76, cellsH b1 [arv] 26] L 7 [[], [], [], [], [], [], []] [[], [0], [], [], [2, 3], [4], [5]] (phiL [fun us v => v = ptr b3 0, fun us v => v = v1, fun us v => v = pv, fun us v => v = (.int .i64 ((k : Int)) : Value), fun us v => v = (.pointer (some (elemA pv (k))) : Value), fun us v => v = (.int .i64 (p.getD k 0) : Value), fun us v => v = (.int .i64 ((-1) - (p.getD k 0)) : Value)]) (ownL [fun us v => [], fun us v => [], fun us v => [], fun us v => [], fun us v => [], fun us v => [], fun us v => []]) mixed rfl rfl (by kernel_rfl) ?_ ?_
  ·refine pC (fun vals R hpZ => ?_) ?_
   ·refine XG.op (XOp.fieldP (0) runUnderlying76 rfl sizeOf47 (by decide) rfl rfl ?_)
    exact ⟨rfl, rfl, rfl⟩
   refine pC (fun vals R hpZ => ?_) ?_
   ·rw [eS (l := [(0, ptr b3 0)]) ⟨hpZ 0 (by decide), trivial⟩]
    refine XG.op (XOp.load1 isAgg47 rfl (Rd.own [] rfl rfl) ?_)
    exact ⟨rfl, rfl, rfl⟩
   refine pC (fun vals R hpZ => ?_) ?_
   ·refine XG.op (XOp.move (pv) rfl ?_)
    exact ⟨rfl, rfl, rfl⟩
   refine pC (fun vals R hpZ => ?_) ?_
   ·refine XG.op (XOp.move (.int .i64 ((k : Int))) rfl ?_)
    exact ⟨rfl, rfl, rfl⟩
   refine pC (fun vals R hpZ => ?_) ?_
   ·rw [eS (l := [(2, pv), (3, (.int .i64 ((k : Int)) : Value))]) ⟨hpZ 2 (by decide), hpZ 3 (by decide), trivial⟩]
    refine XG.op (XOp.indexS k runUnderlying24 sizeOf2 rfl rfl rfl hp.slv (by omega) (Nat.mul_one _) ?_)
    exact ⟨rfl, rfl, rfl⟩
   refine pC (fun vals R hpZ => ?_) ?_
   ·rw [eS (l := [(4, (.pointer (some (elemA pv (k))) : Value))]) ⟨hpZ 4 (by decide), trivial⟩]
    refine XG.op (XOp.load1 isAgg2 rfl (hp.rd (by omega)) ?_)
    exact ⟨rfl, rfl, rfl⟩
   refine pC (fun vals R hpZ => ?_) ?_
   ·rw [eS (l := [(5, (.int .i64 (p.getD k 0) : Value))]) ⟨hpZ 5 (by decide), trivial⟩]
    refine XG.op (XOp.subR ((-1) - (p.getD k 0)) rfl rfl (by omega) (by omega) ?_)
    exact ⟨rfl, rfl, rfl⟩
   exact stepsP.nil
  intro vals hphi
  rw [eS (l := [(1, v1), (6, (.int .i64 ((-1) - (p.getD k 0)) : Value))]) ⟨(hphi 1 (by decide)), (hphi 6 (by decide)), trivial⟩]
  show XL _ _ _ _ _ _ _ (cellsH b3 [v1] 76 :: slH 24 1 v1 ((bl).length) cs1 :: cellsH b2 [(.slice none 0 0)] 76 :: cellsH b1 [arv] 26 :: L)
  refine cX (XOp.indexS (((-1) - (p.getD k 0)).toNat) runUnderlying47 sizeOf24 rfl rfl (by omega) (SlV.own [_] rfl) (by omega) (Nat.mul_one _) ?_)
  obtain ⟨a1, ha1, he1⟩ := hc2.get (i := ((-1) - (p.getD k 0)).toNat) (by omega)
  refine cX (XOp.load1 isAgg24 rfl (Rd.sl [_] rfl he1) (XL.as (a1) rfl (XL.nil (X.seq (X.seq (X.region (XL.mv (a1) rfl (cX (XOp.lenS runUnderlying24 rfl ha1.slv (cX (XOp.gtr rfl rfl (XL.mv (.bool (decide ((((((bl.getD (((-1) - (p.getD k 0)).toNat) [])).length : Nat) : Int) : Int) > 0))) rfl ?_))))))))))))
  by_cases h5 : (((((bl.getD (((-1) - (p.getD k 0)).toNat) [])).length : Nat) : Int) : Int) > 0
  ·refine XL.yes (t := 59) rfl (vT h5) (XOp.move (a1) rfl (XL.yes (t := 59) rfl (vT h5) (XOp.move (v2) rfl (XL.yes (t := 59) rfl (vT h5) (XOp.call (args := [a1, v2]) call34 rfl (SameTerm_spec ha1 hf1 (hbd := (by first | assumption | rfl | omega | (left; simp; done) | (right; simp; done)))) ?_)))))
   rintro _ _ _ _ ⟨rfl, rfl, rfl⟩
   refine XL.yes (t := 59) rfl (vT h5) (XOp.notD rfl (cX (XOp.pickT (.bool (decide (¬(((bl.getD (((-1) - (p.getD k 0)).toNat) [])) = ((sub ar t i)))))) (vT h5) rfl (XL.nil ?_))))
   refine X.condD (p := ¬(((bl.getD (((-1) - (p.getD k 0)).toNat) [])) = ((sub ar t i)))) rfl (fun h6 => ?_) (fun h6 => ?_)
   ·refine X.seq (X.region (cX (XOp.build [(.slice none 0 0)] [(.slice none 0 0)] [(0, 1)] [] runUnderlying76 zeroValue76 rfl (.cons rfl sizeOf47 PlacesAre.nil) rfl CellsAre.nil (cX (XOp.storeN [_, _] _ [(.slice none 0 0)] sizeOf76 rfl rfl rfl (ones_cons rfl ones_nil) rfl rfl rfl (XL.as (.bool (false)) rfl (XL.nil (X.ret (thenQ_ret (blockQ_ret (thenQ_ret (thenQ_ret (blockQ_ret (thenQ_ret (retEnd (L' := L) [.agg #[(.slice none 0 0)], .bool (false)] (.tuple #[.agg #[(.slice none 0 0)], .bool (false)]) (.cell rfl (loadNV [(.slice none 0 0)] isAgg76 sizeOf76 rfl (Rd.ownN [_, _] rfl rfl)) (.tmp rfl .nil)) rfl (FLe.trans leG1 le1) rF (sD (sD (sD (sD sR)))) ?_)))))))))))))))
    have hz : matchB ar p t = none := hm.trans (mGo_clash (by omega) (by omega) (by omega) (by intro e; have := congrArg List.length (show bl.getD (-1 - p.getD k 0).toNat [] = [] from e); simp only [List.length_nil] at this; omega) (by assumption))
    exact ⟨_, by rw [hz]; rfl, by rw [matchP, hz]; exact SlOf.nilV, rfl⟩
   refine X.skip (X.seq ?_)
   refine X.draw [cellsH b3 [v1] 76, slH 24 1 v1 ((bl).length) cs1, cellsH b2 [(.slice none 0 0)] 76, cellsH b1 [arv] 26] L 8 [[], [], [], [], [], [], [], []] [[], [0], [], [], [2, 3], [4], [5], []] (phiL [fun us v => v = ptr b3 0, fun us v => v = v1, fun us v => v = pv, fun us v => v = (.int .i64 ((k : Int)) : Value), fun us v => v = (.pointer (some (elemA pv (k))) : Value), fun us v => v = (.int .i64 (p.getD k 0) : Value), fun us v => v = (.int .i64 ((-1) - (p.getD k 0)) : Value), fun us v => v = v2]) (ownL [fun us v => [], fun us v => [], fun us v => [], fun us v => [], fun us v => [], fun us v => [], fun us v => [], fun us v => []]) mixed rfl rfl (by kernel_rfl) ?_ ?_
   ·refine pC (fun vals R hpZ => ?_) ?_
    ·refine XG.op (XOp.fieldP (0) runUnderlying76 rfl sizeOf47 (by decide) rfl rfl ?_)
     exact ⟨rfl, rfl, rfl⟩
    refine pC (fun vals R hpZ => ?_) ?_
    ·rw [eS (l := [(0, ptr b3 0)]) ⟨hpZ 0 (by decide), trivial⟩]
     refine XG.op (XOp.load1 isAgg47 rfl (Rd.own [] rfl rfl) ?_)
     exact ⟨rfl, rfl, rfl⟩
    refine pC (fun vals R hpZ => ?_) ?_
    ·refine XG.op (XOp.move (pv) rfl ?_)
     exact ⟨rfl, rfl, rfl⟩
    refine pC (fun vals R hpZ => ?_) ?_
    ·refine XG.op (XOp.move (.int .i64 ((k : Int))) rfl ?_)
     exact ⟨rfl, rfl, rfl⟩
    refine pC (fun vals R hpZ => ?_) ?_
    ·rw [eS (l := [(2, pv), (3, (.int .i64 ((k : Int)) : Value))]) ⟨hpZ 2 (by decide), hpZ 3 (by decide), trivial⟩]
     refine XG.op (XOp.indexS k runUnderlying24 sizeOf2 rfl rfl rfl hp.slv (by omega) (Nat.mul_one _) ?_)
     exact ⟨rfl, rfl, rfl⟩
    refine pC (fun vals R hpZ => ?_) ?_
    ·rw [eS (l := [(4, (.pointer (some (elemA pv (k))) : Value))]) ⟨hpZ 4 (by decide), trivial⟩]
     refine XG.op (XOp.load1 isAgg2 rfl (hp.rd (by omega)) ?_)
     exact ⟨rfl, rfl, rfl⟩
    refine pC (fun vals R hpZ => ?_) ?_
    ·rw [eS (l := [(5, (.int .i64 (p.getD k 0) : Value))]) ⟨hpZ 5 (by decide), trivial⟩]
     refine XG.op (XOp.subR ((-1) - (p.getD k 0)) rfl rfl (by omega) (by omega) ?_)
     exact ⟨rfl, rfl, rfl⟩
    refine pC (fun vals R hpZ => ?_) ?_
    ·refine XG.op (XOp.move (v2) rfl ?_)
     exact ⟨rfl, rfl, rfl⟩
    exact stepsP.nil
   intro vals hphi
   rw [eS (l := [(1, v1), (6, (.int .i64 ((-1) - (p.getD k 0)) : Value)), (7, v2)]) ⟨(hphi 1 (by decide)), (hphi 6 (by decide)), (hphi 7 (by decide)), trivial⟩]
   show XL _ _ _ _ _ _ _ (cellsH b3 [v1] 76 :: slH 24 1 v1 ((bl).length) cs1 :: cellsH b2 [(.slice none 0 0)] 76 :: cellsH b1 [arv] 26 :: L)
   refine cX (XOp.indexS (((-1) - (p.getD k 0)).toNat) runUnderlying47 sizeOf24 rfl rfl (by omega) (SlV.own [_] rfl) (by omega) (Nat.mul_one _) (cX (XOp.storeS (i := ((-1) - (p.getD k 0)).toNat) (cs := cs1) [_] _ sizeOf24 rfl rfl (one_sl (IntsF.isSl hf1)) rfl (by have h9 := CO.len hc2; (try simp only [List.length_set, List.length_replicate] at h9 ⊢) <;> omega) ?_)))
   have hc3 := hc2.set (((-1) - (p.getD k 0)).toNat) hf1
   refine XL.nil (X.region (XL.mv (.int .i64 ((i : Int))) rfl (XL.mv (v2) rfl (cX (XOp.lenS runUnderlying24 rfl hf1.slv (cX (XOp.addR (((i + (((sub ar t i)).length) : Nat) : Int)) rfl rfl (by omega) (by omega) (XL.as (.int .i64 (((i + (((sub ar t i)).length) : Nat) : Int))) rfl (XL.nil (X.region (XL.mv (.int .i64 ((k : Int))) rfl (cX (XOp.addR (((k + 1 : Nat) : Int)) rfl rfl (by omega) (by omega) (XL.as (.int .i64 (((k + 1 : Nat) : Int))) rfl ?_))))))))))))))
   refine XL.nil ?_
   exact ⟨(k + 1, i + (((sub ar t i)).length), (bl.set (((-1) - (p.getD k 0)).toNat) ((sub ar t i))), F1), _, (FLe.trans leG1 le1), rF, ⟨rfl, rfl, rfl, rfl, rfl, rfl, rfl, trivial⟩, (sC (coH.close hc3 (by first | rfl | simp) (sC (sC sR)))), ⟨rfl, (FLe.trans leG1 le1), (by (try dsimp only); (try simp only [List.length_set]) <;> omega), (by (try dsimp only) <;> omega), (by (try dsimp only) <;> omega), (hm.trans (m4_next (by omega) (by omega) (by omega) (by first | (left; exact List.eq_nil_of_length_eq_zero (show (bl.getD (-1 - p.getD k 0).toNat []).length = 0 by omega)) | (right; first | assumption | exact Classical.not_not.1 (by assumption)))))⟩, (by omega)⟩
  refine XL.no (t := 59) rfl (vF h5) (XL.no (t := 59) rfl (vF h5) (XL.no (t := 59) rfl (vF h5) (XL.no (t := 59) rfl (vF h5) (cX (XOp.pickF (.bool (false)) (vF h5) rfl (XL.nil (X.condF rfl (X.skip (X.seq ?_)))))))))
  refine X.draw [cellsH b3 [v1] 76, slH 24 1 v1 ((bl).length) cs1, cellsH b2 [(.slice none 0 0)] 76, cellsH b1 [arv] 26] L 8 [[], [], [], [], [], [], [], []] [[], [0], [], [], [2, 3], [4], [5], []] (phiL [fun us v => v = ptr b3 0, fun us v => v = v1, fun us v => v = pv, fun us v => v = (.int .i64 ((k : Int)) : Value), fun us v => v = (.pointer (some (elemA pv (k))) : Value), fun us v => v = (.int .i64 (p.getD k 0) : Value), fun us v => v = (.int .i64 ((-1) - (p.getD k 0)) : Value), fun us v => v = v2]) (ownL [fun us v => [], fun us v => [], fun us v => [], fun us v => [], fun us v => [], fun us v => [], fun us v => [], fun us v => []]) mixed rfl rfl (by kernel_rfl) ?_ ?_
  ·refine pC (fun vals R hpZ => ?_) ?_
   ·refine XG.op (XOp.fieldP (0) runUnderlying76 rfl sizeOf47 (by decide) rfl rfl ?_)
    exact ⟨rfl, rfl, rfl⟩
   refine pC (fun vals R hpZ => ?_) ?_
   ·rw [eS (l := [(0, ptr b3 0)]) ⟨hpZ 0 (by decide), trivial⟩]
    refine XG.op (XOp.load1 isAgg47 rfl (Rd.own [] rfl rfl) ?_)
    exact ⟨rfl, rfl, rfl⟩
   refine pC (fun vals R hpZ => ?_) ?_
   ·refine XG.op (XOp.move (pv) rfl ?_)
    exact ⟨rfl, rfl, rfl⟩
   refine pC (fun vals R hpZ => ?_) ?_
   ·refine XG.op (XOp.move (.int .i64 ((k : Int))) rfl ?_)
    exact ⟨rfl, rfl, rfl⟩
   refine pC (fun vals R hpZ => ?_) ?_
   ·rw [eS (l := [(2, pv), (3, (.int .i64 ((k : Int)) : Value))]) ⟨hpZ 2 (by decide), hpZ 3 (by decide), trivial⟩]
    refine XG.op (XOp.indexS k runUnderlying24 sizeOf2 rfl rfl rfl hp.slv (by omega) (Nat.mul_one _) ?_)
    exact ⟨rfl, rfl, rfl⟩
   refine pC (fun vals R hpZ => ?_) ?_
   ·rw [eS (l := [(4, (.pointer (some (elemA pv (k))) : Value))]) ⟨hpZ 4 (by decide), trivial⟩]
    refine XG.op (XOp.load1 isAgg2 rfl (hp.rd (by omega)) ?_)
    exact ⟨rfl, rfl, rfl⟩
   refine pC (fun vals R hpZ => ?_) ?_
   ·rw [eS (l := [(5, (.int .i64 (p.getD k 0) : Value))]) ⟨hpZ 5 (by decide), trivial⟩]
    refine XG.op (XOp.subR ((-1) - (p.getD k 0)) rfl rfl (by omega) (by omega) ?_)
    exact ⟨rfl, rfl, rfl⟩
   refine pC (fun vals R hpZ => ?_) ?_
   ·refine XG.op (XOp.move (v2) rfl ?_)
    exact ⟨rfl, rfl, rfl⟩
   exact stepsP.nil
  intro vals hphi
  rw [eS (l := [(1, v1), (6, (.int .i64 ((-1) - (p.getD k 0)) : Value)), (7, v2)]) ⟨(hphi 1 (by decide)), (hphi 6 (by decide)), (hphi 7 (by decide)), trivial⟩]
  show XL _ _ _ _ _ _ _ (cellsH b3 [v1] 76 :: slH 24 1 v1 ((bl).length) cs1 :: cellsH b2 [(.slice none 0 0)] 76 :: cellsH b1 [arv] 26 :: L)
  refine cX (XOp.indexS (((-1) - (p.getD k 0)).toNat) runUnderlying47 sizeOf24 rfl rfl (by omega) (SlV.own [_] rfl) (by omega) (Nat.mul_one _) (cX (XOp.storeS (i := ((-1) - (p.getD k 0)).toNat) (cs := cs1) [_] _ sizeOf24 rfl rfl (one_sl (IntsF.isSl hf1)) rfl (by have h9 := CO.len hc2; (try simp only [List.length_set, List.length_replicate] at h9 ⊢) <;> omega) ?_)))
  have hc4 := hc2.set (((-1) - (p.getD k 0)).toNat) hf1
  refine XL.nil (X.region (XL.mv (.int .i64 ((i : Int))) rfl (XL.mv (v2) rfl (cX (XOp.lenS runUnderlying24 rfl hf1.slv (cX (XOp.addR (((i + (((sub ar t i)).length) : Nat) : Int)) rfl rfl (by omega) (by omega) (XL.as (.int .i64 (((i + (((sub ar t i)).length) : Nat) : Int))) rfl (XL.nil (X.region (XL.mv (.int .i64 ((k : Int))) rfl (cX (XOp.addR (((k + 1 : Nat) : Int)) rfl rfl (by omega) (by omega) (XL.as (.int .i64 (((k + 1 : Nat) : Int))) rfl ?_))))))))))))))
  refine XL.nil ?_
  exact ⟨(k + 1, i + (((sub ar t i)).length), (bl.set (((-1) - (p.getD k 0)).toNat) ((sub ar t i))), F1), _, (FLe.trans leG1 le1), rF, ⟨rfl, rfl, rfl, rfl, rfl, rfl, rfl, trivial⟩, (sC (coH.close hc4 (by first | rfl | simp) (sC (sC sR)))), ⟨rfl, (FLe.trans leG1 le1), (by (try dsimp only); (try simp only [List.length_set]) <;> omega), (by (try dsimp only) <;> omega), (by (try dsimp only) <;> omega), (hm.trans (m4_next (by omega) (by omega) (by omega) (by first | (left; exact List.eq_nil_of_length_eq_zero (show (bl.getD (-1 - p.getD k 0).toNat []).length = 0 by omega)) | (right; first | assumption | exact Classical.not_not.1 (by assumption)))))⟩, (by omega)⟩
 refine X.exit (thenQ_exit (thenQ_exit (blockQ_exit (X.seq (X.region (cX (XOp.loadN [v1] isAgg76 sizeOf76 rfl rfl (Rd.ownN [] rfl rfl) ?_)))))))
 have hmb := (matchB_len (hm.trans (mGo_done (by omega)))).2
 refine XL.freezeF [_] _ _ rfl (fun F2 le2 hz2 => ?_)
 replace hc2 := hc2.mono le2
 have hf2 : RowsF F2 v1 bl := CO.fz hc2 (by first | rfl | omega | (rw [List.length_set]; omega) | (simp; done)) hz2.fz
 refine cX (XOp.call (args := [.agg #[v1]]) call168 rfl (l2Plain_spec hf2 (hsl := (by omega)) (hsb := (fun j => by have := hmb j; omega))) ?_)
 rintro _ F3 _ le3 ⟨x1, rfl, hr1, rfl⟩
 refine cX (XOp.storeN [_] _ [x1] sizeOf76 rfl rfl rfl (ones_cons (one_sl (RowsF.isSl hr1)) ones_nil) rfl rfl rfl (XL.as (.bool (true)) rfl (XL.nil (X.ret (retEnd (L' := L) [.agg #[x1], .bool (true)] (.tuple #[.agg #[x1], .bool (true)]) (.cell rfl (loadNV [x1] isAgg76 sizeOf76 rfl (Rd.ownN [_] rfl rfl)) (.tmp rfl .nil)) rfl (FLe.trans (FLe.trans leG1 le2) le3) rF (sD (sD (sD sR))) ?_)))))
 have hz : matchB ar p t = some bl := hm.trans (mGo_done (by omega))
 exact ⟨_, by rw [hz]; rfl, by rw [matchP, hz]; exact hr1, rfl⟩
end Go.Proofs.YtmaaifhmhclhdaaGreat
set_option linter.unusedSimpArgs false
set_option linter.unusedVariables false
namespace Go.Proofs.YtmaaifhmhclhdaaGreat
open Go X M Tryz

/- spec.l7Right -/
theorem l7Right_spec {F : FH} {L : List HP} {arv : Value} {ar : List Int} (har : IntsF F arv ar) {rsv : Value} {rs : List (List Int × List Int)} (hrs : PairsF F rsv rs) {tv : Value} {t : List Int} (ht : IntsF F tv t) (hla : ar.length ≤ 4000000) (hlr : rs.length ≤ 4000000) (hrb : ∀ i, i < rs.length → (rs.getD i ([], [])).1.length ≤ 4000000 ∧ (rs.getD i ([], [])).2.length ≤ 4000000) (hlt : t.length ≤ 4000000) :
    Does prog 76 [.agg #[arv, rsv], tv] F (L) (fun v F' L' => (.bool (rightB ar rs t) : Value) = v ∧ F = F' ∧ L = L') := by
 refine Does.of_X func76 rfl rfl rfl (X.seq (X.region (cX (XOp.box [arv, rsv] rfl rfl ?_))))
 intro b1
 refine XL.as (.bool (false)) rfl (XL.nil (X.seq (X.region (cX (XOp.loadN [arv, rsv] isAgg29 sizeOf29 rfl rfl (Rd.ownN [] rfl rfl) (cX (XOp.call (args := [.agg #[arv, rsv]]) call92 rfl (sSystemOk_spec har hrs (hla := (by first | assumption | rfl | omega | simp)) (hlr := (by first | assumption | rfl | omega | simp)) (hrb := (by first | assumption | rfl | omega | simp))) ?_)))))))
 rintro _ _ _ _ ⟨rfl, rfl, rfl⟩
 refine XL.mv (.bool (sysOk ar rs)) rfl ?_
 by_cases h1 : (sysOk ar rs) = true
 ·refine XL.yes (t := 7) rfl (vB h1) (XOp.fieldP (0) runUnderlying29 rfl sizeOf26 (by decide) rfl rfl (XL.yes (t := 7) rfl (vB h1) (XOp.loadN [arv] isAgg26 sizeOf26 rfl rfl (Rd.ownN [] rfl rfl) (XL.yes (t := 7) rfl (vB h1) (XOp.move (tv) rfl (XL.yes (t := 7) rfl (vB h1) (XOp.call (args := [.agg #[arv], tv]) call82 rfl (sTermOk_spec har ht (hla := (by first | assumption | rfl | omega | simp)) (hlt := (by first | assumption | rfl | omega | simp))) ?_)))))))
  rintro _ _ _ _ ⟨rfl, rfl, rfl⟩
  refine cX (XOp.pickT (.bool (termOk ar t)) (vB h1) rfl (XL.as (.bool (termOk ar t)) rfl (XL.nil (X.ret (retEnd (L' := L) [.bool (termOk ar t)] (.bool (termOk ar t)) (.tmp rfl .nil) rfl rF rF (sD sR) ?_)))))
  exact ⟨(vB (by rw [rightB]; simp_all)), rfl, rfl⟩
 rw [Bool.not_eq_true] at h1
 refine XL.no (t := 7) rfl (vB h1) (XL.no (t := 7) rfl (vB h1) (XL.no (t := 7) rfl (vB h1) (XL.no (t := 7) rfl (vB h1) (cX (XOp.pickF (.bool (false)) (vB h1) rfl (XL.as (.bool (false)) rfl (XL.nil (X.ret (retEnd (L' := L) [.bool (false)] (.bool (false)) (.tmp rfl .nil) rfl rF rF (sD sR) ?_)))))))))
 exact ⟨(vB (by rw [rightB]; simp_all)), rfl, rfl⟩
end Go.Proofs.YtmaaifhmhclhdaaGreat
set_option linter.unusedSimpArgs false
set_option linter.unusedVariables false
namespace Go.Proofs.YtmaaifhmhclhdaaGreat
open Go X M Tryz
end Go.Proofs.YtmaaifhmhclhdaaGreat
set_option linter.unusedSimpArgs false
set_option linter.unusedVariables false
namespace Go.Proofs.YtmaaifhmhclhdaaGreat
open Go X M Tryz

/- spec.l2Filled -/
theorem l2Filled_spec {F : FH} {L : List HP} {sv : Value} {s : List (List Int)} (hs : RowsF F sv s) {tv : Value} {t : List Int} (ht : IntsF F tv t) (hsl : s.length ≤ 4000000) (hsb : ∀ i, (s.getD i []).length ≤ 4000000) (htl : t.length ≤ 4000000) (htg : ∀ k, k < t.length → -4000000 ≤ t.getD k 0) :
    Does prog 111 [.agg #[sv], tv] F (L) (fun v F' L' => ∃ (a : Value), (.tuple #[a, .bool ((fillL s t).isSome)] : Value) = v ∧ (IntsF F' a ((fillL s t).getD [])) ∧ L = L') := by
 refine Does.of_X func111 rfl rfl rfl (X.seq (X.region (cX (XOp.box [sv] rfl rfl ?_))))
 intro b1
 refine XL.as ((.slice none 0 0)) rfl (XL.as (.bool (false)) rfl (XL.nil (X.seq (X.region (cX (XOp.buildSlice (s := 1) [] [.int .i64 (0)] [] runUnderlying24 sizeOf2 zeroValue2 rfl (by decide) rfl CellsAre.nil rfl ?_))))))
 intro v1 hv1
 refine XL.as (v1) rfl (XL.nil (X.seq (X.seq (X.region (XL.as (.int .i64 (0)) rfl (XL.nil (X.block (X.loop (α := Nat × Value × List Int) (fun xQ => [(1, tv), (2, ptr b1 0), (6, xQ.2.1), (7, .int .i64 (((xQ.1 : Nat) : Int)))]) (fun xQ => intsH 2 xQ.2.1 xQ.2.2 :: cellsH b1 [sv] 76 :: L) (fun xQ F' => F = F' ∧ (IsSl xQ.2.1) ∧ (xQ.1 ≤ t.length) ∧ (fillL s t = fillGo s (t.drop xQ.1) xQ.2.2) ∧ (xQ.2.2.length ≤ 60)) (fun xQ => t.length - xQ.1) (0, v1, []) ⟨rfl, rfl, rfl, rfl, trivial⟩ (sC (sC sR)) ⟨rfl, ((isSl_lit hv1)), (by (try dsimp only) <;> omega), (rfl), (by simp)⟩ ?_))))))))
 rintro ⟨k, ov, os⟩ rE _ _ ⟨rfl, hov, hk, hm, hol⟩
 show X _ _ _ _ (envs [(1, tv), (2, ptr b1 0), (6, ov), (7, .int .i64 ((k : Int)))] rE) _ (intsH 2 ov os :: cellsH b1 [sv] 76 :: L)
 dsimp only at hov hk hm hol
 have htk := htg k
 have hlk0 := lk_bound (N := 4000000) (by omega) hsb (-1 - (((-1 - t.getD k 0).toNat : Nat) : Int))
 refine X.seq (X.seq (X.region (XL.mv (.int .i64 ((k : Int))) rfl (XL.mv (tv) rfl (cX (XOp.lenS runUnderlying24 rfl ht.slv (cX (XOp.lss rfl rfl (XL.nil ?_)))))))))
 refine X.condD (p := (k : Int) < (t.length : Int)) rfl (fun h1 => ?_) (fun h1 => ?_)
 ·refine X.skip (X.seq (X.block (X.seq (X.seq (X.region (XL.mv (tv) rfl (XL.mv (.int .i64 ((k : Int))) rfl (cX (XOp.indexS k runUnderlying24 sizeOf2 rfl rfl rfl ht.slv (by omega) (Nat.mul_one _) (cX (XOp.load1 isAgg2 rfl (ht.rd (by omega)) (cX (XOp.lss rfl rfl (XL.nil ?_))))))))))))))
  refine X.condD (p := (t.getD k 0 : Int) < 0) rfl (fun h2 => ?_) (fun h2 => ?_)
  ·refine X.drawG [intsH 2 ov os, cellsH b1 [sv] 76] L 8 [[], [], [], [], [], [], [], []] [[], [], [], [], [2, 3], [4], [5], [1, 6]] [[], [], [], [], [], [], [], []] (phiG [fun FF us v => v = ov, fun FF us v => v = (.agg #[sv] : Value), fun FF us v => v = tv, fun FF us v => v = (.int .i64 ((k : Int)) : Value), fun FF us v => v = (.pointer (some (elemA tv (k))) : Value), fun FF us v => v = (.int .i64 (t.getD k 0) : Value), fun FF us v => v = (.int .i64 ((-1) - (t.getD k 0)) : Value), fun FF us v => ((v) : Value) = v ∧ (IntsF FF (v) (lk s (-1 - ((((-1) - (t.getD k 0)).toNat) : Int))))]) (ownL [fun us v => [], fun us v => [], fun us v => [], fun us v => [], fun us v => [], fun us v => [], fun us v => [], fun us v => []]) mixed rfl rfl (by kernel_rfl) (by kernel_rfl) (MonoG.get (mC (fun le h => h) (mC (fun le h => h) (mC (fun le h => h) (mC (fun le h => h) (mC (fun le h => h) (mC (fun le h => h) (mC (fun le h => h) (mC (fun le h => ⟨h.1, h.2.mono le⟩) MonoG.nil))))))))) ?_ ?_
   ·refine gC (fun vals Fs R leFs hpZ => ?_) ?_
    ·refine XG.op (XOp.move (ov) rfl ?_)
     exact ⟨rfl, rfl⟩
    refine gC (fun vals Fs R leFs hpZ => ?_) ?_
    ·replace hs := hs.mono leFs
     replace ht := ht.mono leFs
     refine XG.op (XOp.loadN [sv] isAgg76 sizeOf76 rfl rfl (Rd.ownN [_] rfl rfl) ?_)
     exact ⟨rfl, rfl⟩
    refine gC (fun vals Fs R leFs hpZ => ?_) ?_
    ·refine XG.op (XOp.move (tv) rfl ?_)
     exact ⟨rfl, rfl⟩
    refine gC (fun vals Fs R leFs hpZ => ?_) ?_
    ·refine XG.op (XOp.move (.int .i64 ((k : Int))) rfl ?_)
     exact ⟨rfl, rfl⟩
    refine gC (fun vals Fs R leFs hpZ => ?_) ?_
    ·replace hs := hs.mono leFs
     replace ht := ht.mono leFs
     rw [eS (l := [(2, tv), (3, (.int .i64 ((k : Int)) : Value))]) ⟨(hpZ 2 (by decide)), (hpZ 3 (by decide)), trivial⟩]
     refine XG.op (XOp.indexS k runUnderlying24 sizeOf2 rfl rfl rfl ht.slv (by omega) (Nat.mul_one _) ?_)
     exact ⟨rfl, rfl⟩
    refine gC (fun vals Fs R leFs hpZ => ?_) ?_
    ·replace hs := hs.mono leFs
     replace ht := ht.mono leFs
     rw [eS (l := [(4, (.pointer (some (elemA tv (k))) : Value))]) ⟨(hpZ 4 (by decide)), trivial⟩]
     refine XG.op (XOp.load1 isAgg2 rfl (ht.rd (by omega)) ?_)
     exact ⟨rfl, rfl⟩
    refine gC (fun vals Fs R leFs hpZ => ?_) ?_
    ·rw [eS (l := [(5, (.int .i64 (t.getD k 0) : Value))]) ⟨(hpZ 5 (by decide)), trivial⟩]
     refine XG.op (XOp.subR ((-1) - (t.getD k 0)) rfl rfl (by omega) (by omega) ?_)
     exact ⟨rfl, rfl⟩
    refine gC (fun vals Fs R leFs hpZ => ?_) ?_
    ·replace hs := hs.mono leFs
     replace ht := ht.mono leFs
     rw [eS (l := [(1, (.agg #[sv] : Value)), (6, (.int .i64 ((-1) - (t.getD k 0)) : Value))]) ⟨(hpZ 1 (by decide)), (hpZ 6 (by decide)), trivial⟩]
     refine XG.op (XOp.frzF <| XOp.call (args := [.agg #[sv], .int .i64 ((((-1) - (t.getD k 0)).toNat : Nat) : Int)]) call169 (by rw [show ((((-1) - (t.getD k 0)).toNat : Nat) : Int) = (-1) - (t.getD k 0) from by omega]; rfl) (l2Gives_spec (i := ((-1) - (t.getD k 0)).toNat) hs (hsl := (by first | assumption | rfl | omega | simp)) (hi := (by first | assumption | rfl | omega | simp)) (hsb := (hsb _))) ?_)
     rintro v3 _ _ _ ⟨rfl, hs2, rfl⟩
     refine ⟨_, _, rfl, fun F1 le1 hz1 => ?_⟩
     replace ht := ht.mono le1
     have hf1 : IntsF F1 v3 ((lk s (-1 - ((((-1) - (t.getD k 0)).toNat) : Int)))) := intsH.fz (xs := (lk s (-1 - ((((-1) - (t.getD k 0)).toNat) : Int)))) hz1.fz
     exact ⟨⟨rfl, hf1⟩, rfl⟩
    exact stepsG.nil
   intro vals F2 le2 hphi
   obtain ⟨e7, f7_1ha⟩ := hphi 7 (by decide)
   generalize hu1 : ((vals 7)) = u1 at e7 f7_1ha
   rw [eS (l := [(0, ov), (7, u1)]) ⟨(hphi 0 (by decide)), hu1, trivial⟩]
   replace ht := ht.mono le2
   show XL _ _ _ _ _ _ _ (intsH 2 ov os :: cellsH b1 [sv] 76 :: L)
   refine cX (XOp.appendI [] _ runUnderlying24 typeInfo2 rfl rfl rfl rfl rfl rfl f7_1ha (by (try simp only [List.length_append, List.length_nil, List.length_cons, List.length_singleton, List.length_take, List.length_drop]); omega) ?_)
   intro v4 hs3 hn1 hm1
   refine XL.as (v4) rfl (XL.nil (X.seq (X.region (XL.mv (v4) rfl (cX (XOp.lenS runUnderlying24 rfl (intsH.slv [] rfl) (cX (XOp.gtr rfl rfl (XL.nil ?_)))))))))
   refine X.condD (p := ((((os ++ ((lk s (-1 - ((((-1) - (t.getD k 0)).toNat) : Int))))).length : Nat) : Int) : Int) > 60) rfl (fun h3 => ?_) (fun h3 => ?_)
   ·refine X.seq (X.region (cX (XOp.buildSlice (s := 1) [] [.int .i64 (0)] [] runUnderlying24 sizeOf2 zeroValue2 rfl (by decide) rfl CellsAre.nil rfl ?_)))
    intro v5 hv2
    refine XL.as (v5) rfl (XL.as (.bool (false)) rfl (XL.nil ?_))
    show X _ _ _ _ _ _ (intsH 2 v5 ([] : List Int) :: intsH 2 v4 (os ++ ((lk s (-1 - ((((-1) - (t.getD k 0)).toNat) : Int))))) :: cellsH b1 [sv] 76 :: L)
    refine X.freezeF [] _ _ rfl (fun F3 le3 hz2 => ?_)
    replace ht := ht.mono le3
    have hf2 : IntsF F3 v5 ([]) := intsH.fz (xs := []) hz2.fz
    refine X.ret (blockQ_ret (thenQ_ret (thenQ_ret (blockQ_ret (thenQ_ret (retEnd (L' := L) [v5, .bool (false)] (.tuple #[v5, .bool (false)]) (.tmp rfl (.tmp rfl .nil)) rfl (FLe.trans le2 le3) rF (sD (sD sR)) ?_))))))
    have hz : fillL s t = none := hm.trans (fillGo_long (a := os ++ ((lk s (-1 - ((((-1) - (t.getD k 0)).toNat) : Int))))) (by omega) (by rw [show (-1 - (((-1 - t.getD k 0).toNat : Nat) : Int)) = t.getD k 0 from by omega]) (by omega))
    exact ⟨_, by rw [hz]; rfl, by rw [hz]; exact hf2, rfl⟩
   refine X.skip (X.region (XL.mv (.int .i64 ((k : Int))) rfl (cX (XOp.addR (((k + 1 : Nat) : Int)) rfl rfl (by omega) (by omega) (XL.as (.int .i64 (((k + 1 : Nat) : Int))) rfl (XL.nil ?_))))))
   exact ⟨(k + 1, v4, os ++ ((lk s (-1 - ((((-1) - (t.getD k 0)).toNat) : Int))))), _, FLe.refl _, le2, ⟨rfl, rfl, rfl, rfl, trivial⟩, (sC (sC sR)), ⟨rfl, (hs3), (by (try dsimp only) <;> omega), (by dsimp only; exact hm.trans (fillGo_next (by omega) (by rw [show (-1 - (((-1 - t.getD k 0).toNat : Nat) : Int)) = t.getD k 0 from by omega]) (by omega))), (by dsimp only; omega)⟩, (by omega)⟩
  refine X.region (XL.mv (ov) rfl (XL.mv (tv) rfl (XL.mv (.int .i64 ((k : Int))) rfl (cX (XOp.indexS k runUnderlying24 sizeOf2 rfl rfl rfl ht.slv (by omega) (Nat.mul_one _) (cX (XOp.load1 isAgg2 rfl (ht.rd (by omega)) (cX (XOp.buildSlice (s := 1) [.int .i64 (t.getD k 0)] [.int .i64 (0)] [(0, [.int .i64 (t.getD k 0)])] runUnderlying24 sizeOf2 zeroValue2 rfl (by decide) rfl (.cons rfl CellsAre.nil) rfl ?_)))))))))
  intro v6 hv3
  refine cX (XOp.append1 (u := t.getD k 0) [_] _ runUnderlying24 typeInfo2 rfl rfl rfl rfl rfl rfl (SlV.own [] rfl) (Rd.sl [] rfl rfl) (by (try simp only [List.length_append, List.length_nil, List.length_cons, List.length_singleton, List.length_take, List.length_drop]); omega) ?_)
  intro v7 hs4 hn2
  refine XL.as (v7) rfl (XL.nil (X.seq (X.region (XL.mv (v7) rfl (cX (XOp.lenS runUnderlying24 rfl (intsH.slv [_] rfl) (cX (XOp.gtr rfl rfl (XL.nil ?_)))))))))
  refine X.condD (p := ((((os ++ [t.getD k 0]).length : Nat) : Int) : Int) > 60) rfl (fun h4 => ?_) (fun h4 => ?_)
  ·refine X.seq (X.region (cX (XOp.buildSlice (s := 1) [] [.int .i64 (0)] [] runUnderlying24 sizeOf2 zeroValue2 rfl (by decide) rfl CellsAre.nil rfl ?_)))
   intro v8 hv4
   refine XL.as (v8) rfl (XL.as (.bool (false)) rfl (XL.nil ?_))
   show X _ _ _ _ _ _ (intsH 2 v8 ([] : List Int) :: slH 2 1 v6 1 [.int .i64 (t.getD k 0)] :: intsH 2 v7 (os ++ [t.getD k 0]) :: cellsH b1 [sv] 76 :: L)
   refine X.freezeF [] _ _ rfl (fun F4 le4 hz3 => ?_)
   have hf3 : IntsF F4 v8 ([]) := intsH.fz (xs := []) hz3.fz
   refine X.ret (blockQ_ret (thenQ_ret (thenQ_ret (blockQ_ret (thenQ_ret (retEnd (L' := L) [v8, .bool (false)] (.tuple #[v8, .bool (false)]) (.tmp rfl (.tmp rfl .nil)) rfl le4 rF (sD (sD (sD sR))) ?_))))))
   have hz : fillL s t = none := hm.trans (fillGo_long (a := os ++ [t.getD k 0]) (by omega) (by rw [lk_sym (by omega)]) (by omega))
   exact ⟨_, by rw [hz]; rfl, by rw [hz]; exact hf3, rfl⟩
  refine X.skip (X.region (XL.mv (.int .i64 ((k : Int))) rfl (cX (XOp.addR (((k + 1 : Nat) : Int)) rfl rfl (by omega) (by omega) (XL.as (.int .i64 (((k + 1 : Nat) : Int))) rfl (XL.nil ?_))))))
  exact ⟨(k + 1, v7, os ++ [t.getD k 0]), _, FLe.refl _, rF, ⟨rfl, rfl, rfl, rfl, trivial⟩, (sD (sC (sC sR))), ⟨rfl, (hs4), (by (try dsimp only) <;> omega), (by dsimp only; exact hm.trans (fillGo_next (by omega) (by rw [lk_sym (by omega)]) (by omega))), (by dsimp only; omega)⟩, (by omega)⟩
 refine X.exit (thenQ_exit (thenQ_exit (blockQ_exit (X.seq (X.region (XL.mv (ov) rfl (XL.as (ov) rfl (XL.as (.bool (true)) rfl (XL.nil (X.freezeF [] _ _ rfl (fun F5 le5 hz4 => ?_)))))))))))
 have hf4 : IntsF F5 ov os := intsH.fz (xs := os) hz4.fz
 refine X.ret (retEnd (L' := L) [ov, .bool (true)] (.tuple #[ov, .bool (true)]) (.tmp rfl (.tmp rfl .nil)) rfl le5 rF (sD sR) ?_)
 have hz : fillL s t = some os := hm.trans (fillGo_done (by omega))
 exact ⟨_, by rw [hz]; rfl, by rw [hz]; exact hf4, rfl⟩

/- spec.l3Put -/
theorem l3Put_spec {F : FH} {L : List HP} {arv : Value} {ar : List Int} (har : IntsF F arv ar) {tv : Value} {t : List Int} (ht : IntsF F tv t) {p : Nat} {uv : Value} {u : List Int} (hu : IntsF F uv u) (ho : termOk ar t = true) (hp : p < t.length) (hul : u.length ≤ 4000000) :
    Does prog 112 [.agg #[arv], tv, .int .i64 ((p : Int)), uv] F (L) (fun v F' L' => ∃ (a : Value), (.tuple #[a, .bool ((putL ar t p u).isSome)] : Value) = v ∧ (IntsF F' a ((putL ar t p u).getD [])) ∧ L = L') := by
 refine Does.of_X func112 rfl rfl rfl ?_
 have hsig := termOk_sig ho
 have hsl := sigOk_spec hsig
 have htl := termOk_len ho
 have hee := endN_spec ho hp
 refine X.seq (X.region (cX (XOp.box [arv] rfl rfl ?_)))
 intro b1
 refine XL.as ((.slice none 0 0)) rfl (XL.as (.bool (false)) rfl (XL.nil (X.seq (X.region (XL.mv (tv) rfl (XL.mv (.int .i64 ((p : Int))) rfl (cX (XOp.sliceI 0 p runUnderlying24 sizeOf2 rfl ht rfl ⟨_, rfl⟩ (by omega) (by omega) ?_))))))))
 intro v1 hv1 hn1
 refine cX (XOp.call (args := [v1]) call52 rfl (l1Copy_spec hv1 (hlt := (by simp; omega))) ?_)
 rintro v2 _ _ _ ⟨rfl, hs1, rfl⟩
 refine XL.mv (uv) rfl (cX (XOp.appendI [] _ runUnderlying24 typeInfo2 rfl rfl rfl rfl rfl rfl hu (by (try simp only [List.length_append, List.length_nil, List.length_cons, List.length_singleton, List.length_take, List.length_drop]); omega) ?_))
 intro v3 hs2 hn2 hm1
 refine XL.as (v3) rfl (XL.nil (X.seq (X.region (XL.mv (v3) rfl (XL.mv (tv) rfl (cX (XOp.loadN [arv] isAgg26 sizeOf26 rfl rfl (Rd.ownN [_] rfl rfl) (XL.mv (tv) rfl (XL.mv (.int .i64 ((p : Int))) rfl (cX (XOp.call (args := [.agg #[arv], tv, .int .i64 (p : Int)]) call143 rfl (l1End_ok (p := p) har ht (ho := (by first | assumption | rfl | omega | (left; simp; done) | (right; simp; done))) (hp := (by first | assumption | rfl | omega | (left; simp; done) | (right; simp; done)))) ?_)))))))))))
 rintro _ _ _ _ ⟨rfl, rfl, rfl⟩
 refine cX (XOp.sliceI (endN ar t p) ((t).length) runUnderlying24 sizeOf2 rfl ht ⟨_, rfl⟩ rfl (by omega) (by omega) ?_)
 intro v4 hv2 hn3
 refine cX (XOp.appendI [] _ runUnderlying24 typeInfo2 rfl rfl rfl rfl rfl rfl hv2 (by (try simp only [List.length_append, List.length_nil, List.length_cons, List.length_singleton, List.length_take, List.length_drop]); omega) ?_)
 intro v5 hs3 hn4 hm2
 refine XL.as (v5) rfl (XL.nil (X.seq (X.seq (X.region (XL.mv (v5) rfl (cX (XOp.lenS runUnderlying24 rfl (intsH.slv [] rfl) (cX (XOp.gtr rfl rfl (XL.nil ?_))))))))))
 refine X.condD (p := ((((((((((t.drop 0).take (p - 0))))) ++ u) ++ (((t.drop (endN ar t p)).take (((t).length) - (endN ar t p))))).length : Nat) : Int) : Int) > 60) rfl (fun h1 => ?_) (fun h1 => ?_)
 ·refine X.seq (X.region (cX (XOp.buildSlice (s := 1) [] [.int .i64 (0)] [] runUnderlying24 sizeOf2 zeroValue2 rfl (by decide) rfl CellsAre.nil rfl ?_)))
  intro v6 hv3
  refine XL.as (v6) rfl (XL.as (.bool (false)) rfl (XL.nil ?_))
  show X _ _ _ _ _ _ (intsH 2 v6 ([] : List Int) :: intsH 2 v5 (((((((t.drop 0).take (p - 0))))) ++ u) ++ (((t.drop (endN ar t p)).take (((t).length) - (endN ar t p))))) :: cellsH b1 [arv] 26 :: L)
  refine X.freezeF [] _ _ rfl (fun F1 le1 hz1 => ?_)
  have hf1 : IntsF F1 v6 ([]) := intsH.fz (xs := []) hz1.fz
  refine X.ret (thenQ_ret (retEnd (L' := L) [v6, .bool (false)] (.tuple #[v6, .bool (false)]) (.tmp rfl (.tmp rfl .nil)) rfl le1 rF (sD (sD sR)) ?_))
  have hz : putL ar t p u = none := putL_none put_three (by omega)
  exact ⟨_, by rw [hz]; rfl, by rw [hz]; exact hf1, rfl⟩
 refine X.skip (X.seq (X.region (XL.mv (v5) rfl (XL.as (v5) rfl (XL.as (.bool (true)) rfl (XL.nil (X.freezeF [] _ _ rfl (fun F2 le2 hz2 => ?_))))))))
 have hf2 : IntsF F2 v5 (((((((t.drop 0).take (p - 0))))) ++ u) ++ (((t.drop (endN ar t p)).take (((t).length) - (endN ar t p))))) := intsH.fz (xs := ((((((t.drop 0).take (p - 0))))) ++ u) ++ (((t.drop (endN ar t p)).take (((t).length) - (endN ar t p))))) hz2.fz
 refine X.ret (retEnd (L' := L) [v5, .bool (true)] (.tuple #[v5, .bool (true)]) (.tmp rfl (.tmp rfl .nil)) rfl le2 rF (sD sR) ?_)
 have hz := putL_some (ar := ar) (t := t) (p := p) (u := u) put_three (by omega)
 exact ⟨_, by rw [hz]; rfl, by rw [hz]; exact hf2, rfl⟩

/- spec.l7Step -/
theorem l7Step_spec {F : FH} {L : List HP} {arv : Value} {ar : List Int} (har : IntsF F arv ar) {rsv : Value} {rs : List (List Int × List Int)} (hrs : PairsF F rsv rs) {tv : Value} {t : List Int} (ht : IntsF F tv t) {p : Nat} {r : Nat} (hsys : sysOk ar rs = true) (ho : termOk ar t = true) (hp : p < t.length) (hr : r < rs.length) :
    Does prog 54 [.agg #[arv, rsv], tv, .int .i64 ((p : Int)), .int .i64 ((r : Int))] F (L) (fun v F' L' => ∃ (a : Value), (.tuple #[a, .bool ((stepL ar rs t p r).isSome)] : Value) = v ∧ (IntsF F' a ((stepL ar rs t p r).getD [])) ∧ L = L') := by
 refine Does.of_X func54 rfl rfl rfl ?_
 have hnn := notNil_of_pos ht (by have := termOk_len ho; omega)
 have htl := termOk_len ho
 have hrl := (sysOk_iff.1 hsys).2.1
 have hsig := (sysOk_iff.1 hsys).1
 have hsl := sigOk_spec hsig
 have hR := ruleOk_iff.1 ((sysOk_iff.1 hsys).2.2 r hr)
 have hRl := hR.left
 have hRr := hR.right
 have hso := sub_ok ho hp
 have hsb := sub_length ho hp
 have hee := endN_spec ho hp
 have hRrl := termOk_len hRr
 have hRg := fun k (hk : k < (rs.getD r ([], [])).2.length) => termOk_ge hRr hk
 have hmp := matchP_len (ar := ar) (p := (rs.getD r ([], [])).1) (t := sub ar t p)
 have hmp2 := hmp.2
 have hmp3 := hmp.1
 refine X.seq (X.region (cX (XOp.box [arv, rsv] rfl rfl ?_)))
 intro b1
 refine XL.as ((.slice none 0 0)) rfl (XL.as (.bool (false)) rfl (XL.nil (X.seq (X.region (cX (XOp.fieldP (1) runUnderlying29 rfl sizeOf27 (by decide) rfl rfl (cX (XOp.load1 isAgg27 rfl (Rd.own [] rfl rfl) (XL.mv (.int .i64 ((r : Int))) rfl (cX (XOp.indexS r runUnderlying27 sizeOf117 rfl rfl rfl hrs.slv (by omega) rfl ?_)))))))))))
 obtain ⟨a1, a2, ha1, ha2, hr1, hr2⟩ := hrs.rd (i := r) (by omega)
 refine cX (XOp.loadN [a1, a2] isAgg117 sizeOf117 rfl rfl (Rd.two (hr1 _) (hr2 _)) (cX (XOp.alloc [(.slice none 0 0), (.slice none 0 0)] zeroValue117 rfl ?_)))
 intro b2
 refine cX (XOp.storeN [] _ [a1, a2] sizeOf117 rfl rfl rfl (ones_cons (one_sl (IntsF.isSl ha1)) (ones_cons (one_sl (IntsF.isSl ha2)) ones_nil)) rfl rfl rfl (XL.nil (X.seq ?_)))
 refine X.drawG [cellsH b2 [a1, a2] 117, cellsH b1 [arv, rsv] 29] L 15 [[], [], [], [], [], [], [], [], [], [], [9], [9], [], [], [9, 13]] [[], [0], [], [2], [], [4], [], [], [5, 6, 7], [1, 3, 8], [9], [9, 10], [9, 10], [], [9, 11, 13]] [[], [], [], [], [], [], [], [], [], [], [], [], [], [], [13]] (phiG [fun FF us v => v = ptr b1 0, fun FF us v => v = (.agg #[arv] : Value), fun FF us v => v = ptr b2 0, fun FF us v => v = a1, fun FF us v => v = ptr b1 0, fun FF us v => v = (.agg #[arv] : Value), fun FF us v => v = tv, fun FF us v => v = (.int .i64 ((p : Int)) : Value), fun FF us v => ((v) : Value) = v ∧ (IntsF FF (v) (sub ar t p)), fun FF us v => (.tuple #[.agg #[((aggAt (tupAt v 0) 0))], .bool ((matchB ar ((rs.getD r ([], [])).1) ((sub ar t p))).isSome)] : Value) = v ∧ (RowsF FF ((aggAt (tupAt v 0) 0)) (matchP ar ((rs.getD r ([], [])).1) ((sub ar t p)))), fun FF us v => v = (.tuple #[.agg #[((aggAt (tupAt (us.getD 0 undef) 0) 0))], .bool ((matchB ar ((rs.getD r ([], [])).1) ((sub ar t p))).isSome)] : Value), fun FF us v => v = (.agg #[((aggAt (tupAt (us.getD 0 undef) 0) 0))] : Value), fun FF us v => v = (.bool ((matchB ar ((rs.getD r ([], [])).1) ((sub ar t p))).isSome) : Value), fun FF us v => v = ptr (blk v) 0, fun FF us v => True]) (ownL [fun us v => [], fun us v => [], fun us v => [], fun us v => [], fun us v => [], fun us v => [], fun us v => [], fun us v => [], fun us v => [], fun us v => [], fun us v => [], fun us v => [], fun us v => [], fun us v => [cellsH (blk v) [(.slice none 0 0)] 76], fun us v => [cellsH (blk (us.getD 1 undef)) [((aggAt (tupAt (us.getD 0 undef) 0) 0))] 76]]) mixed rfl rfl (by kernel_rfl) (by kernel_rfl) (MonoG.get (mC (fun le h => h) (mC (fun le h => h) (mC (fun le h => h) (mC (fun le h => h) (mC (fun le h => h) (mC (fun le h => h) (mC (fun le h => h) (mC (fun le h => h) (mC (fun le h => ⟨h.1, h.2.mono le⟩) (mC (fun le h => ⟨h.1, h.2.mono le⟩) (mC (fun le h => h) (mC (fun le h => h) (mC (fun le h => h) (mC (fun le h => h) (mC (fun le h => h) MonoG.nil)))))))))))))))) ?_ ?_
 ·refine gC (fun vals Fs R leFs hpZ => ?_) ?_
  ·refine XG.op (XOp.fieldP (0) runUnderlying29 rfl sizeOf26 (by decide) rfl rfl ?_)
   exact ⟨rfl, rfl⟩
  refine gC (fun vals Fs R leFs hpZ => ?_) ?_
  ·replace har := har.mono leFs
   replace ht := ht.mono leFs
   replace ha1 := ha1.mono leFs
   replace ha2 := ha2.mono leFs
   rw [eS (l := [(0, ptr b1 0)]) ⟨(hpZ 0 (by decide)), trivial⟩]
   refine XG.op (XOp.loadN [arv] isAgg26 sizeOf26 rfl rfl (Rd.ownN [_] rfl rfl) ?_)
   exact ⟨rfl, rfl⟩
  refine gC (fun vals Fs R leFs hpZ => ?_) ?_
  ·refine XG.op (XOp.fieldP (0) runUnderlying117 rfl sizeOf24 (by decide) rfl rfl ?_)
   exact ⟨rfl, rfl⟩
  refine gC (fun vals Fs R leFs hpZ => ?_) ?_
  ·replace har := har.mono leFs
   replace ht := ht.mono leFs
   replace ha1 := ha1.mono leFs
   replace ha2 := ha2.mono leFs
   rw [eS (l := [(2, ptr b2 0)]) ⟨(hpZ 2 (by decide)), trivial⟩]
   refine XG.op (XOp.load1 isAgg24 rfl (Rd.own [] rfl rfl) ?_)
   exact ⟨rfl, rfl⟩
  refine gC (fun vals Fs R leFs hpZ => ?_) ?_
  ·refine XG.op (XOp.fieldP (0) runUnderlying29 rfl sizeOf26 (by decide) rfl rfl ?_)
   exact ⟨rfl, rfl⟩
  refine gC (fun vals Fs R leFs hpZ => ?_) ?_
  ·replace har := har.mono leFs
   replace ht := ht.mono leFs
   replace ha1 := ha1.mono leFs
   replace ha2 := ha2.mono leFs
   rw [eS (l := [(4, ptr b1 0)]) ⟨(hpZ 4 (by decide)), trivial⟩]
   refine XG.op (XOp.loadN [arv] isAgg26 sizeOf26 rfl rfl (Rd.ownN [_] rfl rfl) ?_)
   exact ⟨rfl, rfl⟩
  refine gC (fun vals Fs R leFs hpZ => ?_) ?_
  ·refine XG.op (XOp.move (tv) rfl ?_)
   exact ⟨rfl, rfl⟩
  refine gC (fun vals Fs R leFs hpZ => ?_) ?_
  ·refine XG.op (XOp.move (.int .i64 ((p : Int))) rfl ?_)
   exact ⟨rfl, rfl⟩
  refine gC (fun vals Fs R leFs hpZ => ?_) ?_
  ·replace har := har.mono leFs
   replace ht := ht.mono leFs
   replace ha1 := ha1.mono leFs
   replace ha2 := ha2.mono leFs
   rw [eS (l := [(5, (.agg #[arv] : Value)), (6, tv), (7, (.int .i64 ((p : Int)) : Value))]) ⟨(hpZ 5 (by decide)), (hpZ 6 (by decide)), (hpZ 7 (by decide)), trivial⟩]
   refine XG.op (XOp.frzF <| XOp.call (args := [.agg #[arv], tv, .int .i64 (p : Int)]) call110 rfl (l1Sub_spec (p := p) har ht (ho := (by first | assumption | rfl | omega | simp)) (hp := (by first | assumption | rfl | omega | simp))) ?_)
   rintro v2 _ _ _ ⟨rfl, hs2, rfl⟩
   refine ⟨_, _, rfl, fun F2 le2 hz1 => ?_⟩
   replace har := har.mono le2
   replace ht := ht.mono le2
   replace ha1 := ha1.mono le2
   replace ha2 := ha2.mono le2
   have hf1 : IntsF F2 v2 ((sub ar t p)) := intsH.fz (xs := (sub ar t p)) hz1.fz
   exact ⟨⟨rfl, hf1⟩, rfl⟩
  refine gC (fun vals Fs R leFs hpZ => ?_) ?_
  ·obtain ⟨e8, f8_1ha⟩ := hpZ 8 (by decide)
   replace har := har.mono leFs
   replace ht := ht.mono leFs
   replace ha1 := ha1.mono leFs
   replace ha2 := ha2.mono leFs
   rw [eS (l := [(1, (.agg #[arv] : Value)), (3, a1), (8, ((vals 8)))]) ⟨(hpZ 1 (by decide)), (hpZ 3 (by decide)), (e8).symm, trivial⟩]
   refine XG.op (XOp.call (args := [.agg #[arv], a1, ((vals 8))]) call109 rfl (l4Match_spec har ha1 f8_1ha (ho := (by first | assumption | rfl | omega | simp)) (hpo := (by first | assumption | rfl | omega | simp))) ?_)
   rintro _ F3 _ le3 ⟨x2, rfl, hr4, rfl⟩
   replace har := har.mono le3
   replace ht := ht.mono le3
   replace ha2 := ha2.mono le3
   replace f8_1ha := f8_1ha.mono le3
   exact ⟨⟨rfl, hr4⟩, rfl⟩
  refine gC (fun vals Fs R leFs hpZ => ?_) ?_
  ·obtain ⟨e9, f9_1hr⟩ := hpZ 9 (by decide)
   rw [eS (l := [(9, (.tuple #[.agg #[((aggAt (tupAt (vals 9) 0) 0))], .bool ((matchB ar ((rs.getD r ([], [])).1) ((sub ar t p))).isSome)] : Value))]) ⟨(e9).symm, trivial⟩]
   refine XG.op (XOp.move (.tuple #[.agg #[((aggAt (tupAt (vals 9) 0) 0))], .bool ((matchB ar ((rs.getD r ([], [])).1) ((sub ar t p))).isSome)]) rfl ?_)
   exact ⟨rfl, rfl⟩
  refine gC (fun vals Fs R leFs hpZ => ?_) ?_
  ·obtain ⟨e9, f9_1hr⟩ := hpZ 9 (by decide)
   have e10 : vals 10 = (.tuple #[.agg #[((aggAt (tupAt (vals 9) 0) 0))], .bool ((matchB ar ((rs.getD r ([], [])).1) ((sub ar t p))).isSome)] : Value) := hpZ 10 (by decide)
   rw [eS (l := [(9, (.tuple #[.agg #[((aggAt (tupAt (vals 9) 0) 0))], .bool ((matchB ar ((rs.getD r ([], [])).1) ((sub ar t p))).isSome)] : Value)), (10, (.tuple #[.agg #[((aggAt (tupAt (vals 9) 0) 0))], .bool ((matchB ar ((rs.getD r ([], [])).1) ((sub ar t p))).isSome)] : Value))]) ⟨(e9).symm, e10, trivial⟩]
   refine XG.op (XOp.extract (.agg #[((aggAt (tupAt (vals 9) 0) 0))]) rfl rfl ?_)
   exact ⟨rfl, rfl⟩
  refine gC (fun vals Fs R leFs hpZ => ?_) ?_
  ·obtain ⟨e9, f9_1hr⟩ := hpZ 9 (by decide)
   have e10 : vals 10 = (.tuple #[.agg #[((aggAt (tupAt (vals 9) 0) 0))], .bool ((matchB ar ((rs.getD r ([], [])).1) ((sub ar t p))).isSome)] : Value) := hpZ 10 (by decide)
   rw [eS (l := [(9, (.tuple #[.agg #[((aggAt (tupAt (vals 9) 0) 0))], .bool ((matchB ar ((rs.getD r ([], [])).1) ((sub ar t p))).isSome)] : Value)), (10, (.tuple #[.agg #[((aggAt (tupAt (vals 9) 0) 0))], .bool ((matchB ar ((rs.getD r ([], [])).1) ((sub ar t p))).isSome)] : Value))]) ⟨(e9).symm, e10, trivial⟩]
   refine XG.op (XOp.extract (.bool ((matchB ar ((rs.getD r ([], [])).1) ((sub ar t p))).isSome)) rfl rfl ?_)
   exact ⟨rfl, rfl⟩
  refine gC (fun vals Fs R leFs hpZ => ?_) ?_
  ·replace har := har.mono leFs
   replace ht := ht.mono leFs
   replace ha2 := ha2.mono leFs
   refine XG.op (XOp.alloc [(.slice none 0 0)] zeroValue76 rfl ?_)
   intro b4
   exact ⟨rfl, rfl⟩
  refine gC (fun vals Fs R leFs hpZ => ?_) ?_
  ·obtain ⟨e9, f9_1hr⟩ := hpZ 9 (by decide)
   have e11 : vals 11 = (.agg #[((aggAt (tupAt (vals 9) 0) 0))] : Value) := hpZ 11 (by decide)
   have e13 : vals 13 = ptr (blk (vals 13)) 0 := hpZ 13 (by decide)
   replace har := har.mono leFs
   replace ht := ht.mono leFs
   replace ha2 := ha2.mono leFs
   rw [eS (l := [(9, (.tuple #[.agg #[((aggAt (tupAt (vals 9) 0) 0))], .bool ((matchB ar ((rs.getD r ([], [])).1) ((sub ar t p))).isSome)] : Value)), (11, (.agg #[((aggAt (tupAt (vals 9) 0) 0))] : Value)), (13, ptr (blk (vals 13)) 0)]) ⟨(e9).symm, e11, e13, trivial⟩]
   show XG _ _ _ _ _ (cellsH (blk (vals 13)) [(.slice none 0 0)] 76 :: ([cellsH b2 [a1, a2] 117, cellsH b1 [arv, rsv] 29] ++ R)) _
   refine XG.op (XOp.storeN [] _ [((aggAt (tupAt (vals 9) 0) 0))] sizeOf76 rfl rfl rfl (ones_cons (one_sl (RowsF.isSl f9_1hr)) ones_nil) rfl rfl rfl ?_)
   exact ⟨trivial, rfl⟩
  exact stepsG.nil
 intro vals F4 le4 hphi
 obtain ⟨e8, f8_1ha⟩ := hphi 8 (by decide)
 obtain ⟨e9, f9_1hr⟩ := hphi 9 (by decide)
 have e10 : vals 10 = (.tuple #[.agg #[((aggAt (tupAt (vals 9) 0) 0))], .bool ((matchB ar ((rs.getD r ([], [])).1) ((sub ar t p))).isSome)] : Value) := hphi 10 (by decide)
 have e11 : vals 11 = (.agg #[((aggAt (tupAt (vals 9) 0) 0))] : Value) := hphi 11 (by decide)
 have e13 : vals 13 = ptr (blk (vals 13)) 0 := hphi 13 (by decide)
 generalize hu1 : ((vals 8)) = u1 at e8 f8_1ha e9 f9_1hr e10 e11 e13
 generalize hu2 : ((aggAt (tupAt (vals 9) 0) 0)) = u2 at e8 f8_1ha e9 f9_1hr e10 e11 e13
 generalize hu3 : blk (vals 13) = b5 at e8 f8_1ha e9 f9_1hr e10 e11 e13
 rw [eS (l := [(9, (.tuple #[.agg #[u2], .bool ((matchB ar ((rs.getD r ([], [])).1) ((sub ar t p))).isSome)] : Value)), (12, (.bool ((matchB ar ((rs.getD r ([], [])).1) ((sub ar t p))).isSome) : Value)), (13, ptr b5 0)]) ⟨(e9).symm, (hphi 12 (by decide)), e13, trivial⟩]
 replace har := har.mono le4
 replace ht := ht.mono le4
 replace ha2 := ha2.mono le4
 show XL _ _ _ _ _ _ _ (cellsH b5 [u2] 76 :: cellsH b2 [a1, a2] 117 :: cellsH b1 [arv, rsv] 29 :: L)
 refine XL.as (.bool ((matchB ar ((rs.getD r ([], [])).1) ((sub ar t p))).isSome)) rfl (XL.nil (X.seq (X.seq (X.region (XL.mv (.bool ((matchB ar ((rs.getD r ([], [])).1) ((sub ar t p))).isSome)) rfl (cX (XOp.notB rfl (XL.nil ?_))))))))
 refine X.cond (t := !((matchB ar ((rs.getD r ([], [])).1) ((sub ar t p))).isSome)) rfl (fun h1 => ?_) (fun h1 => ?_)
 ·have hms : (matchB ar (rs.getD r ([], [])).1 (sub ar t p)).isSome = false := by simpa using h1
  refine X.seq (X.region (cX (XOp.buildSlice (s := 1) [] [.int .i64 (0)] [] runUnderlying24 sizeOf2 zeroValue2 rfl (by decide) rfl CellsAre.nil rfl ?_)))
  intro v3 hv1
  refine XL.as (v3) rfl (XL.as (.bool (false)) rfl (XL.nil ?_))
  show X _ _ _ _ _ _ (intsH 2 v3 ([] : List Int) :: cellsH b5 [u2] 76 :: cellsH b2 [a1, a2] 117 :: cellsH b1 [arv, rsv] 29 :: L)
  refine X.freezeF [] _ _ rfl (fun F5 le5 hz2 => ?_)
  replace har := har.mono le5
  replace ht := ht.mono le5
  replace ha2 := ha2.mono le5
  replace f9_1hr := f9_1hr.mono le5
  have hf2 : IntsF F5 v3 ([]) := intsH.fz (xs := []) hz2.fz
  refine X.ret (thenQ_ret (retEnd (L' := L) [v3, .bool (false)] (.tuple #[v3, .bool (false)]) (.tmp rfl (.tmp rfl .nil)) rfl (FLe.trans le4 le5) rF (sD (sD (sD sR))) ?_))
  have hz := stepL_nomatch hms
  exact ⟨_, by rw [hz]; rfl, by rw [hz]; exact hf2, rfl⟩
 have hms : (matchB ar (rs.getD r ([], [])).1 (sub ar t p)).isSome = true := by simpa using h1
 refine X.skip (X.seq (X.region (cX (XOp.loadN [u2] isAgg76 sizeOf76 rfl rfl (Rd.ownN [] rfl rfl) (cX (XOp.fieldP (1) runUnderlying117 rfl sizeOf24 (by decide) rfl rfl (cX (XOp.load1 isAgg24 rfl (Rd.own [_] rfl rfl) (cX (XOp.call (args := [.agg #[u2], a2]) call111 rfl (l2Filled_spec f9_1hr ha2 (hsl := (by first | assumption | rfl | omega | simp)) (hsb := (fun i => by have := hmp2 i; omega)) (htl := (by first | assumption | rfl | omega | simp)) (htg := (fun k hk => by have := hRg k hk; omega))) ?_))))))))))
 rintro _ F6 _ le6 ⟨x3, rfl, hr5, rfl⟩
 replace har := har.mono le6
 replace ht := ht.mono le6
 refine XL.mv (.tuple #[x3, .bool ((fillL (matchP ar ((rs.getD r ([], [])).1) ((sub ar t p))) ((rs.getD r ([], [])).2)).isSome)]) rfl (cX (XOp.extract (x3) rfl rfl (cX (XOp.extract (.bool ((fillL (matchP ar ((rs.getD r ([], [])).1) ((sub ar t p))) ((rs.getD r ([], [])).2)).isSome)) rfl rfl (XL.as (x3) rfl (XL.as (.bool ((fillL (matchP ar ((rs.getD r ([], [])).1) ((sub ar t p))) ((rs.getD r ([], [])).2)).isSome)) rfl (XL.nil (X.seq (X.seq (X.region (XL.mv (.bool ((fillL (matchP ar ((rs.getD r ([], [])).1) ((sub ar t p))) ((rs.getD r ([], [])).2)).isSome)) rfl (cX (XOp.notB rfl (XL.nil ?_))))))))))))))
 refine X.cond (t := !((fillL (matchP ar ((rs.getD r ([], [])).1) ((sub ar t p))) ((rs.getD r ([], [])).2)).isSome)) rfl (fun h2 => ?_) (fun h2 => ?_)
 ·have hfs : (fillL (matchP ar (rs.getD r ([], [])).1 (sub ar t p)) (rs.getD r ([], [])).2).isSome = false := by simpa using h2
  refine X.seq (X.region (cX (XOp.buildSlice (s := 1) [] [.int .i64 (0)] [] runUnderlying24 sizeOf2 zeroValue2 rfl (by decide) rfl CellsAre.nil rfl ?_)))
  intro v4 hv2
  refine XL.as (v4) rfl (XL.as (.bool (false)) rfl (XL.nil ?_))
  show X _ _ _ _ _ _ (intsH 2 v4 ([] : List Int) :: cellsH b5 [u2] 76 :: cellsH b2 [a1, a2] 117 :: cellsH b1 [arv, rsv] 29 :: L)
  refine X.freezeF [] _ _ rfl (fun F7 le7 hz3 => ?_)
  replace har := har.mono le7
  replace ht := ht.mono le7
  replace hr5 := hr5.mono le7
  have hf3 : IntsF F7 v4 ([]) := intsH.fz (xs := []) hz3.fz
  refine X.ret (thenQ_ret (retEnd (L' := L) [v4, .bool (false)] (.tuple #[v4, .bool (false)]) (.tmp rfl (.tmp rfl .nil)) rfl (FLe.trans (FLe.trans le4 le6) le7) rF (sD (sD (sD sR))) ?_))
  have hz := stepL_nofill hms hfs
  exact ⟨_, by rw [hz]; rfl, by rw [hz]; exact hf3, rfl⟩
 have hfs : (fillL (matchP ar (rs.getD r ([], [])).1 (sub ar t p)) (rs.getD r ([], [])).2).isSome = true := by simpa using h2
 have hfl := fill_getD_len hfs (by omega)
 refine X.skip (X.seq (X.region (cX (XOp.fieldP (0) runUnderlying29 rfl sizeOf26 (by decide) rfl rfl (cX (XOp.loadN [arv] isAgg26 sizeOf26 rfl rfl (Rd.ownN [_, _] rfl rfl) (XL.mv (tv) rfl (XL.mv (.int .i64 ((p : Int))) rfl (XL.mv (x3) rfl (cX (XOp.call (args := [.agg #[arv], tv, .int .i64 (p : Int), x3]) call112 rfl (l3Put_spec (p := p) har ht hr5 (ho := (by first | assumption | rfl | omega | simp)) (hp := (by first | assumption | rfl | omega | simp)) (hul := (by first | assumption | rfl | omega | simp))) ?_)))))))))))
 rintro _ F8 _ le8 ⟨x4, rfl, hr6, rfl⟩
 refine cX (XOp.extract (x4) rfl rfl (cX (XOp.extract (.bool ((putL ar t p ((fillL (matchP ar ((rs.getD r ([], [])).1) ((sub ar t p))) ((rs.getD r ([], [])).2)).getD [])).isSome)) rfl rfl (XL.as (x4) rfl (XL.as (.bool ((putL ar t p ((fillL (matchP ar ((rs.getD r ([], [])).1) ((sub ar t p))) ((rs.getD r ([], [])).2)).getD [])).isSome)) rfl (XL.nil (X.ret (retEnd (L' := L) [x4, .bool ((putL ar t p ((fillL (matchP ar ((rs.getD r ([], [])).1) ((sub ar t p))) ((rs.getD r ([], [])).2)).getD [])).isSome)] (.tuple #[x4, .bool ((putL ar t p ((fillL (matchP ar ((rs.getD r ([], [])).1) ((sub ar t p))) ((rs.getD r ([], [])).2)).getD [])).isSome)]) (.tmp rfl (.tmp rfl .nil)) rfl (FLe.trans (FLe.trans le4 le6) le8) rF (sD (sD (sD sR))) ?_))))))))
 have hz := stepL_put hms hfs
 exact ⟨_, by rw [hz], by rw [hz]; exact hr6, rfl⟩
end Go.Proofs.YtmaaifhmhclhdaaGreat
set_option linter.unusedSimpArgs false
set_option linter.unusedVariables false
namespace Go.Proofs.YtmaaifhmhclhdaaGreat
open Go X M Tryz

/- spec.l1New -/
theorem l1New_spec {F : FH} {L : List HP} {bsv : Value} {bs : List Int} (hbs : BytesF F bsv bs) (hlb : bs.length ≤ 4000000) :
    Does prog 46 [bsv] F (L) (fun v F' L' => ∃ cb : Nat, (ptr cb 0 : Value) = v ∧ F = F' ∧ curH .i64 134 cb bsv bs.length :: L = L') := by
 refine Does.of_X func46 rfl rfl rfl (X.seq (X.region (XL.as ((.pointer none)) rfl (XL.nil (X.seq (X.region (XL.mv (bsv) rfl (cX (XOp.lenS runUnderlying22 rfl hbs.slv (cX (XOp.addR (((570029 + ((bs).length) : Nat) : Int)) rfl rfl (by omega) (by omega) (XL.as (.int .i64 (((570029 + ((bs).length) : Nat) : Int))) rfl (XL.nil (X.seq (X.seq (X.region (XL.as (.int .i64 (0)) rfl ?_)))))))))))))))))
 refine XL.nil (X.block (X.loop (α := Nat × Int) (fun xQ => [(0, bsv), (3, .int .i64 (xQ.2)), (4, .int .i64 (((xQ.1 : Nat) : Int)))]) (fun xQ => L) (fun xQ F' => F = F' ∧ (xQ.1 ≤ bs.length) ∧ (0 ≤ xQ.2 ∧ xQ.2 ≤ 1073741823)) (fun xQ => bs.length - xQ.1) (0, ((570029 + ((bs).length) : Nat) : Int)) ⟨rfl, rfl, rfl, trivial⟩ sR ⟨rfl, (Nat.zero_le _), (by (try dsimp only) <;> omega)⟩ ?_))
 rintro ⟨k, h⟩ rE _ _ ⟨rfl, hk, hh⟩
 show X _ _ _ _ (envs [(0, bsv), (3, .int .i64 (h)), (4, .int .i64 ((k : Int)))] rE) _ (L)
 dsimp only at hk hh
 refine X.seq (X.seq (X.region (XL.mv (.int .i64 ((k : Int))) rfl (XL.mv (bsv) rfl (cX (XOp.lenS runUnderlying22 rfl hbs.slv (cX (XOp.lss rfl rfl (XL.nil ?_)))))))))
 refine X.condD (p := (k : Int) < (bs.length : Int)) rfl (fun h1 => ?_) (fun h1 => ?_)
 ·have hrg := hbs.range (i := k) (by omega)
  refine X.skip (X.seq (X.block (X.region (XL.mv (.int .i64 (h)) rfl (cX (XOp.mulR (h * 317) rfl rfl (by omega) (by omega) (XL.mv (bsv) rfl (XL.mv (.int .i64 ((k : Int))) rfl (cX (XOp.indexS k runUnderlying22 sizeOf5 rfl rfl rfl hbs.slv (by omega) (Nat.mul_one _) (cX (XOp.load1 isAgg5 rfl (hbs.rd (by omega) _) (cX (XOp.convI (k' := .u8) (a := bs.getD k 0) (bs.getD k 0) runUnderlying5 runUnderlying2 rfl (IntWalk.i64_in _ (by omega)) (cX (XOp.addR ((h * 317) + (bs.getD k 0)) rfl rfl (by omega) (by omega) (cX (XOp.addR (((h * 317) + (bs.getD k 0)) + 11) rfl rfl (by omega) (by omega) ?_))))))))))))))))))
  refine cX (XOp.andW (a := ((h * 317) + (bs.getD k 0)) + 11) (b := 1073741823) rfl rfl rfl (by decide) ?_)
  intro r1 hr1
  refine XL.as (.int .i64 (r1)) rfl (XL.nil (X.region (XL.mv (.int .i64 ((k : Int))) rfl (cX (XOp.addR (((k + 1 : Nat) : Int)) rfl rfl (by omega) (by omega) (XL.as (.int .i64 (((k + 1 : Nat) : Int))) rfl (XL.nil ?_)))))))
  exact ⟨(k + 1, r1), _, FLe.refl _, rF, ⟨rfl, rfl, rfl, trivial⟩, sR, ⟨rfl, (by (try dsimp only) <;> omega), (hr1)⟩, (by omega)⟩
 refine X.exit (thenQ_exit (thenQ_exit (blockQ_exit (X.seq (X.region (XL.mv (bsv) rfl (XL.mv (.int .i64 (h)) rfl (cX (XOp.build [bsv, .int .i64 (0), .int .i64 (h)] [(.slice none 0 0), .int .i64 (0), .int .i64 (0)] [(0, 1), (1, 1), (2, 1)] [(0, [bsv]), (2, [.int .i64 (h)])] runUnderlying134 zeroValue134 rfl (.cons rfl sizeOf22 (.cons rfl sizeOf3 (.cons rfl sizeOf2 PlacesAre.nil))) rfl (.cons (cells_one (BytesF.isSl hbs)) (.cons rfl CellsAre.nil)) (cX (XOp.box [bsv, .int .i64 (0), .int .i64 (h)] rfl rfl ?_)))))))))))
 intro b1
 refine XL.as (ptr b1 0) rfl (XL.nil (X.ret (retEnd (L' := curH .i64 134 b1 bsv bs.length :: L) [ptr b1 0] (ptr b1 0) (.tmp rfl .nil) rfl rF rF (Sub.keep (curH.of (by omega) (by omega)) sR) ?_)))
 exact ⟨_, rfl, rfl, rfl⟩

/- spec.l1Byte -/
theorem l1Byte_spec0 {F : FH} {L : List HP} {cb : Nat} {bsv : Value} {bs : List Int} (hbs : BytesF F bsv bs) (hbl : bs.length ≤ 4000000) {i h : Int} (h0 : 0 ≤ i) (h1 : i ≤ bs.length) :
    Does prog 177 [ptr cb 0] F (cellsH cb [bsv, .int .i64 (i), .int .i64 (h)] 134 :: L) (fun v F' L' => (F = F' ∧ ∃ x : Int, (.int .i64 x : Value) = v ∧ (0 ≤ x ∧ x ≤ 255)) ∧ ∃ i' h' : Int, 0 ≤ i' ∧ i' ≤ bs.length ∧ cellsH cb [bsv, .int .i64 (i'), .int .i64 (h')] 134 :: L = L') := by
 refine Does.of_X func177 rfl rfl rfl (X.seq (X.region (XL.as (.int .i64 (0)) rfl (XL.nil (X.seq (X.region (XL.mv (ptr cb 0) rfl (XL.mv (ptr cb 0) rfl (cX (XOp.nilCheck rfl (cX (XOp.fieldP (2) runUnderlying134 rfl sizeOf2 (by decide) rfl rfl (cX (XOp.load1 isAgg2 rfl (Rd.own [] rfl rfl) (cX (XOp.mulW (a := h) (b := 6364136223846793005) rfl rfl ?_))))))))))))))))
 intro r1
 refine cX (XOp.addW (a := r1) (b := 1442695040888963407) rfl rfl ?_)
 intro r2
 refine cX (XOp.nilCheck rfl (cX (XOp.fieldP (2) runUnderlying134 rfl sizeOf2 (by decide) rfl rfl (cX (XOp.store1 [] _ [bsv, .int .i64 (i), .int .i64 (r2)] sizeOf2 rfl rfl rfl rfl rfl rfl (XL.nil (X.seq ?_)))))))
 refine X.drawG [cellsH cb [bsv, .int .i64 (i), .int .i64 (r2)] 134] L 10 [[], [], [], [], [], [], [], [], [], []] [[], [0], [1], [2], [3], [], [5], [6], [7], [8]] [[], [], [], [], [], [], [], [], [], []] (phiG [fun FF us v => v = ptr cb 0, fun FF us v => v = ptr cb 0, fun FF us v => v = ptr cb 2, fun FF us v => v = (.int .i64 (r2) : Value), fun FF us v => (.int .i64 ((intAt v)) : Value) = v, fun FF us v => v = ptr cb 0, fun FF us v => v = ptr cb 0, fun FF us v => v = ptr cb 2, fun FF us v => v = (.int .i64 (r2) : Value), fun FF us v => (.int .i64 ((intAt v)) : Value) = v]) (ownL [fun us v => [], fun us v => [], fun us v => [], fun us v => [], fun us v => [], fun us v => [], fun us v => [], fun us v => [], fun us v => [], fun us v => []]) mixed rfl rfl (by kernel_rfl) (by kernel_rfl) (MonoG.get (mC (fun le h => h) (mC (fun le h => h) (mC (fun le h => h) (mC (fun le h => h) (mC (fun le h => h) (mC (fun le h => h) (mC (fun le h => h) (mC (fun le h => h) (mC (fun le h => h) (mC (fun le h => h) MonoG.nil))))))))))) ?_ ?_
 ·refine gC (fun vals Fs R leFs hpZ => ?_) ?_
  ·refine XG.op (XOp.move (ptr cb 0) rfl ?_)
   exact ⟨rfl, rfl⟩
  refine gC (fun vals Fs R leFs hpZ => ?_) ?_
  ·replace hbs := hbs.mono leFs
   rw [eS (l := [(0, ptr cb 0)]) ⟨(hpZ 0 (by decide)), trivial⟩]
   refine XG.op (XOp.nilCheck rfl ?_)
   exact ⟨rfl, rfl⟩
  refine gC (fun vals Fs R leFs hpZ => ?_) ?_
  ·rw [eS (l := [(1, ptr cb 0)]) ⟨(hpZ 1 (by decide)), trivial⟩]
   refine XG.op (XOp.fieldP (2) runUnderlying134 rfl sizeOf2 (by decide) rfl rfl ?_)
   exact ⟨rfl, rfl⟩
  refine gC (fun vals Fs R leFs hpZ => ?_) ?_
  ·replace hbs := hbs.mono leFs
   rw [eS (l := [(2, ptr cb 2)]) ⟨(hpZ 2 (by decide)), trivial⟩]
   refine XG.op (XOp.load1 isAgg2 rfl (Rd.own [] rfl rfl) ?_)
   exact ⟨rfl, rfl⟩
  refine gC (fun vals Fs R leFs hpZ => ?_) ?_
  ·rw [eS (l := [(3, (.int .i64 (r2) : Value))]) ⟨(hpZ 3 (by decide)), trivial⟩]
   refine XG.op (XOp.shrW (a := r2) (b := 33) rfl rfl (by decide) ?_)
   intro r5
   exact ⟨rfl, rfl⟩
  refine gC (fun vals Fs R leFs hpZ => ?_) ?_
  ·refine XG.op (XOp.move (ptr cb 0) rfl ?_)
   exact ⟨rfl, rfl⟩
  refine gC (fun vals Fs R leFs hpZ => ?_) ?_
  ·replace hbs := hbs.mono leFs
   rw [eS (l := [(5, ptr cb 0)]) ⟨(hpZ 5 (by decide)), trivial⟩]
   refine XG.op (XOp.nilCheck rfl ?_)
   exact ⟨rfl, rfl⟩
  refine gC (fun vals Fs R leFs hpZ => ?_) ?_
  ·rw [eS (l := [(6, ptr cb 0)]) ⟨(hpZ 6 (by decide)), trivial⟩]
   refine XG.op (XOp.fieldP (2) runUnderlying134 rfl sizeOf2 (by decide) rfl rfl ?_)
   exact ⟨rfl, rfl⟩
  refine gC (fun vals Fs R leFs hpZ => ?_) ?_
  ·replace hbs := hbs.mono leFs
   rw [eS (l := [(7, ptr cb 2)]) ⟨(hpZ 7 (by decide)), trivial⟩]
   refine XG.op (XOp.load1 isAgg2 rfl (Rd.own [] rfl rfl) ?_)
   exact ⟨rfl, rfl⟩
  refine gC (fun vals Fs R leFs hpZ => ?_) ?_
  ·rw [eS (l := [(8, (.int .i64 (r2) : Value))]) ⟨(hpZ 8 (by decide)), trivial⟩]
   refine XG.op (XOp.shrW (a := r2) (b := 45) rfl rfl (by decide) ?_)
   intro r6
   exact ⟨rfl, rfl⟩
  exact stepsG.nil
 intro vals F1 le1 hphi
 have e4 : (.int .i64 ((intAt (vals 4))) : Value) = (vals 4) := hphi 4 (by decide)
 have e9 : (.int .i64 ((intAt (vals 9))) : Value) = (vals 9) := hphi 9 (by decide)
 generalize hu1 : (intAt (vals 4)) = u1 at e4 e9
 generalize hu2 : (intAt (vals 9)) = u2 at e4 e9
 rw [eS (l := [(4, (.int .i64 (u1) : Value)), (9, (.int .i64 (u2) : Value))]) ⟨(e4).symm, (e9).symm, trivial⟩]
 replace hbs := hbs.mono le1
 show XL _ _ _ _ _ _ _ (cellsH cb [bsv, .int .i64 (i), .int .i64 (r2)] 134 :: L)
 refine cX (XOp.xorW (a := u1) (b := u2) rfl rfl ?_)
 intro r7
 refine cX (XOp.andW (a := r7) (b := 255) rfl rfl rfl (by decide) ?_)
 intro r8 hr1
 refine XL.as (.int .i64 (r8)) rfl (XL.nil (X.seq (X.seq ?_)))
 refine X.draw [cellsH cb [bsv, .int .i64 (i), .int .i64 (r2)] 134] L 9 [[], [], [], [], [], [], [], [], []] [[], [0], [1], [2], [], [4], [5], [6], [7]] (phiL [fun us v => v = ptr cb 0, fun us v => v = ptr cb 0, fun us v => v = ptr cb 1, fun us v => v = (.int .i64 (i) : Value), fun us v => v = ptr cb 0, fun us v => v = ptr cb 0, fun us v => v = ptr cb 0, fun us v => v = bsv, fun us v => v = (.int .i64 ((bs.length : Int)) : Value)]) (ownL [fun us v => [], fun us v => [], fun us v => [], fun us v => [], fun us v => [], fun us v => [], fun us v => [], fun us v => [], fun us v => []]) mixed rfl rfl (by kernel_rfl) ?_ ?_
 ·refine pC (fun vals R hpZ => ?_) ?_
  ·refine XG.op (XOp.move (ptr cb 0) rfl ?_)
   exact ⟨rfl, rfl, rfl⟩
  refine pC (fun vals R hpZ => ?_) ?_
  ·rw [eS (l := [(0, ptr cb 0)]) ⟨hpZ 0 (by decide), trivial⟩]
   refine XG.op (XOp.nilCheck rfl ?_)
   exact ⟨rfl, rfl, rfl⟩
  refine pC (fun vals R hpZ => ?_) ?_
  ·rw [eS (l := [(1, ptr cb 0)]) ⟨hpZ 1 (by decide), trivial⟩]
   refine XG.op (XOp.fieldP (1) runUnderlying134 rfl sizeOf3 (by decide) rfl rfl ?_)
   exact ⟨rfl, rfl, rfl⟩
  refine pC (fun vals R hpZ => ?_) ?_
  ·rw [eS (l := [(2, ptr cb 1)]) ⟨hpZ 2 (by decide), trivial⟩]
   refine XG.op (XOp.load1 isAgg3 rfl (Rd.own [] rfl rfl) ?_)
   exact ⟨rfl, rfl, rfl⟩
  refine pC (fun vals R hpZ => ?_) ?_
  ·refine XG.op (XOp.move (ptr cb 0) rfl ?_)
   exact ⟨rfl, rfl, rfl⟩
  refine pC (fun vals R hpZ => ?_) ?_
  ·rw [eS (l := [(4, ptr cb 0)]) ⟨hpZ 4 (by decide), trivial⟩]
   refine XG.op (XOp.nilCheck rfl ?_)
   exact ⟨rfl, rfl, rfl⟩
  refine pC (fun vals R hpZ => ?_) ?_
  ·rw [eS (l := [(5, ptr cb 0)]) ⟨hpZ 5 (by decide), trivial⟩]
   refine XG.op (XOp.fieldP (0) runUnderlying134 rfl sizeOf22 (by decide) rfl rfl ?_)
   exact ⟨rfl, rfl, rfl⟩
  refine pC (fun vals R hpZ => ?_) ?_
  ·rw [eS (l := [(6, ptr cb 0)]) ⟨hpZ 6 (by decide), trivial⟩]
   refine XG.op (XOp.load1 isAgg22 rfl (Rd.own [] rfl rfl) ?_)
   exact ⟨rfl, rfl, rfl⟩
  refine pC (fun vals R hpZ => ?_) ?_
  ·rw [eS (l := [(7, bsv)]) ⟨hpZ 7 (by decide), trivial⟩]
   refine XG.op (XOp.lenS runUnderlying22 rfl hbs.slv ?_)
   exact ⟨rfl, rfl, rfl⟩
  exact stepsP.nil
 intro vals hphi
 rw [eS (l := [(3, (.int .i64 (i) : Value)), (8, (.int .i64 ((bs.length : Int)) : Value))]) ⟨(hphi 3 (by decide)), (hphi 8 (by decide)), trivial⟩]
 show XL _ _ _ _ _ _ _ (cellsH cb [bsv, .int .i64 (i), .int .i64 (r2)] 134 :: L)
 refine cX (XOp.lss rfl rfl (XL.nil ?_))
 refine X.condD (p := (i : Int) < (bs.length : Int)) rfl (fun h1 => ?_) (fun h1 => ?_)
 ·have hrg := hbs.range (i := i.toNat) (by omega)
  refine X.seq ?_
  refine X.draw [cellsH cb [bsv, .int .i64 (i), .int .i64 (r2)] 134] L 12 [[], [], [], [], [], [], [], [], [], [], [], []] [[], [], [1], [2], [3], [], [5], [6], [7], [4, 8], [9], [10]] (phiL [fun us v => v = (.int .i64 (r8) : Value), fun us v => v = ptr cb 0, fun us v => v = ptr cb 0, fun us v => v = ptr cb 0, fun us v => v = bsv, fun us v => v = ptr cb 0, fun us v => v = ptr cb 0, fun us v => v = ptr cb 1, fun us v => v = (.int .i64 (i) : Value), fun us v => v = (.pointer (some (elemA bsv ((i).toNat))) : Value), fun us v => v = (.int .u8 (bs.getD ((i).toNat) 0) : Value), fun us v => v = (.int .i64 (bs.getD ((i).toNat) 0) : Value)]) (ownL [fun us v => [], fun us v => [], fun us v => [], fun us v => [], fun us v => [], fun us v => [], fun us v => [], fun us v => [], fun us v => [], fun us v => [], fun us v => [], fun us v => []]) mixed rfl rfl (by kernel_rfl) ?_ ?_
  ·refine pC (fun vals R hpZ => ?_) ?_
   ·refine XG.op (XOp.move (.int .i64 (r8)) rfl ?_)
    exact ⟨rfl, rfl, rfl⟩
   refine pC (fun vals R hpZ => ?_) ?_
   ·refine XG.op (XOp.move (ptr cb 0) rfl ?_)
    exact ⟨rfl, rfl, rfl⟩
   refine pC (fun vals R hpZ => ?_) ?_
   ·rw [eS (l := [(1, ptr cb 0)]) ⟨hpZ 1 (by decide), trivial⟩]
    refine XG.op (XOp.nilCheck rfl ?_)
    exact ⟨rfl, rfl, rfl⟩
   refine pC (fun vals R hpZ => ?_) ?_
   ·rw [eS (l := [(2, ptr cb 0)]) ⟨hpZ 2 (by decide), trivial⟩]
    refine XG.op (XOp.fieldP (0) runUnderlying134 rfl sizeOf22 (by decide) rfl rfl ?_)
    exact ⟨rfl, rfl, rfl⟩
   refine pC (fun vals R hpZ => ?_) ?_
   ·rw [eS (l := [(3, ptr cb 0)]) ⟨hpZ 3 (by decide), trivial⟩]
    refine XG.op (XOp.load1 isAgg22 rfl (Rd.own [] rfl rfl) ?_)
    exact ⟨rfl, rfl, rfl⟩
   refine pC (fun vals R hpZ => ?_) ?_
   ·refine XG.op (XOp.move (ptr cb 0) rfl ?_)
    exact ⟨rfl, rfl, rfl⟩
   refine pC (fun vals R hpZ => ?_) ?_
   ·rw [eS (l := [(5, ptr cb 0)]) ⟨hpZ 5 (by decide), trivial⟩]
    refine XG.op (XOp.nilCheck rfl ?_)
    exact ⟨rfl, rfl, rfl⟩
   refine pC (fun vals R hpZ => ?_) ?_
   ·rw [eS (l := [(6, ptr cb 0)]) ⟨hpZ 6 (by decide), trivial⟩]
    refine XG.op (XOp.fieldP (1) runUnderlying134 rfl sizeOf3 (by decide) rfl rfl ?_)
    exact ⟨rfl, rfl, rfl⟩
   refine pC (fun vals R hpZ => ?_) ?_
   ·rw [eS (l := [(7, ptr cb 1)]) ⟨hpZ 7 (by decide), trivial⟩]
    refine XG.op (XOp.load1 isAgg3 rfl (Rd.own [] rfl rfl) ?_)
    exact ⟨rfl, rfl, rfl⟩
   refine pC (fun vals R hpZ => ?_) ?_
   ·rw [eS (l := [(4, bsv), (8, (.int .i64 (i) : Value))]) ⟨hpZ 4 (by decide), hpZ 8 (by decide), trivial⟩]
    refine XG.op (XOp.indexS ((i).toNat) runUnderlying22 sizeOf5 rfl rfl (by omega) hbs.slv (by omega) (Nat.mul_one _) ?_)
    exact ⟨rfl, rfl, rfl⟩
   refine pC (fun vals R hpZ => ?_) ?_
   ·rw [eS (l := [(9, (.pointer (some (elemA bsv ((i).toNat))) : Value))]) ⟨hpZ 9 (by decide), trivial⟩]
    refine XG.op (XOp.load1 isAgg5 rfl (hbs.rd (by omega) _) ?_)
    exact ⟨rfl, rfl, rfl⟩
   refine pC (fun vals R hpZ => ?_) ?_
   ·rw [eS (l := [(10, (.int .u8 (bs.getD ((i).toNat) 0) : Value))]) ⟨hpZ 10 (by decide), trivial⟩]
    refine XG.op (XOp.convI (k' := .u8) (a := bs.getD ((i).toNat) 0) (bs.getD ((i).toNat) 0) runUnderlying5 runUnderlying2 rfl (IntWalk.i64_in _ (by omega)) ?_)
    exact ⟨rfl, rfl, rfl⟩
   exact stepsP.nil
  intro vals hphi
  rw [eS (l := [(0, (.int .i64 (r8) : Value)), (11, (.int .i64 (bs.getD ((i).toNat) 0) : Value))]) ⟨(hphi 0 (by decide)), (hphi 11 (by decide)), trivial⟩]
  show XL _ _ _ _ _ _ _ (cellsH cb [bsv, .int .i64 (i), .int .i64 (r2)] 134 :: L)
  refine cX (XOp.addR (r8 + (bs.getD ((i).toNat) 0)) rfl rfl (by omega) (by omega) (cX (XOp.andW (a := r8 + (bs.getD ((i).toNat) 0)) (b := 255) rfl rfl rfl (by decide) ?_)))
  intro r9 hr2
  refine XL.as (.int .i64 (r9)) rfl (XL.nil (X.region (XL.mv (ptr cb 0) rfl (XL.mv (ptr cb 0) rfl (cX (XOp.nilCheck rfl (cX (XOp.fieldP (1) runUnderlying134 rfl sizeOf3 (by decide) rfl rfl (cX (XOp.load1 isAgg3 rfl (Rd.own [] rfl rfl) (cX (XOp.addR (i + 1) rfl rfl (by omega) (by omega) (cX (XOp.nilCheck rfl (cX (XOp.fieldP (1) runUnderlying134 rfl sizeOf3 (by decide) rfl rfl ?_))))))))))))))))
  refine cX (XOp.store1 [] _ [bsv, .int .i64 (i + 1), .int .i64 (r2)] sizeOf3 rfl rfl rfl rfl rfl rfl (XL.nil (X.seq (X.region (XL.mv (.int .i64 (r9)) rfl (XL.as (.int .i64 (r9)) rfl (XL.nil (X.ret (retEnd (L' := cellsH cb [bsv, .int .i64 (i + 1), .int .i64 (r2)] 134 :: L) [.int .i64 (r9)] (.int .i64 (r9)) (.tmp rfl .nil) rfl rF le1 (sC sR) ?_)))))))))
  exact ⟨⟨rfl, _, rfl, by omega⟩, _, _, by omega, by omega, rfl⟩
 refine X.skip (X.seq (X.region (XL.mv (.int .i64 (r8)) rfl (XL.as (.int .i64 (r8)) rfl (XL.nil (X.ret (retEnd (L' := cellsH cb [bsv, .int .i64 (i), .int .i64 (r2)] 134 :: L) [.int .i64 (r8)] (.int .i64 (r8)) (.tmp rfl .nil) rfl rF le1 (sC sR) ?_)))))))
 exact ⟨⟨rfl, _, rfl, by omega⟩, _, _, by omega, by omega, rfl⟩
theorem l1Byte_spec {F : FH} {L : List HP} {cb : Nat} {bsv : Value} {bs : List Int} (hbs : BytesF F bsv bs) (hbl : bs.length ≤ 4000000) : Does prog 177 [ptr cb 0] F (curH .i64 134 cb bsv bs.length :: L) (fun v F' L' => (F = F' ∧ ∃ (x : Int), (.int .i64 x : Value) = v ∧ (0 ≤ x ∧ x ≤ 255)) ∧ curH .i64 134 cb bsv bs.length :: L = L') :=
  Does.cur (Q := fun v F' => F = F' ∧ ∃ (x : Int), (.int .i64 x : Value) = v ∧ (0 ≤ x ∧ x ≤ 255)) fun i h h0 h1 => l1Byte_spec0 hbs hbl h0 h1

/- spec.l1Below -/
theorem l1Below_spec {F : FH} {L : List HP} {cb : Nat} {bsv : Value} {bs : List Int} (hbs : BytesF F bsv bs) (hbl : bs.length ≤ 4000000) {n : Int} (hn : n ≤ 1000000) :
    Does prog 122 [ptr cb 0, .int .i64 (n)] F (curH .i64 134 cb bsv bs.length :: L) (fun v F' L' => (F = F' ∧ ∃ (x : Int), (.int .i64 (x) : Value) = v ∧ (0 ≤ x ∧ (x < n ∨ x = 0))) ∧ curH .i64 134 cb bsv bs.length :: L = L') := by
 refine Does.of_X func122 rfl rfl rfl (X.seq (X.region (XL.as (.int .i64 (0)) rfl (XL.nil (X.seq (X.seq (X.region (XL.mv (.int .i64 (n)) rfl (cX (XOp.leq rfl rfl (XL.nil ?_)))))))))))
 refine X.condD (p := (n : Int) ≤ 0) rfl (fun h1 => ?_) (fun h1 => ?_)
 ·refine X.seq (X.region (XL.as (.int .i64 (0)) rfl (XL.nil (X.ret (thenQ_ret (retEnd (L' := curH .i64 134 cb bsv bs.length :: L) [.int .i64 (0)] (.int .i64 (0)) (.tmp rfl .nil) rfl rF rF (sC sR) ?_))))))
  exact ⟨⟨rfl, _, rfl, by omega⟩, rfl⟩
 refine X.skip (X.seq (X.seq (X.region (XL.mv (.int .i64 (n)) rfl (cX (XOp.leq rfl rfl (XL.nil ?_)))))))
 refine X.condD (p := (n : Int) ≤ 256) rfl (fun h2 => ?_) (fun h2 => ?_)
 ·refine X.seq (X.region (XL.mv (ptr cb 0) rfl (cX (XOp.call (args := [ptr cb 0]) call177 rfl (Does.at [] (l1Byte_spec hbs (by omega))) ?_))))
  rintro _ _ _ _ ⟨⟨rfl, x1, rfl, hr1⟩, rfl⟩
  show XL _ _ _ _ _ _ _ (curH .i64 134 cb bsv bs.length :: L)
  refine XL.mv (.int .i64 (n)) rfl (cX (XOp.remV (a := x1) (b := n) rfl rfl (by omega) (by omega) ?_))
  intro r1 hr2
  refine XL.as (.int .i64 (r1)) rfl (XL.nil (X.ret (thenQ_ret (retEnd (L' := curH .i64 134 cb bsv bs.length :: L) [.int .i64 (r1)] (.int .i64 (r1)) (.tmp rfl .nil) rfl rF rF (sC sR) ?_))))
  exact ⟨⟨rfl, _, rfl, by omega⟩, rfl⟩
 refine X.skip (X.seq (X.region (XL.mv (ptr cb 0) rfl (cX (XOp.call (args := [ptr cb 0]) call177 rfl (Does.at [] (l1Byte_spec hbs (by omega))) ?_)))))
 rintro _ _ _ _ ⟨⟨rfl, x2, rfl, hr3⟩, rfl⟩
 show XL _ _ _ _ _ _ _ (curH .i64 134 cb bsv bs.length :: L)
 refine XL.as (.int .i64 (x2)) rfl (XL.nil (X.seq (X.region (XL.mv (ptr cb 0) rfl (cX (XOp.call (args := [ptr cb 0]) call177 rfl (Does.at [] (l1Byte_spec hbs (by omega))) ?_))))))
 rintro _ _ _ _ ⟨⟨rfl, x3, rfl, hr4⟩, rfl⟩
 show XL _ _ _ _ _ _ _ (curH .i64 134 cb bsv bs.length :: L)
 refine XL.as (.int .i64 (x3)) rfl (XL.nil (X.seq (X.region (XL.mv (ptr cb 0) rfl (cX (XOp.call (args := [ptr cb 0]) call177 rfl (Does.at [] (l1Byte_spec hbs (by omega))) ?_))))))
 rintro _ _ _ _ ⟨⟨rfl, x4, rfl, hr5⟩, rfl⟩
 show XL _ _ _ _ _ _ _ (curH .i64 134 cb bsv bs.length :: L)
 refine XL.as (.int .i64 (x4)) rfl (XL.nil (X.seq (X.region (XL.mv (ptr cb 0) rfl (cX (XOp.call (args := [ptr cb 0]) call177 rfl (Does.at [] (l1Byte_spec hbs (by omega))) ?_))))))
 rintro _ _ _ _ ⟨⟨rfl, x5, rfl, hr6⟩, rfl⟩
 show XL _ _ _ _ _ _ _ (curH .i64 134 cb bsv bs.length :: L)
 refine XL.as (.int .i64 (x5)) rfl (XL.nil (X.seq (X.region (XL.mv (.int .i64 (x2)) rfl (cX (XOp.mulR (x2 * 16777216) rfl rfl (by omega) (by omega) (XL.mv (.int .i64 (x3)) rfl (cX (XOp.mulR (x3 * 65536) rfl rfl (by omega) (by omega) (cX (XOp.addR ((x2 * 16777216) + (x3 * 65536)) rfl rfl (by omega) (by omega) (XL.mv (.int .i64 (x4)) rfl (cX (XOp.mulR (x4 * 256) rfl rfl (by omega) (by omega) (cX (XOp.addR (((x2 * 16777216) + (x3 * 65536)) + (x4 * 256)) rfl rfl (by omega) (by omega) ?_))))))))))))))))
 refine XL.mv (.int .i64 (x5)) rfl (cX (XOp.addR ((((x2 * 16777216) + (x3 * 65536)) + (x4 * 256)) + x5) rfl rfl (by omega) (by omega) (XL.mv (.int .i64 (n)) rfl (cX (XOp.remV (a := (((x2 * 16777216) + (x3 * 65536)) + (x4 * 256)) + x5) (b := n) rfl rfl (by omega) (by omega) ?_)))))
 intro r2 hr7
 refine XL.as (.int .i64 (r2)) rfl (XL.nil (X.ret (retEnd (L' := curH .i64 134 cb bsv bs.length :: L) [.int .i64 (r2)] (.int .i64 (r2)) (.tmp rfl .nil) rfl rF rF (sC sR) ?_)))
 exact ⟨⟨rfl, _, rfl, by omega⟩, rfl⟩

/- spec.l1Once -/
theorem l1Once_spec {F : FH} {L : List HP} {cb : Nat} {bsv : Value} {bs : List Int} (hbs : BytesF F bsv bs) (hbl : bs.length ≤ 4000000) {n : Int} (hn : n ≤ 1000000) :
    Does prog 120 [ptr cb 0, .int .i64 (n)] F (curH .i64 134 cb bsv bs.length :: L) (fun v F' L' => (F = F' ∧ ∃ (b : Bool), (.bool (b) : Value) = v) ∧ curH .i64 134 cb bsv bs.length :: L = L') := by
 refine Does.of_X func120 rfl rfl rfl (X.seq (X.region (XL.as (.bool (false)) rfl (XL.nil (X.seq (X.region (XL.mv (ptr cb 0) rfl (XL.mv (.int .i64 (n)) rfl (cX (XOp.call (args := [ptr cb 0, .int .i64 (n)]) call122 rfl (Does.at [] (l1Below_spec (n := n) hbs (by omega) (hn := (by first | assumption | rfl | omega | simp)))) ?_))))))))))
 rintro _ _ _ _ ⟨⟨rfl, x1, rfl, hr1⟩, rfl⟩
 show XL _ _ _ _ _ _ _ (curH .i64 134 cb bsv bs.length :: L)
 refine cX (XOp.eql rfl rfl (XL.as (.bool (decide ((x1 : Int) = 0))) rfl (XL.nil (X.ret (retEnd (L' := curH .i64 134 cb bsv bs.length :: L) [.bool (decide ((x1 : Int) = 0))] (.bool (decide ((x1 : Int) = 0))) (.tmp rfl .nil) rfl rF rF (sC sR) ?_)))))
 exact ⟨⟨rfl, _, rfl⟩, rfl⟩

/- spec.l1From -/
theorem l1From_spec {F : FH} {L : List HP} {cb : Nat} {bsv : Value} {bs : List Int} (hbs : BytesF F bsv bs) (hbl : bs.length ≤ 4000000) {lo : Int} {hi : Int} (hlo : -1000 ≤ lo ∧ lo ≤ 1000 ∧ -1000 ≤ hi ∧ hi ≤ 900000) :
    Does prog 160 [ptr cb 0, .int .i64 (lo), .int .i64 (hi)] F (curH .i64 134 cb bsv bs.length :: L) (fun v F' L' => (F = F' ∧ ∃ (x : Int), (.int .i64 (x) : Value) = v ∧ (lo ≤ x ∧ (x ≤ hi ∨ x = lo))) ∧ curH .i64 134 cb bsv bs.length :: L = L') := by
 refine Does.of_X func160 rfl rfl rfl (X.seq (X.region (XL.as (.int .i64 (0)) rfl (XL.nil (X.seq (X.region (XL.mv (.int .i64 (lo)) rfl (XL.mv (ptr cb 0) rfl (XL.mv (.int .i64 (hi)) rfl (XL.mv (.int .i64 (lo)) rfl (cX (XOp.subR (hi - lo) rfl rfl (by omega) (by omega) (cX (XOp.addR ((hi - lo) + 1) rfl rfl (by omega) (by omega) ?_))))))))))))))
 refine cX (XOp.call (args := [ptr cb 0, .int .i64 ((hi - lo) + 1)]) call122 rfl (Does.at [] (l1Below_spec (n := (hi - lo) + 1) hbs (by omega) (hn := (by first | assumption | rfl | omega | simp)))) ?_)
 rintro _ _ _ _ ⟨⟨rfl, x1, rfl, hr1⟩, rfl⟩
 show XL _ _ _ _ _ _ _ (curH .i64 134 cb bsv bs.length :: L)
 refine cX (XOp.addR (lo + x1) rfl rfl (by omega) (by omega) (XL.as (.int .i64 (lo + x1)) rfl (XL.nil (X.ret (retEnd (L' := curH .i64 134 cb bsv bs.length :: L) [.int .i64 (lo + x1)] (.int .i64 (lo + x1)) (.tmp rfl .nil) rfl rF rF (sC sR) ?_)))))
 exact ⟨⟨rfl, _, rfl, by omega⟩, rfl⟩

/- spec.l1Odd -/
theorem l1Odd_spec {F : FH} {L : List HP} {cb : Nat} {bsv : Value} {bs : List Int} (hbs : BytesF F bsv bs) (hbl : bs.length ≤ 4000000) :
    Does prog 175 [ptr cb 0] F (curH .i64 134 cb bsv bs.length :: L) (fun v F' L' => (F = F' ∧ ∃ (x : Int), (.int .i64 (x) : Value) = v) ∧ curH .i64 134 cb bsv bs.length :: L = L') := by
 refine Does.of_X func175 rfl rfl rfl (X.seq (X.region (XL.as (.int .i64 (0)) rfl (XL.nil (X.seq (X.region (cX (XOp.buildSlice (s := 1) [.int .i64 (-1), .int .i64 (0), .int .i64 (1), .int .i64 (2147483648), .int .i64 (-2147483648), .int .i64 (1099511627776), .int .i64 (4611686018427387904), .int .i64 (-4611686018427387904), .int .i64 (9223372036854775807), .int .i64 (-9223372036854775808)] [.int .i64 (0)] [(0, [.int .i64 (-1)]), (1, [.int .i64 (0)]), (2, [.int .i64 (1)]), (3, [.int .i64 (2147483648)]), (4, [.int .i64 (-2147483648)]), (5, [.int .i64 (1099511627776)]), (6, [.int .i64 (4611686018427387904)]), (7, [.int .i64 (-4611686018427387904)]), (8, [.int .i64 (9223372036854775807)]), (9, [.int .i64 (-9223372036854775808)])] runUnderlying24 sizeOf2 zeroValue2 rfl (by decide) rfl (.cons rfl (.cons rfl (.cons rfl (.cons rfl (.cons rfl (.cons rfl (.cons rfl (.cons rfl (.cons rfl (.cons rfl CellsAre.nil)))))))))) rfl ?_))))))))
 intro v1 hv1
 show XL _ _ _ _ _ _ _ (intsH 2 v1 ([-1, 0, 1, 2147483648, -2147483648, 1099511627776, 4611686018427387904, -4611686018427387904, 9223372036854775807, -9223372036854775808] : List Int) :: curH .i64 134 cb bsv bs.length :: L)
 have hl10 : ([-1, 0, 1, 2147483648, -2147483648, 1099511627776, 4611686018427387904, -4611686018427387904, 9223372036854775807, -9223372036854775808] : List Int).length = 10 := rfl
 refine XL.mv (ptr cb 0) rfl (cX (XOp.call (args := [ptr cb 0, .int .i64 (10)]) call122 rfl (Does.at [_] (l1Below_spec (n := 10) hbs (by omega) (hn := (by first | assumption | rfl | omega | simp)))) ?_))
 rintro _ _ _ _ ⟨⟨rfl, x1, rfl, hr1⟩, rfl⟩
 show XL _ _ _ _ _ _ _ (intsH 2 v1 ([-1, 0, 1, 2147483648, -2147483648, 1099511627776, 4611686018427387904, -4611686018427387904, 9223372036854775807, -9223372036854775808] : List Int) :: curH .i64 134 cb bsv bs.length :: L)
 refine cX (XOp.indexS ((x1).toNat) runUnderlying24 sizeOf2 rfl rfl (by omega) (intsH.slv [] rfl) (by omega) (Nat.mul_one _) (cX (XOp.load1 isAgg2 rfl (intsH.rd [] rfl (by omega)) (XL.as (.int .i64 (([-1, 0, 1, 2147483648, -2147483648, 1099511627776, 4611686018427387904, -4611686018427387904, 9223372036854775807, -9223372036854775808]).getD ((x1).toNat) 0)) rfl (XL.nil (X.ret (retEnd (L' := curH .i64 134 cb bsv bs.length :: L) [.int .i64 (([-1, 0, 1, 2147483648, -2147483648, 1099511627776, 4611686018427387904, -4611686018427387904, 9223372036854775807, -9223372036854775808]).getD ((x1).toNat) 0)] (.int .i64 (([-1, 0, 1, 2147483648, -2147483648, 1099511627776, 4611686018427387904, -4611686018427387904, 9223372036854775807, -9223372036854775808]).getD ((x1).toNat) 0)) (.tmp rfl .nil) rfl rF rF (sD (sC sR)) ?_)))))))
 exact ⟨⟨rfl, _, rfl⟩, rfl⟩

/- spec.l1DrawSig -/
theorem l1DrawSig_spec {F : FH} {L : List HP} {cb : Nat} {bsv : Value} {bs : List Int} (hbs : BytesF F bsv bs) (hbl : bs.length ≤ 4000000) :
    Does prog 183 [ptr cb 0] F (curH .i64 134 cb bsv bs.length :: L) (fun v F' L' => ∃ a : Value, ((.agg #[a] : Value) = v ∧ IsSl a) ∧ drawnH 2 a (fun ar => sigOk ar = true) :: curH .i64 134 cb bsv bs.length :: L = L') := by
 refine Does.of_X func183 rfl rfl rfl (X.seq (X.region (cX (XOp.alloc [(.slice none 0 0)] zeroValue26 rfl ?_))))
 intro b1
 refine XL.nil (X.seq (X.region (cX (XOp.buildSlice (s := 1) [.int .i64 (2), .int .i64 (1), .int .i64 (0)] [.int .i64 (0)] [(0, [.int .i64 (2)]), (1, [.int .i64 (1)]), (2, [.int .i64 (0)])] runUnderlying24 sizeOf2 zeroValue2 rfl (by decide) rfl (.cons rfl (.cons rfl (.cons rfl CellsAre.nil))) rfl ?_))))
 intro v1 hv1
 refine cX (XOp.build [v1] [(.slice none 0 0)] [(0, 1)] [(0, [v1])] runUnderlying26 zeroValue26 rfl (.cons rfl sizeOf24 PlacesAre.nil) rfl (.cons (cells_one (isSl_lit hv1)) CellsAre.nil) (cX (XOp.alloc [(.slice none 0 0)] zeroValue26 rfl ?_)))
 intro b2
 refine cX (XOp.storeN [] _ [v1] sizeOf26 rfl rfl rfl (ones_cons (one_sl (isSl_lit hv1)) ones_nil) rfl rfl rfl (XL.nil (X.seq (X.seq (X.region (XL.mv (ptr cb 0) rfl (cX (XOp.call (args := [ptr cb 0, .int .i64 (4)]) call120 rfl (Does.at [_, _, _] (l1Once_spec (n := 4) hbs (by omega) (hn := (by first | assumption | rfl | omega | simp)))) ?_))))))))
 rintro _ _ _ _ ⟨⟨rfl, x1, rfl⟩, rfl⟩
 show XL _ _ _ _ _ _ _ (cellsH b2 [v1] 26 :: slH 2 1 v1 3 [.int .i64 (2), .int .i64 (1), .int .i64 (0)] :: cellsH b1 [(.slice none 0 0)] 26 :: curH .i64 134 cb bsv bs.length :: L)
 refine XL.nil ?_
 refine X.cond (t := x1) rfl (fun h1 => ?_) (fun h1 => ?_)
 ·refine X.seq (X.region (cX (XOp.buildSlice (s := 1) [.int .i64 (0)] [.int .i64 (0)] [(0, [.int .i64 (0)])] runUnderlying24 sizeOf2 zeroValue2 rfl (by decide) rfl (.cons rfl CellsAre.nil) rfl ?_)))
  intro v2 hv2
  refine cX (XOp.build [v2] [(.slice none 0 0)] [(0, 1)] [(0, [v2])] runUnderlying26 zeroValue26 rfl (.cons rfl sizeOf24 PlacesAre.nil) rfl (.cons (cells_one (isSl_lit hv2)) CellsAre.nil) (cX (XOp.storeN [_] _ [v2] sizeOf26 rfl rfl rfl (ones_cons (one_sl (isSl_lit hv2)) ones_nil) rfl rfl rfl (XL.nil (X.seq (X.region ?_))))))
  show XL _ _ _ _ _ _ _ (intsH 2 v2 ([0] : List Int) :: cellsH b2 [v2] 26 :: slH 2 1 v1 3 [.int .i64 (2), .int .i64 (1), .int .i64 (0)] :: cellsH b1 [(.slice none 0 0)] 26 :: curH .i64 134 cb bsv bs.length :: L)
  skip
  refine XL.mv (ptr cb 0) rfl (cX (XOp.call (args := [ptr cb 0, .int .i64 (4)]) call122 rfl (Does.at [_, _, _, _] (l1Below_spec (n := 4) hbs (by omega) (hn := (by first | assumption | rfl | omega | simp)))) ?_))
  rintro _ _ _ _ ⟨⟨rfl, x2, rfl, hr1⟩, rfl⟩
  show XL _ _ _ _ _ _ _ (intsH 2 v2 ([0] : List Int) :: cellsH b2 [v2] 26 :: slH 2 1 v1 3 [.int .i64 (2), .int .i64 (1), .int .i64 (0)] :: cellsH b1 [(.slice none 0 0)] 26 :: curH .i64 134 cb bsv bs.length :: L)
  refine XL.as (.int .i64 (x2)) rfl (XL.nil (X.block (X.loop (α := Nat × Value × List Int) (fun xQ => [(0, ptr cb 0), (2, ptr b1 0), (3, ptr b2 0), (4, .int .i64 (((xQ.1 : Nat) : Int)))]) (fun xQ => intsH 2 xQ.2.1 xQ.2.2 :: cellsH b2 [xQ.2.1] 26 :: slH 2 1 v1 3 [.int .i64 (2), .int .i64 (1), .int .i64 (0)] :: cellsH b1 [(.slice none 0 0)] 26 :: curH .i64 134 cb bsv bs.length :: L) (fun xQ F' => F = F' ∧ (IsSl xQ.2.1) ∧ (sigOk xQ.2.2 = true) ∧ (xQ.2.2.length + xQ.1 ≤ 4)) (fun xQ => xQ.1) (x2.toNat, v2, [0]) ⟨rfl, rfl, rfl, (vI (by omega)), trivial⟩ (sC (sC (sC (sC (sC sR))))) ⟨rfl, ((isSl_lit hv2)), ((show sigOk [0] = true from by decide)), (by (try simp only [List.length_cons, List.length_nil]); omega)⟩ ?_)))
  rintro ⟨n, ov, os⟩ rE _ _ ⟨rfl, hov, hso, hon⟩
  show X _ _ _ _ (envs [(0, ptr cb 0), (2, ptr b1 0), (3, ptr b2 0), (4, .int .i64 ((n : Int)))] rE) _ (intsH 2 ov os :: cellsH b2 [ov] 26 :: slH 2 1 v1 3 [.int .i64 (2), .int .i64 (1), .int .i64 (0)] :: cellsH b1 [(.slice none 0 0)] 26 :: curH .i64 134 cb bsv bs.length :: L)
  dsimp only at hov hso hon
  refine X.seq (X.seq (X.region (XL.mv (.int .i64 ((n : Int))) rfl (cX (XOp.gtr rfl rfl (XL.nil ?_))))))
  refine X.condD (p := (n : Int) > 0) rfl (fun h2 => ?_) (fun h2 => ?_)
  ·refine X.skip (X.seq (X.block ?_))
   refine X.drawG [intsH 2 ov os, cellsH b2 [ov] 26, slH 2 1 v1 3 [.int .i64 (2), .int .i64 (1), .int .i64 (0)], cellsH b1 [(.slice none 0 0)] 26, curH .i64 134 cb bsv bs.length] L 5 [[], [], [], [], [3]] [[], [0], [], [2], [3]] [[], [], [], [], []] (phiG [fun FF us v => v = ptr b2 0, fun FF us v => v = ov, fun FF us v => v = ptr cb 0, fun FF us v => (.int .i64 (((intAt v))) : Value) = v ∧ (0 ≤ ((intAt v)) ∧ (((intAt v)) < 3 ∨ ((intAt v)) = 0)), fun FF us v => ∃ b, v = .slice (some ⟨b, 0, none⟩) 1 1]) (ownL [fun us v => [], fun us v => [], fun us v => [], fun us v => [], fun us v => [slH 2 1 v 1 [.int .i64 (((intAt (us.getD 0 undef))))]]]) mixed rfl rfl (by kernel_rfl) (by kernel_rfl) (MonoG.get (mC (fun le h => h) (mC (fun le h => h) (mC (fun le h => h) (mC (fun le h => ⟨h.1, h.2⟩) (mC (fun le h => h) MonoG.nil)))))) ?_ ?_
   ·refine gC (fun vals Fs R leFs hpZ => ?_) ?_
    ·refine XG.op (XOp.fieldP (0) runUnderlying26 rfl sizeOf24 (by decide) rfl rfl ?_)
     exact ⟨rfl, rfl⟩
    refine gC (fun vals Fs R leFs hpZ => ?_) ?_
    ·replace hbs := hbs.mono leFs
     rw [eS (l := [(0, ptr b2 0)]) ⟨(hpZ 0 (by decide)), trivial⟩]
     refine XG.op (XOp.load1 isAgg24 rfl (Rd.own [_] rfl rfl) ?_)
     exact ⟨rfl, rfl⟩
    refine gC (fun vals Fs R leFs hpZ => ?_) ?_
    ·refine XG.op (XOp.move (ptr cb 0) rfl ?_)
     exact ⟨rfl, rfl⟩
    refine gC (fun vals Fs R leFs hpZ => ?_) ?_
    ·replace hbs := hbs.mono leFs
     rw [eS (l := [(2, ptr cb 0)]) ⟨(hpZ 2 (by decide)), trivial⟩]
     refine XG.op (XOp.call (args := [ptr cb 0, .int .i64 (3)]) call122 rfl (Does.at [_, _, _, _] (l1Below_spec (n := 3) hbs (by omega) (hn := (by first | assumption | rfl | omega | simp)))) ?_)
     rintro _ _ _ _ ⟨⟨rfl, x4, rfl, hr3⟩, rfl⟩
     exact ⟨⟨rfl, hr3⟩, rfl⟩
    refine gC (fun vals Fs R leFs hpZ => ?_) ?_
    ·obtain ⟨e3, f3_1hx⟩ := hpZ 3 (by decide)
     rw [eS (l := [(3, (.int .i64 (((intAt (vals 3)))) : Value))]) ⟨(e3).symm, trivial⟩]
     refine XG.op (XOp.buildSlice (s := 1) [.int .i64 (((intAt (vals 3))))] [.int .i64 (0)] [(0, [.int .i64 (((intAt (vals 3))))])] runUnderlying24 sizeOf2 zeroValue2 rfl (by decide) rfl (.cons rfl CellsAre.nil) rfl ?_)
     intro v4 hv4
     exact ⟨hv4, rfl⟩
    exact stepsG.nil
   intro vals F5 le5 hphi
   obtain ⟨e3, f3_1hx⟩ := hphi 3 (by decide)
   have f4 : ∃ b, (vals 4) = .slice (some ⟨b, 0, none⟩) 1 1 := hphi 4 (by decide)
   generalize hu1 : (intAt (vals 3)) = u1 at e3 f3_1hx f4
   generalize hu4 : vals 4 = u2 at e3 f3_1hx f4
   rw [eS (l := [(1, ov), (3, (.int .i64 ((u1)) : Value)), (4, u2)]) ⟨(hphi 1 (by decide)), (e3).symm, hu4, trivial⟩]
   show XL _ _ _ _ _ _ _ (slH 2 1 u2 1 [.int .i64 ((u1))] :: intsH 2 ov os :: cellsH b2 [ov] 26 :: slH 2 1 v1 3 [.int .i64 (2), .int .i64 (1), .int .i64 (0)] :: cellsH b1 [(.slice none 0 0)] 26 :: curH .i64 134 cb bsv bs.length :: L)
   refine cX (XOp.append1 (u := (u1)) [_] _ runUnderlying24 typeInfo2 rfl rfl rfl rfl rfl rfl (SlV.own [] rfl) (Rd.sl [] rfl rfl) (by (try simp only [List.length_append, List.length_nil, List.length_cons, List.length_singleton, List.length_take, List.length_drop]); omega) ?_)
   intro v5 hs1 hn1
   refine cX (XOp.fieldP (0) runUnderlying26 rfl sizeOf24 (by decide) rfl rfl (cX (XOp.store1 [_, _] _ [v5] sizeOf24 rfl rfl (one_sl hs1) rfl rfl rfl (XL.nil (X.region (XL.mv (.int .i64 ((n : Int))) rfl (cX (XOp.subR (((n : Int)) - 1) rfl rfl (by omega) (by omega) (XL.as (.int .i64 (((n : Int)) - 1)) rfl (XL.nil ?_))))))))))
   exact ⟨(n - 1, v5, os ++ [(u1)]), _, FLe.refl _, le5, ⟨rfl, rfl, rfl, (vI (by (try dsimp only); omega)), trivial⟩, (sD (sC (sC (sC (sC (sC sR)))))), ⟨rfl, (hs1), (sigOk_snoc hso (by omega) (by omega)), (by (try dsimp only); rw [List.length_append]; simp only [List.length_singleton]; omega)⟩, (by (try dsimp only); omega)⟩
  refine X.exit (thenQ_exit (thenQ_exit (blockQ_exit (X.seq (X.region (cX (XOp.loadN [ov] isAgg26 sizeOf26 rfl rfl (Rd.ownN [_] rfl rfl) (cX (XOp.storeN [_, _, _] _ [ov] sizeOf26 rfl rfl rfl (ones_cons (one_sl hov) ones_nil) rfl rfl rfl (XL.nil (X.ret (retEnd (L' := drawnH 2 ov (fun ar => sigOk ar = true) :: curH .i64 134 cb bsv bs.length :: L) [.agg #[ov]] (.agg #[ov]) (.cell rfl (loadNV [ov] isAgg26 sizeOf26 rfl (Rd.ownN [_, _, _] rfl rfl)) .nil) rfl rF rF (Sub.trans (sC (sD (sD (sD (sC sR))))) (Sub.keep (drawnH.of (t := os) hso) sR)) ?_))))))))))))
  exact ⟨_, ⟨rfl, hov⟩, rfl⟩
 refine X.skip (X.seq (X.region (cX (XOp.loadN [v1] isAgg26 sizeOf26 rfl rfl (Rd.ownN [] rfl rfl) (cX (XOp.storeN [_, _] _ [v1] sizeOf26 rfl rfl rfl (ones_cons (one_sl (isSl_lit hv1)) ones_nil) rfl rfl rfl (XL.nil (X.ret (retEnd (L' := drawnH 2 v1 (fun ar => sigOk ar = true) :: curH .i64 134 cb bsv bs.length :: L) [.agg #[v1]] (.agg #[v1]) (.cell rfl (loadNV [v1] isAgg26 sizeOf26 rfl (Rd.ownN [_, _] rfl rfl)) .nil) rfl rF rF (Sub.trans (sD (sC (sD (sC sR)))) (Sub.keep (drawnH.of (t := [2, 1, 0]) ((by decide))) sR)) ?_)))))))))
 exact ⟨_, ⟨rfl, (isSl_lit hv1)⟩, rfl⟩

/- spec.l1DrawSigAny -/
theorem l1DrawSigAny_spec {F : FH} {L : List HP} {cb : Nat} {bsv : Value} {bs : List Int} (hbs : BytesF F bsv bs) (hbl : bs.length ≤ 4000000) :
    Does prog 131 [ptr cb 0] F (curH .i64 134 cb bsv bs.length :: L) (fun v F' L' => (∃ (a : Value), ∃ (ar : List Int), (.agg #[a] : Value) = v ∧ (IntsF F' a ar) ∧ (ar.length ≤ 20)) ∧ curH .i64 134 cb bsv bs.length :: L = L') := by
 refine Does.of_X func131 rfl rfl rfl (X.seq (X.region (cX (XOp.alloc [(.slice none 0 0)] zeroValue26 rfl ?_))))
 intro b1
 refine XL.nil (X.seq (X.region (XL.mv (ptr cb 0) rfl (cX (XOp.call (args := [ptr cb 0]) call183 rfl (Does.atO [_] (l1DrawSig_spec hbs (by omega))) ?_)))))
 rintro _ F1 _ le1 ⟨x2, ⟨rfl, hsl1⟩, rfl⟩
 replace hbs := hbs.mono le1
 show XL _ _ _ _ _ _ _ (drawnH 2 x2 (fun ar => sigOk ar = true) :: cellsH b1 [(.slice none 0 0)] 26 :: curH .i64 134 cb bsv bs.length :: L)
 refine XL.undraw [] rfl (fun t1 hq9 => ?_)
 have q1 := hq9
 show XL _ _ _ _ _ _ _ (intsH 2 x2 t1 :: cellsH b1 [(.slice none 0 0)] 26 :: curH .i64 134 cb bsv bs.length :: L)
 have hsl9 := sigOk_spec q1
 refine cX (XOp.alloc [(.slice none 0 0)] zeroValue26 rfl ?_)
 intro b2
 refine cX (XOp.storeN [] _ [x2] sizeOf26 rfl rfl rfl (ones_cons (one_sl hsl1) ones_nil) rfl rfl rfl (XL.nil (X.seq (X.seq (X.region (XL.mv (ptr cb 0) rfl (cX (XOp.call (args := [ptr cb 0, .int .i64 (15)]) call120 rfl (Does.at [_, _, _] (l1Once_spec (n := 15) hbs (by omega) (hn := (by first | assumption | rfl | omega | simp)))) ?_))))))))
 rintro _ _ _ _ ⟨⟨rfl, x3, rfl⟩, rfl⟩
 show XL _ _ _ _ _ _ _ (cellsH b2 [x2] 26 :: intsH 2 x2 t1 :: cellsH b1 [(.slice none 0 0)] 26 :: curH .i64 134 cb bsv bs.length :: L)
 refine XL.nil ?_
 refine X.cond (t := x3) rfl (fun h1 => ?_) (fun h1 => ?_)
 ·refine X.seq (X.region (XL.mv (ptr cb 0) rfl (cX (XOp.call (args := [ptr cb 0, .int .i64 (3)]) call122 rfl (Does.at [_, _, _] (l1Below_spec (n := 3) hbs (by omega) (hn := (by first | assumption | rfl | omega | simp)))) ?_))))
  rintro _ _ _ _ ⟨⟨rfl, x4, rfl, hr1⟩, rfl⟩
  show XL _ _ _ _ _ _ _ (cellsH b2 [x2] 26 :: intsH 2 x2 t1 :: cellsH b1 [(.slice none 0 0)] 26 :: curH .i64 134 cb bsv bs.length :: L)
  refine XL.nil (X.block (X.seq (X.region (cX (XOp.eql rfl rfl (XL.as (.bool (decide ((x4 : Int) = 0))) rfl (XL.nil ?_)))))))
  refine X.condD (p := (x4 : Int) = 0) rfl (fun h2 => ?_) (fun h2 => ?_)
  ·refine X.drawG [cellsH b2 [x2] 26, intsH 2 x2 t1, cellsH b1 [(.slice none 0 0)] 26, curH .i64 134 cb bsv bs.length] L 5 [[], [], [], [], [3]] [[], [0], [], [2], [3]] [[], [], [], [], []] (phiG [fun FF us v => v = ptr b2 0, fun FF us v => v = x2, fun FF us v => v = ptr cb 0, fun FF us v => (.int .i64 (((intAt v))) : Value) = v ∧ ((-1) ≤ ((intAt v)) ∧ (((intAt v)) ≤ 4 ∨ ((intAt v)) = (-1))), fun FF us v => ∃ b, v = .slice (some ⟨b, 0, none⟩) 1 1]) (ownL [fun us v => [], fun us v => [], fun us v => [], fun us v => [], fun us v => [slH 2 1 v 1 [.int .i64 (((intAt (us.getD 0 undef))))]]]) mixed rfl rfl (by kernel_rfl) (by kernel_rfl) (MonoG.get (mC (fun le h => h) (mC (fun le h => h) (mC (fun le h => h) (mC (fun le h => ⟨h.1, h.2⟩) (mC (fun le h => h) MonoG.nil)))))) ?_ ?_
   ·refine gC (fun vals Fs R leFs hpZ => ?_) ?_
    ·refine XG.op (XOp.fieldP (0) runUnderlying26 rfl sizeOf24 (by decide) rfl rfl ?_)
     exact ⟨rfl, rfl⟩
    refine gC (fun vals Fs R leFs hpZ => ?_) ?_
    ·replace hbs := hbs.mono leFs
     rw [eS (l := [(0, ptr b2 0)]) ⟨(hpZ 0 (by decide)), trivial⟩]
     refine XG.op (XOp.load1 isAgg24 rfl (Rd.own [] rfl rfl) ?_)
     exact ⟨rfl, rfl⟩
    refine gC (fun vals Fs R leFs hpZ => ?_) ?_
    ·refine XG.op (XOp.move (ptr cb 0) rfl ?_)
     exact ⟨rfl, rfl⟩
    refine gC (fun vals Fs R leFs hpZ => ?_) ?_
    ·replace hbs := hbs.mono leFs
     rw [eS (l := [(2, ptr cb 0)]) ⟨(hpZ 2 (by decide)), trivial⟩]
     refine XG.op (XOp.call (args := [ptr cb 0, .int .i64 (-1), .int .i64 (4)]) call160 rfl (Does.at [_, _, _] (l1From_spec (lo := -1) (hi := 4) hbs (by omega) (hlo := (by first | assumption | rfl | omega | simp)))) ?_)
     rintro _ _ _ _ ⟨⟨rfl, x6, rfl, hr3⟩, rfl⟩
     exact ⟨⟨rfl, hr3⟩, rfl⟩
    refine gC (fun vals Fs R leFs hpZ => ?_) ?_
    ·obtain ⟨e3, f3_1hx⟩ := hpZ 3 (by decide)
     replace hbs := hbs.mono leFs
     rw [eS (l := [(3, (.int .i64 (((intAt (vals 3)))) : Value))]) ⟨(e3).symm, trivial⟩]
     refine XG.op (XOp.buildSlice (s := 1) [.int .i64 (((intAt (vals 3))))] [.int .i64 (0)] [(0, [.int .i64 (((intAt (vals 3))))])] runUnderlying24 sizeOf2 zeroValue2 rfl (by decide) rfl (.cons rfl CellsAre.nil) rfl ?_)
     intro v2 hv2
     exact ⟨hv2, rfl⟩
    exact stepsG.nil
   intro vals F6 le6 hphi
   obtain ⟨e3, f3_1hx⟩ := hphi 3 (by decide)
   have f4 : ∃ b, (vals 4) = .slice (some ⟨b, 0, none⟩) 1 1 := hphi 4 (by decide)
   generalize hu1 : (intAt (vals 3)) = u1 at e3 f3_1hx f4
   generalize hu4 : vals 4 = u2 at e3 f3_1hx f4
   rw [eS (l := [(1, x2), (3, (.int .i64 ((u1)) : Value)), (4, u2)]) ⟨(hphi 1 (by decide)), (e3).symm, hu4, trivial⟩]
   replace hbs := hbs.mono le6
   show XL _ _ _ _ _ _ _ (slH 2 1 u2 1 [.int .i64 ((u1))] :: cellsH b2 [x2] 26 :: intsH 2 x2 t1 :: cellsH b1 [(.slice none 0 0)] 26 :: curH .i64 134 cb bsv bs.length :: L)
   refine cX (XOp.append1 (u := (u1)) [_, _] _ runUnderlying24 typeInfo2 rfl rfl rfl rfl rfl rfl (SlV.own [] rfl) (Rd.sl [] rfl rfl) (by (try simp only [List.length_append, List.length_nil, List.length_cons, List.length_singleton, List.length_take, List.length_drop]); omega) ?_)
   intro v3 hs1 hn1
   refine cX (XOp.fieldP (0) runUnderlying26 rfl sizeOf24 (by decide) rfl rfl (cX (XOp.store1 [_] _ [v3] sizeOf24 rfl rfl (one_sl hs1) rfl rfl rfl (XL.nil (X.seq (X.region (cX (XOp.loadN [v3] isAgg26 sizeOf26 rfl rfl (Rd.ownN [_] rfl rfl) (cX (XOp.storeN [_, _, _] _ [v3] sizeOf26 rfl rfl rfl (ones_cons (one_sl hs1) ones_nil) rfl rfl rfl (XL.nil (X.freezeF [_, _] _ _ rfl (fun F7 le7 hz1 => ?_)))))))))))))
   replace hbs := hbs.mono le7
   have hf1 : IntsF F7 v3 (t1 ++ [(u1)]) := intsH.fz (xs := t1 ++ [(u1)]) hz1.fz
   refine X.ret (retEnd (L' := curH .i64 134 cb bsv bs.length :: L) [.agg #[v3]] (.agg #[v3]) (.cell rfl (loadNV [v3] isAgg26 sizeOf26 rfl (Rd.ownN [_, _] rfl rfl)) .nil) rfl (FLe.trans (FLe.trans le1 le6) le7) rF (sD (sD (sD (sC sR)))) ?_)
   exact ⟨⟨_, _, rfl, hf1, by (have h9 := sigOk_spec q1); (try simp only [List.length_append, List.length_cons, List.length_nil, List.length_replicate]); omega⟩, rfl⟩
  refine X.seq (X.region (cX (XOp.eql rfl rfl (XL.as (.bool (decide ((x4 : Int) = 1))) rfl (XL.nil ?_)))))
  refine X.condD (p := (x4 : Int) = 1) rfl (fun h3 => ?_) (fun h3 => ?_)
  ·refine X.region (cX (XOp.buildSlice (s := 1) [] [.int .i64 (0)] [] runUnderlying24 sizeOf2 zeroValue2 rfl (by decide) rfl CellsAre.nil rfl ?_))
   intro v4 hv3
   refine cX (XOp.fieldP (0) runUnderlying26 rfl sizeOf24 (by decide) rfl rfl (cX (XOp.store1 [_] _ [v4] sizeOf24 rfl rfl (one_sl (isSl_lit hv3)) rfl rfl rfl (XL.nil (X.seq (X.region (cX (XOp.loadN [v4] isAgg26 sizeOf26 rfl rfl (Rd.ownN [_] rfl rfl) (cX (XOp.storeN [_, _, _] _ [v4] sizeOf26 rfl rfl rfl (ones_cons (one_sl (isSl_lit hv3)) ones_nil) rfl rfl rfl (XL.nil ?_)))))))))))
   show X _ _ _ _ _ _ (intsH 2 v4 ([] : List Int) :: cellsH b2 [v4] 26 :: intsH 2 x2 t1 :: cellsH b1 [v4] 26 :: curH .i64 134 cb bsv bs.length :: L)
   refine X.freezeF [] _ _ rfl (fun F8 le8 hz2 => ?_)
   replace hbs := hbs.mono le8
   have hf2 : IntsF F8 v4 ([]) := intsH.fz (xs := []) hz2.fz
   refine X.ret (retEnd (L' := curH .i64 134 cb bsv bs.length :: L) [.agg #[v4]] (.agg #[v4]) (.cell rfl (loadNV [v4] isAgg26 sizeOf26 rfl (Rd.ownN [_, _] rfl rfl)) .nil) rfl (FLe.trans le1 le8) rF (sD (sD (sD (sC sR)))) ?_)
   exact ⟨⟨_, _, rfl, hf2, by (have h9 := sigOk_spec q1); (try simp only [List.length_append, List.length_cons, List.length_nil, List.length_replicate]); omega⟩, rfl⟩
  refine X.seq (X.region (cX (XOp.eql rfl rfl (XL.as (.bool (decide ((x4 : Int) = 2))) rfl (XL.nil ?_)))))
  refine X.condD (p := (x4 : Int) = 2) rfl (fun h4 => ?_) (fun h4 => ?_)
  ·refine X.region (XL.mv (ptr cb 0) rfl (cX (XOp.call (args := [ptr cb 0, .int .i64 (2)]) call122 rfl (Does.at [_, _, _] (l1Below_spec (n := 2) hbs (by omega) (hn := (by first | assumption | rfl | omega | simp)))) ?_)))
   rintro _ _ _ _ ⟨⟨rfl, x7, rfl, hr4⟩, rfl⟩
   show XL _ _ _ _ _ _ _ (cellsH b2 [x2] 26 :: intsH 2 x2 t1 :: cellsH b1 [(.slice none 0 0)] 26 :: curH .i64 134 cb bsv bs.length :: L)
   refine cX (XOp.addR (((8 + (x7).toNat : Nat) : Int)) rfl rfl (by omega) (by omega) (cX (XOp.makeSlice (n := 8 + (x7).toNat) (bytes := 8) [.int .i64 (0)] runUnderlying24 sizeOf2 typeInfo2 rfl zeroValue2 rfl rfl rfl rfl (by omega) (by omega) ?_)))
   intro v5 hv4
   rw [intsH_zeros]
   refine cX (XOp.fieldP (0) runUnderlying26 rfl sizeOf24 (by decide) rfl rfl (cX (XOp.store1 [_] _ [v5] sizeOf24 rfl rfl (one_sl (isSl_lit hv4)) rfl rfl rfl (XL.nil (X.seq (X.region (cX (XOp.loadN [v5] isAgg26 sizeOf26 rfl rfl (Rd.ownN [_] rfl rfl) (cX (XOp.storeN [_, _, _] _ [v5] sizeOf26 rfl rfl rfl (ones_cons (one_sl (isSl_lit hv4)) ones_nil) rfl rfl rfl (XL.nil (X.freezeF [] _ _ rfl (fun F10 le10 hz3 => ?_)))))))))))))
   have hf3 : IntsF F10 v5 ((List.replicate (8 + (x7).toNat) 0)) := intsH.fz (xs := (List.replicate (8 + (x7).toNat) 0)) hz3.fz
   refine X.ret (retEnd (L' := curH .i64 134 cb bsv bs.length :: L) [.agg #[v5]] (.agg #[v5]) (.cell rfl (loadNV [v5] isAgg26 sizeOf26 rfl (Rd.ownN [_, _] rfl rfl)) .nil) rfl (FLe.trans le1 le10) rF (sD (sD (sD (sC sR)))) ?_)
   exact ⟨⟨_, _, rfl, hf3, by (have h9 := sigOk_spec q1); (try simp only [List.length_append, List.length_cons, List.length_nil, List.length_replicate]); omega⟩, rfl⟩
  refine X.skip (X.seq (X.region (cX (XOp.loadN [x2] isAgg26 sizeOf26 rfl rfl (Rd.ownN [] rfl rfl) (cX (XOp.storeN [_, _] _ [x2] sizeOf26 rfl rfl rfl (ones_cons (one_sl hsl1) ones_nil) rfl rfl rfl (XL.nil (X.freezeF [_] _ _ rfl (fun F11 le11 hz4 => ?_)))))))))
  have hf4 : IntsF F11 x2 t1 := intsH.fz (xs := t1) hz4.fz
  refine X.ret (retEnd (L' := curH .i64 134 cb bsv bs.length :: L) [.agg #[x2]] (.agg #[x2]) (.cell rfl (loadNV [x2] isAgg26 sizeOf26 rfl (Rd.ownN [_] rfl rfl)) .nil) rfl (FLe.trans le1 le11) rF (sD (sD (sC sR))) ?_)
  exact ⟨⟨_, _, rfl, hf4, by (have h9 := sigOk_spec q1); (try simp only [List.length_append, List.length_cons, List.length_nil, List.length_replicate]); omega⟩, rfl⟩
 refine X.skip (X.seq (X.region (cX (XOp.loadN [x2] isAgg26 sizeOf26 rfl rfl (Rd.ownN [] rfl rfl) (cX (XOp.storeN [_, _] _ [x2] sizeOf26 rfl rfl rfl (ones_cons (one_sl hsl1) ones_nil) rfl rfl rfl (XL.nil (X.freezeF [_] _ _ rfl (fun F12 le12 hz5 => ?_)))))))))
 have hf5 : IntsF F12 x2 t1 := intsH.fz (xs := t1) hz5.fz
 refine X.ret (retEnd (L' := curH .i64 134 cb bsv bs.length :: L) [.agg #[x2]] (.agg #[x2]) (.cell rfl (loadNV [x2] isAgg26 sizeOf26 rfl (Rd.ownN [_] rfl rfl)) .nil) rfl (FLe.trans le1 le12) rF (sD (sD (sC sR))) ?_)
 exact ⟨⟨_, _, rfl, hf5, by (have h9 := sigOk_spec q1); (try simp only [List.length_append, List.length_cons, List.length_nil, List.length_replicate]); omega⟩, rfl⟩

/- spec.l1DrawTerm -/
theorem l1DrawTerm_spec_step {dp : Nat} (ih : ∀ m : Nat, m < dp → ∀ {F : FH} {L : List HP} {cb : Nat} {bsv : Value} {bs : List Int} (hbs : BytesF F bsv bs) (hbl : bs.length ≤ 4000000) {arv : Value} {ar : List Int} (har : IntsF F arv ar) {vs : Int} (hso : sigOk ar = true) (hdp : m ≤ 5) (hvs : 0 ≤ vs ∧ vs ≤ 24), Does prog 174 [ptr cb 0, .agg #[arv], .int .i64 ((m : Int)), .int .i64 (vs)] F (curH .i64 134 cb bsv bs.length :: L) (fun v F' L' => ∃ a : Value, ((a : Value) = v ∧ IsSl a) ∧ drawnH 2 a (fun t => goodT ar t ∧ 1 ≤ t.length ∧ t.length ≤ szT m) :: curH .i64 134 cb bsv bs.length :: L = L')) {F : FH} {L : List HP} {cb : Nat} {bsv : Value} {bs : List Int} (hbs : BytesF F bsv bs) (hbl : bs.length ≤ 4000000) {arv : Value} {ar : List Int} (har : IntsF F arv ar) {vs : Int} (hso : sigOk ar = true) (hdp : dp ≤ 5) (hvs : 0 ≤ vs ∧ vs ≤ 24) :
    Does prog 174 [ptr cb 0, .agg #[arv], .int .i64 (((dp : Nat) : Int)), .int .i64 (vs)] F (curH .i64 134 cb bsv bs.length :: L) (fun v F' L' => ∃ a : Value, ((a : Value) = v ∧ IsSl a) ∧ drawnH 2 a (fun t => goodT ar t ∧ 1 ≤ t.length ∧ t.length ≤ szT dp) :: curH .i64 134 cb bsv bs.length :: L = L') := by
 refine Does.of_X func174 rfl rfl rfl ?_
 have hz9 := szT_le (d := dp - 1) (e := 4) (by omega)
 have hz8 : szT 4 = 121 := rfl
 have hz7 := szT_pos (dp - 1)
 have hsl := sigOk_spec hso
 refine X.seq (X.region (cX (XOp.box [arv] rfl rfl ?_)))
 intro b1
 refine XL.as ((.slice none 0 0)) rfl (XL.nil (X.seq (X.seq (X.region (XL.mv (.int .i64 (((dp : Nat) : Int))) rfl (cX (XOp.leq rfl rfl (XL.mv (.bool (decide ((((dp : Nat) : Int) : Int) ≤ 1))) rfl ?_))))))))
 by_cases h1 : (((dp : Nat) : Int) : Int) ≤ 1
 ·refine XL.no (t := 15) rfl (vT h1) (XL.no (t := 15) rfl (vT h1) (cX (XOp.pickT (.bool (true)) (vT h1) rfl (XL.nil (X.condT rfl (X.seq (X.seq (X.region (XL.mv (.int .i64 (vs)) rfl (cX (XOp.gtr rfl rfl (XL.mv (.bool (decide ((vs : Int) > 0))) rfl ?_))))))))))))
  by_cases h2 : (vs : Int) > 0
  ·refine XL.yes (t := 21) rfl (vT h2) (XOp.move (ptr cb 0) rfl (XL.yes (t := 21) rfl (vT h2) (XOp.call (args := [ptr cb 0, .int .i64 (2)]) call120 rfl (Does.at [_] (l1Once_spec (n := 2) hbs (by omega) (hn := (by first | assumption | rfl | omega | simp)))) ?_)))
   rintro _ _ _ _ ⟨⟨rfl, x1, rfl⟩, rfl⟩
   show XL _ _ _ _ _ _ _ (cellsH b1 [arv] 26 :: curH .i64 134 cb bsv bs.length :: L)
   refine cX (XOp.pickT (.bool (x1)) (vT h2) rfl (XL.nil ?_))
   refine X.cond (t := x1) rfl (fun h3 => ?_) (fun h3 => ?_)
   ·refine X.seq (X.region (XL.mv (ptr cb 0) rfl (XL.mv (.int .i64 (vs)) rfl (cX (XOp.call (args := [ptr cb 0, .int .i64 (vs)]) call122 rfl (Does.at [_] (l1Below_spec (n := vs) hbs (by omega) (hn := (by first | assumption | rfl | omega | simp)))) ?_)))))
    rintro _ _ _ _ ⟨⟨rfl, x2, rfl, hr1⟩, rfl⟩
    show XL _ _ _ _ _ _ _ (cellsH b1 [arv] 26 :: curH .i64 134 cb bsv bs.length :: L)
    refine cX (XOp.subR ((-1) - x2) rfl rfl (by omega) (by omega) (cX (XOp.buildSlice (s := 1) [.int .i64 ((-1) - x2)] [.int .i64 (0)] [(0, [.int .i64 ((-1) - x2)])] runUnderlying24 sizeOf2 zeroValue2 rfl (by decide) rfl (.cons rfl CellsAre.nil) rfl ?_)))
    intro v1 hv1
    refine XL.as (v1) rfl (XL.nil (X.ret (thenQ_ret (thenQ_ret (retEnd (L' := drawnH 2 v1 (fun t => goodT ar t ∧ 1 ≤ t.length ∧ t.length ≤ szT dp) :: curH .i64 134 cb bsv bs.length :: L) [v1] (v1) (.tmp rfl .nil) rfl rF rF (Sub.trans (sC (sD (sC sR))) (Sub.keep (drawnH.of (t := [(-1) - x2]) (⟨goodT.var (by omega) (by omega), Nat.le_refl _, szT_pos dp⟩)) sR)) ?_)))))
    exact ⟨_, ⟨rfl, (isSl_lit hv1)⟩, rfl⟩
   refine X.skip (X.seq (X.seq (X.region (cX (XOp.fieldP (0) runUnderlying26 rfl sizeOf24 (by decide) rfl rfl (cX (XOp.load1 isAgg24 rfl (Rd.own [] rfl rfl) (cX (XOp.lenS runUnderlying24 rfl har.slv (cX (XOp.subR (((((ar).length) - 1 : Nat) : Int)) rfl rfl (by omega) (by omega) (XL.as (.int .i64 (((((ar).length) - 1 : Nat) : Int))) rfl (XL.nil (X.block (X.loop (α := Nat) (fun j => [(5, ptr b1 0), (9, .int .i64 ((j : Int) - 1))]) (fun j => cellsH b1 [arv] 26 :: curH .i64 134 cb bsv bs.length :: L) (fun j F' => F = F' ∧ (j ≤ ar.length)) (fun j => j) ar.length ⟨rfl, (vI (by omega)), trivial⟩ (sC (sC sR)) ⟨rfl, (Nat.le_refl _)⟩ ?_)))))))))))))))
   rintro j rE _ _ ⟨rfl, hj⟩
   show X _ _ _ _ (envs [(5, ptr b1 0), (9, .int .i64 ((j : Int) - 1))] rE) _ (cellsH b1 [arv] 26 :: curH .i64 134 cb bsv bs.length :: L)
   refine X.seq (X.seq (X.region (XL.mv (.int .i64 ((j : Int) - 1)) rfl (cX (XOp.geq rfl rfl (XL.nil ?_))))))
   refine X.condD (p := ((j : Int) - 1 : Int) ≥ 0) rfl (fun h4 => ?_) (fun h4 => ?_)
   ·refine X.skip (X.seq (X.block (X.seq (X.region (cX (XOp.fieldP (0) runUnderlying26 rfl sizeOf24 (by decide) rfl rfl (cX (XOp.load1 isAgg24 rfl (Rd.own [] rfl rfl) (XL.mv (.int .i64 ((j : Int) - 1)) rfl (cX (XOp.indexS (((j : Int) - 1).toNat) runUnderlying24 sizeOf2 rfl rfl (by omega) har.slv (by omega) (Nat.mul_one _) (cX (XOp.load1 isAgg2 rfl (har.rd (by omega)) (cX (XOp.eql rfl rfl (XL.nil ?_))))))))))))))))
    refine X.condD (p := (ar.getD (((j : Int) - 1).toNat) 0 : Int) = 0) rfl (fun h5 => ?_) (fun h5 => ?_)
    ·refine X.seq (X.region (XL.mv (.int .i64 ((j : Int) - 1)) rfl (cX (XOp.buildSlice (s := 1) [.int .i64 ((j : Int) - 1)] [.int .i64 (0)] [(0, [.int .i64 ((j : Int) - 1)])] runUnderlying24 sizeOf2 zeroValue2 rfl (by decide) rfl (.cons rfl CellsAre.nil) rfl ?_))))
     intro v2 hv2
     refine XL.as (v2) rfl (XL.nil (X.ret (blockQ_ret (thenQ_ret (thenQ_ret (blockQ_ret (thenQ_ret (thenQ_ret (retEnd (L' := drawnH 2 v2 (fun t => goodT ar t ∧ 1 ≤ t.length ∧ t.length ≤ szT dp) :: curH .i64 134 cb bsv bs.length :: L) [v2] (v2) (.tmp rfl .nil) rfl rF rF (Sub.trans (sC (sD (sC sR))) (Sub.keep (drawnH.of (t := [(j : Int) - 1]) (⟨goodT.one (by omega) (by omega) (by rw [arity, if_neg (by omega)]; omega), Nat.le_refl _, szT_pos dp⟩)) sR)) ?_)))))))))
     exact ⟨_, ⟨rfl, (isSl_lit hv2)⟩, rfl⟩
    refine X.skip (X.region (XL.mv (.int .i64 ((j : Int) - 1)) rfl (cX (XOp.subR (((j : Int) - 1) - 1) rfl rfl (by omega) (by omega) (XL.as (.int .i64 (((j : Int) - 1) - 1)) rfl (XL.nil ?_))))))
    exact ⟨j - 1, _, FLe.refl _, rF, ⟨rfl, (vI (by (try dsimp only); omega)), trivial⟩, (sC (sC sR)), ⟨rfl, (by (try dsimp only) <;> omega)⟩, (by (try dsimp only); omega)⟩
   refine X.exit (thenQ_exit (thenQ_exit (blockQ_exit (X.seq (X.region (cX (XOp.buildSlice (s := 1) [.int .i64 (-1)] [.int .i64 (0)] [(0, [.int .i64 (-1)])] runUnderlying24 sizeOf2 zeroValue2 rfl (by decide) rfl (.cons rfl CellsAre.nil) rfl ?_)))))))
   intro v3 hv3
   refine XL.as (v3) rfl (XL.nil (X.ret (thenQ_ret (retEnd (L' := drawnH 2 v3 (fun t => goodT ar t ∧ 1 ≤ t.length ∧ t.length ≤ szT dp) :: curH .i64 134 cb bsv bs.length :: L) [v3] (v3) (.tmp rfl .nil) rfl rF rF (Sub.trans (sC (sD (sC sR))) (Sub.keep (drawnH.of (t := [-1]) (⟨goodT.var (by omega) (by omega), Nat.le_refl _, szT_pos dp⟩)) sR)) ?_))))
   exact ⟨_, ⟨rfl, (isSl_lit hv3)⟩, rfl⟩
  refine XL.no (t := 21) rfl (vF h2) (XL.no (t := 21) rfl (vF h2) (cX (XOp.pickF (.bool (false)) (vF h2) rfl (XL.nil (X.condF rfl (X.skip (X.seq (X.seq (X.region (cX (XOp.fieldP (0) runUnderlying26 rfl sizeOf24 (by decide) rfl rfl (cX (XOp.load1 isAgg24 rfl (Rd.own [] rfl rfl) (cX (XOp.lenS runUnderlying24 rfl har.slv (cX (XOp.subR (((((ar).length) - 1 : Nat) : Int)) rfl rfl (by omega) (by omega) ?_)))))))))))))))))
  refine XL.as (.int .i64 (((((ar).length) - 1 : Nat) : Int))) rfl (XL.nil (X.block (X.loop (α := Nat) (fun j => [(5, ptr b1 0), (9, .int .i64 ((j : Int) - 1))]) (fun j => cellsH b1 [arv] 26 :: curH .i64 134 cb bsv bs.length :: L) (fun j F' => F = F' ∧ (j ≤ ar.length)) (fun j => j) ar.length ⟨rfl, (vI (by omega)), trivial⟩ (sC (sC sR)) ⟨rfl, (Nat.le_refl _)⟩ ?_)))
  rintro j rE _ _ ⟨rfl, hj⟩
  show X _ _ _ _ (envs [(5, ptr b1 0), (9, .int .i64 ((j : Int) - 1))] rE) _ (cellsH b1 [arv] 26 :: curH .i64 134 cb bsv bs.length :: L)
  refine X.seq (X.seq (X.region (XL.mv (.int .i64 ((j : Int) - 1)) rfl (cX (XOp.geq rfl rfl (XL.nil ?_))))))
  refine X.condD (p := ((j : Int) - 1 : Int) ≥ 0) rfl (fun h6 => ?_) (fun h6 => ?_)
  ·refine X.skip (X.seq (X.block (X.seq (X.region (cX (XOp.fieldP (0) runUnderlying26 rfl sizeOf24 (by decide) rfl rfl (cX (XOp.load1 isAgg24 rfl (Rd.own [] rfl rfl) (XL.mv (.int .i64 ((j : Int) - 1)) rfl (cX (XOp.indexS (((j : Int) - 1).toNat) runUnderlying24 sizeOf2 rfl rfl (by omega) har.slv (by omega) (Nat.mul_one _) (cX (XOp.load1 isAgg2 rfl (har.rd (by omega)) (cX (XOp.eql rfl rfl (XL.nil ?_))))))))))))))))
   refine X.condD (p := (ar.getD (((j : Int) - 1).toNat) 0 : Int) = 0) rfl (fun h7 => ?_) (fun h7 => ?_)
   ·refine X.seq (X.region (XL.mv (.int .i64 ((j : Int) - 1)) rfl (cX (XOp.buildSlice (s := 1) [.int .i64 ((j : Int) - 1)] [.int .i64 (0)] [(0, [.int .i64 ((j : Int) - 1)])] runUnderlying24 sizeOf2 zeroValue2 rfl (by decide) rfl (.cons rfl CellsAre.nil) rfl ?_))))
    intro v4 hv4
    refine XL.as (v4) rfl (XL.nil (X.ret (blockQ_ret (thenQ_ret (thenQ_ret (blockQ_ret (thenQ_ret (thenQ_ret (retEnd (L' := drawnH 2 v4 (fun t => goodT ar t ∧ 1 ≤ t.length ∧ t.length ≤ szT dp) :: curH .i64 134 cb bsv bs.length :: L) [v4] (v4) (.tmp rfl .nil) rfl rF rF (Sub.trans (sC (sD (sC sR))) (Sub.keep (drawnH.of (t := [(j : Int) - 1]) (⟨goodT.one (by omega) (by omega) (by rw [arity, if_neg (by omega)]; omega), Nat.le_refl _, szT_pos dp⟩)) sR)) ?_)))))))))
    exact ⟨_, ⟨rfl, (isSl_lit hv4)⟩, rfl⟩
   refine X.skip (X.region (XL.mv (.int .i64 ((j : Int) - 1)) rfl (cX (XOp.subR (((j : Int) - 1) - 1) rfl rfl (by omega) (by omega) (XL.as (.int .i64 (((j : Int) - 1) - 1)) rfl (XL.nil ?_))))))
   exact ⟨j - 1, _, FLe.refl _, rF, ⟨rfl, (vI (by (try dsimp only); omega)), trivial⟩, (sC (sC sR)), ⟨rfl, (by (try dsimp only) <;> omega)⟩, (by (try dsimp only); omega)⟩
  refine X.exit (thenQ_exit (thenQ_exit (blockQ_exit (X.seq (X.region (cX (XOp.buildSlice (s := 1) [.int .i64 (-1)] [.int .i64 (0)] [(0, [.int .i64 (-1)])] runUnderlying24 sizeOf2 zeroValue2 rfl (by decide) rfl (.cons rfl CellsAre.nil) rfl ?_)))))))
  intro v5 hv5
  refine XL.as (v5) rfl (XL.nil (X.ret (thenQ_ret (retEnd (L' := drawnH 2 v5 (fun t => goodT ar t ∧ 1 ≤ t.length ∧ t.length ≤ szT dp) :: curH .i64 134 cb bsv bs.length :: L) [v5] (v5) (.tmp rfl .nil) rfl rF rF (Sub.trans (sC (sD (sC sR))) (Sub.keep (drawnH.of (t := [-1]) (⟨goodT.var (by omega) (by omega), Nat.le_refl _, szT_pos dp⟩)) sR)) ?_))))
  exact ⟨_, ⟨rfl, (isSl_lit hv5)⟩, rfl⟩
 refine XL.yes (t := 15) rfl (vF h1) (XOp.move (ptr cb 0) rfl (XL.yes (t := 15) rfl (vF h1) (XOp.call (args := [ptr cb 0, .int .i64 (4)]) call120 rfl (Does.at [_] (l1Once_spec (n := 4) hbs (by omega) (hn := (by first | assumption | rfl | omega | simp)))) ?_)))
 rintro _ _ _ _ ⟨⟨rfl, x3, rfl⟩, rfl⟩
 show XL _ _ _ _ _ _ _ (cellsH b1 [arv] 26 :: curH .i64 134 cb bsv bs.length :: L)
 refine cX (XOp.pickF (.bool (x3)) (vF h1) rfl (XL.nil ?_))
 refine X.cond (t := x3) rfl (fun h8 => ?_) (fun h8 => ?_)
 ·refine X.seq (X.seq (X.region (XL.mv (.int .i64 (vs)) rfl (cX (XOp.gtr rfl rfl (XL.mv (.bool (decide ((vs : Int) > 0))) rfl ?_))))))
  by_cases h9 : (vs : Int) > 0
  ·refine XL.yes (t := 21) rfl (vT h9) (XOp.move (ptr cb 0) rfl (XL.yes (t := 21) rfl (vT h9) (XOp.call (args := [ptr cb 0, .int .i64 (2)]) call120 rfl (Does.at [_] (l1Once_spec (n := 2) hbs (by omega) (hn := (by first | assumption | rfl | omega | simp)))) ?_)))
   rintro _ _ _ _ ⟨⟨rfl, x4, rfl⟩, rfl⟩
   show XL _ _ _ _ _ _ _ (cellsH b1 [arv] 26 :: curH .i64 134 cb bsv bs.length :: L)
   refine cX (XOp.pickT (.bool (x4)) (vT h9) rfl (XL.nil ?_))
   refine X.cond (t := x4) rfl (fun h10 => ?_) (fun h10 => ?_)
   ·refine X.seq (X.region (XL.mv (ptr cb 0) rfl (XL.mv (.int .i64 (vs)) rfl (cX (XOp.call (args := [ptr cb 0, .int .i64 (vs)]) call122 rfl (Does.at [_] (l1Below_spec (n := vs) hbs (by omega) (hn := (by first | assumption | rfl | omega | simp)))) ?_)))))
    rintro _ _ _ _ ⟨⟨rfl, x5, rfl, hr2⟩, rfl⟩
    show XL _ _ _ _ _ _ _ (cellsH b1 [arv] 26 :: curH .i64 134 cb bsv bs.length :: L)
    refine cX (XOp.subR ((-1) - x5) rfl rfl (by omega) (by omega) (cX (XOp.buildSlice (s := 1) [.int .i64 ((-1) - x5)] [.int .i64 (0)] [(0, [.int .i64 ((-1) - x5)])] runUnderlying24 sizeOf2 zeroValue2 rfl (by decide) rfl (.cons rfl CellsAre.nil) rfl ?_)))
    intro v6 hv6
    refine XL.as (v6) rfl (XL.nil (X.ret (thenQ_ret (thenQ_ret (retEnd (L' := drawnH 2 v6 (fun t => goodT ar t ∧ 1 ≤ t.length ∧ t.length ≤ szT dp) :: curH .i64 134 cb bsv bs.length :: L) [v6] (v6) (.tmp rfl .nil) rfl rF rF (Sub.trans (sC (sD (sC sR))) (Sub.keep (drawnH.of (t := [(-1) - x5]) (⟨goodT.var (by omega) (by omega), Nat.le_refl _, szT_pos dp⟩)) sR)) ?_)))))
    exact ⟨_, ⟨rfl, (isSl_lit hv6)⟩, rfl⟩
   refine X.skip (X.seq (X.seq (X.region (cX (XOp.fieldP (0) runUnderlying26 rfl sizeOf24 (by decide) rfl rfl (cX (XOp.load1 isAgg24 rfl (Rd.own [] rfl rfl) (cX (XOp.lenS runUnderlying24 rfl har.slv (cX (XOp.subR (((((ar).length) - 1 : Nat) : Int)) rfl rfl (by omega) (by omega) (XL.as (.int .i64 (((((ar).length) - 1 : Nat) : Int))) rfl (XL.nil (X.block (X.loop (α := Nat) (fun j => [(5, ptr b1 0), (9, .int .i64 ((j : Int) - 1))]) (fun j => cellsH b1 [arv] 26 :: curH .i64 134 cb bsv bs.length :: L) (fun j F' => F = F' ∧ (j ≤ ar.length)) (fun j => j) ar.length ⟨rfl, (vI (by omega)), trivial⟩ (sC (sC sR)) ⟨rfl, (Nat.le_refl _)⟩ ?_)))))))))))))))
   rintro j rE _ _ ⟨rfl, hj⟩
   show X _ _ _ _ (envs [(5, ptr b1 0), (9, .int .i64 ((j : Int) - 1))] rE) _ (cellsH b1 [arv] 26 :: curH .i64 134 cb bsv bs.length :: L)
   refine X.seq (X.seq (X.region (XL.mv (.int .i64 ((j : Int) - 1)) rfl (cX (XOp.geq rfl rfl (XL.nil ?_))))))
   refine X.condD (p := ((j : Int) - 1 : Int) ≥ 0) rfl (fun h11 => ?_) (fun h11 => ?_)
   ·refine X.skip (X.seq (X.block (X.seq (X.region (cX (XOp.fieldP (0) runUnderlying26 rfl sizeOf24 (by decide) rfl rfl (cX (XOp.load1 isAgg24 rfl (Rd.own [] rfl rfl) (XL.mv (.int .i64 ((j : Int) - 1)) rfl (cX (XOp.indexS (((j : Int) - 1).toNat) runUnderlying24 sizeOf2 rfl rfl (by omega) har.slv (by omega) (Nat.mul_one _) (cX (XOp.load1 isAgg2 rfl (har.rd (by omega)) (cX (XOp.eql rfl rfl (XL.nil ?_))))))))))))))))
    refine X.condD (p := (ar.getD (((j : Int) - 1).toNat) 0 : Int) = 0) rfl (fun h12 => ?_) (fun h12 => ?_)
    ·refine X.seq (X.region (XL.mv (.int .i64 ((j : Int) - 1)) rfl (cX (XOp.buildSlice (s := 1) [.int .i64 ((j : Int) - 1)] [.int .i64 (0)] [(0, [.int .i64 ((j : Int) - 1)])] runUnderlying24 sizeOf2 zeroValue2 rfl (by decide) rfl (.cons rfl CellsAre.nil) rfl ?_))))
     intro v7 hv7
     refine XL.as (v7) rfl (XL.nil (X.ret (blockQ_ret (thenQ_ret (thenQ_ret (blockQ_ret (thenQ_ret (thenQ_ret (retEnd (L' := drawnH 2 v7 (fun t => goodT ar t ∧ 1 ≤ t.length ∧ t.length ≤ szT dp) :: curH .i64 134 cb bsv bs.length :: L) [v7] (v7) (.tmp rfl .nil) rfl rF rF (Sub.trans (sC (sD (sC sR))) (Sub.keep (drawnH.of (t := [(j : Int) - 1]) (⟨goodT.one (by omega) (by omega) (by rw [arity, if_neg (by omega)]; omega), Nat.le_refl _, szT_pos dp⟩)) sR)) ?_)))))))))
     exact ⟨_, ⟨rfl, (isSl_lit hv7)⟩, rfl⟩
    refine X.skip (X.region (XL.mv (.int .i64 ((j : Int) - 1)) rfl (cX (XOp.subR (((j : Int) - 1) - 1) rfl rfl (by omega) (by omega) (XL.as (.int .i64 (((j : Int) - 1) - 1)) rfl (XL.nil ?_))))))
    exact ⟨j - 1, _, FLe.refl _, rF, ⟨rfl, (vI (by (try dsimp only); omega)), trivial⟩, (sC (sC sR)), ⟨rfl, (by (try dsimp only) <;> omega)⟩, (by (try dsimp only); omega)⟩
   refine X.exit (thenQ_exit (thenQ_exit (blockQ_exit (X.seq (X.region (cX (XOp.buildSlice (s := 1) [.int .i64 (-1)] [.int .i64 (0)] [(0, [.int .i64 (-1)])] runUnderlying24 sizeOf2 zeroValue2 rfl (by decide) rfl (.cons rfl CellsAre.nil) rfl ?_)))))))
   intro v8 hv8
   refine XL.as (v8) rfl (XL.nil (X.ret (thenQ_ret (retEnd (L' := drawnH 2 v8 (fun t => goodT ar t ∧ 1 ≤ t.length ∧ t.length ≤ szT dp) :: curH .i64 134 cb bsv bs.length :: L) [v8] (v8) (.tmp rfl .nil) rfl rF rF (Sub.trans (sC (sD (sC sR))) (Sub.keep (drawnH.of (t := [-1]) (⟨goodT.var (by omega) (by omega), Nat.le_refl _, szT_pos dp⟩)) sR)) ?_))))
   exact ⟨_, ⟨rfl, (isSl_lit hv8)⟩, rfl⟩
  refine XL.no (t := 21) rfl (vF h9) (XL.no (t := 21) rfl (vF h9) (cX (XOp.pickF (.bool (false)) (vF h9) rfl (XL.nil (X.condF rfl (X.skip (X.seq (X.seq (X.region (cX (XOp.fieldP (0) runUnderlying26 rfl sizeOf24 (by decide) rfl rfl (cX (XOp.load1 isAgg24 rfl (Rd.own [] rfl rfl) (cX (XOp.lenS runUnderlying24 rfl har.slv (cX (XOp.subR (((((ar).length) - 1 : Nat) : Int)) rfl rfl (by omega) (by omega) ?_)))))))))))))))))
  refine XL.as (.int .i64 (((((ar).length) - 1 : Nat) : Int))) rfl (XL.nil (X.block (X.loop (α := Nat) (fun j => [(5, ptr b1 0), (9, .int .i64 ((j : Int) - 1))]) (fun j => cellsH b1 [arv] 26 :: curH .i64 134 cb bsv bs.length :: L) (fun j F' => F = F' ∧ (j ≤ ar.length)) (fun j => j) ar.length ⟨rfl, (vI (by omega)), trivial⟩ (sC (sC sR)) ⟨rfl, (Nat.le_refl _)⟩ ?_)))
  rintro j rE _ _ ⟨rfl, hj⟩
  show X _ _ _ _ (envs [(5, ptr b1 0), (9, .int .i64 ((j : Int) - 1))] rE) _ (cellsH b1 [arv] 26 :: curH .i64 134 cb bsv bs.length :: L)
  refine X.seq (X.seq (X.region (XL.mv (.int .i64 ((j : Int) - 1)) rfl (cX (XOp.geq rfl rfl (XL.nil ?_))))))
  refine X.condD (p := ((j : Int) - 1 : Int) ≥ 0) rfl (fun h13 => ?_) (fun h13 => ?_)
  ·refine X.skip (X.seq (X.block (X.seq (X.region (cX (XOp.fieldP (0) runUnderlying26 rfl sizeOf24 (by decide) rfl rfl (cX (XOp.load1 isAgg24 rfl (Rd.own [] rfl rfl) (XL.mv (.int .i64 ((j : Int) - 1)) rfl (cX (XOp.indexS (((j : Int) - 1).toNat) runUnderlying24 sizeOf2 rfl rfl (by omega) har.slv (by omega) (Nat.mul_one _) (cX (XOp.load1 isAgg2 rfl (har.rd (by omega)) (cX (XOp.eql rfl rfl (XL.nil ?_))))))))))))))))
   refine X.condD (p := (ar.getD (((j : Int) - 1).toNat) 0 : Int) = 0) rfl (fun h14 => ?_) (fun h14 => ?_)
   ·refine X.seq (X.region (XL.mv (.int .i64 ((j : Int) - 1)) rfl (cX (XOp.buildSlice (s := 1) [.int .i64 ((j : Int) - 1)] [.int .i64 (0)] [(0, [.int .i64 ((j : Int) - 1)])] runUnderlying24 sizeOf2 zeroValue2 rfl (by decide) rfl (.cons rfl CellsAre.nil) rfl ?_))))
    intro v9 hv9
    refine XL.as (v9) rfl (XL.nil (X.ret (blockQ_ret (thenQ_ret (thenQ_ret (blockQ_ret (thenQ_ret (thenQ_ret (retEnd (L' := drawnH 2 v9 (fun t => goodT ar t ∧ 1 ≤ t.length ∧ t.length ≤ szT dp) :: curH .i64 134 cb bsv bs.length :: L) [v9] (v9) (.tmp rfl .nil) rfl rF rF (Sub.trans (sC (sD (sC sR))) (Sub.keep (drawnH.of (t := [(j : Int) - 1]) (⟨goodT.one (by omega) (by omega) (by rw [arity, if_neg (by omega)]; omega), Nat.le_refl _, szT_pos dp⟩)) sR)) ?_)))))))))
    exact ⟨_, ⟨rfl, (isSl_lit hv9)⟩, rfl⟩
   refine X.skip (X.region (XL.mv (.int .i64 ((j : Int) - 1)) rfl (cX (XOp.subR (((j : Int) - 1) - 1) rfl rfl (by omega) (by omega) (XL.as (.int .i64 (((j : Int) - 1) - 1)) rfl (XL.nil ?_))))))
   exact ⟨j - 1, _, FLe.refl _, rF, ⟨rfl, (vI (by (try dsimp only); omega)), trivial⟩, (sC (sC sR)), ⟨rfl, (by (try dsimp only) <;> omega)⟩, (by (try dsimp only); omega)⟩
  refine X.exit (thenQ_exit (thenQ_exit (blockQ_exit (X.seq (X.region (cX (XOp.buildSlice (s := 1) [.int .i64 (-1)] [.int .i64 (0)] [(0, [.int .i64 (-1)])] runUnderlying24 sizeOf2 zeroValue2 rfl (by decide) rfl (.cons rfl CellsAre.nil) rfl ?_)))))))
  intro v10 hv10
  refine XL.as (v10) rfl (XL.nil (X.ret (thenQ_ret (retEnd (L' := drawnH 2 v10 (fun t => goodT ar t ∧ 1 ≤ t.length ∧ t.length ≤ szT dp) :: curH .i64 134 cb bsv bs.length :: L) [v10] (v10) (.tmp rfl .nil) rfl rF rF (Sub.trans (sC (sD (sC sR))) (Sub.keep (drawnH.of (t := [-1]) (⟨goodT.var (by omega) (by omega), Nat.le_refl _, szT_pos dp⟩)) sR)) ?_))))
  exact ⟨_, ⟨rfl, (isSl_lit hv10)⟩, rfl⟩
 refine X.skip (X.seq (X.region (XL.mv (ptr cb 0) rfl (cX (XOp.fieldP (0) runUnderlying26 rfl sizeOf24 (by decide) rfl rfl (cX (XOp.load1 isAgg24 rfl (Rd.own [] rfl rfl) (cX (XOp.lenS runUnderlying24 rfl har.slv (cX (XOp.call (args := [ptr cb 0, .int .i64 ((ar.length : Int))]) call122 rfl (Does.at [_] (l1Below_spec (n := (ar.length : Int)) hbs (by omega) (hn := (by first | assumption | rfl | omega | simp)))) ?_)))))))))))
 rintro _ _ _ _ ⟨⟨rfl, x6, rfl, hr3⟩, rfl⟩
 show XL _ _ _ _ _ _ _ (cellsH b1 [arv] 26 :: curH .i64 134 cb bsv bs.length :: L)
 refine XL.as (.int .i64 (x6)) rfl (XL.nil (X.seq (X.region (XL.mv (.int .i64 (x6)) rfl (cX (XOp.buildSlice (s := 1) [.int .i64 (x6)] [.int .i64 (0)] [(0, [.int .i64 (x6)])] runUnderlying24 sizeOf2 zeroValue2 rfl (by decide) rfl (.cons rfl CellsAre.nil) rfl ?_))))))
 intro v11 hv11
 refine XL.as (v11) rfl (XL.nil (X.seq (X.seq (X.region ?_))))
 show XL _ _ _ _ _ _ _ (intsH 2 v11 ([x6] : List Int) :: cellsH b1 [arv] 26 :: curH .i64 134 cb bsv bs.length :: L)
 skip
 refine cX (XOp.fieldP (0) runUnderlying26 rfl sizeOf24 (by decide) rfl rfl (cX (XOp.load1 isAgg24 rfl (Rd.own [_] rfl rfl) (XL.mv (.int .i64 (x6)) rfl (cX (XOp.indexS ((x6).toNat) runUnderlying24 sizeOf2 rfl rfl (by omega) har.slv (by omega) (Nat.mul_one _) (cX (XOp.load1 isAgg2 rfl (har.rd (by omega)) (XL.as (.int .i64 (ar.getD ((x6).toNat) 0)) rfl ?_)))))))))
 have hfr : 0 ≤ x6 ∧ x6 < (ar.length : Int) := by omega
 have hsp := (sigOk_spec hso).2.2 (x6).toNat (by omega)
 obtain ⟨haK, hKe⟩ : ∃ q : Nat, q = (ar.getD ((x6).toNat) 0).toNat := ⟨_, rfl⟩
 have hK3 : haK ≤ 3 := by omega
 have hKa : arity ar x6 = (haK : Int) := by rw [arity, if_neg (by omega)]; omega
 refine XL.nil (X.block (X.loop (α := Nat × Value × List Int × List Int × FH) (fun xQ => [(0, ptr cb 0), (2, .int .i64 (((dp : Nat) : Int))), (3, .int .i64 (vs)), (5, ptr b1 0), (11, xQ.2.1), (12, .int .i64 (((xQ.1 : Nat) : Int)))]) (fun xQ => intsH 2 xQ.2.1 xQ.2.2.1 :: cellsH b1 [arv] 26 :: curH .i64 134 cb bsv bs.length :: L) (fun xQ F' => xQ.2.2.2.2 = F' ∧ F ≤ xQ.2.2.2.2 ∧ (IsSl xQ.2.1) ∧ (xQ.2.2.1 = x6 :: xQ.2.2.2.1) ∧ (xQ.1 + (haK - xQ.1) = haK ∧ xQ.1 ≤ haK) ∧ (goodN ar xQ.2.2.2.1 (haK - xQ.1)) ∧ (xQ.2.2.2.1.length ≤ (haK - xQ.1) * szT (dp - 1))) (fun xQ => xQ.1) ((ar.getD ((x6).toNat) 0).toNat, v11, [x6], [], F) ⟨rfl, rfl, rfl, rfl, rfl, (vI (by omega)), trivial⟩ (sC (sC (sC sR))) ⟨rfl, FLe.refl _, ((isSl_lit hv11)), (rfl), (by (try dsimp only); omega), (by (try dsimp only); rw [show haK - (ar.getD ((x6).toNat) 0).toNat = 0 from by omega]; exact goodN.nil), (by (try dsimp only); simp)⟩ ?_))
 rintro ⟨n, ov, os, ot, G1⟩ rE _ _ ⟨rfl, leG, hov, hoe, hn3, hgo, hol⟩
 show X _ _ _ _ (envs [(0, ptr cb 0), (2, .int .i64 (((dp : Nat) : Int))), (3, .int .i64 (vs)), (5, ptr b1 0), (11, ov), (12, .int .i64 ((n : Int)))] rE) _ (intsH 2 ov os :: cellsH b1 [arv] 26 :: curH .i64 134 cb bsv bs.length :: L)
 replace leG : F ≤ G1 := leG
 dsimp only at hov hoe hn3 hgo hol
 have hm9 : (haK - n) * szT (dp - 1) ≤ 3 * szT (dp - 1) := Nat.mul_le_mul_right _ (by omega)
 have hool : os.length = ot.length + 1 := by rw [hoe]; rfl
 have leG1 := leG
 replace hbs := hbs.mono leG1
 replace har := har.mono leG1
 refine X.seq (X.seq (X.region (XL.mv (.int .i64 ((n : Int))) rfl (cX (XOp.gtr rfl rfl (XL.nil ?_))))))
 refine X.condD (p := (n : Int) > 0) rfl (fun h15 => ?_) (fun h15 => ?_)
 ·refine X.skip (X.seq (X.block (X.region (XL.mv (ov) rfl (XL.mv (ptr cb 0) rfl (cX (XOp.loadN [arv] isAgg26 sizeOf26 rfl rfl (Rd.ownN [_] rfl rfl) (XL.mv (.int .i64 (((dp : Nat) : Int))) rfl (cX (XOp.subR (((dp - 1 : Nat) : Int)) rfl rfl (by omega) (by omega) (XL.mv (.int .i64 (vs)) rfl (cX (XOp.call (args := [ptr cb 0, .agg #[arv], .int .i64 ((dp - 1 : Nat) : Int), .int .i64 (vs)]) call174 rfl (Does.atO [_, _] (ih (dp - 1) (by omega) (vs := vs) hbs (by omega) har (hso := (by first | assumption | rfl | omega | simp)) (hdp := (by first | assumption | rfl | omega | simp)) (hvs := (by first | assumption | rfl | omega | simp)))) ?_)))))))))))))
  rintro _ F7 _ le7 ⟨x8, ⟨rfl, hsl1⟩, rfl⟩
  show XL _ _ _ _ _ _ _ (drawnH 2 x8 (fun t => goodT ar t ∧ 1 ≤ t.length ∧ t.length ≤ szT (dp - 1)) :: intsH 2 ov os :: cellsH b1 [arv] 26 :: curH .i64 134 cb bsv bs.length :: L)
  refine XL.undraw [] rfl (fun t1 hq9 => ?_)
  obtain ⟨q1, q2, q3⟩ := hq9
  show XL _ _ _ _ _ _ _ (intsH 2 x8 t1 :: intsH 2 ov os :: cellsH b1 [arv] 26 :: curH .i64 134 cb bsv bs.length :: L)
  refine XL.freezeF [] _ _ rfl (fun F8 le8 hz1 => ?_)
  have hf1 : IntsF F8 x8 t1 := intsH.fz (xs := t1) hz1.fz
  refine cX (XOp.appendI [] _ runUnderlying24 typeInfo2 rfl rfl rfl rfl rfl rfl hf1 (by (try simp only [List.length_append, List.length_nil, List.length_cons, List.length_singleton, List.length_take, List.length_drop]); omega) ?_)
  intro v12 hs1 hn1 hm1
  refine XL.as (v12) rfl (XL.nil (X.region (XL.mv (.int .i64 ((n : Int))) rfl (cX (XOp.subR (((n - 1 : Nat) : Int)) rfl rfl (by omega) (by omega) (XL.as (.int .i64 (((n - 1 : Nat) : Int))) rfl (XL.nil ?_)))))))
  exact ⟨(n - 1, v12, os ++ t1, (ot ++ t1), F8), _, (FLe.trans (FLe.trans leG1 le7) le8), rF, ⟨rfl, rfl, rfl, rfl, rfl, rfl, trivial⟩, (sC (sC (sC sR))), ⟨rfl, (FLe.trans (FLe.trans leG1 le7) le8), (hs1), (by (try dsimp only); rw [hoe] <;> rfl), (by (try dsimp only); omega), (by (try dsimp only); rw [show haK - (n - 1) = haK - n + 1 from by omega]; exact hgo.snoc q1), (by (try dsimp only); rw [show haK - (n - 1) = haK - n + 1 from by omega, Nat.succ_mul, List.length_append]; omega)⟩, (by (try dsimp only); omega)⟩
 refine X.exit (thenQ_exit (thenQ_exit (blockQ_exit (X.seq (X.region (XL.mv (ov) rfl (XL.as (ov) rfl (XL.nil (X.ret (retEnd (L' := drawnH 2 ov (fun t => goodT ar t ∧ 1 ≤ t.length ∧ t.length ≤ szT dp) :: curH .i64 134 cb bsv bs.length :: L) [ov] (ov) (.tmp rfl .nil) rfl leG1 rF (Sub.trans (sC (sD (sC sR))) (Sub.keep (drawnH.of (t := os) ((show goodT ar os ∧ 1 ≤ os.length ∧ os.length ≤ szT dp from ⟨by rw [hoe]; exact goodT.node hfr.1 (by omega) hKa (by have h9 := hgo; rwa [show haK - n = haK from by omega] at h9), by omega, by have h9 := szT_next (d := dp) (by omega); omega⟩))) sR)) ?_))))))))))
 exact ⟨_, ⟨rfl, hov⟩, rfl⟩

theorem l1DrawTerm_spec (dp : Nat) : ∀ {F : FH} {L : List HP} {cb : Nat} {bsv : Value} {bs : List Int} (hbs : BytesF F bsv bs) (hbl : bs.length ≤ 4000000) {arv : Value} {ar : List Int} (har : IntsF F arv ar) {vs : Int} (hso : sigOk ar = true) (hdp : dp ≤ 5) (hvs : 0 ≤ vs ∧ vs ≤ 24), Does prog 174 [ptr cb 0, .agg #[arv], .int .i64 (((dp : Nat) : Int)), .int .i64 (vs)] F (curH .i64 134 cb bsv bs.length :: L) (fun v F' L' => ∃ a : Value, ((a : Value) = v ∧ IsSl a) ∧ drawnH 2 a (fun t => goodT ar t ∧ 1 ≤ t.length ∧ t.length ≤ szT dp) :: curH .i64 134 cb bsv bs.length :: L = L') := by
  induction dp using Nat.strongRecOn with
  | _ dp ih =>
    intros
    exact l1DrawTerm_spec_step ih (by assumption) (by assumption) (by assumption) (by assumption) (by assumption) (by assumption)

/- spec.l1DrawAny -/
set_option maxHeartbeats 1000000 in
theorem l1DrawAny_spec {F : FH} {L : List HP} {cb : Nat} {bsv : Value} {bs : List Int} (hbs : BytesF F bsv bs) (hbl : bs.length ≤ 4000000) {arv : Value} {ar : List Int} (har : IntsF F arv ar) (hal : ar.length ≤ 4000000) :
    Does prog 130 [ptr cb 0, .agg #[arv]] F (curH .i64 134 cb bsv bs.length :: L) (fun v F' L' => (∃ (a : Value), (a : Value) = v ∧ (SomesF F' a (fun u => u.length ≤ 2000))) ∧ curH .i64 134 cb bsv bs.length :: L = L') := by
 refine Does.of_X func130 rfl rfl rfl (X.seq (X.region (cX (XOp.box [arv] rfl rfl ?_))))
 intro b1
 refine XL.as ((.slice none 0 0)) rfl (XL.nil (X.seq (X.seq (X.region (cX (XOp.fieldP (0) runUnderlying26 rfl sizeOf24 (by decide) rfl rfl (cX (XOp.load1 isAgg24 rfl (Rd.own [] rfl rfl) (cX (XOp.lenS runUnderlying24 rfl har.slv (cX (XOp.eql rfl rfl (XL.mv (.bool (decide (((ar.length : Int) : Int) = 0))) rfl ?_)))))))))))))
 by_cases h1 : ((ar.length : Int) : Int) = 0
 ·refine XL.no (t := 10) rfl (vT h1) (XL.no (t := 10) rfl (vT h1) (XL.no (t := 10) rfl (vT h1) (cX (XOp.pickT (.bool (true)) (vT h1) rfl (XL.nil (X.condT rfl (X.seq (X.region (XL.mv (ptr cb 0) rfl (cX (XOp.call (args := [ptr cb 0, .int .i64 (-2), .int .i64 (2)]) call160 rfl (Does.at [_] (l1From_spec (lo := -2) (hi := 2) hbs (by omega) (hlo := (by first | assumption | rfl | omega | simp)))) ?_)))))))))))
  rintro _ _ _ _ ⟨⟨rfl, x1, rfl, hr1⟩, rfl⟩
  show XL _ _ _ _ _ _ _ (cellsH b1 [arv] 26 :: curH .i64 134 cb bsv bs.length :: L)
  refine cX (XOp.buildSlice (s := 1) [.int .i64 (x1)] [.int .i64 (0)] [(0, [.int .i64 (x1)])] runUnderlying24 sizeOf2 zeroValue2 rfl (by decide) rfl (.cons rfl CellsAre.nil) rfl ?_)
  intro v1 hv1
  refine XL.as (v1) rfl (XL.nil ?_)
  show X _ _ _ _ _ _ (intsH 2 v1 ([x1] : List Int) :: cellsH b1 [arv] 26 :: curH .i64 134 cb bsv bs.length :: L)
  refine X.freezeF [] _ _ rfl (fun F2 le2 hz1 => ?_)
  replace hbs := hbs.mono le2
  replace har := har.mono le2
  have hf1 : IntsF F2 v1 ([x1]) := intsH.fz (xs := [x1]) hz1.fz
  refine X.ret (thenQ_ret (retEnd (L' := curH .i64 134 cb bsv bs.length :: L) [v1] (v1) (.tmp rfl .nil) rfl le2 rF (sD (sC sR)) ?_))
  exact ⟨⟨_, rfl, ⟨_, hf1, by (try simp only [List.length_append, List.length_cons, List.length_nil, List.length_set, List.length_take, List.length_drop]); omega⟩⟩, rfl⟩
 refine XL.yes (t := 10) rfl (vF h1) (XOp.loadN [arv] isAgg26 sizeOf26 rfl rfl (Rd.ownN [] rfl rfl) (XL.yes (t := 10) rfl (vF h1) (XOp.call (args := [.agg #[arv]]) call141 rfl (sSigOk_spec har (hla := (by first | assumption | rfl | omega | simp))) ?_)))
 rintro _ _ _ _ ⟨rfl, rfl, rfl⟩
 refine XL.yes (t := 10) rfl (vF h1) (XOp.notB rfl (cX (XOp.pickF (.bool (!(sigOk ar))) (vF h1) rfl (XL.nil ?_))))
 refine X.cond (t := !(sigOk ar)) rfl (fun h2 => ?_) (fun h2 => ?_)
 ·refine X.seq (X.region (XL.mv (ptr cb 0) rfl (cX (XOp.call (args := [ptr cb 0, .int .i64 (-2), .int .i64 (2)]) call160 rfl (Does.at [_] (l1From_spec (lo := -2) (hi := 2) hbs (by omega) (hlo := (by first | assumption | rfl | omega | simp)))) ?_))))
  rintro _ _ _ _ ⟨⟨rfl, x2, rfl, hr2⟩, rfl⟩
  show XL _ _ _ _ _ _ _ (cellsH b1 [arv] 26 :: curH .i64 134 cb bsv bs.length :: L)
  refine cX (XOp.buildSlice (s := 1) [.int .i64 (x2)] [.int .i64 (0)] [(0, [.int .i64 (x2)])] runUnderlying24 sizeOf2 zeroValue2 rfl (by decide) rfl (.cons rfl CellsAre.nil) rfl ?_)
  intro v2 hv2
  refine XL.as (v2) rfl (XL.nil ?_)
  show X _ _ _ _ _ _ (intsH 2 v2 ([x2] : List Int) :: cellsH b1 [arv] 26 :: curH .i64 134 cb bsv bs.length :: L)
  refine X.freezeF [] _ _ rfl (fun F4 le4 hz2 => ?_)
  replace hbs := hbs.mono le4
  replace har := har.mono le4
  have hf2 : IntsF F4 v2 ([x2]) := intsH.fz (xs := [x2]) hz2.fz
  refine X.ret (thenQ_ret (retEnd (L' := curH .i64 134 cb bsv bs.length :: L) [v2] (v2) (.tmp rfl .nil) rfl le4 rF (sD (sC sR)) ?_))
  exact ⟨⟨_, rfl, ⟨_, hf2, by (try simp only [List.length_append, List.length_cons, List.length_nil, List.length_set, List.length_take, List.length_drop]); omega⟩⟩, rfl⟩
 have hso : sigOk ar = true := by simpa using h2
 refine X.skip (X.seq ?_)
 refine X.drawG [cellsH b1 [arv] 26, curH .i64 134 cb bsv bs.length] L 5 [[], [], [], [], [3]] [[], [], [], [2], [3]] [[], [], [], [], []] (phiG [fun FF us v => v = ptr cb 0, fun FF us v => v = (.agg #[arv] : Value), fun FF us v => v = ptr cb 0, fun FF us v => (.int .i64 (((intAt v))) : Value) = v ∧ (0 ≤ ((intAt v)) ∧ (((intAt v)) < 4 ∨ ((intAt v)) = 0)), fun FF us v => v = (.int .i64 (1 + (((intAt (us.getD 0 undef))))) : Value)]) (ownL [fun us v => [], fun us v => [], fun us v => [], fun us v => [], fun us v => []]) mixed rfl rfl (by kernel_rfl) (by kernel_rfl) (MonoG.get (mC (fun le h => h) (mC (fun le h => h) (mC (fun le h => h) (mC (fun le h => ⟨h.1, h.2⟩) (mC (fun le h => h) MonoG.nil)))))) ?_ ?_
 ·refine gC (fun vals Fs R leFs hpZ => ?_) ?_
  ·refine XG.op (XOp.move (ptr cb 0) rfl ?_)
   exact ⟨rfl, rfl⟩
  refine gC (fun vals Fs R leFs hpZ => ?_) ?_
  ·replace hbs := hbs.mono leFs
   replace har := har.mono leFs
   refine XG.op (XOp.loadN [arv] isAgg26 sizeOf26 rfl rfl (Rd.ownN [] rfl rfl) ?_)
   exact ⟨rfl, rfl⟩
  refine gC (fun vals Fs R leFs hpZ => ?_) ?_
  ·refine XG.op (XOp.move (ptr cb 0) rfl ?_)
   exact ⟨rfl, rfl⟩
  refine gC (fun vals Fs R leFs hpZ => ?_) ?_
  ·replace hbs := hbs.mono leFs
   replace har := har.mono leFs
   rw [eS (l := [(2, ptr cb 0)]) ⟨(hpZ 2 (by decide)), trivial⟩]
   refine XG.op (XOp.call (args := [ptr cb 0, .int .i64 (4)]) call122 rfl (Does.at [_] (l1Below_spec (n := 4) hbs (by omega) (hn := (by first | assumption | rfl | omega | simp)))) ?_)
   rintro _ _ _ _ ⟨⟨rfl, x4, rfl, hr4⟩, rfl⟩
   exact ⟨⟨rfl, hr4⟩, rfl⟩
  refine gC (fun vals Fs R leFs hpZ => ?_) ?_
  ·obtain ⟨e3, f3_1hx⟩ := hpZ 3 (by decide)
   rw [eS (l := [(3, (.int .i64 (((intAt (vals 3)))) : Value))]) ⟨(e3).symm, trivial⟩]
   refine XG.op (XOp.addR (1 + (((intAt (vals 3))))) rfl rfl (by omega) (by omega) ?_)
   exact ⟨rfl, rfl⟩
  exact stepsG.nil
 intro vals F7 le7 hphi
 obtain ⟨e3, f3_1hx⟩ := hphi 3 (by decide)
 have e4 : vals 4 = (.int .i64 (1 + (((intAt (vals 3))))) : Value) := hphi 4 (by decide)
 generalize hu1 : (intAt (vals 3)) = u1 at e3 f3_1hx e4
 rw [eS (l := [(0, ptr cb 0), (1, (.agg #[arv] : Value)), (3, (.int .i64 ((u1)) : Value)), (4, (.int .i64 (1 + ((u1))) : Value))]) ⟨(hphi 0 (by decide)), (hphi 1 (by decide)), (e3).symm, e4, trivial⟩]
 replace hbs := hbs.mono le7
 replace har := har.mono le7
 show XL _ _ _ _ _ _ _ (cellsH b1 [arv] 26 :: curH .i64 134 cb bsv bs.length :: L)
 refine cX (XOp.call (args := [ptr cb 0, .agg #[arv], .int .i64 (((1 + ((u1))).toNat : Nat) : Int), .int .i64 (3)]) call174 (by rw [show (((1 + ((u1))).toNat : Nat) : Int) = 1 + ((u1)) from by omega]; rfl) (Does.atO [_] (l1DrawTerm_spec ((1 + ((u1))).toNat) (vs := 3) hbs (by omega) har (hso := (by first | assumption | rfl | omega | simp)) (hdp := (by first | assumption | rfl | omega | simp)) (hvs := (by first | assumption | rfl | omega | simp)))) ?_)
 rintro _ F8 _ le8 ⟨x6, ⟨rfl, hsl1⟩, rfl⟩
 replace hbs := hbs.mono le8
 show XL _ _ _ _ _ _ _ (drawnH 2 x6 (fun t => goodT ar t ∧ 1 ≤ t.length ∧ t.length ≤ szT ((1 + ((u1))).toNat)) :: cellsH b1 [arv] 26 :: curH .i64 134 cb bsv bs.length :: L)
 refine XL.undraw [] rfl (fun t1 hq9 => ?_)
 obtain ⟨q1, q2, q3⟩ := hq9
 show XL _ _ _ _ _ _ _ (intsH 2 x6 t1 :: cellsH b1 [arv] 26 :: curH .i64 134 cb bsv bs.length :: L)
 have hz9 := szT_le (d := (1 + ((u1))).toNat) (e := 4) (by omega)
 have hz8 : szT 4 = 121 := rfl
 refine XL.as (x6) rfl (XL.nil (X.seq (X.seq (X.region (XL.mv (ptr cb 0) rfl (cX (XOp.call (args := [ptr cb 0, .int .i64 (12)]) call120 rfl (Does.at [_, _] (l1Once_spec (n := 12) hbs (by omega) (hn := (by first | assumption | rfl | omega | simp)))) ?_)))))))
 rintro _ _ _ _ ⟨⟨rfl, x7, rfl⟩, rfl⟩
 show XL _ _ _ _ _ _ _ (intsH 2 x6 t1 :: cellsH b1 [arv] 26 :: curH .i64 134 cb bsv bs.length :: L)
 refine XL.nil ?_
 refine X.cond (t := x7) rfl (fun h3 => ?_) (fun h3 => ?_)
 ·refine X.seq (X.region (XL.mv (ptr cb 0) rfl (cX (XOp.call (args := [ptr cb 0, .int .i64 (4)]) call122 rfl (Does.at [_, _] (l1Below_spec (n := 4) hbs (by omega) (hn := (by first | assumption | rfl | omega | simp)))) ?_))))
  rintro _ _ _ _ ⟨⟨rfl, x8, rfl, hr5⟩, rfl⟩
  show XL _ _ _ _ _ _ _ (intsH 2 x6 t1 :: cellsH b1 [arv] 26 :: curH .i64 134 cb bsv bs.length :: L)
  refine XL.nil (X.block (X.seq (X.region (cX (XOp.eql rfl rfl (XL.as (.bool (decide ((x8 : Int) = 0))) rfl (XL.nil ?_)))))))
  refine X.condD (p := (x8 : Int) = 0) rfl (fun h4 => ?_) (fun h4 => ?_)
  ·refine X.region (XL.mv (x6) rfl (XL.mv (ptr cb 0) rfl (cX (XOp.call (args := [ptr cb 0, .int .i64 (-2), .int .i64 (3)]) call160 rfl (Does.at [_, _] (l1From_spec (lo := -2) (hi := 3) hbs (by omega) (hlo := (by first | assumption | rfl | omega | simp)))) ?_))))
   rintro _ _ _ _ ⟨⟨rfl, x9, rfl, hr6⟩, rfl⟩
   show XL _ _ _ _ _ _ _ (intsH 2 x6 t1 :: cellsH b1 [arv] 26 :: curH .i64 134 cb bsv bs.length :: L)
   refine cX (XOp.buildSlice (s := 1) [.int .i64 (x9)] [.int .i64 (0)] [(0, [.int .i64 (x9)])] runUnderlying24 sizeOf2 zeroValue2 rfl (by decide) rfl (.cons rfl CellsAre.nil) rfl ?_)
   intro v3 hv3
   refine cX (XOp.append1 (u := x9) [_] _ runUnderlying24 typeInfo2 rfl rfl rfl rfl rfl rfl (SlV.own [] rfl) (Rd.sl [] rfl rfl) (by (try simp only [List.length_append, List.length_nil, List.length_cons, List.length_singleton, List.length_take, List.length_drop]); omega) ?_)
   intro v4 hs1 hn1
   refine XL.as (v4) rfl (XL.nil (X.seq (X.region (XL.mv (v4) rfl (XL.as (v4) rfl (XL.nil (X.freezeF [_] _ _ rfl (fun F12 le12 hz3 => ?_))))))))
   replace hbs := hbs.mono le12
   have hf3 : IntsF F12 v4 (t1 ++ [x9]) := intsH.fz (xs := t1 ++ [x9]) hz3.fz
   refine X.ret (retEnd (L' := curH .i64 134 cb bsv bs.length :: L) [v4] (v4) (.tmp rfl .nil) rfl (FLe.trans (FLe.trans le7 le8) le12) rF (sD (sD (sC sR))) ?_)
   exact ⟨⟨_, rfl, ⟨_, hf3, by (try simp only [List.length_append, List.length_cons, List.length_nil, List.length_set, List.length_take, List.length_drop]); omega⟩⟩, rfl⟩
  refine X.seq (X.region (cX (XOp.eql rfl rfl (XL.as (.bool (decide ((x8 : Int) = 1))) rfl (XL.nil ?_)))))
  refine X.condD (p := (x8 : Int) = 1) rfl (fun h5 => ?_) (fun h5 => ?_)
  ·refine X.region (XL.mv (x6) rfl (XL.mv (ptr cb 0) rfl (XL.mv (x6) rfl (cX (XOp.lenS runUnderlying24 rfl (intsH.slv [] rfl) (cX (XOp.call (args := [ptr cb 0, .int .i64 ((t1.length : Int))]) call122 rfl (Does.at [_, _] (l1Below_spec (n := (t1.length : Int)) hbs (by omega) (hn := (by first | assumption | rfl | omega | simp)))) ?_)))))))
   rintro _ _ _ _ ⟨⟨rfl, x10, rfl, hr7⟩, rfl⟩
   show XL _ _ _ _ _ _ _ (intsH 2 x6 t1 :: cellsH b1 [arv] 26 :: curH .i64 134 cb bsv bs.length :: L)
   refine XL.mv (ptr cb 0) rfl (cX (XOp.call (args := [ptr cb 0, .int .i64 (-3), .int .i64 (4)]) call160 rfl (Does.at [_, _] (l1From_spec (lo := -3) (hi := 4) hbs (by omega) (hlo := (by first | assumption | rfl | omega | simp)))) ?_))
   rintro _ _ _ _ ⟨⟨rfl, x11, rfl, hr8⟩, rfl⟩
   show XL _ _ _ _ _ _ _ (intsH 2 x6 t1 :: cellsH b1 [arv] 26 :: curH .i64 134 cb bsv bs.length :: L)
   refine cX (XOp.indexS ((x10).toNat) runUnderlying24 sizeOf2 rfl rfl (by omega) (intsH.slv [] rfl) (by omega) (Nat.mul_one _) (cX (intsH.storeX (i := (x10).toNat) (v := x6) [] _ (t1.set ((x10).toNat) x11) sizeOf2 rfl rfl rfl (by omega) rfl (XL.nil (X.seq (X.region (XL.mv (x6) rfl (XL.as (x6) rfl (XL.nil (X.freezeF [] _ _ rfl (fun F15 le15 hz4 => ?_)))))))))))
   replace hbs := hbs.mono le15
   have hf4 : IntsF F15 x6 ((t1.set ((x10).toNat) x11)) := intsH.fz (xs := (t1.set ((x10).toNat) x11)) hz4.fz
   refine X.ret (retEnd (L' := curH .i64 134 cb bsv bs.length :: L) [x6] (x6) (.tmp rfl .nil) rfl (FLe.trans (FLe.trans le7 le8) le15) rF (sD (sC sR)) ?_)
   exact ⟨⟨_, rfl, ⟨_, hf4, by (try simp only [List.length_append, List.length_cons, List.length_nil, List.length_set, List.length_take, List.length_drop]); omega⟩⟩, rfl⟩
  refine X.seq (X.region (cX (XOp.eql rfl rfl (XL.as (.bool (decide ((x8 : Int) = 2))) rfl (XL.nil ?_)))))
  refine X.condD (p := (x8 : Int) = 2) rfl (fun h6 => ?_) (fun h6 => ?_)
  ·refine X.region (XL.freezeF [] _ _ rfl (fun F16 le16 hz5 => ?_))
   replace hbs := hbs.mono le16
   have hf5 : IntsF F16 x6 t1 := intsH.fz (xs := t1) hz5.fz
   skip
   refine XL.mv (x6) rfl (cX (XOp.sliceI 1 ((t1).length) runUnderlying24 sizeOf2 rfl hf5 ⟨_, rfl⟩ rfl (by omega) (by omega) ?_))
   intro v5 hv4 hn2
   refine XL.as (v5) rfl (XL.nil (X.seq (X.region (XL.mv (v5) rfl (XL.as (v5) rfl (XL.nil (X.ret (retEnd (L' := curH .i64 134 cb bsv bs.length :: L) [v5] (v5) (.tmp rfl .nil) rfl (FLe.trans (FLe.trans le7 le8) le16) rF (sD (sC sR)) ?_))))))))
   exact ⟨⟨_, rfl, ⟨_, hv4, by (try simp only [List.length_append, List.length_cons, List.length_nil, List.length_set, List.length_take, List.length_drop]); omega⟩⟩, rfl⟩
  refine X.seq (X.region (cX (XOp.eql rfl rfl (XL.as (.bool (decide ((x8 : Int) = 3))) rfl (XL.nil ?_)))))
  refine X.condD (p := (x8 : Int) = 3) rfl (fun h7 => ?_) (fun h7 => ?_)
  ·refine X.region (XL.mv (x6) rfl (XL.mv (ptr cb 0) rfl (cX (XOp.call (args := [ptr cb 0]) call175 rfl (Does.at [_, _] (l1Odd_spec hbs (by omega))) ?_))))
   rintro _ _ _ _ ⟨⟨rfl, x12, rfl⟩, rfl⟩
   show XL _ _ _ _ _ _ _ (intsH 2 x6 t1 :: cellsH b1 [arv] 26 :: curH .i64 134 cb bsv bs.length :: L)
   refine cX (XOp.buildSlice (s := 1) [.int .i64 (x12)] [.int .i64 (0)] [(0, [.int .i64 (x12)])] runUnderlying24 sizeOf2 zeroValue2 rfl (by decide) rfl (.cons rfl CellsAre.nil) rfl ?_)
   intro v6 hv5
   refine cX (XOp.append1 (u := x12) [_] _ runUnderlying24 typeInfo2 rfl rfl rfl rfl rfl rfl (SlV.own [] rfl) (Rd.sl [] rfl rfl) (by (try simp only [List.length_append, List.length_nil, List.length_cons, List.length_singleton, List.length_take, List.length_drop]); omega) ?_)
   intro v7 hs2 hn3
   refine XL.as (v7) rfl (XL.nil (X.seq (X.region (XL.mv (v7) rfl (XL.as (v7) rfl (XL.nil (X.freezeF [_] _ _ rfl (fun F18 le18 hz6 => ?_))))))))
   have hf6 : IntsF F18 v7 (t1 ++ [x12]) := intsH.fz (xs := t1 ++ [x12]) hz6.fz
   refine X.ret (retEnd (L' := curH .i64 134 cb bsv bs.length :: L) [v7] (v7) (.tmp rfl .nil) rfl (FLe.trans (FLe.trans le7 le8) le18) rF (sD (sD (sC sR))) ?_)
   exact ⟨⟨_, rfl, ⟨_, hf6, by (try simp only [List.length_append, List.length_cons, List.length_nil, List.length_set, List.length_take, List.length_drop]); omega⟩⟩, rfl⟩
  refine X.skip (X.seq (X.region (XL.mv (x6) rfl (XL.as (x6) rfl (XL.nil (X.freezeF [] _ _ rfl (fun F19 le19 hz7 => ?_)))))))
  have hf7 : IntsF F19 x6 t1 := intsH.fz (xs := t1) hz7.fz
  refine X.ret (retEnd (L' := curH .i64 134 cb bsv bs.length :: L) [x6] (x6) (.tmp rfl .nil) rfl (FLe.trans (FLe.trans le7 le8) le19) rF (sD (sC sR)) ?_)
  exact ⟨⟨_, rfl, ⟨_, hf7, by (try simp only [List.length_append, List.length_cons, List.length_nil, List.length_set, List.length_take, List.length_drop]); omega⟩⟩, rfl⟩
 refine X.skip (X.seq (X.region (XL.mv (x6) rfl (XL.as (x6) rfl (XL.nil (X.freezeF [] _ _ rfl (fun F20 le20 hz8 => ?_)))))))
 have hf8 : IntsF F20 x6 t1 := intsH.fz (xs := t1) hz8.fz
 refine X.ret (retEnd (L' := curH .i64 134 cb bsv bs.length :: L) [x6] (x6) (.tmp rfl .nil) rfl (FLe.trans (FLe.trans le7 le8) le20) rF (sD (sC sR)) ?_)
 exact ⟨⟨_, rfl, ⟨_, hf8, by (try simp only [List.length_append, List.length_cons, List.length_nil, List.length_set, List.length_take, List.length_drop]); omega⟩⟩, rfl⟩

/- spec.l2Draw -/
theorem l2Draw_spec {F : FH} {L : List HP} {cb : Nat} {bsv : Value} {bs : List Int} (hbs : BytesF F bsv bs) (hbl : bs.length ≤ 4000000) {arv : Value} {ar : List Int} (har : IntsF F arv ar) (hso : sigOk ar = true) :
    Does prog 173 [ptr cb 0, .agg #[arv]] F (curH .i64 134 cb bsv bs.length :: L) (fun v F' L' => (∃ (a : Value), (.agg #[a] : Value) = v ∧ (SomeRowsF F' a (fun s => s.length ≤ 4 ∧ ∀ i, (s.getD i []).length ≤ 2000))) ∧ curH .i64 134 cb bsv bs.length :: L = L') := by
 refine Does.of_X func173 rfl rfl rfl (X.seq (X.region (cX (XOp.box [arv] rfl rfl ?_))))
 intro b1
 refine cX (XOp.alloc [(.slice none 0 0)] zeroValue76 rfl ?_)
 intro b2
 refine XL.nil (X.seq (X.region (cX (XOp.build [(.slice none 0 0)] [(.slice none 0 0)] [(0, 1)] [] runUnderlying76 zeroValue76 rfl (.cons rfl sizeOf47 PlacesAre.nil) rfl CellsAre.nil (cX (XOp.alloc [(.slice none 0 0)] zeroValue76 rfl ?_))))))
 intro b3
 refine cX (XOp.storeN [] _ [(.slice none 0 0)] sizeOf76 rfl rfl rfl (ones_cons rfl ones_nil) rfl rfl rfl (XL.nil (X.seq (X.seq (X.region (XL.mv (ptr cb 0) rfl (cX (XOp.call (args := [ptr cb 0, .int .i64 (4)]) call122 rfl (Does.at [_, _, _] (l1Below_spec (n := 4) hbs (by omega) (hn := (by first | assumption | rfl | omega | simp)))) ?_))))))))
 rintro _ _ _ _ ⟨⟨rfl, x1, rfl, hr1⟩, rfl⟩
 show XL _ _ _ _ _ _ _ (cellsH b3 [(.slice none 0 0)] 76 :: cellsH b2 [(.slice none 0 0)] 76 :: cellsH b1 [arv] 26 :: curH .i64 134 cb bsv bs.length :: L)
 refine XL.as (.int .i64 (x1)) rfl (XL.nil (X.block (X.loop (α := Nat × Value × List (List Int) × List Value × Nat × FH) (fun xQ => [(0, ptr cb 0), (3, ptr b1 0), (4, ptr b2 0), (5, ptr b3 0), (6, .int .i64 (((xQ.1 : Nat) : Int)))]) (fun xQ => slH 24 1 xQ.2.1 xQ.2.2.2.2.1 xQ.2.2.2.1 :: cellsH b3 [xQ.2.1] 76 :: cellsH b2 [(.slice none 0 0)] 76 :: cellsH b1 [arv] 26 :: curH .i64 134 cb bsv bs.length :: L) (fun xQ F' => xQ.2.2.2.2.2 = F' ∧ F ≤ xQ.2.2.2.2.2 ∧ (IsSl xQ.2.1) ∧ (RowsC xQ.2.2.2.2.2 xQ.2.2.2.1 xQ.2.2.1) ∧ (xQ.2.2.2.2.1 = xQ.2.2.1.length) ∧ (xQ.2.2.1.length + xQ.1 ≤ 4) ∧ (∀ i, (xQ.2.2.1.getD i []).length ≤ 2000)) (fun xQ => xQ.1) (x1.toNat, (.slice none 0 0), [], [], 0, F) ⟨rfl, rfl, rfl, rfl, (vI (by omega)), trivial⟩ (Sub.trans (Sub.addNil 24 1 _ _) (sC (sC (sC (sC (sC sR)))))) ⟨rfl, FLe.refl _, (⟨_, _, _, rfl⟩), (CO.nil), (rfl), (by (try dsimp only); simp only [List.length_nil]; omega), (fun i => by simp)⟩ ?_)))
 rintro ⟨n, ov, os, cs, m, G1⟩ rE _ _ ⟨rfl, leG, hov, hC, hm, hon, hob⟩
 show X _ _ _ _ (envs [(0, ptr cb 0), (3, ptr b1 0), (4, ptr b2 0), (5, ptr b3 0), (6, .int .i64 ((n : Int)))] rE) _ (slH 24 1 ov m cs :: cellsH b3 [ov] 76 :: cellsH b2 [(.slice none 0 0)] 76 :: cellsH b1 [arv] 26 :: curH .i64 134 cb bsv bs.length :: L)
 replace leG : F ≤ G1 := leG
 dsimp only at hov hC hm hon hob
 have leG1 := leG
 replace hbs := hbs.mono leG1
 replace har := har.mono leG1
 refine X.seq (X.seq (X.region (XL.mv (.int .i64 ((n : Int))) rfl (cX (XOp.gtr rfl rfl (XL.nil ?_))))))
 refine X.condD (p := (n : Int) > 0) rfl (fun h1 => ?_) (fun h1 => ?_)
 ·refine X.skip (X.seq (X.block (X.seq (X.region (cX (XOp.buildSlice (s := 1) [] [.int .i64 (0)] [] runUnderlying24 sizeOf2 zeroValue2 rfl (by decide) rfl CellsAre.nil rfl ?_))))))
  intro v1 hv1
  refine XL.as (v1) rfl (XL.nil (X.seq (X.seq (X.region (XL.mv (ptr cb 0) rfl (cX (XOp.call (args := [ptr cb 0, .int .i64 (3)]) call120 rfl (Does.at [_, _, _, _, _] (l1Once_spec (n := 3) hbs (by omega) (hn := (by first | assumption | rfl | omega | simp)))) ?_)))))))
  rintro _ _ _ _ ⟨⟨rfl, x2, rfl⟩, rfl⟩
  show XL _ _ _ _ _ _ _ (slH 2 1 v1 0 [] :: slH 24 1 ov m cs :: cellsH b3 [ov] 76 :: cellsH b2 [(.slice none 0 0)] 76 :: cellsH b1 [arv] 26 :: curH .i64 134 cb bsv bs.length :: L)
  refine cX (XOp.notB rfl (XL.nil ?_))
  refine X.cond (t := !(x2)) rfl (fun h2 => ?_) (fun h2 => ?_)
  ·refine X.drawG [slH 2 1 v1 0 [], slH 24 1 ov m cs, cellsH b3 [ov] 76, cellsH b2 [(.slice none 0 0)] 76, cellsH b1 [arv] 26, curH .i64 134 cb bsv bs.length] L 5 [[], [], [], [], [3]] [[], [], [], [2], [3]] [[], [], [], [], []] (phiG [fun FF us v => v = ptr cb 0, fun FF us v => v = (.agg #[arv] : Value), fun FF us v => v = ptr cb 0, fun FF us v => (.int .i64 (((intAt v))) : Value) = v ∧ (0 ≤ ((intAt v)) ∧ (((intAt v)) < 3 ∨ ((intAt v)) = 0)), fun FF us v => v = (.int .i64 (1 + (((intAt (us.getD 0 undef))))) : Value)]) (ownL [fun us v => [], fun us v => [], fun us v => [], fun us v => [], fun us v => []]) mixed rfl rfl (by kernel_rfl) (by kernel_rfl) (MonoG.get (mC (fun le h => h) (mC (fun le h => h) (mC (fun le h => h) (mC (fun le h => ⟨h.1, h.2⟩) (mC (fun le h => h) MonoG.nil)))))) ?_ ?_
   ·refine gC (fun vals Fs R leFs hpZ => ?_) ?_
    ·refine XG.op (XOp.move (ptr cb 0) rfl ?_)
     exact ⟨rfl, rfl⟩
    refine gC (fun vals Fs R leFs hpZ => ?_) ?_
    ·replace hbs := hbs.mono leFs
     replace har := har.mono leFs
     replace hC := hC.mono leFs
     refine XG.op (XOp.loadN [arv] isAgg26 sizeOf26 rfl rfl (Rd.ownN [_, _, _, _] rfl rfl) ?_)
     exact ⟨rfl, rfl⟩
    refine gC (fun vals Fs R leFs hpZ => ?_) ?_
    ·refine XG.op (XOp.move (ptr cb 0) rfl ?_)
     exact ⟨rfl, rfl⟩
    refine gC (fun vals Fs R leFs hpZ => ?_) ?_
    ·replace hbs := hbs.mono leFs
     replace har := har.mono leFs
     replace hC := hC.mono leFs
     rw [eS (l := [(2, ptr cb 0)]) ⟨(hpZ 2 (by decide)), trivial⟩]
     refine XG.op (XOp.call (args := [ptr cb 0, .int .i64 (3)]) call122 rfl (Does.at [_, _, _, _, _] (l1Below_spec (n := 3) hbs (by omega) (hn := (by first | assumption | rfl | omega | simp)))) ?_)
     rintro _ _ _ _ ⟨⟨rfl, x4, rfl, hr3⟩, rfl⟩
     exact ⟨⟨rfl, hr3⟩, rfl⟩
    refine gC (fun vals Fs R leFs hpZ => ?_) ?_
    ·obtain ⟨e3, f3_1hx⟩ := hpZ 3 (by decide)
     rw [eS (l := [(3, (.int .i64 (((intAt (vals 3)))) : Value))]) ⟨(e3).symm, trivial⟩]
     refine XG.op (XOp.addR (1 + (((intAt (vals 3))))) rfl rfl (by omega) (by omega) ?_)
     exact ⟨rfl, rfl⟩
    exact stepsG.nil
   intro vals F5 le5 hphi
   obtain ⟨e3, f3_1hx⟩ := hphi 3 (by decide)
   have e4 : vals 4 = (.int .i64 (1 + (((intAt (vals 3))))) : Value) := hphi 4 (by decide)
   generalize hu1 : (intAt (vals 3)) = u1 at e3 f3_1hx e4
   rw [eS (l := [(0, ptr cb 0), (1, (.agg #[arv] : Value)), (3, (.int .i64 ((u1)) : Value)), (4, (.int .i64 (1 + ((u1))) : Value))]) ⟨(hphi 0 (by decide)), (hphi 1 (by decide)), (e3).symm, e4, trivial⟩]
   replace hbs := hbs.mono le5
   replace har := har.mono le5
   replace hC := hC.mono le5
   show XL _ _ _ _ _ _ _ (slH 2 1 v1 0 [] :: slH 24 1 ov m cs :: cellsH b3 [ov] 76 :: cellsH b2 [(.slice none 0 0)] 76 :: cellsH b1 [arv] 26 :: curH .i64 134 cb bsv bs.length :: L)
   refine cX (XOp.call (args := [ptr cb 0, .agg #[arv], .int .i64 (((1 + ((u1))).toNat : Nat) : Int), .int .i64 (3)]) call174 (by rw [show (((1 + ((u1))).toNat : Nat) : Int) = 1 + ((u1)) from by omega]; rfl) (Does.atO [_, _, _, _, _] (l1DrawTerm_spec ((1 + ((u1))).toNat) (vs := 3) hbs (by omega) har (hso := (by first | assumption | rfl | omega | simp)) (hdp := (by first | assumption | rfl | omega | simp)) (hvs := (by first | assumption | rfl | omega | simp)))) ?_)
   rintro _ F6 _ le6 ⟨x6, ⟨rfl, hsl1⟩, rfl⟩
   replace hC := hC.mono le6
   show XL _ _ _ _ _ _ _ (drawnH 2 x6 (fun t => goodT ar t ∧ 1 ≤ t.length ∧ t.length ≤ szT ((1 + ((u1))).toNat)) :: slH 2 1 v1 0 [] :: slH 24 1 ov m cs :: cellsH b3 [ov] 76 :: cellsH b2 [(.slice none 0 0)] 76 :: cellsH b1 [arv] 26 :: curH .i64 134 cb bsv bs.length :: L)
   refine XL.undraw [] rfl (fun t1 hq9 => ?_)
   obtain ⟨q1, q2, q3⟩ := hq9
   show XL _ _ _ _ _ _ _ (intsH 2 x6 t1 :: slH 2 1 v1 0 [] :: slH 24 1 ov m cs :: cellsH b3 [ov] 76 :: cellsH b2 [(.slice none 0 0)] 76 :: cellsH b1 [arv] 26 :: curH .i64 134 cb bsv bs.length :: L)
   have hz9 := szT_le (d := (1 + ((u1))).toNat) (e := 4) (by omega)
   have hz8 : szT 4 = 121 := rfl
   refine XL.as (x6) rfl (XL.nil (X.region (cX (XOp.fieldP (0) runUnderlying76 rfl sizeOf47 (by decide) rfl rfl (cX (XOp.load1 isAgg47 rfl (Rd.own [_, _, _] rfl rfl) (XL.mv (x6) rfl (cX (XOp.buildSlice (s := 1) [x6] [(.slice none 0 0)] [(0, [x6])] runUnderlying47 sizeOf24 zeroValue24 rfl (by decide) rfl (.cons (cells_one hsl1) CellsAre.nil) rfl ?_)))))))))
   intro v2 hv2
   refine XL.freezeF [_] _ _ rfl (fun F7 le7 hz1 => ?_)
   replace hC := hC.mono le7
   have hf1 : IntsF F7 x6 t1 := intsH.fz (xs := t1) hz1.fz
   refine cX (XOp.append (m := 1) (bytes := 24) (cs := cs) [_, _] _ [x6] runUnderlying47 typeInfo24 rfl rfl rfl rfl rfl rfl rfl (SlV.own [] rfl) rfl (Rd.lit [] rfl) (ones_cons (one_sl (IntsF.isSl hf1)) ones_nil) (by (try simp only [List.length_append, List.length_nil, List.length_cons, List.length_singleton]); omega) (by (try simp only [List.length_append, List.length_nil, List.length_cons, List.length_singleton]); omega) ?_)
   intro v3 hs1 hn1 hm1
   have hc1 := RowsC.snoc hC hf1
   refine cX (XOp.fieldP (0) runUnderlying76 rfl sizeOf47 (by decide) rfl rfl (cX (XOp.store1 [_, _, _] _ [v3] sizeOf47 rfl rfl (one_sl hs1) rfl rfl rfl (XL.nil (X.region (XL.mv (.int .i64 ((n : Int))) rfl (cX (XOp.subR (((n : Int)) - 1) rfl rfl (by omega) (by omega) (XL.as (.int .i64 (((n : Int)) - 1)) rfl (XL.nil ?_))))))))))
   exact ⟨(n - 1, v3, os ++ [t1], cs ++ [x6], (m) + 1, F7), _, (FLe.trans (FLe.trans (FLe.trans leG1 le5) le6) le7), rF, ⟨rfl, rfl, rfl, rfl, (vI (by (try dsimp only); omega)), trivial⟩, (sD (sD (sC (sC (sC (sC (sC sR))))))), ⟨rfl, (FLe.trans (FLe.trans (FLe.trans leG1 le5) le6) le7), (hs1), (hc1), (by (try dsimp only); rw [List.length_append]; simp only [List.length_singleton]; omega), (by (try dsimp only); rw [List.length_append]; simp only [List.length_singleton]; omega), (rows_snoc hob (by (try simp only [List.length_nil]); omega))⟩, (by (try dsimp only); omega)⟩
  refine X.skip (X.region (cX (XOp.fieldP (0) runUnderlying76 rfl sizeOf47 (by decide) rfl rfl (cX (XOp.load1 isAgg47 rfl (Rd.own [_, _] rfl rfl) (XL.mv (v1) rfl (cX (XOp.buildSlice (s := 1) [v1] [(.slice none 0 0)] [(0, [v1])] runUnderlying47 sizeOf24 zeroValue24 rfl (by decide) rfl (.cons (cells_one (isSl_lit hv1)) CellsAre.nil) rfl ?_))))))))
  intro v4 hv3
  show XL _ _ _ _ _ _ _ (slH 24 1 v4 1 [v1] :: intsH 2 v1 ([] : List Int) :: slH 24 1 ov m cs :: cellsH b3 [ov] 76 :: cellsH b2 [(.slice none 0 0)] 76 :: cellsH b1 [arv] 26 :: curH .i64 134 cb bsv bs.length :: L)
  refine XL.freezeF [_] _ _ rfl (fun F8 le8 hz2 => ?_)
  replace hC := hC.mono le8
  have hf2 : IntsF F8 v1 ([]) := intsH.fz (xs := []) hz2.fz
  refine cX (XOp.append (m := 1) (bytes := 24) (cs := cs) [_] _ [v1] runUnderlying47 typeInfo24 rfl rfl rfl rfl rfl rfl rfl (SlV.own [] rfl) rfl (Rd.lit [] rfl) (ones_cons (one_sl (IntsF.isSl hf2)) ones_nil) (by (try simp only [List.length_append, List.length_nil, List.length_cons, List.length_singleton]); omega) (by (try simp only [List.length_append, List.length_nil, List.length_cons, List.length_singleton]); omega) ?_)
  intro v5 hs2 hn2 hm2
  have hc2 := RowsC.snoc hC hf2
  refine cX (XOp.fieldP (0) runUnderlying76 rfl sizeOf47 (by decide) rfl rfl (cX (XOp.store1 [_, _] _ [v5] sizeOf47 rfl rfl (one_sl hs2) rfl rfl rfl (XL.nil (X.region (XL.mv (.int .i64 ((n : Int))) rfl (cX (XOp.subR (((n : Int)) - 1) rfl rfl (by omega) (by omega) (XL.as (.int .i64 (((n : Int)) - 1)) rfl (XL.nil ?_))))))))))
  exact ⟨(n - 1, v5, os ++ [[]], cs ++ [v1], (m) + 1, F8), _, (FLe.trans leG1 le8), rF, ⟨rfl, rfl, rfl, rfl, (vI (by (try dsimp only); omega)), trivial⟩, (sD (sC (sC (sC (sC (sC sR)))))), ⟨rfl, (FLe.trans leG1 le8), (hs2), (hc2), (by (try dsimp only); rw [List.length_append]; simp only [List.length_singleton]; omega), (by (try dsimp only); rw [List.length_append]; simp only [List.length_singleton]; omega), (rows_snoc hob (by (try simp only [List.length_nil]); omega))⟩, (by (try dsimp only); omega)⟩
 refine X.exit (thenQ_exit (thenQ_exit (blockQ_exit (X.seq (X.region (cX (XOp.loadN [ov] isAgg76 sizeOf76 rfl rfl (Rd.ownN [_] rfl rfl) (cX (XOp.storeN [_, _] _ [ov] sizeOf76 rfl rfl rfl (ones_cons (one_sl hov) ones_nil) rfl rfl rfl (XL.nil (X.freezeF [] _ _ rfl (fun F9 le9 hz3 => ?_))))))))))))
 replace hC := hC.mono le9
 have hf3 : RowsF F9 ov os := CO.fz hC (by first | rfl | omega | (rw [List.length_set]; omega) | (simp; done)) hz3.fz
 refine X.ret (retEnd (L' := curH .i64 134 cb bsv bs.length :: L) [.agg #[ov]] (.agg #[ov]) (.cell rfl (loadNV [ov] isAgg76 sizeOf76 rfl (Rd.ownN [_] rfl rfl)) .nil) rfl (FLe.trans leG1 le9) rF (sD (sD (sD (sC sR)))) ?_)
 exact ⟨⟨_, rfl, ⟨_, hf3, by omega, hob⟩⟩, rfl⟩
end Go.Proofs.YtmaaifhmhclhdaaGreat
