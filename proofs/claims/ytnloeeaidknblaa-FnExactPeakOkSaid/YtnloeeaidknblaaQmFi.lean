/-
  Walks: the reference's substitutions and matching.
-/
import Derived.Test.YtnloeeaidknblaaQmFh
set_option linter.unusedSimpArgs false
set_option linter.unusedVariables false
namespace Go.Proofs.Ytnloeeaidknblaa
open Go X M

/- spec.l2Gives -/
theorem l2Gives_spec {F : FH} {L : List HP} {sv : Value} {s : List (List Int)} (hs : RowsF F sv s) {i : Nat} (hsl : s.length ≤ 4000000) (hi : i ≤ 4000000) (hsb : (s.getD i []).length ≤ 4000000) :
    Does Try.prog 184 [.agg #[sv], .int .i64 (((i : Nat) : Int))] F (L) (fun v F' L' => F = F' ∧ IsSl v ∧ intsH 2 v (lk s (-1 - (i : Int))) :: L = L') := by
  refine Does.of_X Try.func184 rfl rfl rfl ?_
  refine X.seq ?_
  refine X.region ?_
  refine XL.cons (XOp.box [sv] rfl rfl ?_)
  intro b1
  refine XL.cons (XOp.assign ((.slice none 0 0)) rfl ?_)
  refine XL.nil ?_
  refine X.seq ?_
  refine X.seq ?_
  refine X.region ?_
  refine XL.cons (XOp.move (.int .i64 (((i : Nat) : Int))) rfl ?_)
  refine XL.cons (XOp.fieldP (b := b1) (0) Try.runUnderlying184 rfl Try.sizeOf47 (by decide) rfl rfl ?_)
  refine XL.cons (XOp.load1 (v := sv) Try.isAgg47 rfl (Rd.own [] rfl rfl) ?_)
  refine XL.cons (XOp.lenS (v := sv) (n := (s).length) Try.runUnderlying47 rfl hs.slv ?_)
  refine XL.cons (XOp.lss (a := ((i : Nat) : Int)) (b := (((s).length : Nat) : Int)) rfl rfl ?_)
  refine XL.cons (XOp.move (.bool (decide ((((i : Nat) : Int) : Int) < (((s).length : Nat) : Int)))) rfl ?_)
  by_cases h1 : (((i : Nat) : Int) : Int) < (((s).length : Nat) : Int)
  · refine XL.yes (t := 10) rfl (congrArg Value.bool (decide_eq_true h1)) (XOp.fieldP (b := b1) (0) Try.runUnderlying184 rfl Try.sizeOf47 (by decide) rfl rfl ?_)
    refine XL.yes (t := 10) rfl (congrArg Value.bool (decide_eq_true h1)) (XOp.load1 (v := sv) Try.isAgg47 rfl (Rd.own [] rfl rfl) ?_)
    refine XL.yes (t := 10) rfl (congrArg Value.bool (decide_eq_true h1)) (XOp.move (.int .i64 (((i : Nat) : Int))) rfl ?_)
    refine XL.yes (t := 10) rfl (congrArg Value.bool (decide_eq_true h1)) (XOp.indexS (v := sv) (i := ((i : Nat) : Int)) (n := (s).length) i Try.runUnderlying47 Try.sizeOf22 rfl rfl rfl hs.slv (by omega) (Nat.mul_one _) ?_)
    obtain ⟨a1, ha1, hr1⟩ := hs.rd (i := i) (by omega)
    refine XL.yes (t := 10) rfl (congrArg Value.bool (decide_eq_true h1)) (XOp.load1 (v := a1) Try.isAgg22 rfl (hr1 _) ?_)
    refine XL.yes (t := 10) rfl (congrArg Value.bool (decide_eq_true h1)) (XOp.lenS (v := a1) (n := ((s.getD i [])).length) Try.runUnderlying22 rfl ha1.slv ?_)
    refine XL.yes (t := 10) rfl (congrArg Value.bool (decide_eq_true h1)) (XOp.gtr (a := ((((s.getD i [])).length : Nat) : Int)) (b := 0) rfl rfl ?_)
    refine XL.cons (XOp.pickT (.bool (decide ((((((s.getD i [])).length : Nat) : Int) : Int) > 0))) (congrArg Value.bool (decide_eq_true h1)) rfl ?_)
    refine XL.nil ?_
    refine X.condD (p := (((((s.getD i [])).length : Nat) : Int) : Int) > 0) rfl (fun h2 => ?_) (fun h2 => ?_)
    · refine X.seq ?_
      refine X.region ?_
      refine XL.cons (XOp.fieldP (b := b1) (0) Try.runUnderlying184 rfl Try.sizeOf47 (by decide) rfl rfl ?_)
      refine XL.cons (XOp.load1 (v := sv) Try.isAgg47 rfl (Rd.own [] rfl rfl) ?_)
      refine XL.cons (XOp.move (.int .i64 (((i : Nat) : Int))) rfl ?_)
      refine XL.cons (XOp.indexS (v := sv) (i := ((i : Nat) : Int)) (n := (s).length) i Try.runUnderlying47 Try.sizeOf22 rfl rfl rfl hs.slv (by omega) (Nat.mul_one _) ?_)
      refine XL.cons (XOp.load1 (v := a1) Try.isAgg22 rfl (hr1 _) ?_)
      refine XL.cons (XOp.call (args := [a1]) Try.call88 rfl (l1Copy_spec ha1 (hlt := (by first | assumption | rfl | omega | (left; simp; done) | (right; simp; done)))) ?_)
      rintro v1 _ _ _ ⟨rfl, hs1, rfl⟩
      refine XL.cons (XOp.assign (v1) rfl ?_)
      refine XL.nil ?_
      refine X.ret (thenQ_ret (retEnd (L' := intsH 2 v1 ((((s.getD i [])))) :: L) [v1] (v1) (.tmp rfl .nil) rfl (FLe.refl _) (FLe.refl _) (Sub.cons (Sub.drop (Sub.refl _))) ?_))
      refine ⟨rfl, hs1, ?_⟩
      have hxs : (lk s (-1 - (i : Int)) : List Int) = (((s.getD i []))) := lk_copy (by omega)
      exact congrArg (fun z => intsH 2 _ z :: L) hxs
    · refine X.skip ?_
      refine X.seq ?_
      refine X.region ?_
      refine XL.cons (XOp.move (.int .i64 (((i : Nat) : Int))) rfl ?_)
      refine XL.cons (XOp.subR (a := -1) (b := ((i : Nat) : Int)) ((-1) - (((i : Nat) : Int))) rfl rfl (by omega) (by omega) ?_)
      refine XL.cons (XOp.buildSlice (s := 1) [.int .i64 ((-1) - (((i : Nat) : Int)))] [.int .i64 (0)] [(0, [.int .i64 ((-1) - (((i : Nat) : Int)))])] Try.runUnderlying22 Try.sizeOf2 Try.zeroValue2 rfl (by decide) rfl (.cons rfl CellsAre.nil) rfl ?_)
      intro v2 hv1
      refine XL.cons (XOp.assign (v2) rfl ?_)
      refine XL.nil ?_
      refine X.ret (retEnd (L' := intsH 2 v2 ([(-1) - (((i : Nat) : Int))]) :: L) [v2] (v2) (.tmp rfl .nil) rfl (FLe.refl _) (FLe.refl _) (Sub.cons (Sub.drop (Sub.refl _))) ?_)
      refine ⟨rfl, (isSl_lit hv1), ?_⟩
      have hxs : (lk s (-1 - (i : Int)) : List Int) = [(-1) - (((i : Nat) : Int))] := lk_self (by first | omega | (rw [getD_out (by omega)]; simp))
      exact congrArg (fun z => intsH 2 _ z :: L) hxs
  · refine XL.no (t := 10) rfl (congrArg Value.bool (decide_eq_false h1)) ?_
    refine XL.no (t := 10) rfl (congrArg Value.bool (decide_eq_false h1)) ?_
    refine XL.no (t := 10) rfl (congrArg Value.bool (decide_eq_false h1)) ?_
    refine XL.no (t := 10) rfl (congrArg Value.bool (decide_eq_false h1)) ?_
    refine XL.no (t := 10) rfl (congrArg Value.bool (decide_eq_false h1)) ?_
    refine XL.no (t := 10) rfl (congrArg Value.bool (decide_eq_false h1)) ?_
    refine XL.no (t := 10) rfl (congrArg Value.bool (decide_eq_false h1)) ?_
    refine XL.cons (XOp.pickF (.bool (false)) (congrArg Value.bool (decide_eq_false h1)) rfl ?_)
    refine XL.nil ?_
    refine X.condF rfl ?_
    refine X.skip ?_
    refine X.seq ?_
    refine X.region ?_
    refine XL.cons (XOp.move (.int .i64 (((i : Nat) : Int))) rfl ?_)
    refine XL.cons (XOp.subR (a := -1) (b := ((i : Nat) : Int)) ((-1) - (((i : Nat) : Int))) rfl rfl (by omega) (by omega) ?_)
    refine XL.cons (XOp.buildSlice (s := 1) [.int .i64 ((-1) - (((i : Nat) : Int)))] [.int .i64 (0)] [(0, [.int .i64 ((-1) - (((i : Nat) : Int)))])] Try.runUnderlying22 Try.sizeOf2 Try.zeroValue2 rfl (by decide) rfl (.cons rfl CellsAre.nil) rfl ?_)
    intro v3 hv2
    refine XL.cons (XOp.assign (v3) rfl ?_)
    refine XL.nil ?_
    refine X.ret (retEnd (L' := intsH 2 v3 ([(-1) - (((i : Nat) : Int))]) :: L) [v3] (v3) (.tmp rfl .nil) rfl (FLe.refl _) (FLe.refl _) (Sub.cons (Sub.drop (Sub.refl _))) ?_)
    refine ⟨rfl, (isSl_lit hv2), ?_⟩
    have hxs : (lk s (-1 - (i : Int)) : List Int) = [(-1) - (((i : Nat) : Int))] := lk_self (by first | omega | (rw [getD_out (by omega)]; simp))
    exact congrArg (fun z => intsH 2 _ z :: L) hxs

/- spec.l2Plain -/
theorem l2Plain_spec {F : FH} {L : List HP} {sv : Value} {s : List (List Int)} (hs : RowsF F sv s) (hsl : s.length ≤ 24) (hsb : ∀ i, (s.getD i []).length ≤ 4000000) :
    Does Try.prog 187 [.agg #[sv]] F (L) (fun v F' L' => ∃ (a : Value), (.agg #[a] : Value) = v ∧ (RowsF F' a (plainL s)) ∧ L = L') := by
  refine Does.of_X Try.func187 rfl rfl rfl ?_
  refine X.seq ?_
  refine X.region ?_
  refine XL.cons (XOp.box [sv] rfl rfl ?_)
  intro b1
  refine XL.cons (XOp.alloc [(.slice none 0 0)] Try.zeroValue184 rfl ?_)
  intro b2
  refine XL.nil ?_
  refine X.seq ?_
  refine X.region ?_
  refine XL.cons (XOp.build [(.slice none 0 0)] [(.slice none 0 0)] [(0, 1)] [] Try.runUnderlying184 Try.zeroValue184 rfl (.cons rfl Try.sizeOf47 PlacesAre.nil) rfl CellsAre.nil ?_)
  refine XL.cons (XOp.alloc [(.slice none 0 0)] Try.zeroValue184 rfl ?_)
  intro b3
  refine XL.cons (XOp.storeN (vs := [(.slice none 0 0)]) [] _ [(.slice none 0 0)] Try.sizeOf184 rfl rfl rfl (ones_cons rfl ones_nil) rfl rfl rfl ?_)
  refine XL.nil ?_
  refine X.seq ?_
  refine X.seq ?_
  refine X.region ?_
  refine XL.cons (XOp.assign (.int .i64 (0)) rfl ?_)
  refine XL.nil ?_
  refine X.block ?_
  refine X.loop (α := Nat × Value × RowL × FH) (fun xQ => [(1, ptr b1 0), (2, ptr b2 0), (3, ptr b3 0), (4, .int .i64 (((xQ.1 : Nat) : Int)))]) (fun xQ => rowsH 22 xQ.2.2.2 xQ.2.1 xQ.2.2.1 :: cellsH b3 [xQ.2.1] 184 :: cellsH b2 [(.slice none 0 0)] 184 :: cellsH b1 [sv] 184 :: L) (fun xQ F' => xQ.2.2.2 = F' ∧ F ≤ xQ.2.2.2 ∧ (IsSl xQ.2.1) ∧ (xQ.2.2.1 = (plainGo 0 s).take xQ.1) ∧ (xQ.1 ≤ s.length)) (fun xQ => s.length - xQ.1) (0, (.slice none 0 0), [], F) ⟨rfl, rfl, rfl, rfl, trivial⟩ (coH.addNil none (Sub.cons (Sub.cons (Sub.cons (Sub.refl _))))) ⟨rfl, FLe.refl _, (⟨_, _, _, rfl⟩), (rfl), (by (try dsimp only) <;> omega)⟩ ?_
  rintro ⟨k, ov, os, G1⟩ rE _ _ ⟨rfl, leG, hov, hos, hk⟩
  show X _ _ _ _ (envs [(1, ptr b1 0), (2, ptr b2 0), (3, ptr b3 0), (4, .int .i64 (((k : Nat) : Int)))] rE) _ (rowsH 22 G1 ov os :: cellsH b3 [ov] 184 :: cellsH b2 [(.slice none 0 0)] 184 :: cellsH b1 [sv] 184 :: L)
  replace leG : F ≤ G1 := leG
  dsimp only at hov hos hk
  have hol : os.length ≤ k := by rw [hos, List.length_take]; omega
  have hsbk := hsb k
  have hlkb : (lk s (-1 - (k : Int))).length ≤ 4000000 := by rw [lk_var]; split <;> simp; exact hsbk
  have leG1 := leG
  replace hs := hs.mono leG1
  refine X.open [] rfl (fun cs1 hc1 => ?_)
  replace hc1 : RowsC G1 cs1 os := hc1
  refine X.seq ?_
  refine X.seq ?_
  refine X.region ?_
  refine XL.cons (XOp.move (.int .i64 (((k : Nat) : Int))) rfl ?_)
  refine XL.cons (XOp.fieldP (b := b1) (0) Try.runUnderlying184 rfl Try.sizeOf47 (by decide) rfl rfl ?_)
  refine XL.cons (XOp.load1 (v := sv) Try.isAgg47 rfl (Rd.own [_, _, _] rfl rfl) ?_)
  refine XL.cons (XOp.lenS (v := sv) (n := (s).length) Try.runUnderlying47 rfl hs.slv ?_)
  refine XL.cons (XOp.lss (a := ((k : Nat) : Int)) (b := (((s).length : Nat) : Int)) rfl rfl ?_)
  refine XL.nil ?_
  refine X.condD (p := (((k : Nat) : Int) : Int) < (((s).length : Nat) : Int)) rfl (fun h1 => ?_) (fun h1 => ?_)
  · refine X.skip ?_
    refine X.seq ?_
    refine X.block ?_
    refine X.seq ?_
    refine X.region ?_
    refine XL.cons (XOp.loadN [sv] Try.isAgg184 Try.sizeOf184 rfl rfl (Rd.ownN [_, _, _] rfl rfl) ?_)
    refine XL.cons (XOp.move (.int .i64 (((k : Nat) : Int))) rfl ?_)
    refine XL.cons (XOp.frzF <| XOp.call (args := [.agg #[sv], .int .i64 ((k : Nat) : Int)]) Try.call184 rfl (l2Gives_spec (i := k) hs (hsl := (by first | assumption | rfl | omega | (left; simp; done) | (right; simp; done))) (hi := (by first | assumption | rfl | omega | (left; simp; done) | (right; simp; done))) (hsb := (hsb k))) ?_)
    rintro v1 _ _ _ ⟨rfl, hs1, rfl⟩
    refine ⟨_, _, rfl, fun F1 le1 hz1 => ?_⟩
    replace hs := hs.mono le1
    replace hc1 := hc1.mono le1
    have hf1 : IntsF F1 v1 ((lk s (-1 - (k : Int)))) := intsH.fz (xs := (lk s (-1 - (k : Int)))) hz1.fz
    refine XL.cons (XOp.assign (v1) rfl ?_)
    refine XL.nil ?_
    refine X.seq ?_
    refine X.seq ?_
    refine X.region ?_
    refine XL.cons (XOp.move (v1) rfl ?_)
    refine XL.cons (XOp.lenS (v := v1) (n := ((lk s (-1 - (k : Int)))).length) Try.runUnderlying22 rfl hf1.slv ?_)
    refine XL.cons (XOp.eql (a := ((((lk s (-1 - (k : Int)))).length : Nat) : Int)) (b := 1) rfl rfl ?_)
    refine XL.cons (XOp.move (.bool (decide ((((((lk s (-1 - (k : Int)))).length : Nat) : Int) : Int) = 1))) rfl ?_)
    by_cases h2 : (((((lk s (-1 - (k : Int)))).length : Nat) : Int) : Int) = 1
    · refine XL.yes (t := 20) rfl (congrArg Value.bool (decide_eq_true h2)) (XOp.move (v1) rfl ?_)
      refine XL.yes (t := 20) rfl (congrArg Value.bool (decide_eq_true h2)) (XOp.indexS (v := v1) (i := 0) (n := ((lk s (-1 - (k : Int)))).length) 0 Try.runUnderlying22 Try.sizeOf2 rfl rfl rfl hf1.slv (by omega) (Nat.mul_one _) ?_)
      refine XL.yes (t := 20) rfl (congrArg Value.bool (decide_eq_true h2)) (XOp.load1 (v := .int .i64 (((lk s (-1 - (k : Int)))).getD 0 0)) Try.isAgg2 rfl (hf1.rd (by omega)) ?_)
      refine XL.yes (t := 20) rfl (congrArg Value.bool (decide_eq_true h2)) (XOp.move (.int .i64 (((k : Nat) : Int))) rfl ?_)
      refine XL.yes (t := 20) rfl (congrArg Value.bool (decide_eq_true h2)) (XOp.subR (a := -1) (b := ((k : Nat) : Int)) ((-1) - (((k : Nat) : Int))) rfl rfl (by omega) (by omega) ?_)
      refine XL.yes (t := 20) rfl (congrArg Value.bool (decide_eq_true h2)) (XOp.eql (a := ((lk s (-1 - (k : Int)))).getD 0 0) (b := (-1) - (((k : Nat) : Int))) rfl rfl ?_)
      refine XL.cons (XOp.pickT (.bool (decide ((((lk s (-1 - (k : Int)))).getD 0 0 : Int) = (-1) - (((k : Nat) : Int))))) (congrArg Value.bool (decide_eq_true h2)) rfl ?_)
      refine XL.nil ?_
      refine X.condD (p := (((lk s (-1 - (k : Int)))).getD 0 0 : Int) = (-1) - (((k : Nat) : Int))) rfl (fun h3 => ?_) (fun h3 => ?_)
      · refine X.region ?_
        refine XL.cons (XOp.buildSlice (s := 1) [] [.int .i64 (0)] [] Try.runUnderlying22 Try.sizeOf2 Try.zeroValue2 rfl (by decide) rfl CellsAre.nil rfl ?_)
        intro v2 hv1
        refine XL.cons (XOp.assign (v2) rfl ?_)
        refine XL.nil ?_
        refine X.region ?_
        refine XL.cons (XOp.fieldP (b := b3) (0) Try.runUnderlying184 rfl Try.sizeOf47 (by decide) rfl rfl ?_)
        refine XL.cons (XOp.load1 (v := ov) Try.isAgg47 rfl (Rd.own [_, _] rfl rfl) ?_)
        refine XL.cons (XOp.move (v2) rfl ?_)
        refine XL.cons (XOp.buildSlice (s := 1) [v2] [(.slice none 0 0)] [(0, [v2])] Try.runUnderlying47 Try.sizeOf22 Try.zeroValue22 rfl (by decide) rfl (.cons (cells_one (isSl_lit hv1)) CellsAre.nil) rfl ?_)
        intro v3 hv2
        show XL _ _ _ _ _ _ _ (slH 22 1 v3 1 [v2] :: intsH 2 v2 ([] : List Int) :: slH 22 1 ov ((os).length) cs1 :: cellsH b3 [ov] 184 :: cellsH b2 [(.slice none 0 0)] 184 :: cellsH b1 [sv] 184 :: L)
        refine XL.freezeF [_] _ _ rfl (fun F2 le2 hz2 => ?_)
        replace hs := hs.mono le2
        replace hc1 := hc1.mono le2
        replace hf1 := hf1.mono le2
        have hf2 : IntsF F2 v2 ([]) := intsH.fz (xs := []) hz2.fz
        refine XL.cons (XOp.append (m := 1) (bytes := 24) (cs := cs1) [_] _ [v2] Try.runUnderlying47 Try.typeInfo22 rfl rfl rfl rfl rfl rfl rfl (SlV.own [] rfl) rfl (Rd.lit [] rfl) (ones_cons (one_sl (IntsF.isSl hf2)) ones_nil) (by (try simp only [List.length_append, List.length_nil, List.length_cons, List.length_singleton]); omega) (by (try simp only [List.length_append, List.length_nil, List.length_cons, List.length_singleton]); omega) ?_)
        intro v4 hs2 hn1 hm1
        have hc2 := RowsC.snoc hc1 hf2
        refine XL.cons (XOp.fieldP (b := b3) (0) Try.runUnderlying184 rfl Try.sizeOf47 (by decide) rfl rfl ?_)
        refine XL.cons (XOp.store1 (v := v4) [_, _] _ [v4] Try.sizeOf47 rfl rfl (one_sl hs2) rfl rfl rfl ?_)
        refine XL.nil ?_
        refine X.region ?_
        refine XL.cons (XOp.move (.int .i64 (((k : Nat) : Int))) rfl ?_)
        refine XL.cons (XOp.addR (a := ((k : Nat) : Int)) (b := 1) (((k + 1 : Nat) : Int)) rfl rfl (by omega) (by omega) ?_)
        refine XL.cons (XOp.assign (.int .i64 (((k + 1 : Nat) : Int))) rfl ?_)
        refine XL.nil ?_
        exact ⟨(k + 1, v4, os ++ [[]], F2), _, (FLe.trans (FLe.trans leG1 le1) le2), (FLe.refl _), ⟨rfl, rfl, rfl, rfl, trivial⟩, (Sub.drop (coH.close hc2 (by first | rfl | simp) (Sub.cons (Sub.cons (Sub.cons (Sub.refl _)))))), ⟨rfl, (FLe.trans (FLe.trans leG1 le1) le2), (hs2), (by dsimp only; rw [hos, plainGo_take (by omega), plainGo_self (one_eq (by omega) (by omega))]), (by (try dsimp only) <;> omega)⟩, (by omega)⟩
      · refine X.skip ?_
        refine X.region ?_
        refine XL.cons (XOp.fieldP (b := b3) (0) Try.runUnderlying184 rfl Try.sizeOf47 (by decide) rfl rfl ?_)
        refine XL.cons (XOp.load1 (v := ov) Try.isAgg47 rfl (Rd.own [_] rfl rfl) ?_)
        refine XL.cons (XOp.move (v1) rfl ?_)
        refine XL.cons (XOp.buildSlice (s := 1) [v1] [(.slice none 0 0)] [(0, [v1])] Try.runUnderlying47 Try.sizeOf22 Try.zeroValue22 rfl (by decide) rfl (.cons (cells_one (IntsF.isSl hf1)) CellsAre.nil) rfl ?_)
        intro v5 hv3
        refine XL.cons (XOp.append (m := 1) (bytes := 24) (cs := cs1) [_] _ [v1] Try.runUnderlying47 Try.typeInfo22 rfl rfl rfl rfl rfl rfl rfl (SlV.own [] rfl) rfl (Rd.lit [] rfl) (ones_cons (one_sl (IntsF.isSl hf1)) ones_nil) (by (try simp only [List.length_append, List.length_nil, List.length_cons, List.length_singleton]); omega) (by (try simp only [List.length_append, List.length_nil, List.length_cons, List.length_singleton]); omega) ?_)
        intro v6 hs3 hn2 hm2
        have hc3 := RowsC.snoc hc1 hf1
        refine XL.cons (XOp.fieldP (b := b3) (0) Try.runUnderlying184 rfl Try.sizeOf47 (by decide) rfl rfl ?_)
        refine XL.cons (XOp.store1 (v := v6) [_, _] _ [v6] Try.sizeOf47 rfl rfl (one_sl hs3) rfl rfl rfl ?_)
        refine XL.nil ?_
        refine X.region ?_
        refine XL.cons (XOp.move (.int .i64 (((k : Nat) : Int))) rfl ?_)
        refine XL.cons (XOp.addR (a := ((k : Nat) : Int)) (b := 1) (((k + 1 : Nat) : Int)) rfl rfl (by omega) (by omega) ?_)
        refine XL.cons (XOp.assign (.int .i64 (((k + 1 : Nat) : Int))) rfl ?_)
        refine XL.nil ?_
        exact ⟨(k + 1, v6, os ++ [(lk s (-1 - (k : Int)))], F1), _, (FLe.trans leG1 le1), (FLe.refl _), ⟨rfl, rfl, rfl, rfl, trivial⟩, (Sub.drop (coH.close hc3 (by first | rfl | simp) (Sub.cons (Sub.cons (Sub.cons (Sub.refl _)))))), ⟨rfl, (FLe.trans leG1 le1), (hs3), (by dsimp only; rw [hos, plainGo_take (by omega), plainGo_other (by intro e; have e1 := congrArg List.length e; have e2 := congrArg (fun l => l.getD 0 0) e; simp only [List.length_singleton, List.getD_cons_zero] at e1 e2; omega)]), (by (try dsimp only) <;> omega)⟩, (by omega)⟩
    · refine XL.no (t := 20) rfl (congrArg Value.bool (decide_eq_false h2)) ?_
      refine XL.no (t := 20) rfl (congrArg Value.bool (decide_eq_false h2)) ?_
      refine XL.no (t := 20) rfl (congrArg Value.bool (decide_eq_false h2)) ?_
      refine XL.no (t := 20) rfl (congrArg Value.bool (decide_eq_false h2)) ?_
      refine XL.no (t := 20) rfl (congrArg Value.bool (decide_eq_false h2)) ?_
      refine XL.no (t := 20) rfl (congrArg Value.bool (decide_eq_false h2)) ?_
      refine XL.cons (XOp.pickF (.bool (false)) (congrArg Value.bool (decide_eq_false h2)) rfl ?_)
      refine XL.nil ?_
      refine X.condF rfl ?_
      refine X.skip ?_
      refine X.region ?_
      refine XL.cons (XOp.fieldP (b := b3) (0) Try.runUnderlying184 rfl Try.sizeOf47 (by decide) rfl rfl ?_)
      refine XL.cons (XOp.load1 (v := ov) Try.isAgg47 rfl (Rd.own [_] rfl rfl) ?_)
      refine XL.cons (XOp.move (v1) rfl ?_)
      refine XL.cons (XOp.buildSlice (s := 1) [v1] [(.slice none 0 0)] [(0, [v1])] Try.runUnderlying47 Try.sizeOf22 Try.zeroValue22 rfl (by decide) rfl (.cons (cells_one (IntsF.isSl hf1)) CellsAre.nil) rfl ?_)
      intro v7 hv4
      refine XL.cons (XOp.append (m := 1) (bytes := 24) (cs := cs1) [_] _ [v1] Try.runUnderlying47 Try.typeInfo22 rfl rfl rfl rfl rfl rfl rfl (SlV.own [] rfl) rfl (Rd.lit [] rfl) (ones_cons (one_sl (IntsF.isSl hf1)) ones_nil) (by (try simp only [List.length_append, List.length_nil, List.length_cons, List.length_singleton]); omega) (by (try simp only [List.length_append, List.length_nil, List.length_cons, List.length_singleton]); omega) ?_)
      intro v8 hs4 hn3 hm3
      have hc4 := RowsC.snoc hc1 hf1
      refine XL.cons (XOp.fieldP (b := b3) (0) Try.runUnderlying184 rfl Try.sizeOf47 (by decide) rfl rfl ?_)
      refine XL.cons (XOp.store1 (v := v8) [_, _] _ [v8] Try.sizeOf47 rfl rfl (one_sl hs4) rfl rfl rfl ?_)
      refine XL.nil ?_
      refine X.region ?_
      refine XL.cons (XOp.move (.int .i64 (((k : Nat) : Int))) rfl ?_)
      refine XL.cons (XOp.addR (a := ((k : Nat) : Int)) (b := 1) (((k + 1 : Nat) : Int)) rfl rfl (by omega) (by omega) ?_)
      refine XL.cons (XOp.assign (.int .i64 (((k + 1 : Nat) : Int))) rfl ?_)
      refine XL.nil ?_
      exact ⟨(k + 1, v8, os ++ [(lk s (-1 - (k : Int)))], F1), _, (FLe.trans leG1 le1), (FLe.refl _), ⟨rfl, rfl, rfl, rfl, trivial⟩, (Sub.drop (coH.close hc4 (by first | rfl | simp) (Sub.cons (Sub.cons (Sub.cons (Sub.refl _)))))), ⟨rfl, (FLe.trans leG1 le1), (hs4), (by dsimp only; rw [hos, plainGo_take (by omega), plainGo_other (by intro e; have e1 := congrArg List.length e; have e2 := congrArg (fun l => l.getD 0 0) e; simp only [List.length_singleton, List.getD_cons_zero] at e1 e2; omega)]), (by (try dsimp only) <;> omega)⟩, (by omega)⟩
  · refine X.exit (thenQ_exit (thenQ_exit (blockQ_exit ?_)))
    refine X.seq ?_
    refine X.block ?_
    refine X.loop (α := Value × RowL × FH) (fun xQ => [(2, ptr b2 0), (3, ptr b3 0)]) (fun xQ => rowsH 22 xQ.2.2 xQ.1 xQ.2.1 :: cellsH b3 [xQ.1] 184 :: cellsH b2 [(.slice none 0 0)] 184 :: cellsH b1 [sv] 184 :: L) (fun xQ F' => xQ.2.2 = F' ∧ G1 ≤ xQ.2.2 ∧ (IsSl xQ.1) ∧ (trim xQ.2.1 = plainL s) ∧ (xQ.2.1.length ≤ 24)) (fun xQ => xQ.2.1.length) (ov, os, G1) ⟨rfl, rfl, trivial⟩ (coH.close hc1 (by first | rfl | simp) (Sub.cons (Sub.cons (Sub.cons (Sub.refl _))))) ⟨rfl, FLe.refl _, (hov), (by dsimp only; rw [hos, plainL, List.take_of_length_le (by rw [plainGo_length]; omega)]), (by dsimp only; rw [hos, List.length_take, plainGo_length]; omega)⟩ ?_
    rintro ⟨ov2, os2, G2⟩ rE _ _ ⟨rfl, leG, hov2, hos2, hl2⟩
    show X _ _ _ _ (envs [(2, ptr b2 0), (3, ptr b3 0)] rE) _ (rowsH 22 G2 ov2 os2 :: cellsH b3 [ov2] 184 :: cellsH b2 [(.slice none 0 0)] 184 :: cellsH b1 [sv] 184 :: L)
    replace leG : G1 ≤ G2 := leG
    dsimp only at hov2 hos2 hl2
    have leG2 := leG
    replace hs := hs.mono leG2
    replace hc1 := hc1.mono leG2
    refine X.open [] rfl (fun cs2 hc5 => ?_)
    replace hc5 : RowsC G2 cs2 os2 := hc5
    refine X.seq ?_
    refine X.seq ?_
    refine X.region ?_
    refine XL.cons (XOp.fieldP (b := b3) (0) Try.runUnderlying184 rfl Try.sizeOf47 (by decide) rfl rfl ?_)
    refine XL.cons (XOp.load1 (v := ov2) Try.isAgg47 rfl (Rd.own [_] rfl rfl) ?_)
    refine XL.cons (XOp.lenS (v := ov2) (n := os2.length) Try.runUnderlying47 rfl (SlV.own [] rfl) ?_)
    refine XL.cons (XOp.gtr (a := ((os2.length : Nat) : Int)) (b := 0) rfl rfl ?_)
    refine XL.cons (XOp.move (.bool (decide ((((os2.length : Nat) : Int) : Int) > 0))) rfl ?_)
    by_cases h4 : (((os2.length : Nat) : Int) : Int) > 0
    · refine XL.yes (t := 39) rfl (congrArg Value.bool (decide_eq_true h4)) (XOp.fieldP (b := b3) (0) Try.runUnderlying184 rfl Try.sizeOf47 (by decide) rfl rfl ?_)
      refine XL.yes (t := 39) rfl (congrArg Value.bool (decide_eq_true h4)) (XOp.load1 (v := ov2) Try.isAgg47 rfl (Rd.own [_] rfl rfl) ?_)
      refine XL.yes (t := 39) rfl (congrArg Value.bool (decide_eq_true h4)) (XOp.fieldP (b := b3) (0) Try.runUnderlying184 rfl Try.sizeOf47 (by decide) rfl rfl ?_)
      refine XL.yes (t := 39) rfl (congrArg Value.bool (decide_eq_true h4)) (XOp.load1 (v := ov2) Try.isAgg47 rfl (Rd.own [_] rfl rfl) ?_)
      refine XL.yes (t := 39) rfl (congrArg Value.bool (decide_eq_true h4)) (XOp.lenS (v := ov2) (n := os2.length) Try.runUnderlying47 rfl (SlV.own [] rfl) ?_)
      refine XL.yes (t := 39) rfl (congrArg Value.bool (decide_eq_true h4)) (XOp.subR (a := ((os2.length : Nat) : Int)) (b := 1) (((os2.length - 1 : Nat) : Int)) rfl rfl (by omega) (by omega) ?_)
      refine XL.yes (t := 39) rfl (congrArg Value.bool (decide_eq_true h4)) (XOp.indexS (v := ov2) (i := ((os2.length - 1 : Nat) : Int)) (n := os2.length) (os2.length - 1) Try.runUnderlying47 Try.sizeOf22 rfl rfl rfl (SlV.own [] rfl) (by omega) (Nat.mul_one _) ?_)
      obtain ⟨a1, ha1, he1⟩ := hc5.get (i := os2.length - 1) (by omega)
      refine XL.yes (t := 39) rfl (congrArg Value.bool (decide_eq_true h4)) (XOp.load1 (v := a1) Try.isAgg22 rfl (Rd.sl [] rfl he1) ?_)
      refine XL.yes (t := 39) rfl (congrArg Value.bool (decide_eq_true h4)) (XOp.lenS (v := a1) (n := ((os2.getD (os2.length - 1) [])).length) Try.runUnderlying22 rfl ha1.slv ?_)
      refine XL.yes (t := 39) rfl (congrArg Value.bool (decide_eq_true h4)) (XOp.eql (a := ((((os2.getD (os2.length - 1) [])).length : Nat) : Int)) (b := 0) rfl rfl ?_)
      refine XL.cons (XOp.pickT (.bool (decide ((((((os2.getD (os2.length - 1) [])).length : Nat) : Int) : Int) = 0))) (congrArg Value.bool (decide_eq_true h4)) rfl ?_)
      refine XL.nil ?_
      refine X.condD (p := (((((os2.getD (os2.length - 1) [])).length : Nat) : Int) : Int) = 0) rfl (fun h5 => ?_) (fun h5 => ?_)
      · refine X.skip ?_
        refine X.block ?_
        refine X.region ?_
        refine XL.cons (XOp.fieldP (b := b3) (0) Try.runUnderlying184 rfl Try.sizeOf47 (by decide) rfl rfl ?_)
        refine XL.cons (XOp.load1 (v := ov2) Try.isAgg47 rfl (Rd.own [_] rfl rfl) ?_)
        refine XL.cons (XOp.fieldP (b := b3) (0) Try.runUnderlying184 rfl Try.sizeOf47 (by decide) rfl rfl ?_)
        refine XL.cons (XOp.load1 (v := ov2) Try.isAgg47 rfl (Rd.own [_] rfl rfl) ?_)
        refine XL.cons (XOp.lenS (v := ov2) (n := os2.length) Try.runUnderlying47 rfl (SlV.own [] rfl) ?_)
        refine XL.cons (XOp.subR (a := ((os2.length : Nat) : Int)) (b := 1) (((os2.length - 1 : Nat) : Int)) rfl rfl (by omega) (by omega) ?_)
        refine XL.cons (XOp.sliceOwn (cs := cs2) [] _ (os2.length - 1) Try.runUnderlying47 Try.sizeOf22 rfl rfl ⟨_, rfl⟩ (by omega) ?_)
        intro v9 hs5
        have hc6 : RowsC G2 _ _ := CO.take hc5 (k := os2.length - 1) (by omega)
        refine XL.cons (XOp.fieldP (b := b3) (0) Try.runUnderlying184 rfl Try.sizeOf47 (by decide) rfl rfl ?_)
        refine XL.cons (XOp.store1 (v := v9) [_] _ [v9] Try.sizeOf47 rfl rfl (one_sl hs5) rfl rfl rfl ?_)
        refine XL.nil ?_
        exact ⟨(v9, (os2.take (os2.length - 1)), G2), _, leG2, (FLe.refl _), ⟨rfl, rfl, trivial⟩, (coH.close hc6 (by first | rfl | simp) (Sub.cons (Sub.cons (Sub.cons (Sub.refl _))))), ⟨rfl, leG2, (hs5), (by dsimp only; rw [trim_cut (by omega) (List.eq_nil_of_length_eq_zero (by omega))]; exact hos2), (by dsimp only; rw [List.length_take]; omega)⟩, (by dsimp only; rw [List.length_take]; omega)⟩
      · refine X.exit (thenQ_exit (thenQ_exit (blockQ_exit ?_)))
        refine X.seq ?_
        refine X.region ?_
        refine XL.cons (XOp.loadN [ov2] Try.isAgg184 Try.sizeOf184 rfl rfl (Rd.ownN [_] rfl rfl) ?_)
        refine XL.cons (XOp.storeN (vs := [ov2]) [_, _] _ [ov2] Try.sizeOf184 rfl rfl rfl (ones_cons (one_sl hov2) ones_nil) rfl rfl rfl ?_)
        refine XL.nil ?_
        refine X.freezeF [] _ _ rfl (fun F3 le3 hz3 => ?_)
        replace hs := hs.mono le3
        replace hc1 := hc1.mono le3
        replace hc5 := hc5.mono le3
        replace ha1 := ha1.mono le3
        have hf3 : RowsF F3 ov2 os2 := CO.fz hc5 (by first | rfl | simp | omega) hz3.fz
        refine X.ret (retEnd (L' := L) [.agg #[ov2]] (.agg #[ov2]) (.cell rfl (loadNV [ov2] Try.isAgg184 Try.sizeOf184 rfl (Rd.ownN [_] rfl rfl)) .nil) rfl (FLe.trans (FLe.trans leG1 leG2) le3) (FLe.refl _) (Sub.drop (Sub.drop (Sub.drop (Sub.refl _)))) ?_)
        have e : os2 = plainL s := by rw [← hos2]; exact (trim_last (fun h0 e => by have := congrArg List.length e; simp only [List.length_nil] at this; omega)).symm
        exact ⟨_, rfl, by rw [← e]; exact hf3, rfl⟩
    · refine XL.no (t := 39) rfl (congrArg Value.bool (decide_eq_false h4)) ?_
      refine XL.no (t := 39) rfl (congrArg Value.bool (decide_eq_false h4)) ?_
      refine XL.no (t := 39) rfl (congrArg Value.bool (decide_eq_false h4)) ?_
      refine XL.no (t := 39) rfl (congrArg Value.bool (decide_eq_false h4)) ?_
      refine XL.no (t := 39) rfl (congrArg Value.bool (decide_eq_false h4)) ?_
      refine XL.no (t := 39) rfl (congrArg Value.bool (decide_eq_false h4)) ?_
      refine XL.no (t := 39) rfl (congrArg Value.bool (decide_eq_false h4)) ?_
      refine XL.no (t := 39) rfl (congrArg Value.bool (decide_eq_false h4)) ?_
      refine XL.no (t := 39) rfl (congrArg Value.bool (decide_eq_false h4)) ?_
      refine XL.no (t := 39) rfl (congrArg Value.bool (decide_eq_false h4)) ?_
      refine XL.cons (XOp.pickF (.bool (false)) (congrArg Value.bool (decide_eq_false h4)) rfl ?_)
      refine XL.nil ?_
      refine X.condF rfl ?_
      refine X.exit (thenQ_exit (thenQ_exit (blockQ_exit ?_)))
      refine X.seq ?_
      refine X.region ?_
      refine XL.cons (XOp.loadN [ov2] Try.isAgg184 Try.sizeOf184 rfl rfl (Rd.ownN [_] rfl rfl) ?_)
      refine XL.cons (XOp.storeN (vs := [ov2]) [_, _] _ [ov2] Try.sizeOf184 rfl rfl rfl (ones_cons (one_sl hov2) ones_nil) rfl rfl rfl ?_)
      refine XL.nil ?_
      refine X.freezeF [] _ _ rfl (fun F4 le4 hz4 => ?_)
      replace hs := hs.mono le4
      replace hc1 := hc1.mono le4
      replace hc5 := hc5.mono le4
      have hf4 : RowsF F4 ov2 os2 := CO.fz hc5 (by first | rfl | simp | omega) hz4.fz
      refine X.ret (retEnd (L' := L) [.agg #[ov2]] (.agg #[ov2]) (.cell rfl (loadNV [ov2] Try.isAgg184 Try.sizeOf184 rfl (Rd.ownN [_] rfl rfl)) .nil) rfl (FLe.trans (FLe.trans leG1 leG2) le4) (FLe.refl _) (Sub.drop (Sub.drop (Sub.drop (Sub.refl _)))) ?_)
      have e : os2 = plainL s := by rw [← hos2]; exact (trim_last (fun h0 e => by have := congrArg List.length e; simp only [List.length_nil] at this; omega)).symm
      exact ⟨_, rfl, by rw [← e]; exact hf4, rfl⟩

/- spec.l4Match -/
theorem l4Match_spec {F : FH} {L : List HP} {arv : Value} {ar : List Int} (har : IntsF F arv ar) {pv : Value} {p : List Int} (hp : IntsF F pv p) {tv : Value} {t : List Int} (ht : IntsF F tv t) (ho : termOk ar t = true) (hpo : termOk ar p = true) :
    Does Try.prog 162 [.agg #[arv], pv, tv] F (L) (fun v F' L' => ∃ (a : Value), (.tuple #[.agg #[a], .bool ((matchB ar p t).isSome)] : Value) = v ∧ (RowsF F' a (matchP ar p t)) ∧ L = L') := by
  refine Does.of_X Try.func162 rfl rfl rfl ?_
  have hpl := termOk_len hpo
  have hpg := fun k (hk : k < p.length) => termOk_ge hpo hk
  have htl := termOk_len ho
  have hsl := sigOk_spec (termOk_sig ho)
  refine X.seq ?_
  refine X.region ?_
  refine XL.cons (XOp.box [arv] rfl rfl ?_)
  intro b1
  refine XL.cons (XOp.alloc [(.slice none 0 0)] Try.zeroValue184 rfl ?_)
  intro b2
  refine XL.cons (XOp.assign (.bool (false)) rfl ?_)
  refine XL.nil ?_
  refine X.seq ?_
  refine X.region ?_
  refine XL.cons (XOp.makeSlice (n := 24) (bytes := 24) [(.slice none 0 0)] Try.runUnderlying47 Try.sizeOf22 Try.typeInfo22 rfl Try.zeroValue22 rfl rfl rfl rfl (by omega) (by omega) ?_)
  intro v1 hv1
  rw [nils]
  have hc1 : RowsC F _ _ := RowsC.nils 24
  refine XL.cons (XOp.build [v1] [(.slice none 0 0)] [(0, 1)] [(0, [v1])] Try.runUnderlying184 Try.zeroValue184 rfl (.cons rfl Try.sizeOf47 PlacesAre.nil) rfl (.cons (cells_one (isSl_lit hv1)) CellsAre.nil) ?_)
  refine XL.cons (XOp.alloc [(.slice none 0 0)] Try.zeroValue184 rfl ?_)
  intro b3
  refine XL.cons (XOp.storeN (vs := [v1]) [] _ [v1] Try.sizeOf184 rfl rfl rfl (ones_cons (one_sl (isSl_lit hv1)) ones_nil) rfl rfl rfl ?_)
  refine XL.nil ?_
  refine X.seq ?_
  refine X.region ?_
  refine XL.cons (XOp.assign (.int .i64 (0)) rfl ?_)
  refine XL.nil ?_
  refine X.seq ?_
  refine X.seq ?_
  refine X.region ?_
  refine XL.cons (XOp.assign (.int .i64 (0)) rfl ?_)
  refine XL.nil ?_
  refine X.block ?_
  refine X.loop (α := Nat × Nat × RowL × FH) (fun xQ => [(1, pv), (2, tv), (3, ptr b1 0), (6, ptr b2 0), (8, ptr b3 0), (9, .int .i64 (((xQ.2.1 : Nat) : Int))), (10, .int .i64 (((xQ.1 : Nat) : Int)))]) (fun xQ => cellsH b3 [v1] 184 :: rowsH 22 xQ.2.2.2 v1 xQ.2.2.1 :: cellsH b2 [(.slice none 0 0)] 184 :: cellsH b1 [arv] 33 :: L) (fun xQ F' => xQ.2.2.2 = F' ∧ F ≤ xQ.2.2.2 ∧ (xQ.2.2.1.length = 24) ∧ (xQ.1 ≤ p.length) ∧ (xQ.2.1 ≤ t.length) ∧ (matchB ar p t = mGo ar t (p.drop xQ.1) xQ.2.1 xQ.2.2.1)) (fun xQ => p.length - xQ.1) (0, 0, (List.replicate 24 [] : List (List Int)), F) ⟨rfl, rfl, rfl, rfl, rfl, rfl, rfl, trivial⟩ (Sub.cons (coH.close hc1 (by first | rfl | simp) (Sub.cons (Sub.cons (Sub.refl _))))) ⟨rfl, FLe.refl _, (by simp), (by (try dsimp only) <;> omega), (by (try dsimp only) <;> omega), (rfl)⟩ ?_
  rintro ⟨k, i, bl, G1⟩ rE _ _ ⟨rfl, leG, hbl, hk, hi, hm⟩
  show X _ _ _ _ (envs [(1, pv), (2, tv), (3, ptr b1 0), (6, ptr b2 0), (8, ptr b3 0), (9, .int .i64 (((i : Nat) : Int))), (10, .int .i64 (((k : Nat) : Int)))] rE) _ (cellsH b3 [v1] 184 :: rowsH 22 G1 v1 bl :: cellsH b2 [(.slice none 0 0)] 184 :: cellsH b1 [arv] 33 :: L)
  replace leG : F ≤ G1 := leG
  dsimp only at hbl hk hi hm
  have hpk := hpg k
  have hsl2 := fun h => sub_length (p := i) ho h
  have hee := fun h => endN_spec (p := i) ho h
  have leG1 := leG
  replace har := har.mono leG1
  replace hp := hp.mono leG1
  replace ht := ht.mono leG1
  replace hc1 := hc1.mono leG1
  refine X.open [_] rfl (fun cs1 hc2 => ?_)
  replace hc2 : RowsC G1 cs1 bl := hc2
  refine X.seq ?_
  refine X.seq ?_
  refine X.region ?_
  refine XL.cons (XOp.move (.int .i64 (((k : Nat) : Int))) rfl ?_)
  refine XL.cons (XOp.move (pv) rfl ?_)
  refine XL.cons (XOp.lenS (v := pv) (n := (p).length) Try.runUnderlying22 rfl hp.slv ?_)
  refine XL.cons (XOp.lss (a := ((k : Nat) : Int)) (b := (((p).length : Nat) : Int)) rfl rfl ?_)
  refine XL.nil ?_
  refine X.condD (p := (((k : Nat) : Int) : Int) < (((p).length : Nat) : Int)) rfl (fun h1 => ?_) (fun h1 => ?_)
  · refine X.skip ?_
    refine X.seq ?_
    refine X.block ?_
    refine X.seq ?_
    refine X.seq ?_
    refine X.region ?_
    refine XL.cons (XOp.move (.int .i64 (((i : Nat) : Int))) rfl ?_)
    refine XL.cons (XOp.move (tv) rfl ?_)
    refine XL.cons (XOp.lenS (v := tv) (n := (t).length) Try.runUnderlying22 rfl ht.slv ?_)
    refine XL.cons (XOp.geq (a := ((i : Nat) : Int)) (b := (((t).length : Nat) : Int)) rfl rfl ?_)
    refine XL.nil ?_
    refine X.condD (p := (((i : Nat) : Int) : Int) ≥ (((t).length : Nat) : Int)) rfl (fun h2 => ?_) (fun h2 => ?_)
    · refine X.seq ?_
      refine X.region ?_
      refine XL.cons (XOp.build [(.slice none 0 0)] [(.slice none 0 0)] [(0, 1)] [] Try.runUnderlying184 Try.zeroValue184 rfl (.cons rfl Try.sizeOf47 PlacesAre.nil) rfl CellsAre.nil ?_)
      refine XL.cons (XOp.storeN (vs := [(.slice none 0 0)]) [_, _] _ [(.slice none 0 0)] Try.sizeOf184 rfl rfl rfl (ones_cons rfl ones_nil) rfl rfl rfl ?_)
      refine XL.cons (XOp.assign (.bool (false)) rfl ?_)
      refine XL.nil ?_
      refine X.ret (thenQ_ret (blockQ_ret (thenQ_ret (thenQ_ret (blockQ_ret (thenQ_ret (retEnd (L' := L) [.agg #[(.slice none 0 0)], .bool (false)] (.tuple #[.agg #[(.slice none 0 0)], .bool (false)]) (.cell rfl (loadNV [(.slice none 0 0)] Try.isAgg184 Try.sizeOf184 rfl (Rd.ownN [_, _] rfl rfl)) (.tmp rfl .nil)) rfl leG1 (FLe.refl _) (Sub.drop (Sub.drop (Sub.drop (Sub.drop (Sub.refl _))))) ?_)))))))
      have hz : matchB ar p t = none := hm.trans (mGo_short (by omega) (by omega))
      exact ⟨_, by rw [hz]; rfl, by rw [matchP, hz]; exact SlOf.nilV, rfl⟩
    · refine X.skip ?_
      refine X.seq ?_
      refine X.seq ?_
      refine X.region ?_
      refine XL.cons (XOp.move (pv) rfl ?_)
      refine XL.cons (XOp.move (.int .i64 (((k : Nat) : Int))) rfl ?_)
      refine XL.cons (XOp.indexS (v := pv) (i := ((k : Nat) : Int)) (n := (p).length) k Try.runUnderlying22 Try.sizeOf2 rfl rfl rfl hp.slv (by omega) (Nat.mul_one _) ?_)
      refine XL.cons (XOp.load1 (v := .int .i64 (p.getD k 0)) Try.isAgg2 rfl (hp.rd (by omega)) ?_)
      refine XL.cons (XOp.geq (a := p.getD k 0) (b := 0) rfl rfl ?_)
      refine XL.nil ?_
      refine X.condD (p := (p.getD k 0 : Int) ≥ 0) rfl (fun h3 => ?_) (fun h3 => ?_)
      · refine X.seq ?_
        refine X.seq ?_
        refine X.draw [cellsH b3 [v1] 184, slH 22 1 v1 ((bl).length) cs1, cellsH b2 [(.slice none 0 0)] 184, cellsH b1 [arv] 33] L 8 [[], [], [], [], [], [], [], []] [[], [], [0, 1], [2], [], [], [4, 5], [6]] (phiL [fun us v => v = pv, fun us v => v = (.int .i64 (((k : Nat) : Int)) : Value), fun us v => v = (.pointer (some (elemA pv (k))) : Value), fun us v => v = (.int .i64 (p.getD k 0) : Value), fun us v => v = tv, fun us v => v = (.int .i64 (((i : Nat) : Int)) : Value), fun us v => v = (.pointer (some (elemA tv (i))) : Value), fun us v => v = (.int .i64 (t.getD i 0) : Value)]) (ownL [fun us v => [], fun us v => [], fun us v => [], fun us v => [], fun us v => [], fun us v => [], fun us v => [], fun us v => []]) mixed rfl rfl (by kernel_rfl) ?_ ?_
        · refine stepsP.cons (fun vals R hpZ => ?_) ?_
          · refine XG.op (XOp.move (pv) rfl ?_)
            exact ⟨rfl, rfl, rfl⟩
          refine stepsP.cons (fun vals R hpZ => ?_) ?_
          · refine XG.op (XOp.move (.int .i64 (((k : Nat) : Int))) rfl ?_)
            exact ⟨rfl, rfl, rfl⟩
          refine stepsP.cons (fun vals R hpZ => ?_) ?_
          · rw [(envs_of_sat (l := [(0, pv), (1, (.int .i64 (((k : Nat) : Int)) : Value))]) ⟨hpZ 0 (by decide), hpZ 1 (by decide), trivial⟩).symm]
            refine XG.op (XOp.indexS (v := pv) (i := ((k : Nat) : Int)) (n := (p).length) k Try.runUnderlying22 Try.sizeOf2 rfl rfl rfl hp.slv (by omega) (Nat.mul_one _) ?_)
            exact ⟨rfl, rfl, rfl⟩
          refine stepsP.cons (fun vals R hpZ => ?_) ?_
          · rw [(envs_of_sat (l := [(2, (.pointer (some (elemA pv (k))) : Value))]) ⟨hpZ 2 (by decide), trivial⟩).symm]
            refine XG.op (XOp.load1 (v := .int .i64 (p.getD k 0)) Try.isAgg2 rfl (hp.rd (by omega)) ?_)
            exact ⟨rfl, rfl, rfl⟩
          refine stepsP.cons (fun vals R hpZ => ?_) ?_
          · refine XG.op (XOp.move (tv) rfl ?_)
            exact ⟨rfl, rfl, rfl⟩
          refine stepsP.cons (fun vals R hpZ => ?_) ?_
          · refine XG.op (XOp.move (.int .i64 (((i : Nat) : Int))) rfl ?_)
            exact ⟨rfl, rfl, rfl⟩
          refine stepsP.cons (fun vals R hpZ => ?_) ?_
          · rw [(envs_of_sat (l := [(4, tv), (5, (.int .i64 (((i : Nat) : Int)) : Value))]) ⟨hpZ 4 (by decide), hpZ 5 (by decide), trivial⟩).symm]
            refine XG.op (XOp.indexS (v := tv) (i := ((i : Nat) : Int)) (n := (t).length) i Try.runUnderlying22 Try.sizeOf2 rfl rfl rfl ht.slv (by omega) (Nat.mul_one _) ?_)
            exact ⟨rfl, rfl, rfl⟩
          refine stepsP.cons (fun vals R hpZ => ?_) ?_
          · rw [(envs_of_sat (l := [(6, (.pointer (some (elemA tv (i))) : Value))]) ⟨hpZ 6 (by decide), trivial⟩).symm]
            refine XG.op (XOp.load1 (v := .int .i64 (t.getD i 0)) Try.isAgg2 rfl (ht.rd (by omega)) ?_)
            exact ⟨rfl, rfl, rfl⟩
          exact stepsP.nil
        · intro vals hphi
          have e0 : vals 0 = pv := hphi 0 (by decide)
          have e1 : vals 1 = (.int .i64 (((k : Nat) : Int)) : Value) := hphi 1 (by decide)
          have e2 : vals 2 = (.pointer (some (elemA pv (k))) : Value) := hphi 2 (by decide)
          have e3 : vals 3 = (.int .i64 (p.getD k 0) : Value) := hphi 3 (by decide)
          have e4 : vals 4 = tv := hphi 4 (by decide)
          have e5 : vals 5 = (.int .i64 (((i : Nat) : Int)) : Value) := hphi 5 (by decide)
          have e6 : vals 6 = (.pointer (some (elemA tv (i))) : Value) := hphi 6 (by decide)
          have e7 : vals 7 = (.int .i64 (t.getD i 0) : Value) := hphi 7 (by decide)
          rw [(envs_of_sat (l := [(0, pv), (1, (.int .i64 (((k : Nat) : Int)) : Value)), (2, (.pointer (some (elemA pv (k))) : Value)), (3, (.int .i64 (p.getD k 0) : Value)), (4, tv), (5, (.int .i64 (((i : Nat) : Int)) : Value)), (6, (.pointer (some (elemA tv (i))) : Value)), (7, (.int .i64 (t.getD i 0) : Value))]) ⟨e0, e1, e2, e3, e4, e5, e6, e7, trivial⟩).symm]
          show XL _ _ _ _ _ _ _ (cellsH b3 [v1] 184 :: slH 22 1 v1 ((bl).length) cs1 :: cellsH b2 [(.slice none 0 0)] 184 :: cellsH b1 [arv] 33 :: L)
          refine XL.cons (XOp.neq (a := p.getD k 0) (b := t.getD i 0) rfl rfl ?_)
          refine XL.nil ?_
          refine X.condD (p := (p.getD k 0 : Int) ≠ t.getD i 0) rfl (fun h4 => ?_) (fun h4 => ?_)
          · refine X.seq ?_
            refine X.region ?_
            refine XL.cons (XOp.build [(.slice none 0 0)] [(.slice none 0 0)] [(0, 1)] [] Try.runUnderlying184 Try.zeroValue184 rfl (.cons rfl Try.sizeOf47 PlacesAre.nil) rfl CellsAre.nil ?_)
            refine XL.cons (XOp.storeN (vs := [(.slice none 0 0)]) [_, _] _ [(.slice none 0 0)] Try.sizeOf184 rfl rfl rfl (ones_cons rfl ones_nil) rfl rfl rfl ?_)
            refine XL.cons (XOp.assign (.bool (false)) rfl ?_)
            refine XL.nil ?_
            refine X.ret (thenQ_ret (thenQ_ret (blockQ_ret (thenQ_ret (thenQ_ret (blockQ_ret (thenQ_ret (retEnd (L' := L) [.agg #[(.slice none 0 0)], .bool (false)] (.tuple #[.agg #[(.slice none 0 0)], .bool (false)]) (.cell rfl (loadNV [(.slice none 0 0)] Try.isAgg184 Try.sizeOf184 rfl (Rd.ownN [_, _] rfl rfl)) (.tmp rfl .nil)) rfl leG1 (FLe.refl _) (Sub.drop (Sub.drop (Sub.drop (Sub.drop (Sub.refl _))))) ?_))))))))
            have hz : matchB ar p t = none := hm.trans (mGo_ne (by omega) (by omega) (by omega) (by omega))
            exact ⟨_, by rw [hz]; rfl, by rw [matchP, hz]; exact SlOf.nilV, rfl⟩
          · refine X.skip ?_
            refine X.seq ?_
            refine X.region ?_
            refine XL.cons (XOp.move (.int .i64 (((i : Nat) : Int))) rfl ?_)
            refine XL.cons (XOp.addR (a := ((i : Nat) : Int)) (b := 1) (((i + 1 : Nat) : Int)) rfl rfl (by omega) (by omega) ?_)
            refine XL.cons (XOp.assign (.int .i64 (((i + 1 : Nat) : Int))) rfl ?_)
            refine XL.nil ?_
            refine X.exit (thenQ_exit (blockQ_exit ?_))
            refine X.region ?_
            refine XL.cons (XOp.move (.int .i64 (((k : Nat) : Int))) rfl ?_)
            refine XL.cons (XOp.addR (a := ((k : Nat) : Int)) (b := 1) (((k + 1 : Nat) : Int)) rfl rfl (by omega) (by omega) ?_)
            refine XL.cons (XOp.assign (.int .i64 (((k + 1 : Nat) : Int))) rfl ?_)
            refine XL.nil ?_
            exact ⟨(k + 1, i + 1, bl, G1), _, leG1, (FLe.refl _), ⟨rfl, rfl, rfl, rfl, rfl, rfl, rfl, trivial⟩, (Sub.cons (coH.close hc2 (by first | rfl | simp) (Sub.cons (Sub.cons (Sub.refl _))))), ⟨rfl, leG1, (by (try dsimp only); (try simp only [List.length_set]) <;> omega), (by (try dsimp only) <;> omega), (by (try dsimp only) <;> omega), (hm.trans (mGo_sym (by omega) (by omega) (by omega) (by omega)))⟩, (by omega)⟩
      · refine X.skip ?_
        refine X.seq ?_
        refine X.region ?_
        refine XL.cons (XOp.loadN [arv] Try.isAgg33 Try.sizeOf33 rfl rfl (Rd.ownN [_, _, _] rfl rfl) ?_)
        refine XL.cons (XOp.move (tv) rfl ?_)
        refine XL.cons (XOp.move (.int .i64 (((i : Nat) : Int))) rfl ?_)
        refine XL.cons (XOp.frzF <| XOp.call (args := [.agg #[arv], tv, .int .i64 ((i : Nat) : Int)]) Try.call149 rfl (l1Sub_spec (p := i) har ht (ho := (by first | assumption | rfl | omega | (left; simp; done) | (right; simp; done))) (hp := (by first | assumption | rfl | omega | (left; simp; done) | (right; simp; done)))) ?_)
        rintro v2 _ _ _ ⟨rfl, hs1, rfl⟩
        refine ⟨_, _, rfl, fun F1 le1 hz1 => ?_⟩
        replace har := har.mono le1
        replace hp := hp.mono le1
        replace ht := ht.mono le1
        replace hc1 := hc1.mono le1
        replace hc2 := hc2.mono le1
        have hf1 : IntsF F1 v2 ((sub ar t i)) := intsH.fz (xs := (sub ar t i)) hz1.fz
        refine XL.cons (XOp.assign (v2) rfl ?_)
        refine XL.nil ?_
        refine X.seq ?_
        refine X.draw [cellsH b3 [v1] 184, slH 22 1 v1 ((bl).length) cs1, cellsH b2 [(.slice none 0 0)] 184, cellsH b1 [arv] 33] L 7 [[], [], [], [], [], [], []] [[], [0], [], [], [2, 3], [4], [5]] (phiL [fun us v => v = ptr b3 0, fun us v => v = v1, fun us v => v = pv, fun us v => v = (.int .i64 (((k : Nat) : Int)) : Value), fun us v => v = (.pointer (some (elemA pv (k))) : Value), fun us v => v = (.int .i64 (p.getD k 0) : Value), fun us v => v = (.int .i64 ((-1) - (p.getD k 0)) : Value)]) (ownL [fun us v => [], fun us v => [], fun us v => [], fun us v => [], fun us v => [], fun us v => [], fun us v => []]) mixed rfl rfl (by kernel_rfl) ?_ ?_
        · refine stepsP.cons (fun vals R hpZ => ?_) ?_
          · refine XG.op (XOp.fieldP (b := b3) (0) Try.runUnderlying184 rfl Try.sizeOf47 (by decide) rfl rfl ?_)
            exact ⟨rfl, rfl, rfl⟩
          refine stepsP.cons (fun vals R hpZ => ?_) ?_
          · rw [(envs_of_sat (l := [(0, ptr b3 0)]) ⟨hpZ 0 (by decide), trivial⟩).symm]
            refine XG.op (XOp.load1 (v := v1) Try.isAgg47 rfl (Rd.own [] rfl rfl) ?_)
            exact ⟨rfl, rfl, rfl⟩
          refine stepsP.cons (fun vals R hpZ => ?_) ?_
          · refine XG.op (XOp.move (pv) rfl ?_)
            exact ⟨rfl, rfl, rfl⟩
          refine stepsP.cons (fun vals R hpZ => ?_) ?_
          · refine XG.op (XOp.move (.int .i64 (((k : Nat) : Int))) rfl ?_)
            exact ⟨rfl, rfl, rfl⟩
          refine stepsP.cons (fun vals R hpZ => ?_) ?_
          · rw [(envs_of_sat (l := [(2, pv), (3, (.int .i64 (((k : Nat) : Int)) : Value))]) ⟨hpZ 2 (by decide), hpZ 3 (by decide), trivial⟩).symm]
            refine XG.op (XOp.indexS (v := pv) (i := ((k : Nat) : Int)) (n := (p).length) k Try.runUnderlying22 Try.sizeOf2 rfl rfl rfl hp.slv (by omega) (Nat.mul_one _) ?_)
            exact ⟨rfl, rfl, rfl⟩
          refine stepsP.cons (fun vals R hpZ => ?_) ?_
          · rw [(envs_of_sat (l := [(4, (.pointer (some (elemA pv (k))) : Value))]) ⟨hpZ 4 (by decide), trivial⟩).symm]
            refine XG.op (XOp.load1 (v := .int .i64 (p.getD k 0)) Try.isAgg2 rfl (hp.rd (by omega)) ?_)
            exact ⟨rfl, rfl, rfl⟩
          refine stepsP.cons (fun vals R hpZ => ?_) ?_
          · rw [(envs_of_sat (l := [(5, (.int .i64 (p.getD k 0) : Value))]) ⟨hpZ 5 (by decide), trivial⟩).symm]
            refine XG.op (XOp.subR (a := -1) (b := p.getD k 0) ((-1) - (p.getD k 0)) rfl rfl (by omega) (by omega) ?_)
            exact ⟨rfl, rfl, rfl⟩
          exact stepsP.nil
        · intro vals hphi
          have e0 : vals 0 = ptr b3 0 := hphi 0 (by decide)
          have e1 : vals 1 = v1 := hphi 1 (by decide)
          have e2 : vals 2 = pv := hphi 2 (by decide)
          have e3 : vals 3 = (.int .i64 (((k : Nat) : Int)) : Value) := hphi 3 (by decide)
          have e4 : vals 4 = (.pointer (some (elemA pv (k))) : Value) := hphi 4 (by decide)
          have e5 : vals 5 = (.int .i64 (p.getD k 0) : Value) := hphi 5 (by decide)
          have e6 : vals 6 = (.int .i64 ((-1) - (p.getD k 0)) : Value) := hphi 6 (by decide)
          rw [(envs_of_sat (l := [(0, ptr b3 0), (1, v1), (2, pv), (3, (.int .i64 (((k : Nat) : Int)) : Value)), (4, (.pointer (some (elemA pv (k))) : Value)), (5, (.int .i64 (p.getD k 0) : Value)), (6, (.int .i64 ((-1) - (p.getD k 0)) : Value))]) ⟨e0, e1, e2, e3, e4, e5, e6, trivial⟩).symm]
          show XL _ _ _ _ _ _ _ (cellsH b3 [v1] 184 :: slH 22 1 v1 ((bl).length) cs1 :: cellsH b2 [(.slice none 0 0)] 184 :: cellsH b1 [arv] 33 :: L)
          refine XL.cons (XOp.indexS (v := v1) (i := (-1) - (p.getD k 0)) (n := bl.length) (((-1) - (p.getD k 0)).toNat) Try.runUnderlying47 Try.sizeOf22 rfl rfl (by omega) (SlV.own [_] rfl) (by omega) (Nat.mul_one _) ?_)
          obtain ⟨a1, ha1, he1⟩ := hc2.get (i := ((-1) - (p.getD k 0)).toNat) (by omega)
          refine XL.cons (XOp.load1 (v := a1) Try.isAgg22 rfl (Rd.sl [_] rfl he1) ?_)
          refine XL.cons (XOp.assign (a1) rfl ?_)
          refine XL.nil ?_
          refine X.seq ?_
          refine X.seq ?_
          refine X.region ?_
          refine XL.cons (XOp.move (a1) rfl ?_)
          refine XL.cons (XOp.lenS (v := a1) (n := ((bl.getD (((-1) - (p.getD k 0)).toNat) [])).length) Try.runUnderlying22 rfl ha1.slv ?_)
          refine XL.cons (XOp.gtr (a := ((((bl.getD (((-1) - (p.getD k 0)).toNat) [])).length : Nat) : Int)) (b := 0) rfl rfl ?_)
          refine XL.cons (XOp.move (.bool (decide ((((((bl.getD (((-1) - (p.getD k 0)).toNat) [])).length : Nat) : Int) : Int) > 0))) rfl ?_)
          by_cases h5 : (((((bl.getD (((-1) - (p.getD k 0)).toNat) [])).length : Nat) : Int) : Int) > 0
          · refine XL.yes (t := 59) rfl (congrArg Value.bool (decide_eq_true h5)) (XOp.move (a1) rfl ?_)
            refine XL.yes (t := 59) rfl (congrArg Value.bool (decide_eq_true h5)) (XOp.move (v2) rfl ?_)
            refine XL.yes (t := 59) rfl (congrArg Value.bool (decide_eq_true h5)) (XOp.call (args := [a1, v2]) Try.call60 rfl (SameTerm_spec ha1 hf1 (hbd := (by first | assumption | rfl | omega | (left; simp; done) | (right; simp; done)))) ?_)
            rintro _ _ _ _ ⟨rfl, rfl, rfl⟩
            refine XL.yes (t := 59) rfl (congrArg Value.bool (decide_eq_true h5)) (XOp.notD (p := ((bl.getD (((-1) - (p.getD k 0)).toNat) [])) = ((sub ar t i))) rfl ?_)
            refine XL.cons (XOp.pickT (.bool (decide (¬(((bl.getD (((-1) - (p.getD k 0)).toNat) [])) = ((sub ar t i)))))) (congrArg Value.bool (decide_eq_true h5)) rfl ?_)
            refine XL.nil ?_
            refine X.condD (p := ¬(((bl.getD (((-1) - (p.getD k 0)).toNat) [])) = ((sub ar t i)))) rfl (fun h6 => ?_) (fun h6 => ?_)
            · refine X.seq ?_
              refine X.region ?_
              refine XL.cons (XOp.build [(.slice none 0 0)] [(.slice none 0 0)] [(0, 1)] [] Try.runUnderlying184 Try.zeroValue184 rfl (.cons rfl Try.sizeOf47 PlacesAre.nil) rfl CellsAre.nil ?_)
              refine XL.cons (XOp.storeN (vs := [(.slice none 0 0)]) [_, _] _ [(.slice none 0 0)] Try.sizeOf184 rfl rfl rfl (ones_cons rfl ones_nil) rfl rfl rfl ?_)
              refine XL.cons (XOp.assign (.bool (false)) rfl ?_)
              refine XL.nil ?_
              refine X.ret (thenQ_ret (blockQ_ret (thenQ_ret (thenQ_ret (blockQ_ret (thenQ_ret (retEnd (L' := L) [.agg #[(.slice none 0 0)], .bool (false)] (.tuple #[.agg #[(.slice none 0 0)], .bool (false)]) (.cell rfl (loadNV [(.slice none 0 0)] Try.isAgg184 Try.sizeOf184 rfl (Rd.ownN [_, _] rfl rfl)) (.tmp rfl .nil)) rfl (FLe.trans leG1 le1) (FLe.refl _) (Sub.drop (Sub.drop (Sub.drop (Sub.drop (Sub.refl _))))) ?_)))))))
              have hz : matchB ar p t = none := hm.trans (mGo_clash (by omega) (by omega) (by omega) (by intro e; have := congrArg List.length (show bl.getD (-1 - p.getD k 0).toNat [] = [] from e); simp only [List.length_nil] at this; omega) (by assumption))
              exact ⟨_, by rw [hz]; rfl, by rw [matchP, hz]; exact SlOf.nilV, rfl⟩
            · refine X.skip ?_
              refine X.seq ?_
              refine X.draw [cellsH b3 [v1] 184, slH 22 1 v1 ((bl).length) cs1, cellsH b2 [(.slice none 0 0)] 184, cellsH b1 [arv] 33] L 8 [[], [], [], [], [], [], [], []] [[], [0], [], [], [2, 3], [4], [5], []] (phiL [fun us v => v = ptr b3 0, fun us v => v = v1, fun us v => v = pv, fun us v => v = (.int .i64 (((k : Nat) : Int)) : Value), fun us v => v = (.pointer (some (elemA pv (k))) : Value), fun us v => v = (.int .i64 (p.getD k 0) : Value), fun us v => v = (.int .i64 ((-1) - (p.getD k 0)) : Value), fun us v => v = v2]) (ownL [fun us v => [], fun us v => [], fun us v => [], fun us v => [], fun us v => [], fun us v => [], fun us v => [], fun us v => []]) mixed rfl rfl (by kernel_rfl) ?_ ?_
              · refine stepsP.cons (fun vals R hpZ => ?_) ?_
                · refine XG.op (XOp.fieldP (b := b3) (0) Try.runUnderlying184 rfl Try.sizeOf47 (by decide) rfl rfl ?_)
                  exact ⟨rfl, rfl, rfl⟩
                refine stepsP.cons (fun vals R hpZ => ?_) ?_
                · rw [(envs_of_sat (l := [(0, ptr b3 0)]) ⟨hpZ 0 (by decide), trivial⟩).symm]
                  refine XG.op (XOp.load1 (v := v1) Try.isAgg47 rfl (Rd.own [] rfl rfl) ?_)
                  exact ⟨rfl, rfl, rfl⟩
                refine stepsP.cons (fun vals R hpZ => ?_) ?_
                · refine XG.op (XOp.move (pv) rfl ?_)
                  exact ⟨rfl, rfl, rfl⟩
                refine stepsP.cons (fun vals R hpZ => ?_) ?_
                · refine XG.op (XOp.move (.int .i64 (((k : Nat) : Int))) rfl ?_)
                  exact ⟨rfl, rfl, rfl⟩
                refine stepsP.cons (fun vals R hpZ => ?_) ?_
                · rw [(envs_of_sat (l := [(2, pv), (3, (.int .i64 (((k : Nat) : Int)) : Value))]) ⟨hpZ 2 (by decide), hpZ 3 (by decide), trivial⟩).symm]
                  refine XG.op (XOp.indexS (v := pv) (i := ((k : Nat) : Int)) (n := (p).length) k Try.runUnderlying22 Try.sizeOf2 rfl rfl rfl hp.slv (by omega) (Nat.mul_one _) ?_)
                  exact ⟨rfl, rfl, rfl⟩
                refine stepsP.cons (fun vals R hpZ => ?_) ?_
                · rw [(envs_of_sat (l := [(4, (.pointer (some (elemA pv (k))) : Value))]) ⟨hpZ 4 (by decide), trivial⟩).symm]
                  refine XG.op (XOp.load1 (v := .int .i64 (p.getD k 0)) Try.isAgg2 rfl (hp.rd (by omega)) ?_)
                  exact ⟨rfl, rfl, rfl⟩
                refine stepsP.cons (fun vals R hpZ => ?_) ?_
                · rw [(envs_of_sat (l := [(5, (.int .i64 (p.getD k 0) : Value))]) ⟨hpZ 5 (by decide), trivial⟩).symm]
                  refine XG.op (XOp.subR (a := -1) (b := p.getD k 0) ((-1) - (p.getD k 0)) rfl rfl (by omega) (by omega) ?_)
                  exact ⟨rfl, rfl, rfl⟩
                refine stepsP.cons (fun vals R hpZ => ?_) ?_
                · refine XG.op (XOp.move (v2) rfl ?_)
                  exact ⟨rfl, rfl, rfl⟩
                exact stepsP.nil
              · intro vals hphi
                have e0 : vals 0 = ptr b3 0 := hphi 0 (by decide)
                have e1 : vals 1 = v1 := hphi 1 (by decide)
                have e2 : vals 2 = pv := hphi 2 (by decide)
                have e3 : vals 3 = (.int .i64 (((k : Nat) : Int)) : Value) := hphi 3 (by decide)
                have e4 : vals 4 = (.pointer (some (elemA pv (k))) : Value) := hphi 4 (by decide)
                have e5 : vals 5 = (.int .i64 (p.getD k 0) : Value) := hphi 5 (by decide)
                have e6 : vals 6 = (.int .i64 ((-1) - (p.getD k 0)) : Value) := hphi 6 (by decide)
                have e7 : vals 7 = v2 := hphi 7 (by decide)
                rw [(envs_of_sat (l := [(0, ptr b3 0), (1, v1), (2, pv), (3, (.int .i64 (((k : Nat) : Int)) : Value)), (4, (.pointer (some (elemA pv (k))) : Value)), (5, (.int .i64 (p.getD k 0) : Value)), (6, (.int .i64 ((-1) - (p.getD k 0)) : Value)), (7, v2)]) ⟨e0, e1, e2, e3, e4, e5, e6, e7, trivial⟩).symm]
                show XL _ _ _ _ _ _ _ (cellsH b3 [v1] 184 :: slH 22 1 v1 ((bl).length) cs1 :: cellsH b2 [(.slice none 0 0)] 184 :: cellsH b1 [arv] 33 :: L)
                refine XL.cons (XOp.indexS (v := v1) (i := (-1) - (p.getD k 0)) (n := bl.length) (((-1) - (p.getD k 0)).toNat) Try.runUnderlying47 Try.sizeOf22 rfl rfl (by omega) (SlV.own [_] rfl) (by omega) (Nat.mul_one _) ?_)
                refine XL.cons (XOp.storeS (i := ((-1) - (p.getD k 0)).toNat) (cs := cs1) [_] _ Try.sizeOf22 rfl rfl (one_sl (IntsF.isSl hf1)) rfl (by have h9 := CO.len hc2; (try simp only [List.length_set, List.length_replicate] at h9 ⊢) <;> omega) ?_)
                have hc3 := hc2.set (((-1) - (p.getD k 0)).toNat) hf1
                refine XL.nil ?_
                refine X.region ?_
                refine XL.cons (XOp.move (.int .i64 (((i : Nat) : Int))) rfl ?_)
                refine XL.cons (XOp.move (v2) rfl ?_)
                refine XL.cons (XOp.lenS (v := v2) (n := ((sub ar t i)).length) Try.runUnderlying22 rfl hf1.slv ?_)
                refine XL.cons (XOp.addR (a := ((i : Nat) : Int)) (b := ((((sub ar t i)).length : Nat) : Int)) (((i + (((sub ar t i)).length) : Nat) : Int)) rfl rfl (by omega) (by omega) ?_)
                refine XL.cons (XOp.assign (.int .i64 (((i + (((sub ar t i)).length) : Nat) : Int))) rfl ?_)
                refine XL.nil ?_
                refine X.region ?_
                refine XL.cons (XOp.move (.int .i64 (((k : Nat) : Int))) rfl ?_)
                refine XL.cons (XOp.addR (a := ((k : Nat) : Int)) (b := 1) (((k + 1 : Nat) : Int)) rfl rfl (by omega) (by omega) ?_)
                refine XL.cons (XOp.assign (.int .i64 (((k + 1 : Nat) : Int))) rfl ?_)
                refine XL.nil ?_
                exact ⟨(k + 1, i + (((sub ar t i)).length), (bl.set (((-1) - (p.getD k 0)).toNat) ((sub ar t i))), F1), _, (FLe.trans leG1 le1), (FLe.refl _), ⟨rfl, rfl, rfl, rfl, rfl, rfl, rfl, trivial⟩, (Sub.cons (coH.close hc3 (by first | rfl | simp) (Sub.cons (Sub.cons (Sub.refl _))))), ⟨rfl, (FLe.trans leG1 le1), (by (try dsimp only); (try simp only [List.length_set]) <;> omega), (by (try dsimp only) <;> omega), (by (try dsimp only) <;> omega), (hm.trans (m4_next (by omega) (by omega) (by omega) (by first | (left; exact List.eq_nil_of_length_eq_zero (show (bl.getD (-1 - p.getD k 0).toNat []).length = 0 by omega)) | (right; first | assumption | exact Classical.not_not.1 (by assumption)))))⟩, (by omega)⟩
          · refine XL.no (t := 59) rfl (congrArg Value.bool (decide_eq_false h5)) ?_
            refine XL.no (t := 59) rfl (congrArg Value.bool (decide_eq_false h5)) ?_
            refine XL.no (t := 59) rfl (congrArg Value.bool (decide_eq_false h5)) ?_
            refine XL.no (t := 59) rfl (congrArg Value.bool (decide_eq_false h5)) ?_
            refine XL.cons (XOp.pickF (.bool (false)) (congrArg Value.bool (decide_eq_false h5)) rfl ?_)
            refine XL.nil ?_
            refine X.condF rfl ?_
            refine X.skip ?_
            refine X.seq ?_
            refine X.draw [cellsH b3 [v1] 184, slH 22 1 v1 ((bl).length) cs1, cellsH b2 [(.slice none 0 0)] 184, cellsH b1 [arv] 33] L 8 [[], [], [], [], [], [], [], []] [[], [0], [], [], [2, 3], [4], [5], []] (phiL [fun us v => v = ptr b3 0, fun us v => v = v1, fun us v => v = pv, fun us v => v = (.int .i64 (((k : Nat) : Int)) : Value), fun us v => v = (.pointer (some (elemA pv (k))) : Value), fun us v => v = (.int .i64 (p.getD k 0) : Value), fun us v => v = (.int .i64 ((-1) - (p.getD k 0)) : Value), fun us v => v = v2]) (ownL [fun us v => [], fun us v => [], fun us v => [], fun us v => [], fun us v => [], fun us v => [], fun us v => [], fun us v => []]) mixed rfl rfl (by kernel_rfl) ?_ ?_
            · refine stepsP.cons (fun vals R hpZ => ?_) ?_
              · refine XG.op (XOp.fieldP (b := b3) (0) Try.runUnderlying184 rfl Try.sizeOf47 (by decide) rfl rfl ?_)
                exact ⟨rfl, rfl, rfl⟩
              refine stepsP.cons (fun vals R hpZ => ?_) ?_
              · rw [(envs_of_sat (l := [(0, ptr b3 0)]) ⟨hpZ 0 (by decide), trivial⟩).symm]
                refine XG.op (XOp.load1 (v := v1) Try.isAgg47 rfl (Rd.own [] rfl rfl) ?_)
                exact ⟨rfl, rfl, rfl⟩
              refine stepsP.cons (fun vals R hpZ => ?_) ?_
              · refine XG.op (XOp.move (pv) rfl ?_)
                exact ⟨rfl, rfl, rfl⟩
              refine stepsP.cons (fun vals R hpZ => ?_) ?_
              · refine XG.op (XOp.move (.int .i64 (((k : Nat) : Int))) rfl ?_)
                exact ⟨rfl, rfl, rfl⟩
              refine stepsP.cons (fun vals R hpZ => ?_) ?_
              · rw [(envs_of_sat (l := [(2, pv), (3, (.int .i64 (((k : Nat) : Int)) : Value))]) ⟨hpZ 2 (by decide), hpZ 3 (by decide), trivial⟩).symm]
                refine XG.op (XOp.indexS (v := pv) (i := ((k : Nat) : Int)) (n := (p).length) k Try.runUnderlying22 Try.sizeOf2 rfl rfl rfl hp.slv (by omega) (Nat.mul_one _) ?_)
                exact ⟨rfl, rfl, rfl⟩
              refine stepsP.cons (fun vals R hpZ => ?_) ?_
              · rw [(envs_of_sat (l := [(4, (.pointer (some (elemA pv (k))) : Value))]) ⟨hpZ 4 (by decide), trivial⟩).symm]
                refine XG.op (XOp.load1 (v := .int .i64 (p.getD k 0)) Try.isAgg2 rfl (hp.rd (by omega)) ?_)
                exact ⟨rfl, rfl, rfl⟩
              refine stepsP.cons (fun vals R hpZ => ?_) ?_
              · rw [(envs_of_sat (l := [(5, (.int .i64 (p.getD k 0) : Value))]) ⟨hpZ 5 (by decide), trivial⟩).symm]
                refine XG.op (XOp.subR (a := -1) (b := p.getD k 0) ((-1) - (p.getD k 0)) rfl rfl (by omega) (by omega) ?_)
                exact ⟨rfl, rfl, rfl⟩
              refine stepsP.cons (fun vals R hpZ => ?_) ?_
              · refine XG.op (XOp.move (v2) rfl ?_)
                exact ⟨rfl, rfl, rfl⟩
              exact stepsP.nil
            · intro vals hphi
              have e0 : vals 0 = ptr b3 0 := hphi 0 (by decide)
              have e1 : vals 1 = v1 := hphi 1 (by decide)
              have e2 : vals 2 = pv := hphi 2 (by decide)
              have e3 : vals 3 = (.int .i64 (((k : Nat) : Int)) : Value) := hphi 3 (by decide)
              have e4 : vals 4 = (.pointer (some (elemA pv (k))) : Value) := hphi 4 (by decide)
              have e5 : vals 5 = (.int .i64 (p.getD k 0) : Value) := hphi 5 (by decide)
              have e6 : vals 6 = (.int .i64 ((-1) - (p.getD k 0)) : Value) := hphi 6 (by decide)
              have e7 : vals 7 = v2 := hphi 7 (by decide)
              rw [(envs_of_sat (l := [(0, ptr b3 0), (1, v1), (2, pv), (3, (.int .i64 (((k : Nat) : Int)) : Value)), (4, (.pointer (some (elemA pv (k))) : Value)), (5, (.int .i64 (p.getD k 0) : Value)), (6, (.int .i64 ((-1) - (p.getD k 0)) : Value)), (7, v2)]) ⟨e0, e1, e2, e3, e4, e5, e6, e7, trivial⟩).symm]
              show XL _ _ _ _ _ _ _ (cellsH b3 [v1] 184 :: slH 22 1 v1 ((bl).length) cs1 :: cellsH b2 [(.slice none 0 0)] 184 :: cellsH b1 [arv] 33 :: L)
              refine XL.cons (XOp.indexS (v := v1) (i := (-1) - (p.getD k 0)) (n := bl.length) (((-1) - (p.getD k 0)).toNat) Try.runUnderlying47 Try.sizeOf22 rfl rfl (by omega) (SlV.own [_] rfl) (by omega) (Nat.mul_one _) ?_)
              refine XL.cons (XOp.storeS (i := ((-1) - (p.getD k 0)).toNat) (cs := cs1) [_] _ Try.sizeOf22 rfl rfl (one_sl (IntsF.isSl hf1)) rfl (by have h9 := CO.len hc2; (try simp only [List.length_set, List.length_replicate] at h9 ⊢) <;> omega) ?_)
              have hc4 := hc2.set (((-1) - (p.getD k 0)).toNat) hf1
              refine XL.nil ?_
              refine X.region ?_
              refine XL.cons (XOp.move (.int .i64 (((i : Nat) : Int))) rfl ?_)
              refine XL.cons (XOp.move (v2) rfl ?_)
              refine XL.cons (XOp.lenS (v := v2) (n := ((sub ar t i)).length) Try.runUnderlying22 rfl hf1.slv ?_)
              refine XL.cons (XOp.addR (a := ((i : Nat) : Int)) (b := ((((sub ar t i)).length : Nat) : Int)) (((i + (((sub ar t i)).length) : Nat) : Int)) rfl rfl (by omega) (by omega) ?_)
              refine XL.cons (XOp.assign (.int .i64 (((i + (((sub ar t i)).length) : Nat) : Int))) rfl ?_)
              refine XL.nil ?_
              refine X.region ?_
              refine XL.cons (XOp.move (.int .i64 (((k : Nat) : Int))) rfl ?_)
              refine XL.cons (XOp.addR (a := ((k : Nat) : Int)) (b := 1) (((k + 1 : Nat) : Int)) rfl rfl (by omega) (by omega) ?_)
              refine XL.cons (XOp.assign (.int .i64 (((k + 1 : Nat) : Int))) rfl ?_)
              refine XL.nil ?_
              exact ⟨(k + 1, i + (((sub ar t i)).length), (bl.set (((-1) - (p.getD k 0)).toNat) ((sub ar t i))), F1), _, (FLe.trans leG1 le1), (FLe.refl _), ⟨rfl, rfl, rfl, rfl, rfl, rfl, rfl, trivial⟩, (Sub.cons (coH.close hc4 (by first | rfl | simp) (Sub.cons (Sub.cons (Sub.refl _))))), ⟨rfl, (FLe.trans leG1 le1), (by (try dsimp only); (try simp only [List.length_set]) <;> omega), (by (try dsimp only) <;> omega), (by (try dsimp only) <;> omega), (hm.trans (m4_next (by omega) (by omega) (by omega) (by first | (left; exact List.eq_nil_of_length_eq_zero (show (bl.getD (-1 - p.getD k 0).toNat []).length = 0 by omega)) | (right; first | assumption | exact Classical.not_not.1 (by assumption)))))⟩, (by omega)⟩
  · refine X.exit (thenQ_exit (thenQ_exit (blockQ_exit ?_)))
    refine X.seq ?_
    refine X.region ?_
    refine XL.cons (XOp.loadN [v1] Try.isAgg184 Try.sizeOf184 rfl rfl (Rd.ownN [] rfl rfl) ?_)
    have hmb := (matchB_len (hm.trans (mGo_done (by omega)))).2
    refine XL.freezeF [_] _ _ rfl (fun F2 le2 hz2 => ?_)
    replace har := har.mono le2
    replace hp := hp.mono le2
    replace ht := ht.mono le2
    replace hc1 := hc1.mono le2
    replace hc2 := hc2.mono le2
    have hf2 : RowsF F2 v1 bl := CO.fz hc2 (by first | rfl | simp | omega) hz2.fz
    refine XL.cons (XOp.call (args := [.agg #[v1]]) Try.call187 rfl (l2Plain_spec hf2 (hsl := (by omega)) (hsb := (fun j => by have := hmb j; omega))) ?_)
    rintro _ F3 _ le3 ⟨x1, rfl, hr1, rfl⟩
    replace har := har.mono le3
    replace hp := hp.mono le3
    replace ht := ht.mono le3
    replace hc1 := hc1.mono le3
    replace hc2 := hc2.mono le3
    replace hf2 := hf2.mono le3
    refine XL.cons (XOp.storeN (vs := [x1]) [_] _ [x1] Try.sizeOf184 rfl rfl rfl (ones_cons (one_sl (RowsF.isSl hr1)) ones_nil) rfl rfl rfl ?_)
    refine XL.cons (XOp.assign (.bool (true)) rfl ?_)
    refine XL.nil ?_
    refine X.ret (retEnd (L' := L) [.agg #[x1], .bool (true)] (.tuple #[.agg #[x1], .bool (true)]) (.cell rfl (loadNV [x1] Try.isAgg184 Try.sizeOf184 rfl (Rd.ownN [_] rfl rfl)) (.tmp rfl .nil)) rfl (FLe.trans (FLe.trans leG1 le2) le3) (FLe.refl _) (Sub.drop (Sub.drop (Sub.drop (Sub.refl _)))) ?_)
    have hz : matchB ar p t = some bl := hm.trans (mGo_done (by omega))
    exact ⟨_, by rw [hz]; rfl, by rw [matchP, hz]; exact hr1, rfl⟩
end Go.Proofs.Ytnloeeaidknblaa
