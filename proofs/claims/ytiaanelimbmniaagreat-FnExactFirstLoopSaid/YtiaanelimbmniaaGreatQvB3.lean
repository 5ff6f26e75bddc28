/-
  Walks, one after the other (part 4).
-/
import Derived.Test.YtiaanelimbmniaaGreatQvL1
import Derived.Test.YtiaanelimbmniaaGreatQvB2
set_option linter.unusedSimpArgs false
set_option linter.unusedVariables false
namespace Go.Proofs.YtiaanelimbmniaaGreat
open Go X M

/- impl.plain -/
theorem plainZ_spec {F : FH} {L : List HP} {sv : Value} {s : List (List Int)} (hs : RowsF F sv s) (hsl : s.length ≤ 24) (hsb : ∀ i, i < s.length → (s.getD i []).length ≤ 4000000) :
    Does Tryz.prog 134 [.agg #[sv]] F (L) (fun v F' L' => ∃ (a : Value), (.agg #[a] : Value) = v ∧ (RowsF F' a (plainL s)) ∧ (Fresh F F' (star [rowsD 2 22 a (plainL s)])) ∧ L = L') := by
 refine Does.of_X Tryz.func134 rfl rfl rfl ?_
 refine X.seq (X.region ?_)
 refine XL.cons (XOp.box [sv] rfl rfl ?_)
 intro b1
 refine XL.cons (XOp.alloc [(.slice none 0 0)] Tryz.zeroValue60 rfl ?_)
 intro b2
 refine XL.nil (X.seq (X.region ?_))
 refine XL.cons (XOp.alloc [(.slice none 0 0)] Tryz.zeroValue60 rfl ?_)
 intro b3
 refine XL.nil (X.seq (X.seq (X.region ?_)))
 refine XL.cons (XOp.fieldP (b := b1) (0) Tryz.runUnderlying60 rfl Tryz.sizeOf58 (by decide) rfl rfl ?_)
 refine XL.cons (XOp.load1 (v := sv) Tryz.isAgg58 rfl (Rd.own [_, _] rfl rfl) ?_)
 refine XL.cons (XOp.lenS (v := sv) (n := (s).length) Tryz.runUnderlying58 rfl hs.slv ?_)
 refine XL.mv (.int .i64 (0)) rfl ?_
 refine XL.nil (X.block ?_)
 refine X.loop (α := Nat × Value × RowL × List Value × List HP × Nat × FH) (fun xQ => [(2, ptr b2 0), (3, ptr b3 0), (7, sv), (8, .int .i64 ((s.length : Int))), (9, .int .i64 (((xQ.1 : Nat) : Int)))]) (fun xQ => slH 22 1 xQ.2.1 xQ.2.2.2.2.2.1 xQ.2.2.2.1 :: cellsH b3 [xQ.2.1] 60 :: cellsH b2 [(.slice none 0 0)] 60 :: cellsH b1 [sv] 60 :: L) (fun xQ F' => xQ.2.2.2.2.2.2 = F' ∧ F ≤ xQ.2.2.2.2.2.2 ∧ (IsSl xQ.2.1) ∧ (RowsC xQ.2.2.2.2.2.2 xQ.2.2.2.1 xQ.2.2.1) ∧ (xQ.2.2.2.2.2.1 = xQ.2.2.1.length) ∧ (DeepL 1 (RowO 2) xQ.2.2.2.1 xQ.2.2.1 xQ.2.2.2.2.1) ∧ (Fresh F xQ.2.2.2.2.2.2 (star xQ.2.2.2.2.1)) ∧ (xQ.2.2.1 = trim ((plainGo 0 s).take xQ.1)) ∧ (xQ.1 ≤ s.length)) (fun xQ => s.length - xQ.1) (0, (.slice none 0 0), [], [], [], 0, F) ⟨rfl, rfl, rfl, rfl, rfl, trivial⟩ (Sub.trans (Sub.addNil 22 1 _ _) (Sub.cons (Sub.cons (Sub.cons (Sub.cons sR))))) ⟨rfl, FLe.refl _, (⟨_, _, _, rfl⟩), (CO.nil), (rfl), (DeepL.nil), (Fresh.nilL), (rfl), (by (try dsimp only) <;> omega)⟩ ?_
 rintro ⟨k, ov, os, ocs, Us, m, G1⟩ rE _ _ ⟨rfl, leG, hov, hC, hm, hD, hZ, hos, hk⟩
 show X _ _ _ _ (envs [(2, ptr b2 0), (3, ptr b3 0), (7, sv), (8, .int .i64 ((s.length : Int))), (9, .int .i64 ((k : Int)))] rE) _ (slH 22 1 ov m ocs :: cellsH b3 [ov] 60 :: cellsH b2 [(.slice none 0 0)] 60 :: cellsH b1 [sv] 60 :: L)
 replace leG : F ≤ G1 := leG
 dsimp only at hov hC hm hD hZ hos hk
 have leG1 := leG
 replace hs := hs.mono leG1
 refine X.seq (X.region ?_)
 refine XL.cons (XOp.lss (a := (k : Int)) (b := (s.length : Int)) rfl rfl ?_)
 refine XL.nil (X.seq ?_)
 refine X.condD (p := (k : Int) < (s.length : Int)) rfl (fun h1 => ?_) (fun h1 => ?_)
 ·refine X.skip (X.seq (X.block (X.seq (X.region ?_))))
  refine XL.mv (.int .i64 ((k : Int))) rfl ?_
  refine XL.cons (XOp.indexS (v := sv) (i := (k : Int)) (n := (s).length) k Tryz.runUnderlying58 Tryz.sizeOf22 rfl rfl rfl hs.slv (by omega) (Nat.mul_one _) ?_)
  obtain ⟨a1, ha1, hr1⟩ := hs.rd (i := k) (by omega)
  refine XL.cons (XOp.load1 (v := a1) Tryz.isAgg22 rfl (hr1 _) ?_)
  refine XL.as (.int .i64 ((k : Int))) rfl ?_
  refine XL.as (a1) rfl ?_
  refine XL.nil (X.seq (X.seq (X.region ?_)))
  refine XL.mv (a1) rfl ?_
  refine XL.cons (XOp.lenS (v := a1) (n := ((s.getD k [])).length) Tryz.runUnderlying22 rfl ha1.slv ?_)
  refine XL.cons (XOp.eql (a := ((((s.getD k [])).length : Nat) : Int)) (b := 0) rfl rfl ?_)
  refine XL.mv (.bool (decide ((((((s.getD k [])).length : Nat) : Int) : Int) = 0))) rfl ?_
  by_cases h2 : (((((s.getD k [])).length : Nat) : Int) : Int) = 0
  ·refine XL.no (t := 17) rfl (vT h2) ?_
   refine XL.no (t := 17) rfl (vT h2) ?_
   refine XL.no (t := 17) rfl (vT h2) ?_
   refine XL.no (t := 17) rfl (vT h2) ?_
   refine XL.cons (XOp.pickT (.bool (true)) (vT h2) rfl ?_)
   refine XL.nil ?_
   refine X.condT rfl ?_
   refine X.exit (thenQ_exit (blockQ_exit ?_))
   refine X.region ?_
   refine XL.cons (XOp.addR (a := (k : Int)) (b := 1) (((k + 1 : Nat) : Int)) rfl rfl (by omega) (by omega) ?_)
   refine XL.mv (.int .i64 (((k + 1 : Nat) : Int))) rfl ?_
   refine XL.nil ?_
   exact ⟨(k + 1, ov, os, ocs, Us, m, G1), _, leG1, rF, ⟨rfl, rfl, rfl, rfl, rfl, trivial⟩, (Sub.cons (Sub.cons (Sub.cons (Sub.cons sR)))), ⟨rfl, leG1, (hov), (hC), (hm), (hD), (hZ), (hos.trans (plain_skip (by omega) (by first | (left; exact List.eq_nil_of_length_eq_zero (by omega)) | (right; assumption))).symm), (by (try dsimp only) <;> omega)⟩, (by omega)⟩
  ·refine XL.yes (t := 17) rfl (vF h2) (XOp.move (a1) rfl ?_)
   refine XL.yes (t := 17) rfl (vF h2) (XOp.move (.int .i64 ((k : Int))) rfl ?_)
   refine XL.yes (t := 17) rfl (vF h2) (XOp.frzF <| XOp.call (args := [.int .i64 (k : Int)]) Tryz.call135 rfl (variable_spec (i := k) (hi := (by first | assumption | rfl | omega | simp))) ?_)
   rintro v1 _ _ _ ⟨rfl, hs1, rfl⟩
   refine ⟨_, _, rfl, fun F1 le1 hz1 => ?_⟩
   replace hs := hs.mono le1
   replace hC := hC.mono le1
   replace ha1 := ha1.mono le1
   replace hr1 := Rd.monoA hr1 le1
   have hf1 : IntsF F1 v1 (([-1 - (k : Int)])) := intsH.fz (xs := ([-1 - (k : Int)])) hz1.fz
   refine XL.yes (t := 17) rfl (vF h2) (XOp.call (args := [a1, v1]) Tryz.call115 rfl (Equal_spec ha1 hf1 (hbd := (by first | assumption | rfl | omega | (left; simp; done) | (right; simp; done)))) ?_)
   rintro _ _ _ _ ⟨rfl, rfl, rfl⟩
   refine XL.cons (XOp.pickF (.bool (decide (((s.getD k [])) = (([-1 - (k : Int)]))))) (vF h2) rfl ?_)
   refine XL.nil ?_
   refine X.condD (p := ((s.getD k [])) = (([-1 - (k : Int)]))) rfl (fun h3 => ?_) (fun h3 => ?_)
   ·refine X.exit (thenQ_exit (blockQ_exit ?_))
    refine X.region ?_
    refine XL.cons (XOp.addR (a := (k : Int)) (b := 1) (((k + 1 : Nat) : Int)) rfl rfl (by omega) (by omega) ?_)
    refine XL.mv (.int .i64 (((k + 1 : Nat) : Int))) rfl ?_
    refine XL.nil ?_
    exact ⟨(k + 1, ov, os, ocs, Us, m, F1), _, (FLe.trans leG1 le1), rF, ⟨rfl, rfl, rfl, rfl, rfl, trivial⟩, (Sub.cons (Sub.cons (Sub.cons (Sub.cons sR)))), ⟨rfl, (FLe.trans leG1 le1), (hov), (hC), (hm), (hD), ((hZ.mono le1)), (hos.trans (plain_skip (by omega) (by first | (left; exact List.eq_nil_of_length_eq_zero (by omega)) | (right; assumption))).symm), (by (try dsimp only) <;> omega)⟩, (by omega)⟩
   ·refine X.skip (X.seq (X.block ?_))
    refine X.loop (α := Nat × Value × RowL × List Value × List HP × Nat × FH) (fun xQ => [(2, ptr b2 0), (3, ptr b3 0), (4, .int .i64 ((k : Int))), (5, a1), (7, sv), (8, .int .i64 ((s.length : Int))), (9, .int .i64 ((k : Int)))]) (fun xQ => slH 22 1 xQ.2.1 xQ.2.2.2.2.2.1 xQ.2.2.2.1 :: cellsH b3 [xQ.2.1] 60 :: cellsH b2 [(.slice none 0 0)] 60 :: cellsH b1 [sv] 60 :: L) (fun xQ F' => xQ.2.2.2.2.2.2 = F' ∧ F1 ≤ xQ.2.2.2.2.2.2 ∧ (IsSl xQ.2.1) ∧ (RowsC xQ.2.2.2.2.2.2 xQ.2.2.2.1 xQ.2.2.1) ∧ (xQ.2.2.2.2.2.1 = xQ.2.2.1.length) ∧ (DeepL 1 (RowO 2) xQ.2.2.2.1 xQ.2.2.1 xQ.2.2.2.2.1) ∧ (Fresh F xQ.2.2.2.2.2.2 (star xQ.2.2.2.2.1)) ∧ (xQ.2.2.1 = os ++ List.replicate xQ.1 []) ∧ (xQ.2.2.1.length ≤ k)) (fun xQ => k - xQ.2.2.1.length) (0, ov, os, ocs, Us, m, F1) ⟨rfl, rfl, rfl, rfl, rfl, rfl, rfl, trivial⟩ (Sub.cons (Sub.cons (Sub.cons (Sub.cons sR)))) ⟨rfl, FLe.refl _, (hov), (hC), (hm), (hD), ((hZ.mono le1)), (by simp), (by have := trim_le ((plainGo 0 s).take k); rw [← hos, List.length_take] at this; (try dsimp only); omega)⟩ ?_
    rintro ⟨j, ov2, os2, ocs2, Vs, m2, G2⟩ rE _ _ ⟨rfl, leG, hov2, hC2, hm2, hD2, hZ2, hos2, hl2⟩
    show X _ _ _ _ (envs [(2, ptr b2 0), (3, ptr b3 0), (4, .int .i64 ((k : Int))), (5, a1), (7, sv), (8, .int .i64 ((s.length : Int))), (9, .int .i64 ((k : Int)))] rE) _ (slH 22 1 ov2 m2 ocs2 :: cellsH b3 [ov2] 60 :: cellsH b2 [(.slice none 0 0)] 60 :: cellsH b1 [sv] 60 :: L)
    replace leG : F1 ≤ G2 := leG
    dsimp only at hov2 hC2 hm2 hD2 hZ2 hos2 hl2
    have leG2 := leG
    replace hs := hs.mono leG2
    replace hC := hC.mono leG2
    replace ha1 := ha1.mono leG2
    replace hf1 := hf1.mono leG2
    refine X.seq (X.seq (X.region ?_))
    refine XL.cons (XOp.fieldP (b := b3) (0) Tryz.runUnderlying60 rfl Tryz.sizeOf58 (by decide) rfl rfl ?_)
    refine XL.cons (XOp.load1 (v := ov2) Tryz.isAgg58 rfl (Rd.own [_] rfl rfl) ?_)
    refine XL.cons (XOp.lenS (v := ov2) (n := m2) Tryz.runUnderlying58 rfl (SlV.own [] rfl) ?_)
    refine XL.mv (.int .i64 ((k : Int))) rfl ?_
    refine XL.cons (XOp.lss (a := (m2 : Int)) (b := (k : Int)) rfl rfl ?_)
    refine XL.nil ?_
    refine X.condD (p := (m2 : Int) < (k : Int)) rfl (fun h4 => ?_) (fun h4 => ?_)
    ·refine X.skip (X.block (X.region ?_))
     refine XL.cons (XOp.fieldP (b := b3) (0) Tryz.runUnderlying60 rfl Tryz.sizeOf58 (by decide) rfl rfl ?_)
     refine XL.cons (XOp.load1 (v := ov2) Tryz.isAgg58 rfl (Rd.own [_] rfl rfl) ?_)
     refine XL.cons (XOp.buildSlice (s := 1) [(.slice none 0 0)] [(.slice none 0 0)] [(0, [(.slice none 0 0)])] Tryz.runUnderlying58 Tryz.sizeOf22 Tryz.zeroValue22 rfl (by decide) rfl (.cons rfl CellsAre.nil) rfl ?_)
     intro v2 hv1
     refine XL.cons (XOp.append (m := 1) (bytes := 24) (cs := ocs2) [_] _ [(.slice none 0 0)] Tryz.runUnderlying58 Tryz.typeInfo22 rfl rfl rfl rfl rfl rfl rfl (SlV.own [] rfl) rfl (Rd.lit [] rfl) (ones_cons rfl ones_nil) (by (try simp only [List.length_append, List.length_nil, List.length_cons, List.length_singleton]); omega) (by (try simp only [List.length_append, List.length_nil, List.length_cons, List.length_singleton]); omega) ?_)
     intro v3 hs2 hn1 hm1
     have hc1 := RowsC.snoc hC2 IntsF.nilV
     refine XL.cons (XOp.fieldP (b := b3) (0) Tryz.runUnderlying60 rfl Tryz.sizeOf58 (by decide) rfl rfl ?_)
     refine XL.cons (XOp.store1 (v := v3) [_, _] _ [v3] Tryz.sizeOf58 rfl rfl (one_sl hs2) rfl rfl rfl ?_)
     refine XL.nil ?_
     exact ⟨(j + 1, v3, os2 ++ [[]], ocs2 ++ [(Value.slice none 0 0)], Vs ++ [intsH 2 (.slice none 0 0) []], (m2) + 1, G2), _, leG2, rF, ⟨rfl, rfl, rfl, rfl, rfl, rfl, rfl, trivial⟩, (Sub.drop (Sub.cons (Sub.cons (Sub.cons (Sub.cons sR))))), ⟨rfl, leG2, (hs2), (hc1), (by (try dsimp only); rw [List.length_append, List.length_singleton]; omega), (DeepL.snoc hD2 rfl ⟨_, rfl, rfl⟩), ((Fresh.app hZ2 (FLe.trans (FLe.trans leG1 le1) leG2) (Fresh.one (Fresh.empty nilLeaf)) rF)), (by dsimp only; rw [hos2, List.append_assoc, List.replicate_succ']), (by dsimp only; rw [List.length_append]; simp only [List.length_singleton]; omega)⟩, (by dsimp only; rw [List.length_append]; simp only [List.length_singleton]; omega)⟩
    ·refine X.exit (thenQ_exit (thenQ_exit (blockQ_exit ?_)))
     refine X.drawG [slH 22 1 ov2 m2 ocs2, cellsH b3 [ov2] 60, cellsH b2 [(.slice none 0 0)] 60, cellsH b1 [sv] 60] L 5 [[], [], [], [], [3]] [[], [0], [], [2], [3]] [[], [], [], [], []] (phiG [fun FF us v => v = ptr b3 0, fun FF us v => v = ov2, fun FF us v => v = a1, fun FF us v => ((v) : Value) = v ∧ (IntsF FF (v) (((s.getD k [])))) ∧ (FrIntsF G2 FF 2 (v) (((s.getD k [])))), fun FF us v => ∃ b, v = .slice (some ⟨b, 0, none⟩) 1 1]) (ownL [fun us v => [], fun us v => [], fun us v => [], fun us v => [], fun us v => [slH 22 1 v 1 [((us.getD 0 undef))]]]) mixed rfl rfl (by kernel_rfl) (by kernel_rfl) (MonoG.get (MonoG.cons (fun le h => h) (MonoG.cons (fun le h => h) (MonoG.cons (fun le h => h) (MonoG.cons (fun le h => ⟨h.1, h.2.1.mono le, h.2.2.mono le⟩) (MonoG.cons (fun le h => h) MonoG.nil)))))) ?_ ?_
     ·refine stepsG.cons (fun vals Fs R leFs hpZ => ?_) ?_
      ·refine XG.op (XOp.fieldP (b := b3) (0) Tryz.runUnderlying60 rfl Tryz.sizeOf58 (by decide) rfl rfl ?_)
       exact ⟨rfl, rfl⟩
      refine stepsG.cons (fun vals Fs R leFs hpZ => ?_) ?_
      ·replace hs := hs.mono leFs
       replace hC := hC.mono leFs
       replace ha1 := ha1.mono leFs
       replace hf1 := hf1.mono leFs
       replace hC2 := hC2.mono leFs
       rw [eS (l := [(0, ptr b3 0)]) ⟨(hpZ 0 (by decide)), trivial⟩]
       refine XG.op (XOp.load1 (v := ov2) Tryz.isAgg58 rfl (Rd.own [_] rfl rfl) ?_)
       exact ⟨rfl, rfl⟩
      refine stepsG.cons (fun vals Fs R leFs hpZ => ?_) ?_
      ·refine XG.op (XOp.move (a1) rfl ?_)
       exact ⟨rfl, rfl⟩
      refine stepsG.cons (fun vals Fs R leFs hpZ => ?_) ?_
      ·replace hs := hs.mono leFs
       replace hC := hC.mono leFs
       replace ha1 := ha1.mono leFs
       replace hf1 := hf1.mono leFs
       replace hC2 := hC2.mono leFs
       rw [eS (l := [(2, a1)]) ⟨(hpZ 2 (by decide)), trivial⟩]
       refine XG.op (XOp.frzF <| XOp.call (args := [a1]) Tryz.call111 rfl (Clone_spec ha1 (hlt := (hsb k (by omega)))) ?_)
       rintro v6 _ _ _ ⟨rfl, hs4, rfl⟩
       refine ⟨_, _, rfl, fun F2 le2 hz2 => ?_⟩
       replace hs := hs.mono le2
       replace hC := hC.mono le2
       replace ha1 := ha1.mono le2
       replace hf1 := hf1.mono le2
       replace hC2 := hC2.mono le2
       have hf2 : IntsF F2 v6 ((((s.getD k [])))) := intsH.fz (xs := (((s.getD k [])))) hz2.fz
       exact ⟨⟨rfl, hf2, (hz2.base leFs)⟩, rfl⟩
      refine stepsG.cons (fun vals Fs R leFs hpZ => ?_) ?_
      ·obtain ⟨e3, f3_1ha, f3_1hz⟩ := hpZ 3 (by decide)
       replace hs := hs.mono leFs
       replace hC := hC.mono leFs
       replace ha1 := ha1.mono leFs
       replace hf1 := hf1.mono leFs
       replace hC2 := hC2.mono leFs
       rw [eS (l := [(3, ((vals 3)))]) ⟨(e3).symm, trivial⟩]
       refine XG.op (XOp.buildSlice (s := 1) [((vals 3))] [(.slice none 0 0)] [(0, [((vals 3))])] Tryz.runUnderlying58 Tryz.sizeOf22 Tryz.zeroValue22 rfl (by decide) rfl (.cons (cells_one (IntsF.isSl f3_1ha)) CellsAre.nil) rfl ?_)
       intro v7 hv3
       exact ⟨hv3, rfl⟩
      exact stepsG.nil
     ·intro vals F3 le3 hphi
      obtain ⟨e3, f3_1ha, f3_1hz⟩ := hphi 3 (by decide)
      have f4 : ∃ b, (vals 4) = .slice (some ⟨b, 0, none⟩) 1 1 := hphi 4 (by decide)
      generalize hu1 : ((vals 3)) = u1 at e3 f3_1ha f3_1hz f4
      generalize hu4 : vals 4 = u2 at e3 f3_1ha f3_1hz f4
      rw [eS (l := [(0, ptr b3 0), (1, ov2), (2, a1), (3, u1), (4, u2)]) ⟨(hphi 0 (by decide)), (hphi 1 (by decide)), (hphi 2 (by decide)), hu1, hu4, trivial⟩]
      replace hs := hs.mono le3
      replace hC := hC.mono le3
      replace ha1 := ha1.mono le3
      replace hf1 := hf1.mono le3
      replace hC2 := hC2.mono le3
      show XL _ _ _ _ _ _ _ (slH 22 1 u2 1 [u1] :: slH 22 1 ov2 m2 ocs2 :: cellsH b3 [ov2] 60 :: cellsH b2 [(.slice none 0 0)] 60 :: cellsH b1 [sv] 60 :: L)
      refine XL.cons (XOp.append (m := 1) (bytes := 24) (cs := ocs2) [_] _ [u1] Tryz.runUnderlying58 Tryz.typeInfo22 rfl rfl rfl rfl rfl rfl rfl (SlV.own [] rfl) rfl (Rd.lit [] rfl) (ones_cons (one_sl (IntsF.isSl f3_1ha)) ones_nil) (by (try simp only [List.length_append, List.length_nil, List.length_cons, List.length_singleton]); omega) (by (try simp only [List.length_append, List.length_nil, List.length_cons, List.length_singleton]); omega) ?_)
      intro v8 hs5 hn2 hm2
      have hc2 := RowsC.snoc hC2 f3_1ha
      skip
      refine XL.cons (XOp.fieldP (b := b3) (0) Tryz.runUnderlying60 rfl Tryz.sizeOf58 (by decide) rfl rfl ?_)
      refine XL.cons (XOp.store1 (v := v8) [_, _] _ [v8] Tryz.sizeOf58 rfl rfl (one_sl hs5) rfl rfl rfl ?_)
      refine XL.nil (X.region ?_)
      refine XL.cons (XOp.addR (a := (k : Int)) (b := 1) (((k + 1 : Nat) : Int)) rfl rfl (by omega) (by omega) ?_)
      refine XL.mv (.int .i64 (((k + 1 : Nat) : Int))) rfl ?_
      refine XL.nil ?_
      exact ⟨(k + 1, v8, os2 ++ [(((s.getD k [])))], ocs2 ++ [u1], Vs ++ [intsH 2 u1 ((((s.getD k []))))], (m2) + 1, F3), _, (FLe.trans (FLe.trans (FLe.trans leG1 le1) leG2) le3), rF, ⟨rfl, rfl, rfl, rfl, rfl, trivial⟩, (Sub.drop (Sub.cons (Sub.cons (Sub.cons (Sub.cons sR))))), ⟨rfl, (FLe.trans (FLe.trans (FLe.trans leG1 le1) leG2) le3), (hs5), (hc2), (by (try dsimp only); rw [List.length_append, List.length_singleton]; omega), (DeepL.snoc hD2 rfl ⟨_, rfl, rfl⟩), ((Fresh.app hZ2 (FLe.trans (FLe.trans leG1 le1) leG2) (Fresh.one f3_1hz) le3)), (plain_put (m := os2) (by omega) (by intro e; have := congrArg List.length e; simp only [List.length_nil] at this; omega) (by assumption) (by rw [hos2, hos]; exact plain_padded (by rw [← hos, ← hos2, List.length_take, plainGo_length]; omega))), (by (try dsimp only) <;> omega)⟩, (by omega)⟩
 ·refine X.exit (thenQ_exit (thenQ_exit (blockQ_exit ?_)))
  refine X.seq (X.region ?_)
  refine XL.cons (XOp.loadN [ov] Tryz.isAgg60 Tryz.sizeOf60 rfl rfl (Rd.ownN [_] rfl rfl) ?_)
  refine XL.cons (XOp.storeN (vs := [ov]) [_, _] _ [ov] Tryz.sizeOf60 rfl rfl rfl (ones_cons (one_sl hov) ones_nil) rfl rfl rfl ?_)
  refine XL.nil ?_
  refine X.freezeF [] _ _ rfl (fun F4 le4 hz3 => ?_)
  replace hs := hs.mono le4
  replace hC := hC.mono le4
  have hf3 : RowsF F4 ov os := CO.fz hC (by first | rfl | simp | omega) hz3.fz
  refine X.ret (retEnd (L' := L) [.agg #[ov]] (.agg #[ov]) (.cell rfl (loadNV [ov] Tryz.isAgg60 Tryz.sizeOf60 rfl (Rd.ownN [_] rfl rfl)) .nil) rfl (FLe.trans leG1 le4) rF (Sub.drop (Sub.drop (Sub.drop sR))) ?_)
  have e : os = plainL s := by rw [hos, show k = s.length from by omega, plain_all]
  exact ⟨_, rfl, by rw [← e]; exact hf3, by rw [← e]; exact (Fresh.one (Fresh.deep hD hZ leG1 hz3 (by omega) le4)), rfl⟩

/- impl.match -/
theorem matchZ_spec {F : FH} {L : List HP} {arv : Value} {ar : List Int} (har : IntsF F arv ar) {pv : Value} {p : List Int} (hp : IntsF F pv p) {tv : Value} {t : List Int} (ht : IntsF F tv t) (ho : termOk ar t = true) (hpo : termOk ar p = true) :
    Does Tryz.prog 157 [.agg #[arv], pv, tv] F (L) (fun v F' L' => ∃ (a : Value), (.tuple #[.agg #[a], .bool ((matchB ar p t).isSome)] : Value) = v ∧ (RowsF F' a (matchP ar p t)) ∧ (Fresh F F' (star [rowsD 2 22 a (matchP ar p t)])) ∧ L = L') := by
 refine Does.of_X Tryz.func157 rfl rfl rfl ?_
 have hpl := termOk_len hpo
 have hpg := fun k (hk : k < p.length) => termOk_ge hpo hk
 refine X.seq (X.region ?_)
 refine XL.cons (XOp.box [arv] rfl rfl ?_)
 intro b1
 refine XL.cons (XOp.alloc [(.slice none 0 0)] Tryz.zeroValue60 rfl ?_)
 intro b2
 refine XL.as (.bool (false)) rfl ?_
 refine XL.nil (X.seq (X.region ?_))
 refine XL.cons (XOp.loadN [arv] Tryz.isAgg34 Tryz.sizeOf34 rfl rfl (Rd.ownN [_] rfl rfl) ?_)
 refine XL.mv (pv) rfl ?_
 refine XL.mv (tv) rfl ?_
 refine XL.cons (XOp.build0 (List.replicate 24 (Value.slice none 0 0)) Tryz.runUnderlying232 ⟨_, Tryz.sizeOf22⟩ Tryz.zeroValue232 rfl ?_)
 have hc1 : BindC F _ _ := BindC.nils 24
 refine XL.cons (XOp.call (args := [.agg #[arv], pv, tv, .agg (List.replicate 24 (Value.slice none 0 0)).toArray]) Tryz.call204 rfl (matchInto_spec har hp ht hc1 ((by first | assumption | rfl | simp | omega)) (ho := (by first | assumption | rfl | omega | simp)) (hpl := (by first | assumption | rfl | omega | simp)) (hpg := (by first | assumption | rfl | omega | simp))) ?_)
 rintro _ _ _ _ ⟨rfl, x1, x2, rfl, hr1, hr2, hr3, rfl⟩
 have hbl24 := hr2
 refine XL.mv (.tuple #[.agg (x1).toArray, .bool ((mGo ar t p 0 (List.replicate 24 ([] : List Int))).isSome)]) rfl ?_
 refine XL.cons (XOp.extract (.agg (x1).toArray) rfl rfl ?_)
 refine XL.cons (XOp.extract (.bool ((mGo ar t p 0 (List.replicate 24 ([] : List Int))).isSome)) rfl rfl ?_)
 refine XL.cons (XOp.alloc (List.replicate 24 (Value.slice none 0 0)) Tryz.zeroValue232 rfl ?_)
 intro b3
 have hc2 : BindC F _ _ := BindC.nils 24
 refine XL.cons (XOp.storeN (vs := x1) [] _ x1 Tryz.sizeOf232 rfl rfl (by have := CO.len hr1; (try simp only [List.length_set, List.length_replicate] at this ⊢) <;> omega) hr1.ones rfl (Nat.ble_eq_true_of_le (Nat.le_of_eq (by have := CO.len hc2; (try simp only [List.length_set, List.length_replicate] at this ⊢) <;> omega))) (arr_over (by have := CO.len hc2; (try simp only [List.length_set, List.length_replicate] at this ⊢) <;> omega)) ?_)
 refine XL.as (.bool ((mGo ar t p 0 (List.replicate 24 ([] : List Int))).isSome)) rfl ?_
 refine XL.nil (X.seq (X.seq (X.region ?_)))
 refine XL.mv (.bool ((mGo ar t p 0 (List.replicate 24 ([] : List Int))).isSome)) rfl ?_
 refine XL.cons (XOp.notB (b := (mGo ar t p 0 (List.replicate 24 ([] : List Int))).isSome) rfl ?_)
 refine XL.nil ?_
 refine X.cond (t := !((mGo ar t p 0 (List.replicate 24 ([] : List Int))).isSome)) rfl (fun h1 => ?_) (fun h1 => ?_)
 ·refine X.seq (X.region ?_)
  refine XL.cons (XOp.build [(.slice none 0 0)] [(.slice none 0 0)] [(0, 1)] [] Tryz.runUnderlying60 Tryz.zeroValue60 rfl (.cons rfl Tryz.sizeOf58 PlacesAre.nil) rfl CellsAre.nil ?_)
  refine XL.cons (XOp.storeN (vs := [(.slice none 0 0)]) [_] _ [(.slice none 0 0)] Tryz.sizeOf60 rfl rfl rfl (ones_cons rfl ones_nil) rfl rfl rfl ?_)
  refine XL.as (.bool (false)) rfl ?_
  refine XL.nil ?_
  refine X.ret (thenQ_ret (retEnd (L' := L) [.agg #[(.slice none 0 0)], .bool (false)] (.tuple #[.agg #[(.slice none 0 0)], .bool (false)]) (.cell rfl (loadNV [(.slice none 0 0)] Tryz.isAgg60 Tryz.sizeOf60 rfl (Rd.ownN [_] rfl rfl)) (.tmp rfl .nil)) rfl rF rF (Sub.drop (Sub.drop (Sub.drop sR))) ?_))
  have hz : matchB ar p t = none := by have h0 := h1; simpa [matchB] using h0
  exact ⟨_, by rw [hz]; rfl, by rw [matchP, hz]; exact SlOf.nilV, by rw [matchP, hz]; exact Fresh.empty nilRowsD, rfl⟩
 ·have hz : ∃ r, matchB ar p t = some r := Option.isSome_iff_exists.1 (by have h0 := h1; simpa [matchB] using h0)
  have hmb : ∀ i, (x2.getD i []).length ≤ t.length := by obtain ⟨r, hz⟩ := hz; have e := hr3 _ hz; rw [e]; exact (matchB_len hz).2
  have htl := termOk_len ho
  refine X.skip (X.seq (X.region ?_))
  refine XL.cons (XOp.loadN x1 Tryz.isAgg232 Tryz.sizeOf232 (by have := CO.len hr1; (try simp only [List.length_set, List.length_replicate] at this ⊢) <;> omega) rfl (Rd.ownN [] rfl take_all) ?_)
  refine XL.cons (XOp.call (args := [.agg (x1).toArray]) Tryz.call205 rfl (subst_spec hr1 ((by first | assumption | rfl | simp | omega))) ?_)
  rintro _ F2 _ le2 ⟨x3, rfl, hr4, rfl⟩
  replace har := har.mono le2
  replace hp := hp.mono le2
  replace ht := ht.mono le2
  replace hc1 := hc1.mono le2
  replace hr1 := hr1.mono le2
  replace hc2 := hc2.mono le2
  refine XL.cons (XOp.call (args := [.agg #[x3]]) Tryz.call134 rfl (plainZ_spec hr4 (hsl := (by first | assumption | rfl | omega | simp)) (hsb := (fun i hi => by have := hmb i; omega))) ?_)
  rintro _ F3 _ le3 ⟨x4, rfl, hr5, hr6, rfl⟩
  replace har := har.mono le3
  replace hp := hp.mono le3
  replace ht := ht.mono le3
  replace hc1 := hc1.mono le3
  replace hr1 := hr1.mono le3
  replace hc2 := hc2.mono le3
  replace hr4 := hr4.mono le3
  refine XL.cons (XOp.storeN (vs := [x4]) [_] _ [x4] Tryz.sizeOf60 rfl rfl rfl (ones_cons (one_sl (RowsF.isSl hr5)) ones_nil) rfl rfl rfl ?_)
  refine XL.as (.bool (true)) rfl ?_
  refine XL.nil ?_
  refine X.ret (retEnd (L' := L) [.agg #[x4], .bool (true)] (.tuple #[.agg #[x4], .bool (true)]) (.cell rfl (loadNV [x4] Tryz.isAgg60 Tryz.sizeOf60 rfl (Rd.ownN [_] rfl rfl)) (.tmp rfl .nil)) rfl (FLe.trans le2 le3) rF (Sub.drop (Sub.drop (Sub.drop sR))) ?_)
  obtain ⟨b0, hz⟩ := Option.isSome_iff_exists.1 (show (matchB ar p t).isSome = true from by have h0 := h1; simpa [matchB] using h0)
  have hb0 := hr3 _ hz
  exact ⟨_, by rw [hz]; rfl, by rw [matchP, hz]; subst hb0; exact hr5, by rw [matchP, hz]; subst hb0; exact (hr6.base le2), rfl⟩

/- impl.loopFrom$1 -/
theorem loopFrom1_spec {F : FH} {L : List HP} {p : Nat} {arv : Value} {ar : List Int} (har : IntsF F arv ar) {rsv : Value} {rs : List (List Int × List Int)} (hrs : PairsF F rsv rs) {bs : Nat} (hzbs : FzC F bs [arv, rsv]) {tv : Value} {t : List Int} (ht : IntsF F tv t) {bt : Nat} (hzbt : FzC F bt [tv]) {i1 : Int} {i2 : Int} {uv : Value} {u : List Int} (hu : IntsF F uv u) {bu : Nat} (hzbu : FzC F bu [.int .i64 (i1), .int .i64 (i2), uv]) (ho : termOk ar t = true) (huo : termOk ar u = true) (hp : p < u.length) :
    Does Tryz.prog 156 [.int .i64 ((p : Int)), ptr bs 0, ptr bt 0, ptr bu 0] F (L) (fun v F' L' => ∃ (a : Value), (.tuple #[.agg #[a], .bool ((matchB ar t (sub ar u p)).isSome)] : Value) = v ∧ (RowsF F' a (matchP ar t (sub ar u p))) ∧ (Fresh F F' (star [rowsD 2 22 a (matchP ar t (sub ar u p))])) ∧ L = L') := by
 refine Does.of_X Tryz.func156 rfl rfl rfl ?_
 have hun := notNil_of_pos hu (by have := termOk_len huo; omega)
 have hso := sub_ok huo hp
 refine X.seq (X.region ?_)
 refine XL.cons (XOp.alloc [(.slice none 0 0)] Tryz.zeroValue60 rfl ?_)
 intro b1
 refine XL.as (.bool (false)) rfl ?_
 refine XL.nil (X.seq ?_)
 refine X.drawG [cellsH b1 [(.slice none 0 0)] 60] L 12 [[], [], [], [], [], [], [], [], [], [], [9], []] [[], [0], [], [], [3], [], [5], [], [4, 6, 7], [1, 2, 8], [9], [9]] [[], [], [], [], [], [], [], [], [], [], [], []] (phiG [fun FF us v => v = ptr bs 0, fun FF us v => v = (.agg #[arv] : Value), fun FF us v => v = tv, fun FF us v => v = ptr bs 0, fun FF us v => v = (.agg #[arv] : Value), fun FF us v => v = ptr bu 2, fun FF us v => v = uv, fun FF us v => v = (.int .i64 ((p : Int)) : Value), fun FF us v => ((v) : Value) = v ∧ (IntsF FF (v) (sub ar u p)) ∧ (isNil (v) = false), fun FF us v => (.tuple #[.agg #[((aggAt (tupAt v 0) 0))], .bool ((matchB ar t ((sub ar u p))).isSome)] : Value) = v ∧ (RowsF FF ((aggAt (tupAt v 0) 0)) (matchP ar t ((sub ar u p)))) ∧ (FreshsF F FF (star [rowsD 2 22 ((aggAt (tupAt v 0) 0)) (matchP ar t ((sub ar u p)))])), fun FF us v => v = (.agg #[((aggAt (tupAt (us.getD 0 undef) 0) 0))] : Value), fun FF us v => v = (.bool ((matchB ar t ((sub ar u p))).isSome) : Value)]) (ownL [fun us v => [], fun us v => [], fun us v => [], fun us v => [], fun us v => [], fun us v => [], fun us v => [], fun us v => [], fun us v => [], fun us v => [], fun us v => [], fun us v => []]) mixed rfl rfl (by kernel_rfl) (by kernel_rfl) (MonoG.get (MonoG.cons (fun le h => h) (MonoG.cons (fun le h => h) (MonoG.cons (fun le h => h) (MonoG.cons (fun le h => h) (MonoG.cons (fun le h => h) (MonoG.cons (fun le h => h) (MonoG.cons (fun le h => h) (MonoG.cons (fun le h => h) (MonoG.cons (fun le h => ⟨h.1, h.2.1.mono le, h.2.2⟩) (MonoG.cons (fun le h => ⟨h.1, h.2.1.mono le, h.2.2.mono le⟩) (MonoG.cons (fun le h => h) (MonoG.cons (fun le h => h) MonoG.nil))))))))))))) ?_ ?_
 ·refine stepsG.cons (fun vals Fs R leFs hpZ => ?_) ?_
  ·refine XG.op (XOp.fieldP (b := bs) (0) Tryz.runUnderlying37 rfl Tryz.sizeOf34 (by decide) rfl rfl ?_)
   exact ⟨rfl, rfl⟩
  refine stepsG.cons (fun vals Fs R leFs hpZ => ?_) ?_
  ·replace har := har.mono leFs
   replace hrs := hrs.mono leFs
   replace hzbs := hzbs.mono leFs
   replace ht := ht.mono leFs
   replace hzbt := hzbt.mono leFs
   replace hu := hu.mono leFs
   replace hzbu := hzbu.mono leFs
   rw [eS (l := [(0, ptr bs 0)]) ⟨(hpZ 0 (by decide)), trivial⟩]
   refine XG.op (XOp.loadN [arv] Tryz.isAgg34 Tryz.sizeOf34 rfl rfl (FzC.rdN (o := 0) hzbs rfl) ?_)
   exact ⟨rfl, rfl⟩
  refine stepsG.cons (fun vals Fs R leFs hpZ => ?_) ?_
  ·replace har := har.mono leFs
   replace hrs := hrs.mono leFs
   replace hzbs := hzbs.mono leFs
   replace ht := ht.mono leFs
   replace hzbt := hzbt.mono leFs
   replace hu := hu.mono leFs
   replace hzbu := hzbu.mono leFs
   refine XG.op (XOp.load1 (v := tv) Tryz.isAgg22 rfl (FzC.rd1 hzbt rfl) ?_)
   exact ⟨rfl, rfl⟩
  refine stepsG.cons (fun vals Fs R leFs hpZ => ?_) ?_
  ·refine XG.op (XOp.fieldP (b := bs) (0) Tryz.runUnderlying37 rfl Tryz.sizeOf34 (by decide) rfl rfl ?_)
   exact ⟨rfl, rfl⟩
  refine stepsG.cons (fun vals Fs R leFs hpZ => ?_) ?_
  ·replace har := har.mono leFs
   replace hrs := hrs.mono leFs
   replace hzbs := hzbs.mono leFs
   replace ht := ht.mono leFs
   replace hzbt := hzbt.mono leFs
   replace hu := hu.mono leFs
   replace hzbu := hzbu.mono leFs
   rw [eS (l := [(3, ptr bs 0)]) ⟨(hpZ 3 (by decide)), trivial⟩]
   refine XG.op (XOp.loadN [arv] Tryz.isAgg34 Tryz.sizeOf34 rfl rfl (FzC.rdN (o := 0) hzbs rfl) ?_)
   exact ⟨rfl, rfl⟩
  refine stepsG.cons (fun vals Fs R leFs hpZ => ?_) ?_
  ·refine XG.op (XOp.fieldP (b := bu) (2) Tryz.runUnderlying116 rfl Tryz.sizeOf22 (by decide) rfl rfl ?_)
   exact ⟨rfl, rfl⟩
  refine stepsG.cons (fun vals Fs R leFs hpZ => ?_) ?_
  ·replace har := har.mono leFs
   replace hrs := hrs.mono leFs
   replace hzbs := hzbs.mono leFs
   replace ht := ht.mono leFs
   replace hzbt := hzbt.mono leFs
   replace hu := hu.mono leFs
   replace hzbu := hzbu.mono leFs
   rw [eS (l := [(5, ptr bu 2)]) ⟨(hpZ 5 (by decide)), trivial⟩]
   refine XG.op (XOp.load1 (v := uv) Tryz.isAgg22 rfl (FzC.rd1 hzbu rfl) ?_)
   exact ⟨rfl, rfl⟩
  refine stepsG.cons (fun vals Fs R leFs hpZ => ?_) ?_
  ·refine XG.op (XOp.move (.int .i64 ((p : Int))) rfl ?_)
   exact ⟨rfl, rfl⟩
  refine stepsG.cons (fun vals Fs R leFs hpZ => ?_) ?_
  ·replace har := har.mono leFs
   replace hrs := hrs.mono leFs
   replace hzbs := hzbs.mono leFs
   replace ht := ht.mono leFs
   replace hzbt := hzbt.mono leFs
   replace hu := hu.mono leFs
   replace hzbu := hzbu.mono leFs
   rw [eS (l := [(4, (.agg #[arv] : Value)), (6, uv), (7, (.int .i64 ((p : Int)) : Value))]) ⟨(hpZ 4 (by decide)), (hpZ 6 (by decide)), (hpZ 7 (by decide)), trivial⟩]
   refine XG.op (XOp.call (args := [.agg #[arv], uv, .int .i64 (p : Int)]) Tryz.call158 rfl (subAt_spec (p := p) har hu (ho := (huo)) (hp := (hp)) (hnn := (by first | assumption | exact hun))) ?_)
   rintro v2 _ _ _ ⟨rfl, rfl, hv2, hn2⟩
   exact ⟨⟨rfl, hv2, hn2⟩, rfl⟩
  refine stepsG.cons (fun vals Fs R leFs hpZ => ?_) ?_
  ·obtain ⟨e8, f8_1ha, f8_1hn⟩ := hpZ 8 (by decide)
   replace har := har.mono leFs
   replace hrs := hrs.mono leFs
   replace hzbs := hzbs.mono leFs
   replace ht := ht.mono leFs
   replace hzbt := hzbt.mono leFs
   replace hu := hu.mono leFs
   replace hzbu := hzbu.mono leFs
   rw [eS (l := [(1, (.agg #[arv] : Value)), (2, tv), (8, ((vals 8)))]) ⟨(hpZ 1 (by decide)), (hpZ 2 (by decide)), (e8).symm, trivial⟩]
   refine XG.op (XOp.call (args := [.agg #[arv], tv, ((vals 8))]) Tryz.call157 rfl (matchZ_spec har ht f8_1ha (ho := (hso)) (hpo := (ho))) ?_)
   rintro _ F2 _ le2 ⟨x2, rfl, hr3, hr4, rfl⟩
   replace har := har.mono le2
   replace hrs := hrs.mono le2
   replace hzbs := hzbs.mono le2
   replace ht := ht.mono le2
   replace hzbt := hzbt.mono le2
   replace hu := hu.mono le2
   replace hzbu := hzbu.mono le2
   replace f8_1ha := f8_1ha.mono le2
   exact ⟨⟨rfl, hr3, (hr4.base leFs)⟩, rfl⟩
  refine stepsG.cons (fun vals Fs R leFs hpZ => ?_) ?_
  ·obtain ⟨e9, f9_1hr, f9_1hz⟩ := hpZ 9 (by decide)
   rw [eS (l := [(9, (.tuple #[.agg #[((aggAt (tupAt (vals 9) 0) 0))], .bool ((matchB ar t ((sub ar u p))).isSome)] : Value))]) ⟨(e9).symm, trivial⟩]
   refine XG.op (XOp.extract (.agg #[((aggAt (tupAt (vals 9) 0) 0))]) rfl rfl ?_)
   exact ⟨rfl, rfl⟩
  refine stepsG.cons (fun vals Fs R leFs hpZ => ?_) ?_
  ·obtain ⟨e9, f9_1hr, f9_1hz⟩ := hpZ 9 (by decide)
   rw [eS (l := [(9, (.tuple #[.agg #[((aggAt (tupAt (vals 9) 0) 0))], .bool ((matchB ar t ((sub ar u p))).isSome)] : Value))]) ⟨(e9).symm, trivial⟩]
   refine XG.op (XOp.extract (.bool ((matchB ar t ((sub ar u p))).isSome)) rfl rfl ?_)
   exact ⟨rfl, rfl⟩
  exact stepsG.nil
 ·intro vals F3 le3 hphi
  obtain ⟨e8, f8_1ha, f8_1hn⟩ := hphi 8 (by decide)
  obtain ⟨e9, f9_1hr, f9_1hz⟩ := hphi 9 (by decide)
  have e10 : vals 10 = (.agg #[((aggAt (tupAt (vals 9) 0) 0))] : Value) := hphi 10 (by decide)
  generalize hu1 : ((vals 8)) = u1 at e8 f8_1ha f8_1hn e9 f9_1hr f9_1hz e10
  generalize hu2 : ((aggAt (tupAt (vals 9) 0) 0)) = u2 at e8 f8_1ha f8_1hn e9 f9_1hr f9_1hz e10
  rw [eS (l := [(0, ptr bs 0), (1, (.agg #[arv] : Value)), (2, tv), (3, ptr bs 0), (4, (.agg #[arv] : Value)), (5, ptr bu 2), (6, uv), (7, (.int .i64 ((p : Int)) : Value)), (8, u1), (9, (.tuple #[.agg #[u2], .bool ((matchB ar t ((sub ar u p))).isSome)] : Value)), (10, (.agg #[u2] : Value)), (11, (.bool ((matchB ar t ((sub ar u p))).isSome) : Value))]) ⟨(hphi 0 (by decide)), (hphi 1 (by decide)), (hphi 2 (by decide)), (hphi 3 (by decide)), (hphi 4 (by decide)), (hphi 5 (by decide)), (hphi 6 (by decide)), (hphi 7 (by decide)), hu1, (e9).symm, e10, (hphi 11 (by decide)), trivial⟩]
  replace har := har.mono le3
  replace hrs := hrs.mono le3
  replace hzbs := hzbs.mono le3
  replace ht := ht.mono le3
  replace hzbt := hzbt.mono le3
  replace hu := hu.mono le3
  replace hzbu := hzbu.mono le3
  show XL _ _ _ _ _ _ _ (cellsH b1 [(.slice none 0 0)] 60 :: L)
  refine XL.cons (XOp.storeN (vs := [u2]) [] _ [u2] Tryz.sizeOf60 rfl rfl rfl (ones_cons (one_sl (RowsF.isSl f9_1hr)) ones_nil) rfl rfl rfl ?_)
  refine XL.as (.bool ((matchB ar t ((sub ar u p))).isSome)) rfl ?_
  refine XL.nil ?_
  refine X.ret (retEnd (L' := L) [.agg #[u2], .bool ((matchB ar t ((sub ar u p))).isSome)] (.tuple #[.agg #[u2], .bool ((matchB ar t ((sub ar u p))).isSome)]) (.cell rfl (loadNV [u2] Tryz.isAgg60 Tryz.sizeOf60 rfl (Rd.ownN [] rfl rfl)) (.tmp rfl .nil)) rfl le3 rF (Sub.drop sR) ?_)
  exact ⟨_, rfl, f9_1hr, f9_1hz, rfl⟩

/- impl.firstPlace -/
theorem firstPlace_spec {F : FH} {L : List HP} {wv : Value} {w : List Int} (hw : IntsF F wv w) {arv : Value} {ar : List Int} (har : IntsF F arv ar) {rsv : Value} {rs : List (List Int × List Int)} (hrs : PairsF F rsv rs) {bs : Nat} (hzbs : FzC F bs [arv, rsv]) {tv : Value} {t : List Int} (ht : IntsF F tv t) {bt : Nat} (hzbt : FzC F bt [tv]) {i1 : Int} {i2 : Int} {uv : Value} {u : List Int} (hu : IntsF F uv u) {bu : Nat} (hzbu : FzC F bu [.int .i64 (i1), .int .i64 (i2), uv]) (ho : termOk ar t = true) (huo : termOk ar u = true) (hwl : w.length = u.length) :
    Does Tryz.prog 155 [wv, .func (.func 156) #[] #[ptr bs 0, ptr bt 0, ptr bu 0]] F (L) (fun v F' L' => ∃ (a : Value), (.tuple #[.int .i64 (instI ar t u), .agg #[a]] : Value) = v ∧ (RowsF F' a (placeS ar t u)) ∧ (Fresh F F' (star [rowsD 2 22 a (placeS ar t u)])) ∧ L = L') := by
 refine Does.of_X Tryz.func155 rfl rfl rfl ?_
 have hul := termOk_len huo
 refine X.seq (X.region ?_)
 refine XL.as (.int .i64 (0)) rfl ?_
 refine XL.cons (XOp.alloc [(.slice none 0 0)] Tryz.zeroValue60 rfl ?_)
 intro b1
 refine XL.nil (X.seq (X.seq (X.region ?_)))
 refine XL.mv (wv) rfl ?_
 refine XL.cons (XOp.lenS (v := wv) (n := (w).length) Tryz.runUnderlying22 rfl hw.slv ?_)
 refine XL.mv (.int .i64 (0)) rfl ?_
 refine XL.nil (X.block ?_)
 refine X.loop (α := Nat × FH) (fun xQ => [(1, .func (.func 156) #[] #[ptr bs 0, ptr bt 0, ptr bu 0]), (5, ptr b1 0), (10, .int .i64 ((w.length : Int))), (11, .int .i64 (((xQ.1 : Nat) : Int)))]) (fun xQ => cellsH b1 [(.slice none 0 0)] 60 :: L) (fun xQ F' => xQ.2 = F' ∧ F ≤ xQ.2 ∧ (xQ.1 ≤ u.length) ∧ (∀ i, i < xQ.1 → (matchB ar t (sub ar u i)).isSome = false)) (fun xQ => u.length - xQ.1) (0, F) ⟨rfl, rfl, rfl, rfl, trivial⟩ (Sub.cons sR) ⟨rfl, FLe.refl _, (by (try dsimp only) <;> omega), (fun i hi => absurd hi (by omega))⟩ ?_
 rintro ⟨k, G1⟩ rE _ _ ⟨rfl, leG, hk, hall⟩
 show X _ _ _ _ (envs [(1, .func (.func 156) #[] #[ptr bs 0, ptr bt 0, ptr bu 0]), (5, ptr b1 0), (10, .int .i64 ((w.length : Int))), (11, .int .i64 ((k : Int)))] rE) _ (cellsH b1 [(.slice none 0 0)] 60 :: L)
 replace leG : F ≤ G1 := leG
 dsimp only at hk hall
 have leG1 := leG
 replace hw := hw.mono leG1
 replace har := har.mono leG1
 replace hrs := hrs.mono leG1
 replace hzbs := hzbs.mono leG1
 replace ht := ht.mono leG1
 replace hzbt := hzbt.mono leG1
 replace hu := hu.mono leG1
 replace hzbu := hzbu.mono leG1
 refine X.seq (X.region ?_)
 refine XL.cons (XOp.lss (a := (k : Int)) (b := (w.length : Int)) rfl rfl ?_)
 refine XL.nil (X.seq ?_)
 refine X.condD (p := (k : Int) < (w.length : Int)) rfl (fun h1 => ?_) (fun h1 => ?_)
 ·refine X.skip (X.seq (X.block (X.seq (X.region ?_))))
  refine XL.mv (.int .i64 ((k : Int))) rfl ?_
  refine XL.as (.int .i64 ((k : Int))) rfl ?_
  refine XL.nil (X.seq (X.region ?_))
  refine XL.mv (.func (.func 156) #[] #[ptr bs 0, ptr bt 0, ptr bu 0]) rfl ?_
  refine XL.mv (.int .i64 ((k : Int))) rfl ?_
  refine XL.cons (XOp.callV (first := []) (captured := [ptr bs 0, ptr bt 0, ptr bu 0]) (args := [.int .i64 (k : Int), ptr bs 0, ptr bt 0, ptr bu 0]) Tryz.call156 rfl rfl (loopFrom1_spec (p := k) har hrs hzbs ht hzbt hu hzbu (ho := (by first | assumption | rfl | omega | simp)) (huo := (by first | assumption | rfl | omega | simp)) (hp := (by first | assumption | rfl | omega | simp))) ?_)
  rintro _ F1 _ le1 ⟨x1, rfl, hr1, hr2, rfl⟩
  replace hw := hw.mono le1
  replace har := har.mono le1
  replace hrs := hrs.mono le1
  replace hzbs := hzbs.mono le1
  replace ht := ht.mono le1
  replace hzbt := hzbt.mono le1
  replace hu := hu.mono le1
  replace hzbu := hzbu.mono le1
  refine XL.mv (.tuple #[.agg #[x1], .bool ((matchB ar t (sub ar u k)).isSome)]) rfl ?_
  refine XL.cons (XOp.extract (.agg #[x1]) rfl rfl ?_)
  refine XL.cons (XOp.extract (.bool ((matchB ar t (sub ar u k)).isSome)) rfl rfl ?_)
  refine XL.cons (XOp.alloc [(.slice none 0 0)] Tryz.zeroValue60 rfl ?_)
  intro b2
  refine XL.cons (XOp.storeN (vs := [x1]) [] _ [x1] Tryz.sizeOf60 rfl rfl rfl (ones_cons (one_sl (RowsF.isSl hr1)) ones_nil) rfl rfl rfl ?_)
  refine XL.as (.bool ((matchB ar t (sub ar u k)).isSome)) rfl ?_
  refine XL.nil (X.seq (X.region ?_))
  refine XL.mv (.bool ((matchB ar t (sub ar u k)).isSome)) rfl ?_
  refine XL.nil ?_
  refine X.cond (t := (matchB ar t (sub ar u k)).isSome) rfl (fun h2 => ?_) (fun h2 => ?_)
  ·refine X.seq ?_
   refine X.draw [cellsH b2 [x1] 60, cellsH b1 [(.slice none 0 0)] 60] L 3 [[], [], []] [[], [], [0]] (phiL [fun us v => v = (.int .i64 ((k : Int)) : Value), fun us v => v = (.agg #[x1] : Value), fun us v => v = (.int .i64 ((k : Int)) : Value)]) (ownL [fun us v => [], fun us v => [], fun us v => []]) mixed rfl rfl (by kernel_rfl) ?_ ?_
   ·refine stepsP.cons (fun vals R hpZ => ?_) ?_
    ·refine XG.op (XOp.move (.int .i64 ((k : Int))) rfl ?_)
     exact ⟨rfl, rfl, rfl⟩
    refine stepsP.cons (fun vals R hpZ => ?_) ?_
    ·refine XG.op (XOp.loadN [x1] Tryz.isAgg60 Tryz.sizeOf60 rfl rfl (Rd.ownN [] rfl rfl) ?_)
     exact ⟨rfl, rfl, rfl⟩
    refine stepsP.cons (fun vals R hpZ => ?_) ?_
    ·rw [eS (l := [(0, (.int .i64 ((k : Int)) : Value))]) ⟨hpZ 0 (by decide), trivial⟩]
     refine XG.op (XOp.assign (.int .i64 ((k : Int))) rfl ?_)
     exact ⟨rfl, rfl, rfl⟩
    exact stepsP.nil
   ·intro vals hphi
    rw [eS (l := [(0, (.int .i64 ((k : Int)) : Value)), (1, (.agg #[x1] : Value)), (2, (.int .i64 ((k : Int)) : Value))]) ⟨(hphi 0 (by decide)), (hphi 1 (by decide)), (hphi 2 (by decide)), trivial⟩]
    show XL _ _ _ _ _ _ _ (cellsH b2 [x1] 60 :: cellsH b1 [(.slice none 0 0)] 60 :: L)
    refine XL.cons (XOp.storeN (vs := [x1]) [_] _ [x1] Tryz.sizeOf60 rfl rfl rfl (ones_cons (one_sl (RowsF.isSl hr1)) ones_nil) rfl rfl rfl ?_)
    refine XL.nil ?_
    refine X.ret (blockQ_ret (thenQ_ret (thenQ_ret (blockQ_ret (thenQ_ret (retEnd (L' := L) [.int .i64 ((k : Int)), .agg #[x1]] (.tuple #[.int .i64 ((k : Int)), .agg #[x1]]) (.tmp rfl (.cell rfl (loadNV [x1] Tryz.isAgg60 Tryz.sizeOf60 rfl (Rd.ownN [_] rfl rfl)) .nil)) rfl (FLe.trans leG1 le1) rF (Sub.drop (Sub.drop sR)) ?_))))))
    have e := instI_at (by omega) (by assumption) hall
    have e2 := placeS_at e
    exact ⟨_, by rw [e], by rw [e2]; exact hr1, by rw [e2]; exact (hr2.base leG1), rfl⟩
  ·refine X.skip (X.region ?_)
   refine XL.cons (XOp.addR (a := (k : Int)) (b := 1) (((k + 1 : Nat) : Int)) rfl rfl (by omega) (by omega) ?_)
   refine XL.mv (.int .i64 (((k + 1 : Nat) : Int))) rfl ?_
   refine XL.nil ?_
   exact ⟨(k + 1, F1), _, (FLe.trans leG1 le1), rF, ⟨rfl, rfl, rfl, rfl, trivial⟩, (Sub.drop (Sub.cons sR)), ⟨rfl, (FLe.trans leG1 le1), (by (try dsimp only) <;> omega), (fun i hi => (Nat.lt_or_ge i k).elim (fun h => hall i h) (fun h => by obtain rfl : i = k := (by omega); assumption))⟩, (by omega)⟩
 ·refine X.exit (thenQ_exit (thenQ_exit (blockQ_exit ?_)))
  refine X.seq (X.region ?_)
  refine XL.cons (XOp.build [(.slice none 0 0)] [(.slice none 0 0)] [(0, 1)] [] Tryz.runUnderlying60 Tryz.zeroValue60 rfl (.cons rfl Tryz.sizeOf58 PlacesAre.nil) rfl CellsAre.nil ?_)
  refine XL.as (.int .i64 (-1)) rfl ?_
  refine XL.cons (XOp.storeN (vs := [(.slice none 0 0)]) [] _ [(.slice none 0 0)] Tryz.sizeOf60 rfl rfl rfl (ones_cons rfl ones_nil) rfl rfl rfl ?_)
  refine XL.nil ?_
  refine X.ret (retEnd (L' := L) [.int .i64 (-1), .agg #[(.slice none 0 0)]] (.tuple #[.int .i64 (-1), .agg #[(.slice none 0 0)]]) (.tmp rfl (.cell rfl (loadNV [(.slice none 0 0)] Tryz.isAgg60 Tryz.sizeOf60 rfl (Rd.ownN [] rfl rfl)) .nil)) rfl leG1 rF (Sub.drop sR) ?_)
  have e := instI_none (fun i hi => hall i (by omega))
  have e2 := placeS_none e
  exact ⟨_, by rw [e], by rw [e2]; exact SlOf.nilV, by rw [e2]; exact Fresh.empty nilRowsD, rfl⟩

/- impl.loopFrom -/
set_option maxHeartbeats 1000000 in
set_option maxRecDepth 20000 in
theorem loopFrom_spec {F : FH} {L : List HP} {arv : Value} {ar : List Int} (har : IntsF F arv ar) {rsv : Value} {rs : List (List Int × List Int)} (hrs : PairsF F rsv rs) {tv : Value} {t : List Int} (ht : IntsF F tv t) {n : Int} (hsys : sysOk ar rs = true) (ho : termOk ar t = true) (hn20 : 1 ≤ n ∧ n ≤ 20) :
    Does Tryz.prog 79 [.agg #[arv, rsv], tv, .int .i64 (n)] F (L) (fun v F' L' => ∃ (a : Value), ∃ (b : Value), ∃ (c : Value), (.tuple #[.agg #[a, b, .int .i64 ((loop0 ar rs t (reachL ar rs t (n - 1)).1).2.2.1), c], .bool ((loop0 ar rs t (reachL ar rs t (n - 1)).1).2.2.2.2)] : Value) = v ∧ (IntsF F' a (loop0 ar rs t (reachL ar rs t (n - 1)).1).1) ∧ (StepsF F' b (loop0 ar rs t (reachL ar rs t (n - 1)).1).2.1) ∧ (RowsF F' c (loop0 ar rs t (reachL ar rs t (n - 1)).1).2.2.2.1) ∧ (Fresh F F' (star [intsH 2 a (loop0 ar rs t (reachL ar rs t (n - 1)).1).1, stepsD 2 116 b (loop0 ar rs t (reachL ar rs t (n - 1)).1).2.1, rowsD 2 22 c (loop0 ar rs t (reachL ar rs t (n - 1)).1).2.2.2.1])) ∧ L = L') := by
 refine Does.of_X Tryz.func79 rfl rfl rfl ?_
 have hgd := reachL_good (ar := ar) (rs := rs) (t := t) (n := n - 1) (by omega)
 have hrk := reachL_ok (n := n - 1) hsys ho
 have hrl := hrk.1
 have hrd : ∀ i, i < (reachL ar rs t (n - 1)).1.length → (EL (reachL ar rs t (n - 1)).1 i).1.length ≤ 60 := fun i hi => (termOk_len (hrk.2 i hi)).2
 have hrs12 := (sysOk_iff.1 hsys).2.1
 refine X.seq (X.region ?_)
 refine XL.cons (XOp.box [arv, rsv] rfl rfl ?_)
 intro b1
 refine XL.cons (XOp.box [tv] rfl (cells_one (IntsF.isSl ht)) ?_)
 intro b2
 refine XL.cons (XOp.alloc [(.slice none 0 0), (.slice none 0 0), .int .i64 (0), (.slice none 0 0)] Tryz.zeroValue62 rfl ?_)
 intro b3
 refine XL.as (.bool (false)) rfl ?_
 refine XL.nil (X.seq (X.region ?_))
 refine XL.cons (XOp.loadN [arv, rsv] Tryz.isAgg37 Tryz.sizeOf37 rfl rfl (Rd.ownN [_, _] rfl rfl) ?_)
 refine XL.cons (XOp.load1 (v := tv) Tryz.isAgg22 rfl (Rd.own [_] rfl rfl) ?_)
 refine XL.mv (.int .i64 (n)) rfl ?_
 refine XL.cons (XOp.subR (a := n) (b := 1) (n - 1) rfl rfl (by omega) (by omega) ?_)
 refine XL.cons (XOp.call (args := [.agg #[arv, rsv], tv, .int .i64 (n - 1)]) Tryz.call153 rfl (reach_spec (n := n - 1) har hrs ht (hsys := (by first | assumption | rfl | omega | (left; simp; done) | (right; simp; done))) (ho := (by first | assumption | rfl | omega | (left; simp; done) | (right; simp; done))) (hn20 := (by first | assumption | rfl | omega | (left; simp; done) | (right; simp; done)))) ?_)
 rintro _ F1 _ le1 ⟨x1, xcs1, xLs1, rfl, hx1, hxD1, hxZ1, rfl⟩
 replace har := har.mono le1
 replace hrs := hrs.mono le1
 replace ht := ht.mono le1
 refine XL.mv (.tuple #[x1, .bool ((reachL ar rs t (n - 1)).2)]) rfl ?_
 refine XL.cons (XOp.extract (x1) rfl rfl ?_)
 refine XL.cons (XOp.extract (.bool ((reachL ar rs t (n - 1)).2)) rfl rfl ?_)
 refine XL.as (x1) rfl ?_
 refine XL.as (.bool ((reachL ar rs t (n - 1)).2)) rfl ?_
 refine XL.nil (X.seq (X.seq (X.region ?_)))
 refine XL.freeze [_, _] _ _ rfl (fun F2 le2 hz1 => ?_)
 replace har := har.mono le2
 replace hrs := hrs.mono le2
 replace ht := ht.mono le2
 replace hx1 := hx1.mono le2
 have hf1 : FzC F2 b1 [arv, rsv] := Fz.cells hz1
 refine XL.freeze [_] _ _ rfl (fun F3 le3 hz2 => ?_)
 replace har := har.mono le3
 replace hrs := hrs.mono le3
 replace ht := ht.mono le3
 replace hx1 := hx1.mono le3
 replace hf1 := hf1.mono le3
 have hf2 : FzC F3 b2 [tv] := Fz.cells hz2
 skip
 refine XL.mv (x1) rfl ?_
 refine XL.cons (XOp.lenS (v := x1) (n := ((reachL ar rs t (n - 1)).1).length) Tryz.runUnderlying179 rfl hx1.slv ?_)
 refine XL.mv (.int .i64 (0)) rfl ?_
 refine XL.nil (X.block ?_)
 refine X.loop (α := Nat × FH) (fun xQ => [(3, ptr b1 0), (4, ptr b2 0), (6, ptr b3 0), (8, x1), (27, x1), (28, .int .i64 (((((reachL ar rs t (n - 1)).1).length : Nat) : Int))), (29, .int .i64 (((xQ.1 : Nat) : Int)))]) (fun xQ => cellsH b3 [(.slice none 0 0), (.slice none 0 0), .int .i64 (0), (.slice none 0 0)] 62 :: L) (fun xQ F' => xQ.2 = F' ∧ F3 ≤ xQ.2 ∧ (xQ.1 ≤ (reachL ar rs t (n - 1)).1.length) ∧ (∀ i, i < xQ.1 → nextI ar t (stepsL ar rs (EL (reachL ar rs t (n - 1)).1 i).1) < 0)) (fun xQ => (reachL ar rs t (n - 1)).1.length - xQ.1) (0, F3) ⟨rfl, rfl, rfl, rfl, rfl, rfl, rfl, trivial⟩ (Sub.cons sR) ⟨rfl, FLe.refl _, (by (try dsimp only) <;> omega), (fun i hi => absurd hi (by omega))⟩ ?_
 rintro ⟨k, G1⟩ rE _ _ ⟨rfl, leG, hk, hno⟩
 show X _ _ _ _ (envs [(3, ptr b1 0), (4, ptr b2 0), (6, ptr b3 0), (8, x1), (27, x1), (28, .int .i64 (((((reachL ar rs t (n - 1)).1).length : Nat) : Int))), (29, .int .i64 ((k : Int)))] rE) _ (cellsH b3 [(.slice none 0 0), (.slice none 0 0), .int .i64 (0), (.slice none 0 0)] 62 :: L)
 replace leG : F3 ≤ G1 := leG
 dsimp only at hk hno
 have hka := fun (h : k < (reachL ar rs t (n - 1)).1.length) => (show termOk ar ((reachL ar rs t (n - 1)).1.getD k ([], 0, (0, 0, []), 0)).1 = true from hrk.2 k h)
 have hkl := fun (h : k < (reachL ar rs t (n - 1)).1.length) => termOk_len (hka h)
 have leG1 := leG
 replace har := har.mono leG1
 replace hrs := hrs.mono leG1
 replace ht := ht.mono leG1
 replace hx1 := hx1.mono leG1
 replace hf1 := hf1.mono leG1
 replace hf2 := hf2.mono leG1
 refine X.seq (X.region ?_)
 refine XL.cons (XOp.lss (a := (k : Int)) (b := ((((reachL ar rs t (n - 1)).1).length : Nat) : Int)) rfl rfl ?_)
 refine XL.nil (X.seq ?_)
 refine X.condD (p := (k : Int) < ((((reachL ar rs t (n - 1)).1).length : Nat) : Int)) rfl (fun h1 => ?_) (fun h1 => ?_)
 ·refine X.skip (X.seq (X.block (X.seq (X.region ?_))))
  refine XL.mv (.int .i64 ((k : Int))) rfl ?_
  refine XL.cons (XOp.indexS (v := x1) (i := (k : Int)) (n := ((reachL ar rs t (n - 1)).1).length) k Tryz.runUnderlying179 Tryz.sizeOf183 rfl rfl rfl hx1.slv (by omega) rfl ?_)
  obtain ⟨a1, a2, ha1, ha2, hrg1, hq1⟩ := hx1.rd (i := k) (by omega)
  refine XL.cons (XOp.loadN [a1, .int .i64 ((((reachL ar rs t (n - 1)).1).getD k ([], 0, (0, 0, []), 0)).2.1), .int .i64 ((((reachL ar rs t (n - 1)).1).getD k ([], 0, (0, 0, []), 0)).2.2.1.1), .int .i64 ((((reachL ar rs t (n - 1)).1).getD k ([], 0, (0, 0, []), 0)).2.2.1.2.1), a2, .int .i64 ((((reachL ar rs t (n - 1)).1).getD k ([], 0, (0, 0, []), 0)).2.2.2)] Tryz.isAgg183 Tryz.sizeOf183 rfl rfl (Rd.all (hrg1 _)) ?_)
  refine XL.cons (XOp.alloc [(.slice none 0 0), .int .i64 (0), .int .i64 (0), .int .i64 (0), (.slice none 0 0), .int .i64 (0)] Tryz.zeroValue183 rfl ?_)
  intro b4
  refine XL.as (.int .i64 ((k : Int))) rfl ?_
  refine XL.cons (XOp.storeN (vs := [a1, .int .i64 ((((reachL ar rs t (n - 1)).1).getD k ([], 0, (0, 0, []), 0)).2.1), .int .i64 ((((reachL ar rs t (n - 1)).1).getD k ([], 0, (0, 0, []), 0)).2.2.1.1), .int .i64 ((((reachL ar rs t (n - 1)).1).getD k ([], 0, (0, 0, []), 0)).2.2.1.2.1), a2, .int .i64 ((((reachL ar rs t (n - 1)).1).getD k ([], 0, (0, 0, []), 0)).2.2.2)]) [] _ [a1, .int .i64 ((((reachL ar rs t (n - 1)).1).getD k ([], 0, (0, 0, []), 0)).2.1), .int .i64 ((((reachL ar rs t (n - 1)).1).getD k ([], 0, (0, 0, []), 0)).2.2.1.1), .int .i64 ((((reachL ar rs t (n - 1)).1).getD k ([], 0, (0, 0, []), 0)).2.2.1.2.1), a2, .int .i64 ((((reachL ar rs t (n - 1)).1).getD k ([], 0, (0, 0, []), 0)).2.2.2)] Tryz.sizeOf183 rfl rfl rfl (ones_cons (one_sl (IntsF.isSl ha1)) (ones_cons rfl (ones_cons rfl (ones_cons rfl (ones_cons (one_sl (IntsF.isSl ha2)) (ones_cons rfl ones_nil)))))) rfl rfl rfl ?_)
  refine XL.nil (X.seq (X.region ?_))
  refine XL.cons (XOp.loadN [arv, rsv] Tryz.isAgg37 Tryz.sizeOf37 rfl rfl (FzC.rd hf1 rfl) ?_)
  refine XL.cons (XOp.fieldP (b := b4) (0) Tryz.runUnderlying183 rfl Tryz.sizeOf22 (by decide) rfl rfl ?_)
  refine XL.cons (XOp.load1 (v := a1) Tryz.isAgg22 rfl (Rd.own [] rfl rfl) ?_)
  refine XL.cons (XOp.call (args := [.agg #[arv, rsv], a1]) Tryz.call154 rfl (stepsFrom_spec har hrs ha1 (hsys := (hsys)) (ho := (hka (by omega)))) ?_)
  rintro _ F4 _ le4 ⟨x2, rfl, hx2, rfl⟩
  replace har := har.mono le4
  replace hrs := hrs.mono le4
  replace ht := ht.mono le4
  replace hx1 := hx1.mono le4
  replace hf1 := hf1.mono le4
  replace hf2 := hf2.mono le4
  replace ha1 := ha1.mono le4
  replace ha2 := ha2.mono le4
  replace hrg1 := fun L9 j9 u9 h9 => Rd.mono (hrg1 L9 j9 u9 h9) le4
  refine XL.mv (.tuple #[x2, .bool (longL ar rs ((((reachL ar rs t (n - 1)).1).getD k ([], 0, (0, 0, []), 0)).1))]) rfl ?_
  refine XL.cons (XOp.extract (x2) rfl rfl ?_)
  refine XL.cons (XOp.extract (.bool (longL ar rs ((((reachL ar rs t (n - 1)).1).getD k ([], 0, (0, 0, []), 0)).1))) rfl rfl ?_)
  refine XL.as (x2) rfl ?_
  refine XL.as (.bool (longL ar rs ((((reachL ar rs t (n - 1)).1).getD k ([], 0, (0, 0, []), 0)).1))) rfl ?_
  refine XL.nil (X.seq (X.region ?_))
  obtain ⟨cso1, Lso1, hXo1, hDo1, hZo1⟩ := hx2
  skip
  refine XL.mv (x2) rfl ?_
  refine XL.cons (XOp.lenS (v := x2) (n := ((stepsL ar rs ((((reachL ar rs t (n - 1)).1).getD k ([], 0, (0, 0, []), 0)).1))).length) Tryz.runUnderlying55 rfl hXo1.slv ?_)
  refine XL.mv (.int .i64 (0)) rfl ?_
  refine XL.nil (X.block ?_)
  refine X.loop (α := Nat × FH) (fun xQ => [(3, ptr b1 0), (4, ptr b2 0), (6, ptr b3 0), (8, x1), (10, .int .i64 ((k : Int))), (27, x1), (28, .int .i64 (((((reachL ar rs t (n - 1)).1).length : Nat) : Int))), (29, .int .i64 ((k : Int))), (41, x2), (42, .int .i64 (((((stepsL ar rs ((((reachL ar rs t (n - 1)).1).getD k ([], 0, (0, 0, []), 0)).1))).length : Nat) : Int))), (43, .int .i64 (((xQ.1 : Nat) : Int)))]) (fun xQ => cellsH b4 [a1, .int .i64 ((((reachL ar rs t (n - 1)).1).getD k ([], 0, (0, 0, []), 0)).2.1), .int .i64 ((((reachL ar rs t (n - 1)).1).getD k ([], 0, (0, 0, []), 0)).2.2.1.1), .int .i64 ((((reachL ar rs t (n - 1)).1).getD k ([], 0, (0, 0, []), 0)).2.2.1.2.1), a2, .int .i64 ((((reachL ar rs t (n - 1)).1).getD k ([], 0, (0, 0, []), 0)).2.2.2)] 183 :: cellsH b3 [(.slice none 0 0), (.slice none 0 0), .int .i64 (0), (.slice none 0 0)] 62 :: L) (fun xQ F' => xQ.2 = F' ∧ F4 ≤ xQ.2 ∧ (xQ.1 ≤ (stepsL ar rs ((reachL ar rs t (n - 1)).1.getD k ([], 0, (0, 0, []), 0)).1).length) ∧ (∀ i, i < xQ.1 → instI ar t ((stepsL ar rs ((reachL ar rs t (n - 1)).1.getD k ([], 0, (0, 0, []), 0)).1).getD i (0, 0, [])).2.2 < 0)) (fun xQ => (stepsL ar rs ((reachL ar rs t (n - 1)).1.getD k ([], 0, (0, 0, []), 0)).1).length - xQ.1) (0, F4) ⟨rfl, rfl, rfl, rfl, rfl, rfl, rfl, rfl, rfl, rfl, rfl, trivial⟩ (Sub.cons (Sub.cons sR)) ⟨rfl, FLe.refl _, (by (try dsimp only) <;> omega), (fun i hi => absurd hi (by omega))⟩ ?_
  rintro ⟨q, G2⟩ rE _ _ ⟨rfl, leG, hq, hnq⟩
  show X _ _ _ _ (envs [(3, ptr b1 0), (4, ptr b2 0), (6, ptr b3 0), (8, x1), (10, .int .i64 ((k : Int))), (27, x1), (28, .int .i64 (((((reachL ar rs t (n - 1)).1).length : Nat) : Int))), (29, .int .i64 ((k : Int))), (41, x2), (42, .int .i64 (((((stepsL ar rs ((((reachL ar rs t (n - 1)).1).getD k ([], 0, (0, 0, []), 0)).1))).length : Nat) : Int))), (43, .int .i64 ((q : Int)))] rE) _ (cellsH b4 [a1, .int .i64 ((((reachL ar rs t (n - 1)).1).getD k ([], 0, (0, 0, []), 0)).2.1), .int .i64 ((((reachL ar rs t (n - 1)).1).getD k ([], 0, (0, 0, []), 0)).2.2.1.1), .int .i64 ((((reachL ar rs t (n - 1)).1).getD k ([], 0, (0, 0, []), 0)).2.2.1.2.1), a2, .int .i64 ((((reachL ar rs t (n - 1)).1).getD k ([], 0, (0, 0, []), 0)).2.2.2)] 183 :: cellsH b3 [(.slice none 0 0), (.slice none 0 0), .int .i64 (0), (.slice none 0 0)] 62 :: L)
  replace leG : F4 ≤ G2 := leG
  dsimp only at hq hnq
  have hnl : (stepsL ar rs ((reachL ar rs t (n - 1)).1.getD k ([], 0, (0, 0, []), 0)).1).length ≤ 1000 := by have h9 := stepsTo_len (ar := ar) (t := ((reachL ar rs t (n - 1)).1.getD k ([], 0, (0, 0, []), 0)).1) (rs := rs) hrs12 ((reachL ar rs t (n - 1)).1.getD k ([], 0, (0, 0, []), 0)).1.length; have h8 := hkl (by omega); show (stepsTo ar rs ((reachL ar rs t (n - 1)).1.getD k ([], 0, (0, 0, []), 0)).1 ((reachL ar rs t (n - 1)).1.getD k ([], 0, (0, 0, []), 0)).1.length).length ≤ 1000; omega
  have hqo := fun (h : q < (stepsL ar rs ((reachL ar rs t (n - 1)).1.getD k ([], 0, (0, 0, []), 0)).1).length) => steps_ok hsys (hka (by omega)) h
  have hql := fun (h : q < (stepsL ar rs ((reachL ar rs t (n - 1)).1.getD k ([], 0, (0, 0, []), 0)).1).length) => termOk_len (hqo h)
  have leG2 := leG
  replace har := har.mono leG2
  replace hrs := hrs.mono leG2
  replace ht := ht.mono leG2
  replace hx1 := hx1.mono leG2
  replace hf1 := hf1.mono leG2
  replace hf2 := hf2.mono leG2
  replace ha1 := ha1.mono leG2
  replace ha2 := ha2.mono leG2
  replace hXo1 := hXo1.mono leG2
  refine X.seq (X.region ?_)
  refine XL.cons (XOp.lss (a := (q : Int)) (b := ((((stepsL ar rs ((((reachL ar rs t (n - 1)).1).getD k ([], 0, (0, 0, []), 0)).1))).length : Nat) : Int)) rfl rfl ?_)
  refine XL.nil (X.seq ?_)
  refine X.condD (p := (q : Int) < ((((stepsL ar rs ((((reachL ar rs t (n - 1)).1).getD k ([], 0, (0, 0, []), 0)).1))).length : Nat) : Int)) rfl (fun h2 => ?_) (fun h2 => ?_)
  ·refine X.skip (X.seq (X.block (X.seq (X.region ?_))))
   refine XL.cons (XOp.indexS (v := x2) (i := (q : Int)) (n := ((stepsL ar rs ((((reachL ar rs t (n - 1)).1).getD k ([], 0, (0, 0, []), 0)).1))).length) q Tryz.runUnderlying55 Tryz.sizeOf116 rfl rfl rfl hXo1.slv (by omega) rfl ?_)
   obtain ⟨a3, ha3, hr1, hr2, hr3, hq2⟩ := hXo1.rd (i := q) (by omega)
   refine XL.cons (XOp.loadN [.int .i64 ((((stepsL ar rs ((((reachL ar rs t (n - 1)).1).getD k ([], 0, (0, 0, []), 0)).1))).getD q (0, 0, [])).1), .int .i64 ((((stepsL ar rs ((((reachL ar rs t (n - 1)).1).getD k ([], 0, (0, 0, []), 0)).1))).getD q (0, 0, [])).2.1), a3] Tryz.isAgg116 Tryz.sizeOf116 rfl rfl (Rd.three (hr1 _) (hr2 _) (hr3 _)) ?_)
   refine XL.cons (XOp.alloc [.int .i64 (0), .int .i64 (0), (.slice none 0 0)] Tryz.zeroValue116 rfl ?_)
   intro b5
   refine XL.cons (XOp.storeN (vs := [.int .i64 ((((stepsL ar rs ((((reachL ar rs t (n - 1)).1).getD k ([], 0, (0, 0, []), 0)).1))).getD q (0, 0, [])).1), .int .i64 ((((stepsL ar rs ((((reachL ar rs t (n - 1)).1).getD k ([], 0, (0, 0, []), 0)).1))).getD q (0, 0, [])).2.1), a3]) [] _ [.int .i64 ((((stepsL ar rs ((((reachL ar rs t (n - 1)).1).getD k ([], 0, (0, 0, []), 0)).1))).getD q (0, 0, [])).1), .int .i64 ((((stepsL ar rs ((((reachL ar rs t (n - 1)).1).getD k ([], 0, (0, 0, []), 0)).1))).getD q (0, 0, [])).2.1), a3] Tryz.sizeOf116 rfl rfl rfl (ones_cons rfl (ones_cons rfl (ones_cons (one_sl (IntsF.isSl ha3)) ones_nil))) rfl rfl rfl ?_)
   refine XL.nil (X.seq (X.region ?_))
   refine XL.cons (XOp.fieldP (b := b5) (2) Tryz.runUnderlying116 rfl Tryz.sizeOf22 (by decide) rfl rfl ?_)
   refine XL.cons (XOp.load1 (v := a3) Tryz.isAgg22 rfl (Rd.own [] rfl rfl) ?_)
   refine XL.cons (XOp.makeFuncL [] [ptr b1 0, ptr b2 0, ptr b5 0] rfl rfl ?_)
   refine XL.freeze [] _ _ rfl (fun F5 le5 hz3 => ?_)
   replace har := har.mono le5
   replace hrs := hrs.mono le5
   replace ht := ht.mono le5
   replace hx1 := hx1.mono le5
   replace hf1 := hf1.mono le5
   replace hf2 := hf2.mono le5
   replace ha1 := ha1.mono le5
   replace ha2 := ha2.mono le5
   replace hXo1 := hXo1.mono le5
   replace ha3 := ha3.mono le5
   replace hr1 := Rd.monoA hr1 le5
   replace hr2 := Rd.monoA hr2 le5
   replace hr3 := Rd.monoA hr3 le5
   have hf3 : FzC F5 b5 [.int .i64 ((((stepsL ar rs ((((reachL ar rs t (n - 1)).1).getD k ([], 0, (0, 0, []), 0)).1))).getD q (0, 0, [])).1), .int .i64 ((((stepsL ar rs ((((reachL ar rs t (n - 1)).1).getD k ([], 0, (0, 0, []), 0)).1))).getD q (0, 0, [])).2.1), a3] := Fz.cells hz3
   refine XL.cons (XOp.call (args := [a3, .func (.func 156) #[] #[ptr b1 0, ptr b2 0, ptr b5 0]]) Tryz.call155 rfl (firstPlace_spec ha3 har hrs hf1 ht hf2 ha3 hf3 (ho := (ho)) (huo := (hqo (by omega))) (hwl := (rfl))) ?_)
   rintro _ F6 _ le6 ⟨x3, rfl, hr4, hr5, rfl⟩
   replace har := har.mono le6
   replace hrs := hrs.mono le6
   replace ht := ht.mono le6
   replace hx1 := hx1.mono le6
   replace hf1 := hf1.mono le6
   replace hf2 := hf2.mono le6
   replace ha1 := ha1.mono le6
   replace ha2 := ha2.mono le6
   replace hXo1 := hXo1.mono le6
   replace ha3 := ha3.mono le6
   replace hf3 := hf3.mono le6
   replace hr1 := Rd.monoA hr1 le6
   replace hr2 := Rd.monoA hr2 le6
   replace hr3 := Rd.monoA hr3 le6
   refine XL.mv (.tuple #[.int .i64 (instI ar t ((((stepsL ar rs ((((reachL ar rs t (n - 1)).1).getD k ([], 0, (0, 0, []), 0)).1))).getD q (0, 0, [])).2.2)), .agg #[x3]]) rfl ?_
   refine XL.cons (XOp.extract (.int .i64 (instI ar t ((((stepsL ar rs ((((reachL ar rs t (n - 1)).1).getD k ([], 0, (0, 0, []), 0)).1))).getD q (0, 0, [])).2.2))) rfl rfl ?_)
   refine XL.cons (XOp.extract (.agg #[x3]) rfl rfl ?_)
   refine XL.cons (XOp.alloc [(.slice none 0 0)] Tryz.zeroValue60 rfl ?_)
   intro b6
   refine XL.as (.int .i64 (instI ar t ((((stepsL ar rs ((((reachL ar rs t (n - 1)).1).getD k ([], 0, (0, 0, []), 0)).1))).getD q (0, 0, [])).2.2))) rfl ?_
   refine XL.cons (XOp.storeN (vs := [x3]) [] _ [x3] Tryz.sizeOf60 rfl rfl rfl (ones_cons (one_sl (RowsF.isSl hr4)) ones_nil) rfl rfl rfl ?_)
   refine XL.nil (X.seq (X.region ?_))
   refine XL.mv (.int .i64 (instI ar t ((((stepsL ar rs ((((reachL ar rs t (n - 1)).1).getD k ([], 0, (0, 0, []), 0)).1))).getD q (0, 0, [])).2.2))) rfl ?_
   refine XL.cons (XOp.geq (a := instI ar t ((((stepsL ar rs ((((reachL ar rs t (n - 1)).1).getD k ([], 0, (0, 0, []), 0)).1))).getD q (0, 0, [])).2.2)) (b := 0) rfl rfl ?_)
   refine XL.nil ?_
   refine X.condD (p := (instI ar t ((((stepsL ar rs ((((reachL ar rs t (n - 1)).1).getD k ([], 0, (0, 0, []), 0)).1))).getD q (0, 0, [])).2.2) : Int) ≥ 0) rfl (fun h3 => ?_) (fun h3 => ?_)
   ·have hwl9 := (walkL_len hgd.1 hgd.2.2.1 (k := k) (by omega)).2
    have hql9 := hql (by omega)
    refine X.seq (X.region ?_)
    refine XL.mv (x1) rfl ?_
    refine XL.mv (.int .i64 ((k : Int))) rfl ?_
    refine XL.cons (XOp.thawL ?_)
    refine id (XOp.call (args := [x1, .int .i64 (k : Int)]) Tryz.call159 rfl (walkBack_spec (k := k) hx1 (hk := (by omega)) (hll := (hrl)) (hlk := (hgd.1)) (hbd := (hrd))) ?_)
    rintro _ F7 _ le7 ⟨x4, x5, rfl, hr6, hr7, hr8, rfl⟩
    refine ⟨[intsH 2 x4 ((EL ((reachL ar rs t (n - 1)).1) 0).1), stepsD 2 116 x5 (walkL ((reachL ar rs t (n - 1)).1) k)], hr8, ?_⟩
    show XL _ _ _ _ _ _ _ (intsH 2 x4 ((EL ((reachL ar rs t (n - 1)).1) 0).1) :: stepsD 2 116 x5 (walkL ((reachL ar rs t (n - 1)).1) k) :: cellsH b6 [x3] 60 :: cellsH b4 [a1, .int .i64 ((((reachL ar rs t (n - 1)).1).getD k ([], 0, (0, 0, []), 0)).2.1), .int .i64 ((((reachL ar rs t (n - 1)).1).getD k ([], 0, (0, 0, []), 0)).2.2.1.1), .int .i64 ((((reachL ar rs t (n - 1)).1).getD k ([], 0, (0, 0, []), 0)).2.2.1.2.1), a2, .int .i64 ((((reachL ar rs t (n - 1)).1).getD k ([], 0, (0, 0, []), 0)).2.2.2)] 183 :: cellsH b3 [(.slice none 0 0), (.slice none 0 0), .int .i64 (0), (.slice none 0 0)] 62 :: L)
    refine XL.cons (XOp.alloc [(.slice none 0 0), (.slice none 0 0)] Tryz.zeroValue57 rfl ?_)
    intro b7
    refine XL.cons (XOp.storeN (vs := [x4, x5]) [] _ [x4, x5] Tryz.sizeOf57 rfl rfl rfl (ones_cons (one_sl (IntsF.isSl hr6)) (ones_cons (one_sl (StepsF.isSl hr7)) ones_nil)) rfl rfl rfl ?_)
    refine XL.nil (X.seq (X.region ?_))
    refine XL.openD [_, _] _ rfl (fun cs1 Ls1 F8 le8 hs1 hD1 hZ1 => ?_)
    replace har := har.mono le8
    replace hrs := hrs.mono le8
    replace ht := ht.mono le8
    replace hx1 := hx1.mono le8
    replace hf1 := hf1.mono le8
    replace hf2 := hf2.mono le8
    replace ha1 := ha1.mono le8
    replace ha2 := ha2.mono le8
    replace hXo1 := hXo1.mono le8
    replace ha3 := ha3.mono le8
    replace hf3 := hf3.mono le8
    replace hr4 := hr4.mono le8
    replace hr1 := Rd.monoA hr1 le8
    replace hr2 := Rd.monoA hr2 le8
    replace hr3 := Rd.monoA hr3 le8
    have hc1 := hD1.steps hZ1
    show XL _ _ _ _ _ _ _ (cellsH b7 [x4, x5] 57 :: intsH 2 x4 ((EL ((reachL ar rs t (n - 1)).1) 0).1) :: slH 116 3 x5 ((walkL ((reachL ar rs t (n - 1)).1) k).length) cs1 :: cellsH b6 [x3] 60 :: cellsH b4 [a1, .int .i64 ((((reachL ar rs t (n - 1)).1).getD k ([], 0, (0, 0, []), 0)).2.1), .int .i64 ((((reachL ar rs t (n - 1)).1).getD k ([], 0, (0, 0, []), 0)).2.2.1.1), .int .i64 ((((reachL ar rs t (n - 1)).1).getD k ([], 0, (0, 0, []), 0)).2.2.1.2.1), a2, .int .i64 ((((reachL ar rs t (n - 1)).1).getD k ([], 0, (0, 0, []), 0)).2.2.2)] 183 :: cellsH b3 [(.slice none 0 0), (.slice none 0 0), .int .i64 (0), (.slice none 0 0)] 62 :: L)
    skip
    refine XL.cons (XOp.loadN [.int .i64 ((((stepsL ar rs ((((reachL ar rs t (n - 1)).1).getD k ([], 0, (0, 0, []), 0)).1))).getD q (0, 0, [])).1), .int .i64 ((((stepsL ar rs ((((reachL ar rs t (n - 1)).1).getD k ([], 0, (0, 0, []), 0)).1))).getD q (0, 0, [])).2.1), a3] Tryz.isAgg116 Tryz.sizeOf116 rfl rfl (FzC.rd hf3 rfl) ?_)
    refine XL.weaken (Sub.front (A := [_, _])) ?_
    show XL _ _ _ _ _ _ _ (slH 116 3 x5 ((walkL ((reachL ar rs t (n - 1)).1) k).length) cs1 :: cellsH b7 [x4, x5] 57 :: intsH 2 x4 ((EL ((reachL ar rs t (n - 1)).1) 0).1) :: cellsH b6 [x3] 60 :: cellsH b4 [a1, .int .i64 ((((reachL ar rs t (n - 1)).1).getD k ([], 0, (0, 0, []), 0)).2.1), .int .i64 ((((reachL ar rs t (n - 1)).1).getD k ([], 0, (0, 0, []), 0)).2.2.1.1), .int .i64 ((((reachL ar rs t (n - 1)).1).getD k ([], 0, (0, 0, []), 0)).2.2.1.2.1), a2, .int .i64 ((((reachL ar rs t (n - 1)).1).getD k ([], 0, (0, 0, []), 0)).2.2.2)] 183 :: cellsH b3 [(.slice none 0 0), (.slice none 0 0), .int .i64 (0), (.slice none 0 0)] 62 :: L)
    refine XL.weaken (Sub.front (A := [_])) ?_
    show XL _ _ _ _ _ _ _ (cellsH b7 [x4, x5] 57 :: slH 116 3 x5 ((walkL ((reachL ar rs t (n - 1)).1) k).length) cs1 :: intsH 2 x4 ((EL ((reachL ar rs t (n - 1)).1) 0).1) :: cellsH b6 [x3] 60 :: cellsH b4 [a1, .int .i64 ((((reachL ar rs t (n - 1)).1).getD k ([], 0, (0, 0, []), 0)).2.1), .int .i64 ((((reachL ar rs t (n - 1)).1).getD k ([], 0, (0, 0, []), 0)).2.2.1.1), .int .i64 ((((reachL ar rs t (n - 1)).1).getD k ([], 0, (0, 0, []), 0)).2.2.1.2.1), a2, .int .i64 ((((reachL ar rs t (n - 1)).1).getD k ([], 0, (0, 0, []), 0)).2.2.2)] 183 :: cellsH b3 [(.slice none 0 0), (.slice none 0 0), .int .i64 (0), (.slice none 0 0)] 62 :: L)
    refine XL.cons (XOp.call (args := [ptr b7 0, .agg #[.int .i64 ((((stepsL ar rs ((((reachL ar rs t (n - 1)).1).getD k ([], 0, (0, 0, []), 0)).1))).getD q (0, 0, [])).1), .int .i64 ((((stepsL ar rs ((((reachL ar rs t (n - 1)).1).getD k ([], 0, (0, 0, []), 0)).1))).getD q (0, 0, [])).2.1), a3]]) Tryz.call160 rfl (walkAdd_spec ha3 hs1 hc1 (by first | rfl | assumption | omega) (by omega) (by omega)) ?_)
    rintro _ F9 _ le9 ⟨sw1, cw1, hs2, hw1, hf4, rfl⟩
    replace har := har.mono le9
    replace hrs := hrs.mono le9
    replace ht := ht.mono le9
    replace hx1 := hx1.mono le9
    replace hf1 := hf1.mono le9
    replace hf2 := hf2.mono le9
    replace ha1 := ha1.mono le9
    replace ha2 := ha2.mono le9
    replace hXo1 := hXo1.mono le9
    replace ha3 := ha3.mono le9
    replace hf3 := hf3.mono le9
    replace hr4 := hr4.mono le9
    replace hc1 := hc1.mono le9
    replace hr1 := Rd.monoA hr1 le9
    replace hr2 := Rd.monoA hr2 le9
    replace hr3 := Rd.monoA hr3 le9
    have hc2 := StepsC.snoc hc1 (i := (((stepsL ar rs ((((reachL ar rs t (n - 1)).1).getD k ([], 0, (0, 0, []), 0)).1))).getD q (0, 0, [])).1) (j := (((stepsL ar rs ((((reachL ar rs t (n - 1)).1).getD k ([], 0, (0, 0, []), 0)).1))).getD q (0, 0, [])).2.1) hw1
    show XL _ _ _ _ _ _ _ (cellsH b7 [x4, sw1] 57 :: slH 116 3 sw1 (((walkL ((reachL ar rs t (n - 1)).1) k).length) + 1) ((cs1 ++ [.int .i64 ((((stepsL ar rs ((((reachL ar rs t (n - 1)).1).getD k ([], 0, (0, 0, []), 0)).1))).getD q (0, 0, [])).1), .int .i64 ((((stepsL ar rs ((((reachL ar rs t (n - 1)).1).getD k ([], 0, (0, 0, []), 0)).1))).getD q (0, 0, [])).2.1), cw1])) :: intsH 2 x4 ((EL ((reachL ar rs t (n - 1)).1) 0).1) :: cellsH b6 [x3] 60 :: cellsH b4 [a1, .int .i64 ((((reachL ar rs t (n - 1)).1).getD k ([], 0, (0, 0, []), 0)).2.1), .int .i64 ((((reachL ar rs t (n - 1)).1).getD k ([], 0, (0, 0, []), 0)).2.2.1.1), .int .i64 ((((reachL ar rs t (n - 1)).1).getD k ([], 0, (0, 0, []), 0)).2.2.1.2.1), a2, .int .i64 ((((reachL ar rs t (n - 1)).1).getD k ([], 0, (0, 0, []), 0)).2.2.2)] 183 :: cellsH b3 [(.slice none 0 0), (.slice none 0 0), .int .i64 (0), (.slice none 0 0)] 62 :: L)
    refine XL.nil (X.seq (X.region ?_))
    refine XL.cons (XOp.loadN [x4, sw1] Tryz.isAgg57 Tryz.sizeOf57 rfl rfl (Rd.ownN [] rfl rfl) ?_)
    refine XL.mv (.int .i64 (instI ar t ((((stepsL ar rs ((((reachL ar rs t (n - 1)).1).getD k ([], 0, (0, 0, []), 0)).1))).getD q (0, 0, [])).2.2))) rfl ?_
    refine XL.cons (XOp.loadN [x3] Tryz.isAgg60 Tryz.sizeOf60 rfl rfl (Rd.ownN [_, _, _] rfl rfl) ?_)
    refine XL.cons (XOp.build [x4, sw1, .int .i64 (instI ar t ((((stepsL ar rs ((((reachL ar rs t (n - 1)).1).getD k ([], 0, (0, 0, []), 0)).1))).getD q (0, 0, [])).2.2)), x3] [(.slice none 0 0), (.slice none 0 0), .int .i64 (0), (.slice none 0 0)] [(0, 2), (2, 1), (3, 1)] [(0, [x4, sw1]), (1, [.int .i64 (instI ar t ((((stepsL ar rs ((((reachL ar rs t (n - 1)).1).getD k ([], 0, (0, 0, []), 0)).1))).getD q (0, 0, [])).2.2))]), (2, [x3])] Tryz.runUnderlying62 Tryz.zeroValue62 rfl (.cons rfl Tryz.sizeOf57 (.cons rfl Tryz.sizeOf2 (.cons rfl Tryz.sizeOf60 PlacesAre.nil))) rfl (.cons rfl (.cons rfl (.cons rfl CellsAre.nil))) ?_)
    refine XL.cons (XOp.storeN (vs := [x4, sw1, .int .i64 (instI ar t ((((stepsL ar rs ((((reachL ar rs t (n - 1)).1).getD k ([], 0, (0, 0, []), 0)).1))).getD q (0, 0, [])).2.2)), x3]) [_, _, _, _, _] _ [x4, sw1, .int .i64 (instI ar t ((((stepsL ar rs ((((reachL ar rs t (n - 1)).1).getD k ([], 0, (0, 0, []), 0)).1))).getD q (0, 0, [])).2.2)), x3] Tryz.sizeOf62 rfl rfl rfl (ones_cons (one_sl (IntsF.isSl hr6)) (ones_cons (one_sl hs2) (ones_cons rfl (ones_cons (one_sl (RowsF.isSl hr4)) ones_nil)))) rfl rfl rfl ?_)
    refine XL.as (.bool (true)) rfl ?_
    refine XL.nil ?_
    refine X.freezeF [_, _] _ _ rfl (fun F10 le10 hz4 => ?_)
    replace har := har.mono le10
    replace hrs := hrs.mono le10
    replace ht := ht.mono le10
    replace hx1 := hx1.mono le10
    replace hf1 := hf1.mono le10
    replace hf2 := hf2.mono le10
    replace ha1 := ha1.mono le10
    replace ha2 := ha2.mono le10
    replace hXo1 := hXo1.mono le10
    replace ha3 := ha3.mono le10
    replace hf3 := hf3.mono le10
    replace hr4 := hr4.mono le10
    replace hc1 := hc1.mono le10
    replace hw1 := hw1.mono le10
    replace hc2 := hc2.mono le10
    replace hr1 := Rd.monoA hr1 le10
    replace hr2 := Rd.monoA hr2 le10
    replace hr3 := Rd.monoA hr3 le10
    have hf5 : IntsF F10 x4 ((EL ((reachL ar rs t (n - 1)).1) 0).1) := intsH.fz (xs := (EL ((reachL ar rs t (n - 1)).1) 0).1) hz4.fz
    refine X.freezeF [_] _ _ rfl (fun F11 le11 hz5 => ?_)
    replace har := har.mono le11
    replace hrs := hrs.mono le11
    replace ht := ht.mono le11
    replace hx1 := hx1.mono le11
    replace hf1 := hf1.mono le11
    replace hf2 := hf2.mono le11
    replace ha1 := ha1.mono le11
    replace ha2 := ha2.mono le11
    replace hXo1 := hXo1.mono le11
    replace ha3 := ha3.mono le11
    replace hf3 := hf3.mono le11
    replace hr4 := hr4.mono le11
    replace hc1 := hc1.mono le11
    replace hw1 := hw1.mono le11
    replace hc2 := hc2.mono le11
    replace hf5 := hf5.mono le11
    replace hr1 := Rd.monoA hr1 le11
    replace hr2 := Rd.monoA hr2 le11
    replace hr3 := Rd.monoA hr3 le11
    have hf6 : StepsF F11 sw1 ((walkL ((reachL ar rs t (n - 1)).1) k ++ [((((stepsL ar rs ((((reachL ar rs t (n - 1)).1).getD k ([], 0, (0, 0, []), 0)).1))).getD q (0, 0, [])).1, (((stepsL ar rs ((((reachL ar rs t (n - 1)).1).getD k ([], 0, (0, 0, []), 0)).1))).getD q (0, 0, [])).2.1, (((stepsL ar rs ((((reachL ar rs t (n - 1)).1).getD k ([], 0, (0, 0, []), 0)).1))).getD q (0, 0, [])).2.2)])) := CO.fz hc2 (by first | rfl | simp | omega) hz5.fz
    refine X.ret (blockQ_ret (thenQ_ret (thenQ_ret (blockQ_ret (blockQ_ret (thenQ_ret (thenQ_ret (blockQ_ret (thenQ_ret (retEnd (L' := L) [.agg #[x4, sw1, .int .i64 (instI ar t ((((stepsL ar rs ((((reachL ar rs t (n - 1)).1).getD k ([], 0, (0, 0, []), 0)).1))).getD q (0, 0, [])).2.2)), x3], .bool (true)] (.tuple #[.agg #[x4, sw1, .int .i64 (instI ar t ((((stepsL ar rs ((((reachL ar rs t (n - 1)).1).getD k ([], 0, (0, 0, []), 0)).1))).getD q (0, 0, [])).2.2)), x3], .bool (true)]) (.cell rfl (loadNV [x4, sw1, .int .i64 (instI ar t ((((stepsL ar rs ((((reachL ar rs t (n - 1)).1).getD k ([], 0, (0, 0, []), 0)).1))).getD q (0, 0, [])).2.2)), x3] Tryz.isAgg62 Tryz.sizeOf62 rfl (Rd.ownN [_, _, _] rfl rfl)) (.tmp rfl .nil)) rfl (FLe.trans (FLe.trans (FLe.trans (FLe.trans (FLe.trans (FLe.trans (FLe.trans (FLe.trans (FLe.trans (FLe.trans (FLe.trans le1 le2) le3) leG1) le4) leG2) le5) le6) le8) le9) le10) le11) rF (Sub.drop (Sub.drop (Sub.drop (Sub.drop sR)))) ?_))))))))))
    have hk9 : k < (reachL ar rs t (n - 1)).1.length := by omega
    have hq9 : q < (stepsL ar rs ((reachL ar rs t (n - 1)).1.getD k ([], 0, (0, 0, []), 0)).1).length := by omega
    have hi9 : 0 ≤ instI ar t ((stepsL ar rs ((reachL ar rs t (n - 1)).1.getD k ([], 0, (0, 0, []), 0)).1).getD q (0, 0, [])).2.2 := by omega
    have e : loop0 ar rs t (reachL ar rs t (n - 1)).1 = ((EL (reachL ar rs t (n - 1)).1 0).1, walkL (reachL ar rs t (n - 1)).1 k ++ [(((stepsL ar rs ((reachL ar rs t (n - 1)).1.getD k ([], 0, (0, 0, []), 0)).1).getD q (0, 0, [])).1, ((stepsL ar rs ((reachL ar rs t (n - 1)).1.getD k ([], 0, (0, 0, []), 0)).1).getD q (0, 0, [])).2.1, ((stepsL ar rs ((reachL ar rs t (n - 1)).1.getD k ([], 0, (0, 0, []), 0)).1).getD q (0, 0, [])).2.2)], instI ar t ((stepsL ar rs ((reachL ar rs t (n - 1)).1.getD k ([], 0, (0, 0, []), 0)).1).getD q (0, 0, [])).2.2, placeS ar t ((stepsL ar rs ((reachL ar rs t (n - 1)).1.getD k ([], 0, (0, 0, []), 0)).1).getD q (0, 0, [])).2.2, true) := by rw [loop0_at (k := k) (q := q) hk9 hno hq9 hi9 hnq, loopAt, hgd.2.2.2, placeS_yes hi9]
    exact ⟨_, _, _, by rw [e], by rw [e]; exact hf5, by rw [e]; exact hf6, by rw [e]; exact hr4, by rw [e]; exact (((Fresh.app hr5 le6 (Fresh.deepM (M := [_]) (DeepL.snoc hD1 rfl ⟨_, rfl, rfl⟩) (Fresh.cons (Fresh.app (M := Ls1) hZ1 le8 (Fresh.one hf4) le9) (FLe.trans le8 le9) hz4 le10) (FLe.trans (FLe.trans le8 le9) le10) hz5 (by first | rfl | omega | (rw [List.length_append]; rfl)) le11) (FLe.trans (FLe.trans (FLe.trans le8 le9) le10) le11)).perm (List.perm_append_comm (l₁ := [_]) (l₂ := [_, _]))).base (FLe.trans (FLe.trans (FLe.trans (FLe.trans (FLe.trans (FLe.trans le1 le2) le3) leG1) le4) leG2) le5)), rfl⟩
   ·refine X.skip (X.region ?_)
    refine XL.cons (XOp.addR (a := (q : Int)) (b := 1) (((q + 1 : Nat) : Int)) rfl rfl (by omega) (by omega) ?_)
    refine XL.mv (.int .i64 (((q + 1 : Nat) : Int))) rfl ?_
    refine XL.nil ?_
    exact ⟨(q + 1, F6), _, (FLe.trans (FLe.trans leG2 le5) le6), rF, ⟨rfl, rfl, rfl, rfl, rfl, rfl, rfl, rfl, rfl, rfl, rfl, trivial⟩, (Sub.drop (Sub.cons (Sub.cons sR))), ⟨rfl, (FLe.trans (FLe.trans leG2 le5) le6), (by (try dsimp only) <;> omega), (fun i hi => (Nat.lt_or_ge i q).elim (fun h => hnq i h) (fun h => by obtain rfl : i = q := (by omega); omega))⟩, (by omega)⟩
  ·refine X.exit (thenQ_exit (thenQ_exit (blockQ_exit ?_)))
   refine X.region ?_
   refine XL.cons (XOp.addR (a := (k : Int)) (b := 1) (((k + 1 : Nat) : Int)) rfl rfl (by omega) (by omega) ?_)
   refine XL.mv (.int .i64 (((k + 1 : Nat) : Int))) rfl ?_
   refine XL.nil ?_
   exact ⟨(k + 1, G2), _, (FLe.trans (FLe.trans leG1 le4) leG2), rF, ⟨rfl, rfl, rfl, rfl, rfl, rfl, rfl, trivial⟩, (Sub.drop (Sub.cons sR)), ⟨rfl, (FLe.trans (FLe.trans leG1 le4) leG2), (by (try dsimp only) <;> omega), (fun i hi => (Nat.lt_or_ge i k).elim (fun h => hno i h) (fun h => by obtain rfl : i = k := (by omega); have h9 := nextI_none (ar := ar) (t := t) (ss := stepsL ar rs (EL (reachL ar rs t (n - 1)).1 i).1) (fun j hj => hnq j (by have h8 : j < (stepsL ar rs ((reachL ar rs t (n - 1)).1.getD i ([], 0, (0, 0, []), 0)).1).length := hj; omega)); omega))⟩, (by omega)⟩
 ·refine X.exit (thenQ_exit (thenQ_exit (blockQ_exit ?_)))
  refine X.seq (X.region ?_)
  refine XL.cons (XOp.build [(.slice none 0 0), (.slice none 0 0), .int .i64 (0), (.slice none 0 0)] [(.slice none 0 0), (.slice none 0 0), .int .i64 (0), (.slice none 0 0)] [(0, 2), (2, 1), (3, 1)] [] Tryz.runUnderlying62 Tryz.zeroValue62 rfl (.cons rfl Tryz.sizeOf57 (.cons rfl Tryz.sizeOf2 (.cons rfl Tryz.sizeOf60 PlacesAre.nil))) rfl CellsAre.nil ?_)
  refine XL.cons (XOp.storeN (vs := [(.slice none 0 0), (.slice none 0 0), .int .i64 (0), (.slice none 0 0)]) [] _ [(.slice none 0 0), (.slice none 0 0), .int .i64 (0), (.slice none 0 0)] Tryz.sizeOf62 rfl rfl rfl (ones_cons rfl (ones_cons rfl (ones_cons rfl (ones_cons rfl ones_nil)))) rfl rfl rfl ?_)
  refine XL.as (.bool (false)) rfl ?_
  refine XL.nil ?_
  refine X.ret (retEnd (L' := L) [.agg #[(.slice none 0 0), (.slice none 0 0), .int .i64 (0), (.slice none 0 0)], .bool (false)] (.tuple #[.agg #[(.slice none 0 0), (.slice none 0 0), .int .i64 (0), (.slice none 0 0)], .bool (false)]) (.cell rfl (loadNV [(.slice none 0 0), (.slice none 0 0), .int .i64 (0), (.slice none 0 0)] Tryz.isAgg62 Tryz.sizeOf62 rfl (Rd.ownN [] rfl rfl)) (.tmp rfl .nil)) rfl (FLe.trans (FLe.trans (FLe.trans le1 le2) le3) leG1) rF (Sub.drop sR) ?_)
  have e : loop0 ar rs t (reachL ar rs t (n - 1)).1 = noLoop := loop0_none (fun i hi => hno i (by omega))
  exact ⟨_, _, _, by rw [e], by rw [e]; exact IntsF.nilV, by rw [e]; exact SlOf.nilV, by rw [e]; exact SlOf.nilV, by rw [e]; exact Fresh.empty nilLoop, rfl⟩

/- impl.loopSteps -/
theorem loopSteps_spec {F : FH} {L : List HP} {n : Int} :
    Does Tryz.prog 78 [.int .i64 (n)] F (L) (fun v F' L' => (.bool (decide (1 ≤ n ∧ n ≤ 20)) : Value) = v ∧ F = F' ∧ L = L') := by
 refine Does.of_X Tryz.func78 rfl rfl rfl ?_
 refine X.seq (X.region ?_)
 refine XL.as (.bool (false)) rfl ?_
 refine XL.nil (X.seq (X.region ?_))
 refine XL.mv (.int .i64 (n)) rfl ?_
 refine XL.cons (XOp.geq (a := n) (b := 1) rfl rfl ?_)
 refine XL.mv (.bool (decide ((n : Int) ≥ 1))) rfl ?_
 by_cases h1 : (n : Int) ≥ 1
 ·refine XL.yes (t := 5) rfl (vT h1) (XOp.move (.int .i64 (n)) rfl ?_)
  refine XL.yes (t := 5) rfl (vT h1) (XOp.leq (a := n) (b := 20) rfl rfl ?_)
  refine XL.cons (XOp.pickT (.bool (decide ((n : Int) ≤ 20))) (vT h1) rfl ?_)
  refine XL.as (.bool (decide ((n : Int) ≤ 20))) rfl ?_
  refine XL.nil ?_
  refine X.ret (retEnd (L' := L) [.bool (decide ((n : Int) ≤ 20))] (.bool (decide ((n : Int) ≤ 20))) (.tmp rfl .nil) rfl rF rF sR ?_)
  exact ⟨(vB (by simp_all <;> omega)), rfl, rfl⟩
 ·refine XL.no (t := 5) rfl (vF h1) ?_
  refine XL.no (t := 5) rfl (vF h1) ?_
  refine XL.cons (XOp.pickF (.bool (false)) (vF h1) rfl ?_)
  refine XL.as (.bool (false)) rfl ?_
  refine XL.nil ?_
  refine X.ret (retEnd (L' := L) [.bool (false)] (.bool (false)) (.tmp rfl .nil) rfl rF rF sR ?_)
  exact ⟨(vB (by simp_all <;> omega)), rfl, rfl⟩

/- impl.FirstLoop -/
set_option maxRecDepth 20000 in
theorem FirstLoop_spec {F : FH} {L : List HP} {arv : Value} {ar : List Int} (har : IntsF F arv ar) {rsv : Value} {rs : List (List Int × List Int)} (hrs : PairsF F rsv rs) {n : Int} :
    Does Tryz.prog 31 [.agg #[arv, rsv], .int .i64 (n)] F (L) (fun v F' L' => ∃ (a : Value), ∃ (b : Value), ∃ (c : Value), (.tuple #[.agg #[a, b, .int .i64 ((firstF ar rs n).2.2.1), c], .bool ((firstF ar rs n).2.2.2.2)] : Value) = v ∧ (IntsF F' a (firstF ar rs n).1) ∧ (StepsF F' b (firstF ar rs n).2.1) ∧ (RowsF F' c (firstF ar rs n).2.2.2.1) ∧ (Fresh F F' (star [intsH 2 a (firstF ar rs n).1, stepsD 2 116 b (firstF ar rs n).2.1, rowsD 2 22 c (firstF ar rs n).2.2.2.1])) ∧ L = L') := by
 refine Does.of_X Tryz.func31 rfl rfl rfl ?_
 refine X.seq (X.region ?_)
 refine XL.cons (XOp.box [arv, rsv] rfl rfl ?_)
 intro b1
 refine XL.cons (XOp.alloc [(.slice none 0 0), (.slice none 0 0), .int .i64 (0), (.slice none 0 0)] Tryz.zeroValue62 rfl ?_)
 intro b2
 refine XL.as (.bool (false)) rfl ?_
 refine XL.nil (X.seq (X.seq (X.region ?_)))
 refine XL.cons (XOp.loadN [arv, rsv] Tryz.isAgg37 Tryz.sizeOf37 rfl rfl (Rd.ownN [_] rfl rfl) ?_)
 refine XL.cons (XOp.call (args := [.agg #[arv, rsv]]) Tryz.call76 rfl (SystemOk_spec har hrs) ?_)
 rintro _ _ _ _ ⟨rfl, rfl, rfl⟩
 refine XL.cons (XOp.notB (b := sysOk ar rs) rfl ?_)
 refine XL.mv (.bool (!(sysOk ar rs))) rfl ?_
 by_cases h1 : (!(sysOk ar rs)) = true
 ·refine XL.no (t := 13) rfl (vB h1) ?_
  refine XL.no (t := 13) rfl (vB h1) ?_
  refine XL.no (t := 13) rfl (vB h1) ?_
  refine XL.cons (XOp.pickT (.bool (true)) (vB h1) rfl ?_)
  refine XL.nil ?_
  refine X.condT rfl ?_
  refine X.seq (X.region ?_)
  refine XL.cons (XOp.build [(.slice none 0 0), (.slice none 0 0), .int .i64 (0), (.slice none 0 0)] [(.slice none 0 0), (.slice none 0 0), .int .i64 (0), (.slice none 0 0)] [(0, 2), (2, 1), (3, 1)] [] Tryz.runUnderlying62 Tryz.zeroValue62 rfl (.cons rfl Tryz.sizeOf57 (.cons rfl Tryz.sizeOf2 (.cons rfl Tryz.sizeOf60 PlacesAre.nil))) rfl CellsAre.nil ?_)
  refine XL.cons (XOp.storeN (vs := [(.slice none 0 0), (.slice none 0 0), .int .i64 (0), (.slice none 0 0)]) [] _ [(.slice none 0 0), (.slice none 0 0), .int .i64 (0), (.slice none 0 0)] Tryz.sizeOf62 rfl rfl rfl (ones_cons rfl (ones_cons rfl (ones_cons rfl (ones_cons rfl ones_nil)))) rfl rfl rfl ?_)
  refine XL.as (.bool (false)) rfl ?_
  refine XL.nil ?_
  refine X.ret (thenQ_ret (retEnd (L' := L) [.agg #[(.slice none 0 0), (.slice none 0 0), .int .i64 (0), (.slice none 0 0)], .bool (false)] (.tuple #[.agg #[(.slice none 0 0), (.slice none 0 0), .int .i64 (0), (.slice none 0 0)], .bool (false)]) (.cell rfl (loadNV [(.slice none 0 0), (.slice none 0 0), .int .i64 (0), (.slice none 0 0)] Tryz.isAgg62 Tryz.sizeOf62 rfl (Rd.ownN [] rfl rfl)) (.tmp rfl .nil)) rfl rF rF (Sub.drop (Sub.drop sR)) ?_))
  have e : firstF ar rs n = noLoop := firstF_no (by simp_all)
  exact ⟨_, _, _, by rw [e], by rw [e]; exact IntsF.nilV, by rw [e]; exact SlOf.nilV, by rw [e]; exact SlOf.nilV, by rw [e]; exact Fresh.empty nilLoop, rfl⟩
 ·rw [Bool.not_eq_true] at h1
  have hsys : sysOk ar rs = true := by simpa using h1
  have hrs12 := (sysOk_iff.1 hsys).2.1
  refine XL.yes (t := 13) rfl (vB h1) (XOp.move (.int .i64 (n)) rfl ?_)
  refine XL.yes (t := 13) rfl (vB h1) (XOp.call (args := [.int .i64 (n)]) Tryz.call78 rfl (loopSteps_spec (n := n)) ?_)
  rintro _ _ _ _ ⟨rfl, rfl, rfl⟩
  refine XL.yes (t := 13) rfl (vB h1) (XOp.notD (p := 1 ≤ n ∧ n ≤ 20) rfl ?_)
  refine XL.cons (XOp.pickF (.bool (decide (¬(1 ≤ n ∧ n ≤ 20)))) (vB h1) rfl ?_)
  refine XL.nil ?_
  refine X.condD (p := ¬(1 ≤ n ∧ n ≤ 20)) rfl (fun h2 => ?_) (fun h2 => ?_)
  ·refine X.seq (X.region ?_)
   refine XL.cons (XOp.build [(.slice none 0 0), (.slice none 0 0), .int .i64 (0), (.slice none 0 0)] [(.slice none 0 0), (.slice none 0 0), .int .i64 (0), (.slice none 0 0)] [(0, 2), (2, 1), (3, 1)] [] Tryz.runUnderlying62 Tryz.zeroValue62 rfl (.cons rfl Tryz.sizeOf57 (.cons rfl Tryz.sizeOf2 (.cons rfl Tryz.sizeOf60 PlacesAre.nil))) rfl CellsAre.nil ?_)
   refine XL.cons (XOp.storeN (vs := [(.slice none 0 0), (.slice none 0 0), .int .i64 (0), (.slice none 0 0)]) [] _ [(.slice none 0 0), (.slice none 0 0), .int .i64 (0), (.slice none 0 0)] Tryz.sizeOf62 rfl rfl rfl (ones_cons rfl (ones_cons rfl (ones_cons rfl (ones_cons rfl ones_nil)))) rfl rfl rfl ?_)
   refine XL.as (.bool (false)) rfl ?_
   refine XL.nil ?_
   refine X.ret (thenQ_ret (retEnd (L' := L) [.agg #[(.slice none 0 0), (.slice none 0 0), .int .i64 (0), (.slice none 0 0)], .bool (false)] (.tuple #[.agg #[(.slice none 0 0), (.slice none 0 0), .int .i64 (0), (.slice none 0 0)], .bool (false)]) (.cell rfl (loadNV [(.slice none 0 0), (.slice none 0 0), .int .i64 (0), (.slice none 0 0)] Tryz.isAgg62 Tryz.sizeOf62 rfl (Rd.ownN [] rfl rfl)) (.tmp rfl .nil)) rfl rF rF (Sub.drop (Sub.drop sR)) ?_))
   have e : firstF ar rs n = noLoop := firstF_no (by simp_all)
   exact ⟨_, _, _, by rw [e], by rw [e]; exact IntsF.nilV, by rw [e]; exact SlOf.nilV, by rw [e]; exact SlOf.nilV, by rw [e]; exact Fresh.empty nilLoop, rfl⟩
  ·have hn20 : 1 ≤ n ∧ n ≤ 20 := by first | exact Classical.not_not.1 h2 | simpa using h2
   refine X.skip (X.seq (X.seq (X.region ?_)))
   refine XL.cons (XOp.fieldP (b := b1) (1) Tryz.runUnderlying37 rfl Tryz.sizeOf35 (by decide) rfl rfl ?_)
   refine XL.cons (XOp.load1 (v := rsv) Tryz.isAgg35 rfl (Rd.own [_] rfl rfl) ?_)
   refine XL.cons (XOp.lenS (v := rsv) (n := (rs).length) Tryz.runUnderlying35 rfl hrs.slv ?_)
   refine XL.mv (.int .i64 (0)) rfl ?_
   refine XL.nil (X.block ?_)
   refine X.loop (α := Nat × FH) (fun xQ => [(1, .int .i64 (n)), (2, ptr b1 0), (4, ptr b2 0), (20, rsv), (21, .int .i64 ((rs.length : Int))), (22, .int .i64 (((xQ.1 : Nat) : Int)))]) (fun xQ => cellsH b2 [(.slice none 0 0), (.slice none 0 0), .int .i64 (0), (.slice none 0 0)] 62 :: cellsH b1 [arv, rsv] 37 :: L) (fun xQ F' => xQ.2 = F' ∧ F ≤ xQ.2 ∧ (xQ.1 ≤ rs.length) ∧ (∀ i, i < xQ.1 → (loopF ar rs (rs.getD i ([], [])).1 n).2.2.2.2 = false)) (fun xQ => rs.length - xQ.1) (0, F) ⟨rfl, rfl, rfl, rfl, rfl, rfl, trivial⟩ (Sub.cons (Sub.cons sR)) ⟨rfl, FLe.refl _, (by (try dsimp only) <;> omega), (fun i hi => absurd hi (by omega))⟩ ?_
   rintro ⟨k, G1⟩ rE _ _ ⟨rfl, leG, hk, hall⟩
   show X _ _ _ _ (envs [(1, .int .i64 (n)), (2, ptr b1 0), (4, ptr b2 0), (20, rsv), (21, .int .i64 ((rs.length : Int))), (22, .int .i64 ((k : Int)))] rE) _ (cellsH b2 [(.slice none 0 0), (.slice none 0 0), .int .i64 (0), (.slice none 0 0)] 62 :: cellsH b1 [arv, rsv] 37 :: L)
   replace leG : F ≤ G1 := leG
   dsimp only at hk hall
   have hrl := fun (h : k < rs.length) => (ruleOk_iff.1 ((sysOk_iff.1 hsys).2.2 k h)).left
   have hlf := fun (h : k < rs.length) => loopF_yes (ar := ar) (rs := rs) (t := (rs.getD k ([], [])).1) (n := n) ⟨⟨hsys, hrl h⟩, hn20⟩
   have leG1 := leG
   replace har := har.mono leG1
   replace hrs := hrs.mono leG1
   refine X.seq (X.region ?_)
   refine XL.cons (XOp.lss (a := (k : Int)) (b := (rs.length : Int)) rfl rfl ?_)
   refine XL.nil (X.seq ?_)
   refine X.condD (p := (k : Int) < (rs.length : Int)) rfl (fun h3 => ?_) (fun h3 => ?_)
   ·refine X.skip (X.seq (X.block (X.seq (X.region ?_))))
    refine XL.cons (XOp.indexS (v := rsv) (i := (k : Int)) (n := (rs).length) k Tryz.runUnderlying35 Tryz.sizeOf121 rfl rfl rfl hrs.slv (by omega) rfl ?_)
    obtain ⟨a1, a2, ha1, ha2, hr1, hr2⟩ := hrs.rd (i := k) (by omega)
    refine XL.cons (XOp.loadN [a1, a2] Tryz.isAgg121 Tryz.sizeOf121 rfl rfl (Rd.two (hr1 _) (hr2 _)) ?_)
    refine XL.cons (XOp.alloc [(.slice none 0 0), (.slice none 0 0)] Tryz.zeroValue121 rfl ?_)
    intro b3
    refine XL.cons (XOp.storeN (vs := [a1, a2]) [] _ [a1, a2] Tryz.sizeOf121 rfl rfl rfl (ones_cons (one_sl (IntsF.isSl ha1)) (ones_cons (one_sl (IntsF.isSl ha2)) ones_nil)) rfl rfl rfl ?_)
    refine XL.nil (X.seq (X.region ?_))
    refine XL.cons (XOp.loadN [arv, rsv] Tryz.isAgg37 Tryz.sizeOf37 rfl rfl (Rd.ownN [_, _] rfl rfl) ?_)
    refine XL.cons (XOp.fieldP (b := b3) (0) Tryz.runUnderlying121 rfl Tryz.sizeOf22 (by decide) rfl rfl ?_)
    refine XL.cons (XOp.load1 (v := a1) Tryz.isAgg22 rfl (Rd.own [] rfl rfl) ?_)
    refine XL.mv (.int .i64 (n)) rfl ?_
    refine XL.cons (XOp.call (args := [.agg #[arv, rsv], a1, .int .i64 (n)]) Tryz.call79 rfl (loopFrom_spec (n := n) har hrs ha1 (hsys := (hsys)) (ho := (hrl (by omega))) (hn20 := (hn20))) ?_)
    rintro _ F1 _ le1 ⟨x1, x2, x3, rfl, hr3, hr4, hr5, hr6, rfl⟩
    replace har := har.mono le1
    replace hrs := hrs.mono le1
    replace ha1 := ha1.mono le1
    replace ha2 := ha2.mono le1
    replace hr1 := Rd.monoA hr1 le1
    replace hr2 := Rd.monoA hr2 le1
    refine XL.mv (.tuple #[.agg #[x1, x2, .int .i64 ((loop0 ar rs ((rs.getD k ([], [])).1) (reachL ar rs ((rs.getD k ([], [])).1) (n - 1)).1).2.2.1), x3], .bool ((loop0 ar rs ((rs.getD k ([], [])).1) (reachL ar rs ((rs.getD k ([], [])).1) (n - 1)).1).2.2.2.2)]) rfl ?_
    refine XL.cons (XOp.extract (.agg #[x1, x2, .int .i64 ((loop0 ar rs ((rs.getD k ([], [])).1) (reachL ar rs ((rs.getD k ([], [])).1) (n - 1)).1).2.2.1), x3]) rfl rfl ?_)
    refine XL.cons (XOp.extract (.bool ((loop0 ar rs ((rs.getD k ([], [])).1) (reachL ar rs ((rs.getD k ([], [])).1) (n - 1)).1).2.2.2.2)) rfl rfl ?_)
    refine XL.cons (XOp.alloc [(.slice none 0 0), (.slice none 0 0), .int .i64 (0), (.slice none 0 0)] Tryz.zeroValue62 rfl ?_)
    intro b4
    refine XL.cons (XOp.storeN (vs := [x1, x2, .int .i64 ((loop0 ar rs ((rs.getD k ([], [])).1) (reachL ar rs ((rs.getD k ([], [])).1) (n - 1)).1).2.2.1), x3]) [] _ [x1, x2, .int .i64 ((loop0 ar rs ((rs.getD k ([], [])).1) (reachL ar rs ((rs.getD k ([], [])).1) (n - 1)).1).2.2.1), x3] Tryz.sizeOf62 rfl rfl rfl (ones_cons (one_sl (IntsF.isSl hr3)) (ones_cons (one_sl (StepsF.isSl hr4)) (ones_cons rfl (ones_cons (one_sl (RowsF.isSl hr5)) ones_nil)))) rfl rfl rfl ?_)
    refine XL.as (.bool ((loop0 ar rs ((rs.getD k ([], [])).1) (reachL ar rs ((rs.getD k ([], [])).1) (n - 1)).1).2.2.2.2)) rfl ?_
    refine XL.nil (X.seq (X.region ?_))
    refine XL.mv (.bool ((loop0 ar rs ((rs.getD k ([], [])).1) (reachL ar rs ((rs.getD k ([], [])).1) (n - 1)).1).2.2.2.2)) rfl ?_
    refine XL.nil ?_
    refine X.cond (t := (loop0 ar rs ((rs.getD k ([], [])).1) (reachL ar rs ((rs.getD k ([], [])).1) (n - 1)).1).2.2.2.2) rfl (fun h4 => ?_) (fun h4 => ?_)
    ·have hb9 : (loopF ar rs (rs.getD k ([], [])).1 n).2.2.2.2 = true := by rw [hlf (by omega)]; exact h4
     refine X.seq (X.region ?_)
     refine XL.cons (XOp.loadN [x1, x2, .int .i64 ((loop0 ar rs ((rs.getD k ([], [])).1) (reachL ar rs ((rs.getD k ([], [])).1) (n - 1)).1).2.2.1), x3] Tryz.isAgg62 Tryz.sizeOf62 rfl rfl (Rd.ownN [] rfl rfl) ?_)
     refine XL.cons (XOp.storeN (vs := [x1, x2, .int .i64 ((loop0 ar rs ((rs.getD k ([], [])).1) (reachL ar rs ((rs.getD k ([], [])).1) (n - 1)).1).2.2.1), x3]) [_, _] _ [x1, x2, .int .i64 ((loop0 ar rs ((rs.getD k ([], [])).1) (reachL ar rs ((rs.getD k ([], [])).1) (n - 1)).1).2.2.1), x3] Tryz.sizeOf62 rfl rfl rfl (ones_cons (one_sl (IntsF.isSl hr3)) (ones_cons (one_sl (StepsF.isSl hr4)) (ones_cons rfl (ones_cons (one_sl (RowsF.isSl hr5)) ones_nil)))) rfl rfl rfl ?_)
     refine XL.as (.bool (true)) rfl ?_
     refine XL.nil ?_
     refine X.ret (blockQ_ret (thenQ_ret (thenQ_ret (blockQ_ret (thenQ_ret (retEnd (L' := L) [.agg #[x1, x2, .int .i64 ((loop0 ar rs ((rs.getD k ([], [])).1) (reachL ar rs ((rs.getD k ([], [])).1) (n - 1)).1).2.2.1), x3], .bool (true)] (.tuple #[.agg #[x1, x2, .int .i64 ((loop0 ar rs ((rs.getD k ([], [])).1) (reachL ar rs ((rs.getD k ([], [])).1) (n - 1)).1).2.2.1), x3], .bool (true)]) (.cell rfl (loadNV [x1, x2, .int .i64 ((loop0 ar rs ((rs.getD k ([], [])).1) (reachL ar rs ((rs.getD k ([], [])).1) (n - 1)).1).2.2.1), x3] Tryz.isAgg62 Tryz.sizeOf62 rfl (Rd.ownN [_, _] rfl rfl)) (.tmp rfl .nil)) rfl (FLe.trans leG1 le1) rF (Sub.drop (Sub.drop (Sub.drop (Sub.drop sR)))) ?_))))))
     have e := (firstF_at ⟨hsys, hn20⟩ (k := k) (by omega) hb9 hall).trans (hlf (by omega))
     have hb8 := hb9
     rw [hlf (by omega)] at hb8
     exact ⟨_, _, _, by rw [e, hb8], by rw [e]; exact hr3, by rw [e]; exact hr4, by rw [e]; exact hr5, by rw [e]; exact (hr6.base leG1), rfl⟩
    ·have hb9 : (loopF ar rs (rs.getD k ([], [])).1 n).2.2.2.2 = false := by rw [hlf (by omega)]; exact h4
     refine X.skip (X.region ?_)
     refine XL.cons (XOp.addR (a := (k : Int)) (b := 1) (((k + 1 : Nat) : Int)) rfl rfl (by omega) (by omega) ?_)
     refine XL.mv (.int .i64 (((k + 1 : Nat) : Int))) rfl ?_
     refine XL.nil ?_
     exact ⟨(k + 1, F1), _, (FLe.trans leG1 le1), rF, ⟨rfl, rfl, rfl, rfl, rfl, rfl, trivial⟩, (Sub.drop (Sub.drop (Sub.cons (Sub.cons sR)))), ⟨rfl, (FLe.trans leG1 le1), (by (try dsimp only) <;> omega), (fun i hi => (Nat.lt_or_ge i k).elim (fun h => hall i h) (fun h => by obtain rfl : i = k := (by omega); exact hb9))⟩, (by omega)⟩
   ·refine X.exit (thenQ_exit (thenQ_exit (blockQ_exit ?_)))
    refine X.seq (X.region ?_)
    refine XL.cons (XOp.build [(.slice none 0 0), (.slice none 0 0), .int .i64 (0), (.slice none 0 0)] [(.slice none 0 0), (.slice none 0 0), .int .i64 (0), (.slice none 0 0)] [(0, 2), (2, 1), (3, 1)] [] Tryz.runUnderlying62 Tryz.zeroValue62 rfl (.cons rfl Tryz.sizeOf57 (.cons rfl Tryz.sizeOf2 (.cons rfl Tryz.sizeOf60 PlacesAre.nil))) rfl CellsAre.nil ?_)
    refine XL.cons (XOp.storeN (vs := [(.slice none 0 0), (.slice none 0 0), .int .i64 (0), (.slice none 0 0)]) [] _ [(.slice none 0 0), (.slice none 0 0), .int .i64 (0), (.slice none 0 0)] Tryz.sizeOf62 rfl rfl rfl (ones_cons rfl (ones_cons rfl (ones_cons rfl (ones_cons rfl ones_nil)))) rfl rfl rfl ?_)
    refine XL.as (.bool (false)) rfl ?_
    refine XL.nil ?_
    refine X.ret (retEnd (L' := L) [.agg #[(.slice none 0 0), (.slice none 0 0), .int .i64 (0), (.slice none 0 0)], .bool (false)] (.tuple #[.agg #[(.slice none 0 0), (.slice none 0 0), .int .i64 (0), (.slice none 0 0)], .bool (false)]) (.cell rfl (loadNV [(.slice none 0 0), (.slice none 0 0), .int .i64 (0), (.slice none 0 0)] Tryz.isAgg62 Tryz.sizeOf62 rfl (Rd.ownN [] rfl rfl)) (.tmp rfl .nil)) rfl leG1 rF (Sub.drop (Sub.drop sR)) ?_)
    have e : firstF ar rs n = noLoop := firstF_none (fun i hi => hall i (by omega))
    exact ⟨_, _, _, by rw [e], by rw [e]; exact IntsF.nilV, by rw [e]; exact SlOf.nilV, by rw [e]; exact SlOf.nilV, by rw [e]; exact Fresh.empty nilLoop, rfl⟩
end Go.Proofs.YtiaanelimbmniaaGreat
set_option linter.unusedSimpArgs false
set_option linter.unusedVariables false
namespace Go.Proofs.YtiaanelimbmniaaGreat
open Go X M

/- spec.l7Steps -/
theorem l7Steps_spec {F : FH} {L : List HP} {arv : Value} {ar : List Int} (har : IntsF F arv ar) {rsv : Value} {rs : List (List Int × List Int)} (hrs : PairsF F rsv rs) {tv : Value} {t : List Int} (ht : IntsF F tv t) (hsys : sysOk ar rs = true) (ho : termOk ar t = true) :
    Does Tryz.prog 144 [.agg #[arv, rsv], tv] F (L) (fun v F' L' => ∃ (a : Value), (a : Value) = v ∧ (StepsF F' a (stepsL ar rs t)) ∧ L = L') := by
 refine Does.of_X Tryz.func144 rfl rfl rfl ?_
 have hnn := notNil_of_pos ht (by have := termOk_len ho; omega)
 have htl := termOk_len ho
 have hrl := (sysOk_iff.1 hsys).2.1
 have hsig := (sysOk_iff.1 hsys).1
 have hsl := sigOk_spec hsig
 refine X.seq (X.region ?_)
 refine XL.cons (XOp.box [arv, rsv] rfl rfl ?_)
 intro b1
 refine XL.as ((.slice none 0 0)) rfl ?_
 refine XL.nil (X.seq (X.region ?_))
 refine XL.cons (XOp.buildSlice (s := 3) [] [.int .i64 (0), .int .i64 (0), (.slice none 0 0)] [] Tryz.runUnderlying55 Tryz.sizeOf116 Tryz.zeroValue116 rfl (by decide) rfl CellsAre.nil rfl ?_)
 intro v1 hv1
 refine XL.as (v1) rfl ?_
 refine XL.nil (X.seq (X.seq (X.region ?_)))
 refine XL.as (.int .i64 (0)) rfl ?_
 refine XL.nil (X.block ?_)
 refine X.loop (α := Nat × Value × List StepT × List Value × Nat × FH) (fun xQ => [(1, tv), (2, ptr b1 0), (5, xQ.2.1), (6, .int .i64 (((xQ.1 : Nat) : Int)))]) (fun xQ => slH 116 3 xQ.2.1 xQ.2.2.2.2.1 xQ.2.2.2.1 :: cellsH b1 [arv, rsv] 37 :: L) (fun xQ F' => xQ.2.2.2.2.2 = F' ∧ F ≤ xQ.2.2.2.2.2 ∧ (xQ.1 ≤ t.length) ∧ (IsSl xQ.2.1) ∧ (StepsC xQ.2.2.2.2.2 xQ.2.2.2.1 xQ.2.2.1) ∧ (xQ.2.2.2.2.1 = xQ.2.2.1.length) ∧ (xQ.2.2.1 = stepsTo ar rs t xQ.1)) (fun xQ => t.length - xQ.1) (0, v1, [], [], 0, F) ⟨rfl, rfl, rfl, rfl, trivial⟩ (Sub.cons (Sub.cons sR)) ⟨rfl, FLe.refl _, (by (try dsimp only) <;> omega), ((isSl_lit hv1)), (CO.nil), (rfl), (rfl)⟩ ?_
 rintro ⟨k, sv, ss, cs, m, G1⟩ rE _ _ ⟨rfl, leG, hk, hsv, hC, hm, hss⟩
 show X _ _ _ _ (envs [(1, tv), (2, ptr b1 0), (5, sv), (6, .int .i64 ((k : Int)))] rE) _ (slH 116 3 sv m cs :: cellsH b1 [arv, rsv] 37 :: L)
 replace leG : F ≤ G1 := leG
 dsimp only at hk hsv hC hm hss
 have hsl1 := stepsTo_len (ar := ar) (t := t) (rs := rs) hrl k
 have hss0 := hss
 have leG1 := leG
 replace har := har.mono leG1
 replace hrs := hrs.mono leG1
 replace ht := ht.mono leG1
 refine X.seq (X.seq (X.region ?_))
 refine XL.mv (.int .i64 ((k : Int))) rfl ?_
 refine XL.mv (tv) rfl ?_
 refine XL.cons (XOp.lenS (v := tv) (n := (t).length) Tryz.runUnderlying22 rfl ht.slv ?_)
 refine XL.cons (XOp.lss (a := (k : Int)) (b := (t.length : Int)) rfl rfl ?_)
 refine XL.nil ?_
 refine X.condD (p := (k : Int) < (t.length : Int)) rfl (fun h1 => ?_) (fun h1 => ?_)
 ·refine X.skip (X.seq (X.block (X.seq (X.region ?_))))
  refine XL.as (.int .i64 (0)) rfl ?_
  refine XL.nil (X.block ?_)
  refine X.loop (α := Nat × Value × List StepT × List Value × Nat × FH) (fun xQ => [(1, tv), (2, ptr b1 0), (5, xQ.2.1), (6, .int .i64 ((k : Int))), (7, .int .i64 (((xQ.1 : Nat) : Int)))]) (fun xQ => slH 116 3 xQ.2.1 xQ.2.2.2.2.1 xQ.2.2.2.1 :: cellsH b1 [arv, rsv] 37 :: L) (fun xQ F' => xQ.2.2.2.2.2 = F' ∧ G1 ≤ xQ.2.2.2.2.2 ∧ (xQ.1 ≤ rs.length) ∧ (IsSl xQ.2.1) ∧ (StepsC xQ.2.2.2.2.2 xQ.2.2.2.1 xQ.2.2.1) ∧ (xQ.2.2.2.2.1 = xQ.2.2.1.length) ∧ (xQ.2.2.1 = stepsTo ar rs t k ++ stepsRow ar rs t k xQ.1)) (fun xQ => rs.length - xQ.1) (0, sv, ss, cs, m, G1) ⟨rfl, rfl, rfl, rfl, rfl, trivial⟩ (Sub.cons (Sub.cons sR)) ⟨rfl, FLe.refl _, (by (try dsimp only) <;> omega), (hsv), (hC), (hm), (by (try dsimp only); rw [hss0]; simp [stepsRow])⟩ ?_
  rintro ⟨r, sv, ss, cs, m, G2⟩ rE _ _ ⟨rfl, leG, hr, hsvi, hCi, hmi, hssi⟩
  show X _ _ _ _ (envs [(1, tv), (2, ptr b1 0), (5, sv), (6, .int .i64 ((k : Int))), (7, .int .i64 ((r : Int)))] rE) _ (slH 116 3 sv m cs :: cellsH b1 [arv, rsv] 37 :: L)
  replace leG : G1 ≤ G2 := leG
  dsimp only at hr hsvi hCi hmi hssi
  have hsl2 := stepsRow_len (ar := ar) (rs := rs) (t := t) (p := k) r
  have hssl : ss.length ≤ 1000 := by rw [hssi, List.length_append]; omega
  have leG2 := leG
  replace har := har.mono leG2
  replace hrs := hrs.mono leG2
  replace ht := ht.mono leG2
  replace hC := hC.mono leG2
  refine X.seq (X.seq (X.region ?_))
  refine XL.mv (.int .i64 ((r : Int))) rfl ?_
  refine XL.cons (XOp.fieldP (b := b1) (1) Tryz.runUnderlying37 rfl Tryz.sizeOf35 (by decide) rfl rfl ?_)
  refine XL.cons (XOp.load1 (v := rsv) Tryz.isAgg35 rfl (Rd.own [_] rfl rfl) ?_)
  refine XL.cons (XOp.lenS (v := rsv) (n := (rs).length) Tryz.runUnderlying35 rfl hrs.slv ?_)
  refine XL.cons (XOp.lss (a := (r : Int)) (b := (rs.length : Int)) rfl rfl ?_)
  refine XL.nil ?_
  refine X.condD (p := (r : Int) < (rs.length : Int)) rfl (fun h2 => ?_) (fun h2 => ?_)
  ·refine X.skip (X.seq (X.block (X.seq (X.region ?_))))
   refine XL.cons (XOp.loadN [arv, rsv] Tryz.isAgg37 Tryz.sizeOf37 rfl rfl (Rd.ownN [_] rfl rfl) ?_)
   refine XL.mv (tv) rfl ?_
   refine XL.mv (.int .i64 ((k : Int))) rfl ?_
   refine XL.mv (.int .i64 ((r : Int))) rfl ?_
   refine XL.cons (XOp.call (args := [.agg #[arv, rsv], tv, .int .i64 (k : Int), .int .i64 (r : Int)]) Tryz.call101 rfl (l7Step_spec (p := k) (r := r) har hrs ht (hsys := (by first | assumption | rfl | omega | simp)) (ho := (by first | assumption | rfl | omega | simp)) (hp := (by first | assumption | rfl | omega | simp)) (hr := (by first | assumption | rfl | omega | simp))) ?_)
   rintro _ F1 _ le1 ⟨x1, rfl, hr1, rfl⟩
   replace har := har.mono le1
   replace hrs := hrs.mono le1
   replace ht := ht.mono le1
   replace hC := hC.mono le1
   replace hCi := hCi.mono le1
   refine XL.mv (.tuple #[x1, .bool ((stepL ar rs t k r).isSome)]) rfl ?_
   refine XL.cons (XOp.extract (x1) rfl rfl ?_)
   refine XL.cons (XOp.extract (.bool ((stepL ar rs t k r).isSome)) rfl rfl ?_)
   refine XL.as (x1) rfl ?_
   refine XL.as (.bool ((stepL ar rs t k r).isSome)) rfl ?_
   refine XL.nil (X.seq (X.region ?_))
   refine XL.mv (.bool ((stepL ar rs t k r).isSome)) rfl ?_
   refine XL.nil ?_
   refine X.cond (t := (stepL ar rs t k r).isSome) rfl (fun h3 => ?_) (fun h3 => ?_)
   ·have hone : stepOne ar rs t k r = [((k : Int), (r : Int), (stepL ar rs t k r).getD [])] := (one_some h3).1
    refine X.region ?_
    refine XL.mv (sv) rfl ?_
    refine XL.mv (.int .i64 ((k : Int))) rfl ?_
    refine XL.mv (.int .i64 ((r : Int))) rfl ?_
    refine XL.mv (x1) rfl ?_
    refine XL.cons (XOp.build [.int .i64 ((k : Int)), .int .i64 ((r : Int)), x1] [.int .i64 (0), .int .i64 (0), (.slice none 0 0)] [(0, 1), (1, 1), (2, 1)] [(0, [.int .i64 ((k : Int))]), (1, [.int .i64 ((r : Int))]), (2, [x1])] Tryz.runUnderlying116 Tryz.zeroValue116 rfl (.cons rfl Tryz.sizeOf2 (.cons rfl Tryz.sizeOf2 (.cons rfl Tryz.sizeOf22 PlacesAre.nil))) rfl (.cons rfl (.cons rfl (.cons (cells_one (IntsF.isSl hr1)) CellsAre.nil))) ?_)
    refine XL.cons (XOp.buildSlice (s := 3) [.int .i64 ((k : Int)), .int .i64 ((r : Int)), x1] [.int .i64 (0), .int .i64 (0), (.slice none 0 0)] [(0, [.int .i64 ((k : Int)), .int .i64 ((r : Int)), x1])] Tryz.runUnderlying55 Tryz.sizeOf116 Tryz.zeroValue116 rfl (by decide) rfl (.cons rfl CellsAre.nil) rfl ?_)
    intro v2 hv2
    refine XL.cons (XOp.append (m := 1) (bytes := 40) (cs := cs) [_] _ [.int .i64 ((k : Int)), .int .i64 ((r : Int)), x1] Tryz.runUnderlying55 Tryz.typeInfo116 rfl rfl rfl rfl rfl rfl rfl (SlV.own [] rfl) rfl (Rd.lit [] rfl) (ones_cons rfl (ones_cons rfl (ones_cons (one_sl (IntsF.isSl hr1)) ones_nil))) (by (try simp only [List.length_append, List.length_nil, List.length_cons, List.length_singleton]); omega) (by (try simp only [List.length_append, List.length_nil, List.length_cons, List.length_singleton]); omega) ?_)
    intro v3 hs1 hn1 hm1
    have hc1 := StepsC.snoc hCi (i := (k : Int)) (j := (r : Int)) hr1
    refine XL.as (v3) rfl ?_
    refine XL.nil (X.region ?_)
    refine XL.mv (.int .i64 ((r : Int))) rfl ?_
    refine XL.cons (XOp.addR (a := (r : Int)) (b := 1) (((r + 1 : Nat) : Int)) rfl rfl (by omega) (by omega) ?_)
    refine XL.as (.int .i64 (((r + 1 : Nat) : Int))) rfl ?_
    refine XL.nil ?_
    exact ⟨(r + 1, v3, ss ++ [((k : Int), (r : Int), (stepL ar rs t k r).getD [])], cs ++ [.int .i64 ((k : Int)), .int .i64 ((r : Int)), x1], (m) + 1, F1), _, (FLe.trans leG2 le1), rF, ⟨rfl, rfl, rfl, rfl, rfl, trivial⟩, (Sub.drop (Sub.cons (Sub.cons sR))), ⟨rfl, (FLe.trans leG2 le1), (by (try dsimp only) <;> omega), (hs1), (hc1), (by (try dsimp only); (try rw [List.length_append, List.length_singleton]); omega), (by (try dsimp only); rw [hssi, stepsRow_succ, hone]; simp)⟩, (by omega)⟩
   ·have hone : stepOne ar rs t k r = [] := stepOne_no h3
    refine X.skip (X.region ?_)
    refine XL.mv (.int .i64 ((r : Int))) rfl ?_
    refine XL.cons (XOp.addR (a := (r : Int)) (b := 1) (((r + 1 : Nat) : Int)) rfl rfl (by omega) (by omega) ?_)
    refine XL.as (.int .i64 (((r + 1 : Nat) : Int))) rfl ?_
    refine XL.nil ?_
    exact ⟨(r + 1, sv, ss, cs, m, F1), _, (FLe.trans leG2 le1), rF, ⟨rfl, rfl, rfl, rfl, rfl, trivial⟩, (Sub.cons (Sub.cons sR)), ⟨rfl, (FLe.trans leG2 le1), (by (try dsimp only) <;> omega), (hsvi), (hCi), (by (try dsimp only); (try rw [List.length_append, List.length_singleton]); omega), (by (try dsimp only); rw [hssi, stepsRow_succ, hone]; simp)⟩, (by omega)⟩
  ·refine X.exit (thenQ_exit (thenQ_exit (blockQ_exit ?_)))
   refine X.region ?_
   refine XL.mv (.int .i64 ((k : Int))) rfl ?_
   refine XL.cons (XOp.addR (a := (k : Int)) (b := 1) (((k + 1 : Nat) : Int)) rfl rfl (by omega) (by omega) ?_)
   refine XL.as (.int .i64 (((k + 1 : Nat) : Int))) rfl ?_
   refine XL.nil ?_
   exact ⟨(k + 1, sv, ss, cs, m, G2), _, (FLe.trans leG1 leG2), rF, ⟨rfl, rfl, rfl, rfl, trivial⟩, (Sub.cons (Sub.cons sR)), ⟨rfl, (FLe.trans leG1 leG2), (by (try dsimp only) <;> omega), (hsvi), (hCi), (hmi), (by (try dsimp only); rw [hssi, stepsTo_succ, show r = rs.length from by omega])⟩, (by omega)⟩
 ·refine X.exit (thenQ_exit (thenQ_exit (blockQ_exit ?_)))
  refine X.seq (X.region ?_)
  refine XL.mv (sv) rfl ?_
  refine XL.as (sv) rfl ?_
  refine XL.nil ?_
  refine X.freezeF [] _ _ rfl (fun F2 le2 hz1 => ?_)
  replace har := har.mono le2
  replace hrs := hrs.mono le2
  replace ht := ht.mono le2
  replace hC := hC.mono le2
  have hf1 : StepsF F2 sv ss := CO.fz hC (by first | rfl | simp | omega) hz1.fz
  refine X.ret (retEnd (L' := L) [sv] (sv) (.tmp rfl .nil) rfl (FLe.trans leG1 le2) rF (Sub.drop sR) ?_)
  have e1 : stepsL ar rs t = ss := by rw [hss, show k = t.length from by omega]; rfl
  rw [e1]
  exact ⟨_, rfl, hf1, rfl⟩

/- spec.l1TermPlace -/
theorem l1TermPlace_spec {F : FH} {L : List HP} {tsv : Value} {ts : List (List Int)} (hts : RowsF F tsv ts) {xv : Value} {x : List Int} (hx : IntsF F xv x) (hlt : ts.length ≤ 4000000) (htb : ∀ i, i < ts.length → (ts.getD i []).length ≤ 4000000) (hlx : x.length ≤ 4000000) :
    Does Tryz.prog 147 [tsv, xv] F (L) (fun v F' L' => (.int .i64 (badG (fun y => !decide (y = x)) ts) : Value) = v ∧ F = F' ∧ L = L') := by
 refine Does.of_X Tryz.func147 rfl rfl rfl ?_
 refine X.seq (X.region ?_)
 refine XL.as (.int .i64 (0)) rfl ?_
 refine XL.nil (X.seq (X.seq (X.region ?_)))
 refine XL.as (.int .i64 (0)) rfl ?_
 refine XL.nil (X.block ?_)
 refine X.loop (α := Nat) (fun k => [(0, tsv), (1, xv), (5, .int .i64 ((k : Int)))]) (fun k => L) (fun k F' => F = F' ∧ (k ≤ ts.length) ∧ (∀ i, i < k → (fun y => !decide (y = x)) (ts.getD i []) = true)) (fun k => ts.length - k) 0 ⟨rfl, rfl, rfl, trivial⟩ sR ⟨rfl, (by (try dsimp only) <;> omega), (fun i hi => absurd hi (by omega))⟩ ?_
 rintro k rE _ _ ⟨rfl, hk, hall⟩
 show X _ _ _ _ (envs [(0, tsv), (1, xv), (5, .int .i64 ((k : Int)))] rE) _ (L)
 have htbk := htb k
 refine X.seq (X.seq (X.region ?_))
 refine XL.mv (.int .i64 ((k : Int))) rfl ?_
 refine XL.mv (tsv) rfl ?_
 refine XL.cons (XOp.lenS (v := tsv) (n := (ts).length) Tryz.runUnderlying58 rfl hts.slv ?_)
 refine XL.cons (XOp.lss (a := (k : Int)) (b := (ts.length : Int)) rfl rfl ?_)
 refine XL.nil ?_
 refine X.condD (p := (k : Int) < (ts.length : Int)) rfl (fun h1 => ?_) (fun h1 => ?_)
 ·refine X.skip (X.seq (X.block (X.seq (X.region ?_))))
  refine XL.mv (tsv) rfl ?_
  refine XL.mv (.int .i64 ((k : Int))) rfl ?_
  refine XL.cons (XOp.indexS (v := tsv) (i := (k : Int)) (n := (ts).length) k Tryz.runUnderlying58 Tryz.sizeOf22 rfl rfl rfl hts.slv (by omega) (Nat.mul_one _) ?_)
  obtain ⟨a1, ha1, hr1⟩ := hts.rd (i := k) (by omega)
  refine XL.cons (XOp.load1 (v := a1) Tryz.isAgg22 rfl (hr1 _) ?_)
  refine XL.mv (xv) rfl ?_
  refine XL.cons (XOp.call (args := [a1, xv]) Tryz.call96 rfl (SameTerm_spec ha1 hx (hbd := (by first | assumption | rfl | omega | (left; simp; done) | (right; simp; done)))) ?_)
  rintro _ _ _ _ ⟨rfl, rfl, rfl⟩
  refine XL.nil ?_
  refine X.condD (p := ((ts.getD k [])) = x) rfl (fun h2 => ?_) (fun h2 => ?_)
  ·refine X.seq (X.region ?_)
   refine XL.mv (.int .i64 ((k : Int))) rfl ?_
   refine XL.as (.int .i64 ((k : Int))) rfl ?_
   refine XL.nil ?_
   refine X.ret (blockQ_ret (thenQ_ret (thenQ_ret (blockQ_ret (thenQ_ret (retEnd (L' := L) [.int .i64 ((k : Int))] (.int .i64 ((k : Int))) (.tmp rfl .nil) rfl rF rF sR ?_))))))
   exact ⟨(vI (badG_at [] (by omega) (by simp_all) hall)), rfl, rfl⟩
  ·refine X.skip (X.region ?_)
   refine XL.mv (.int .i64 ((k : Int))) rfl ?_
   refine XL.cons (XOp.addR (a := (k : Int)) (b := 1) (((k + 1 : Nat) : Int)) rfl rfl (by omega) (by omega) ?_)
   refine XL.as (.int .i64 (((k + 1 : Nat) : Int))) rfl ?_
   refine XL.nil ?_
   exact ⟨k + 1, _, FLe.refl _, rF, ⟨rfl, rfl, rfl, trivial⟩, sR, ⟨rfl, (by (try dsimp only) <;> omega), (fun i hi => (Nat.lt_or_ge i k).elim (fun h => hall i h) (fun h => by obtain rfl : i = k := (by omega); simp_all))⟩, (by omega)⟩
 ·refine X.exit (thenQ_exit (thenQ_exit (blockQ_exit ?_)))
  refine X.seq (X.region ?_)
  refine XL.as (.int .i64 (-1)) rfl ?_
  refine XL.nil ?_
  refine X.ret (retEnd (L' := L) [.int .i64 (-1)] (.int .i64 (-1)) (.tmp rfl .nil) rfl rF rF sR ?_)
  exact ⟨(vI (badG_none [] (fun i hi => hall i (by omega)))), rfl, rfl⟩

/- spec.l9Right -/
theorem l9Right_spec {F : FH} {L : List HP} {arv : Value} {ar : List Int} (har : IntsF F arv ar) {rsv : Value} {rs : List (List Int × List Int)} (hrs : PairsF F rsv rs) {tv : Value} {t : List Int} (ht : IntsF F tv t) {n : Int} (hla : ar.length ≤ 4000000) (hlr : rs.length ≤ 4000000) (hrb : ∀ i, i < rs.length → (rs.getD i ([], [])).1.length ≤ 4000000 ∧ (rs.getD i ([], [])).2.length ≤ 4000000) (hlt : t.length ≤ 4000000) :
    Does Tryz.prog 140 [.agg #[arv, rsv], tv, .int .i64 (n)] F (L) (fun v F' L' => (.bool (reachOkL ar rs n [t]) : Value) = v ∧ F = F' ∧ L = L') := by
 refine Does.of_X Tryz.func140 rfl rfl rfl ?_
 refine X.seq (X.region ?_)
 refine XL.cons (XOp.box [arv, rsv] rfl rfl ?_)
 intro b1
 refine XL.as (.bool (false)) rfl ?_
 refine XL.nil (X.seq (X.region ?_))
 refine XL.cons (XOp.loadN [arv, rsv] Tryz.isAgg37 Tryz.sizeOf37 rfl rfl (Rd.ownN [] rfl rfl) ?_)
 refine XL.mv (tv) rfl ?_
 refine XL.cons (XOp.call (args := [.agg #[arv, rsv], tv]) Tryz.call143 rfl (l7Right_spec har hrs ht (hla := (by first | assumption | rfl | omega | simp)) (hlr := (by first | assumption | rfl | omega | simp)) (hrb := (by first | assumption | rfl | omega | simp)) (hlt := (by first | assumption | rfl | omega | simp))) ?_)
 rintro _ _ _ _ ⟨rfl, rfl, rfl⟩
 refine XL.mv (.bool (rightB ar rs t)) rfl ?_
 by_cases h1 : (rightB ar rs t) = true
 ·refine XL.yes (t := 10) rfl (vB h1) (XOp.move (.int .i64 (n)) rfl ?_)
  refine XL.yes (t := 10) rfl (vB h1) (XOp.call (args := [.int .i64 (n), .int .i64 (0), .int .i64 (20)]) Tryz.call98 rfl (l1In_spec (n := n) (a := 0) (b := 20)) ?_)
  rintro _ _ _ _ ⟨rfl, rfl, rfl⟩
  refine XL.cons (XOp.pickT (.bool (decide (0 ≤ n ∧ n ≤ 20))) (vB h1) rfl ?_)
  refine XL.as (.bool (decide (0 ≤ n ∧ n ≤ 20))) rfl ?_
  refine XL.nil ?_
  refine X.ret (retEnd (L' := L) [.bool (decide (0 ≤ n ∧ n ≤ 20))] (.bool (decide (0 ≤ n ∧ n ≤ 20))) (.tmp rfl .nil) rfl rF rF (Sub.drop sR) ?_)
  exact ⟨(vB (by rw [reachOk_right]; simp_all)), rfl, rfl⟩
 ·rw [Bool.not_eq_true] at h1
  refine XL.no (t := 10) rfl (vB h1) ?_
  refine XL.no (t := 10) rfl (vB h1) ?_
  refine XL.cons (XOp.pickF (.bool (false)) (vB h1) rfl ?_)
  refine XL.as (.bool (false)) rfl ?_
  refine XL.nil ?_
  refine X.ret (retEnd (L' := L) [.bool (false)] (.bool (false)) (.tmp rfl .nil) rfl rF rF (Sub.drop sR) ?_)
  exact ⟨(vB (by rw [reachOk_right]; simp_all)), rfl, rfl⟩

/- spec.l9Find -/
set_option maxHeartbeats 1000000 in
set_option maxRecDepth 20000 in
theorem l9Find_spec {F : FH} {L : List HP} {arv : Value} {ar : List Int} (har : IntsF F arv ar) {rsv : Value} {rs : List (List Int × List Int)} (hrs : PairsF F rsv rs) {tv : Value} {t : List Int} (ht : IntsF F tv t) {n : Int} (hsys : sysOk ar rs = true) (ho : termOk ar t = true) (hn20 : 0 ≤ n ∧ n ≤ 20) :
    Does Tryz.prog 141 [.agg #[arv, rsv], tv, .int .i64 (n)] F (L) (fun v F' L' => ∃ (x1 : Value), ∃ (x2 : Value), ∃ (x3 : Value), ∃ (x4 : Value), (.agg #[x1, x2, x3, x4, .bool ((reachL ar rs t n).2)] : Value) = v ∧ (RowsF F' x1 (terms (reachL ar rs t n).1)) ∧ (IntsF F' x2 (froms (reachL ar rs t n).1)) ∧ (StepsF F' x3 (bys (reachL ar rs t n).1)) ∧ (IntsF F' x4 (deeps (reachL ar rs t n).1)) ∧ L = L') := by
 refine Does.of_X Tryz.func141 rfl rfl rfl ?_
 have hnn := notNil_of_pos ht (by have := termOk_len ho; omega)
 have htl := termOk_len ho
 have hrl := (sysOk_iff.1 hsys).2.1
 have hsig := (sysOk_iff.1 hsys).1
 have hsl := sigOk_spec hsig
 refine X.seq (X.region ?_)
 refine XL.cons (XOp.box [arv, rsv] rfl rfl ?_)
 intro b1
 refine XL.cons (XOp.alloc [(.slice none 0 0), (.slice none 0 0), (.slice none 0 0), (.slice none 0 0), .bool (false)] Tryz.zeroValue169 rfl ?_)
 intro b2
 refine XL.nil (X.seq (X.region ?_))
 refine XL.mv (tv) rfl ?_
 refine XL.cons (XOp.frzF <| XOp.call (args := [tv]) Tryz.call99 rfl (l1Copy_spec ht (hlt := (by first | assumption | rfl | omega | simp))) ?_)
 rintro v1 _ _ _ ⟨rfl, hs1, rfl⟩
 refine ⟨_, _, rfl, fun F1 le1 hz1 => ?_⟩
 replace har := har.mono le1
 replace hrs := hrs.mono le1
 replace ht := ht.mono le1
 have hf1 : IntsF F1 v1 ((t)) := intsH.fz (xs := (t)) hz1.fz
 refine XL.cons (XOp.buildSlice (s := 1) [v1] [(.slice none 0 0)] [(0, [v1])] Tryz.runUnderlying58 Tryz.sizeOf22 Tryz.zeroValue22 rfl (by decide) rfl (.cons (cells_one (IntsF.isSl hf1)) CellsAre.nil) rfl ?_)
 intro v2 hv1
 refine XL.cons (XOp.buildSlice (s := 1) [.int .i64 (-1)] [.int .i64 (0)] [(0, [.int .i64 (-1)])] Tryz.runUnderlying22 Tryz.sizeOf2 Tryz.zeroValue2 rfl (by decide) rfl (.cons rfl CellsAre.nil) rfl ?_)
 intro v3 hv2
 refine XL.cons (XOp.build [.int .i64 (0), .int .i64 (0), (.slice none 0 0)] [.int .i64 (0), .int .i64 (0), (.slice none 0 0)] [(0, 1), (1, 1), (2, 1)] [] Tryz.runUnderlying116 Tryz.zeroValue116 rfl (.cons rfl Tryz.sizeOf2 (.cons rfl Tryz.sizeOf2 (.cons rfl Tryz.sizeOf22 PlacesAre.nil))) rfl CellsAre.nil ?_)
 refine XL.cons (XOp.buildSlice (s := 3) [.int .i64 (0), .int .i64 (0), (.slice none 0 0)] [.int .i64 (0), .int .i64 (0), (.slice none 0 0)] [(0, [.int .i64 (0), .int .i64 (0), (.slice none 0 0)])] Tryz.runUnderlying55 Tryz.sizeOf116 Tryz.zeroValue116 rfl (by decide) rfl (.cons rfl CellsAre.nil) rfl ?_)
 intro v4 hv3
 refine XL.cons (XOp.buildSlice (s := 1) [.int .i64 (0)] [.int .i64 (0)] [(0, [.int .i64 (0)])] Tryz.runUnderlying22 Tryz.sizeOf2 Tryz.zeroValue2 rfl (by decide) rfl (.cons rfl CellsAre.nil) rfl ?_)
 intro v5 hv4
 refine XL.cons (XOp.build [v2, v3, v4, v5, .bool (true)] [(.slice none 0 0), (.slice none 0 0), (.slice none 0 0), (.slice none 0 0), .bool (false)] [(0, 1), (1, 1), (2, 1), (3, 1), (4, 1)] [(0, [v2]), (1, [v3]), (2, [v4]), (3, [v5]), (4, [.bool (true)])] Tryz.runUnderlying169 Tryz.zeroValue169 rfl (.cons rfl Tryz.sizeOf58 (.cons rfl Tryz.sizeOf22 (.cons rfl Tryz.sizeOf55 (.cons rfl Tryz.sizeOf22 (.cons rfl Tryz.sizeOf4 PlacesAre.nil))))) rfl (.cons (cells_one (isSl_lit hv1)) (.cons (cells_one (isSl_lit hv2)) (.cons (cells_one (isSl_lit hv3)) (.cons (cells_one (isSl_lit hv4)) (.cons rfl CellsAre.nil))))) ?_)
 refine XL.cons (XOp.alloc [(.slice none 0 0), (.slice none 0 0), (.slice none 0 0), (.slice none 0 0), .bool (false)] Tryz.zeroValue169 rfl ?_)
 intro b3
 refine XL.cons (XOp.storeN (vs := [v2, v3, v4, v5, .bool (true)]) [] _ [v2, v3, v4, v5, .bool (true)] Tryz.sizeOf169 rfl rfl rfl (ones_cons (one_sl (isSl_lit hv1)) (ones_cons (one_sl (isSl_lit hv2)) (ones_cons (one_sl (isSl_lit hv3)) (ones_cons (one_sl (isSl_lit hv4)) (ones_cons rfl ones_nil))))) rfl rfl rfl ?_)
 refine XL.nil (X.seq (X.seq (X.region ?_)))
 refine XL.as (.int .i64 (0)) rfl ?_
 refine XL.nil (X.block ?_)
 have hc1 : RowsC F1 [v1] ([(t)] : List (List Int)) := (RowsC.snoc (CO.nil : RowsC F1 [] []) hf1)
 show X _ _ _ _ _ _ (cellsH b3 [v2, v3, v4, v5, .bool (true)] 169 :: slH 2 1 v5 1 [.int .i64 (0)] :: slH 116 3 v4 1 [.int .i64 (0), .int .i64 (0), (.slice none 0 0)] :: intsH 2 v3 ([-1] : List Int) :: slH 22 1 v2 1 ([v1]) :: cellsH b2 [(.slice none 0 0), (.slice none 0 0), (.slice none 0 0), (.slice none 0 0), .bool (false)] 169 :: cellsH b1 [arv, rsv] 37 :: L)
 have hc2 : StepsC F1 [.int .i64 (0), .int .i64 (0), (.slice none 0 0)] ([(0, 0, [])] : List StepT) := (StepsC.snoc (CO.nil : StepsC F1 [] []) (i := 0) (j := 0) IntsF.nilV)
 show X _ _ _ _ _ _ (cellsH b3 [v2, v3, v4, v5, .bool (true)] 169 :: intsH 2 v5 ([0] : List Int) :: slH 116 3 v4 1 ([.int .i64 (0), .int .i64 (0), (.slice none 0 0)]) :: intsH 2 v3 ([-1] : List Int) :: slH 22 1 v2 1 ([v1]) :: cellsH b2 [(.slice none 0 0), (.slice none 0 0), (.slice none 0 0), (.slice none 0 0), .bool (false)] 169 :: cellsH b1 [arv, rsv] 37 :: L)
 refine X.loop (α := Nat × List FoundT × Value × RowL × List Value × Nat × Value × List Int × Value × List StepT × List Value × Nat × Value × List Int × FH) (fun xQ => [(2, .int .i64 (n)), (3, ptr b1 0), (6, ptr b2 0), (7, ptr b3 0), (8, .int .i64 (((xQ.1 : Nat) : Int)))]) (fun xQ => slH 22 1 xQ.2.2.1 xQ.2.2.2.2.2.1 xQ.2.2.2.2.1 :: intsH 2 xQ.2.2.2.2.2.2.1 xQ.2.2.2.2.2.2.2.1 :: slH 116 3 xQ.2.2.2.2.2.2.2.2.1 xQ.2.2.2.2.2.2.2.2.2.2.2.1 xQ.2.2.2.2.2.2.2.2.2.2.1 :: intsH 2 xQ.2.2.2.2.2.2.2.2.2.2.2.2.1 xQ.2.2.2.2.2.2.2.2.2.2.2.2.2.1 :: cellsH b3 [xQ.2.2.1, xQ.2.2.2.2.2.2.1, xQ.2.2.2.2.2.2.2.2.1, xQ.2.2.2.2.2.2.2.2.2.2.2.2.1, .bool (true)] 169 :: cellsH b2 [(.slice none 0 0), (.slice none 0 0), (.slice none 0 0), (.slice none 0 0), .bool (false)] 169 :: cellsH b1 [arv, rsv] 37 :: L) (fun xQ F' => xQ.2.2.2.2.2.2.2.2.2.2.2.2.2.2 = F' ∧ F1 ≤ xQ.2.2.2.2.2.2.2.2.2.2.2.2.2.2 ∧ (IsSl xQ.2.2.1) ∧ (IsSl xQ.2.2.2.2.2.2.1) ∧ (IsSl xQ.2.2.2.2.2.2.2.2.1) ∧ (IsSl xQ.2.2.2.2.2.2.2.2.2.2.2.2.1) ∧ (RowsC xQ.2.2.2.2.2.2.2.2.2.2.2.2.2.2 xQ.2.2.2.2.1 xQ.2.2.2.1) ∧ (StepsC xQ.2.2.2.2.2.2.2.2.2.2.2.2.2.2 xQ.2.2.2.2.2.2.2.2.2.2.1 xQ.2.2.2.2.2.2.2.2.2.1) ∧ (xQ.2.2.2.2.2.1 = xQ.2.2.2.1.length) ∧ (xQ.2.2.2.2.2.2.2.2.2.2.2.1 = xQ.2.2.2.2.2.2.2.2.2.1.length) ∧ (xQ.2.2.2.1 = terms xQ.2.1) ∧ (xQ.2.2.2.2.2.2.2.1 = froms xQ.2.1) ∧ (xQ.2.2.2.2.2.2.2.2.2.1 = bys xQ.2.1) ∧ (xQ.2.2.2.2.2.2.2.2.2.2.2.2.2.1 = deeps xQ.2.1) ∧ (xQ.2.1.length ≤ 60) ∧ (AllOk ar xQ.2.1) ∧ (DeepOk n xQ.2.1) ∧ (xQ.1 ≤ xQ.2.1.length) ∧ (reachL ar rs t n = reachGo ar rs n (60 - xQ.1) xQ.1 xQ.2.1)) (fun xQ => 60 - xQ.1) (0, start0 t, v2, ([(t)] : List (List Int)), [v1], 1, v3, [-1], v4, ([(0, 0, [])] : List StepT), [.int .i64 (0), .int .i64 (0), (.slice none 0 0)], 1, v5, [0], F1) ⟨rfl, rfl, rfl, rfl, rfl, trivial⟩ (Sub.trans (Sub.front (A := [_, _, _, _, _, _])) (Sub.trans (Sub.front (A := [_, _, _, _, _, _])) (Sub.trans (Sub.front (A := [_, _])) (Sub.trans (Sub.front (A := [_, _, _])) (Sub.trans (Sub.front (A := [_, _, _, _])) (Sub.trans (Sub.front (A := [_, _, _, _, _])) (Sub.trans (Sub.front (A := [_, _, _, _, _, _])) (Sub.cons (Sub.cons (Sub.cons (Sub.cons (Sub.cons (Sub.cons (Sub.cons sR)))))))))))))) ⟨rfl, FLe.refl _, ((isSl_lit hv1)), ((isSl_lit hv2)), ((isSl_lit hv3)), ((isSl_lit hv4)), (hc1), (hc2), (rfl), (rfl), (rfl), (rfl), (rfl), (rfl), (by simp [start0]), (AllOk.start ho), (DeepOk.start hn20.1), (by simp), (rfl)⟩ ?_
 rintro ⟨k, os, av, ts, acs, an, bv, fs, cv, bs, ccs, cn, dv, ds, G1⟩ rE _ _ ⟨rfl, leG, hav, hbv, hcv, hdv, hA, hB, han, hcn, hts, hfs, hbs, hds, hl, hok, hdo, hk, hgo⟩
 show X _ _ _ _ (envs [(2, .int .i64 (n)), (3, ptr b1 0), (6, ptr b2 0), (7, ptr b3 0), (8, .int .i64 ((k : Int)))] rE) _ (slH 22 1 av an acs :: intsH 2 bv fs :: slH 116 3 cv cn ccs :: intsH 2 dv ds :: cellsH b3 [av, bv, cv, dv, .bool (true)] 169 :: cellsH b2 [(.slice none 0 0), (.slice none 0 0), (.slice none 0 0), (.slice none 0 0), .bool (false)] 169 :: cellsH b1 [arv, rsv] 37 :: L)
 replace leG : F1 ≤ G1 := leG
 dsimp only at hav hbv hcv hdv hA hB han hcn hts hfs hbs hds hl hok hdo hk hgo
 have htl9 : ts.length = os.length := by rw [hts]; exact terms_len
 have hfl9 : fs.length = os.length := by rw [hfs]; exact froms_len
 have hbl9 : bs.length = os.length := by rw [hbs]; exact bys_len
 have hdl9 : ds.length = os.length := by rw [hds]; exact deeps_len
 have hdk := fun (h : k < os.length) => hok k h
 have hdl := fun (h : k < os.length) => termOk_len (hok k h)
 have hEt : ts.getD k [] = (EL os k).1 := by rw [hts]; exact terms_get k
 have hEd := fun (h : k < os.length) => (show ds.getD k 0 = (EL os k).2.2.2 from by rw [hds]; exact deeps_get h)
 have leG1 := leG
 replace har := har.mono leG1
 replace hrs := hrs.mono leG1
 replace ht := ht.mono leG1
 replace hf1 := hf1.mono leG1
 replace hc1 := hc1.mono leG1
 replace hc2 := hc2.mono leG1
 refine X.seq (X.seq (X.region ?_))
 refine XL.mv (.int .i64 ((k : Int))) rfl ?_
 refine XL.cons (XOp.fieldP (b := b3) (0) Tryz.runUnderlying169 rfl Tryz.sizeOf58 (by decide) rfl rfl ?_)
 refine XL.cons (XOp.load1 (v := av) Tryz.isAgg58 rfl (Rd.own [_, _, _, _] rfl rfl) ?_)
 refine XL.cons (XOp.lenS (v := av) (n := an) Tryz.runUnderlying58 rfl (SlV.own [] rfl) ?_)
 refine XL.cons (XOp.lss (a := (k : Int)) (b := ((an : Nat) : Int)) rfl rfl ?_)
 refine XL.nil ?_
 refine X.condD (p := (k : Int) < ((an : Nat) : Int)) rfl (fun h1 => ?_) (fun h1 => ?_)
 ·refine X.skip (X.seq (X.block (X.seq (X.seq (X.region ?_)))))
  refine XL.cons (XOp.fieldP (b := b3) (3) Tryz.runUnderlying169 rfl Tryz.sizeOf22 (by decide) rfl rfl ?_)
  refine XL.cons (XOp.load1 (v := dv) Tryz.isAgg22 rfl (Rd.own [_, _, _, _] rfl rfl) ?_)
  refine XL.mv (.int .i64 ((k : Int))) rfl ?_
  refine XL.cons (XOp.indexS (v := dv) (i := (k : Int)) (n := (ds).length) k Tryz.runUnderlying22 Tryz.sizeOf2 rfl rfl rfl (intsH.slv [_, _, _] rfl) (by omega) (Nat.mul_one _) ?_)
  refine XL.cons (XOp.load1 (v := .int .i64 (ds.getD k 0)) Tryz.isAgg2 rfl (intsH.rd [_, _, _] rfl (by omega)) ?_)
  refine XL.mv (.int .i64 (n)) rfl ?_
  refine XL.cons (XOp.eql (a := ds.getD k 0) (b := n) rfl rfl ?_)
  refine XL.nil ?_
  refine X.condD (p := (ds.getD k 0 : Int) = n) rfl (fun h2 => ?_) (fun h2 => ?_)
  ·have hdeep : (EL os k).2.2.2 = n := by rw [← hEd (by omega)]; exact h2
   refine X.exit (thenQ_exit (blockQ_exit ?_))
   refine X.region ?_
   refine XL.mv (.int .i64 ((k : Int))) rfl ?_
   refine XL.cons (XOp.addR (a := (k : Int)) (b := 1) (((k + 1 : Nat) : Int)) rfl rfl (by omega) (by omega) ?_)
   refine XL.as (.int .i64 (((k + 1 : Nat) : Int))) rfl ?_
   refine XL.nil ?_
   exact ⟨(k + 1, os, av, ts, acs, an, bv, fs, cv, bs, ccs, cn, dv, ds, G1), _, leG1, rF, ⟨rfl, rfl, rfl, rfl, rfl, trivial⟩, (Sub.cons (Sub.cons (Sub.cons (Sub.cons (Sub.cons (Sub.cons (Sub.cons sR))))))), ⟨rfl, leG1, (hav), (hbv), (hcv), (hdv), (hA), (hB), (han), (hcn), (hts), (hfs), (hbs), (hds), (hl), (hok), (hdo), (by (try dsimp only) <;> omega), (by (try dsimp only); exact hgo.trans (reach_same (f := 60 - k - 1) (by omega) (by omega) hdeep))⟩, (by (try dsimp only); omega)⟩
  ·have hdeep : (EL os k).2.2.2 ≠ n := by rw [← hEd (by omega)]; exact h2
   refine X.skip (X.seq ?_)
   obtain ⟨a1, ha1, he1⟩ := hA.get (i := k) (by omega)
   refine X.draw [slH 22 1 av an acs, intsH 2 bv fs, slH 116 3 cv cn ccs, intsH 2 dv ds, cellsH b3 [av, bv, cv, dv, .bool (true)] 169, cellsH b2 [(.slice none 0 0), (.slice none 0 0), (.slice none 0 0), (.slice none 0 0), .bool (false)] 169, cellsH b1 [arv, rsv] 37] L 6 [[], [], [], [], [], []] [[], [], [1], [], [2, 3], [4]] (phiL [fun us v => v = (.agg #[arv, rsv] : Value), fun us v => v = ptr b3 0, fun us v => v = av, fun us v => v = (.int .i64 ((k : Int)) : Value), fun us v => v = (.pointer (some (elemA av (k))) : Value), fun us v => v = a1]) (ownL [fun us v => [], fun us v => [], fun us v => [], fun us v => [], fun us v => [], fun us v => []]) mixed rfl rfl (by kernel_rfl) ?_ ?_
   ·refine stepsP.cons (fun vals R hpZ => ?_) ?_
    ·refine XG.op (XOp.loadN [arv, rsv] Tryz.isAgg37 Tryz.sizeOf37 rfl rfl (Rd.ownN [_, _, _, _, _, _] rfl rfl) ?_)
     exact ⟨rfl, rfl, rfl⟩
    refine stepsP.cons (fun vals R hpZ => ?_) ?_
    ·refine XG.op (XOp.fieldP (b := b3) (0) Tryz.runUnderlying169 rfl Tryz.sizeOf58 (by decide) rfl rfl ?_)
     exact ⟨rfl, rfl, rfl⟩
    refine stepsP.cons (fun vals R hpZ => ?_) ?_
    ·rw [eS (l := [(1, ptr b3 0)]) ⟨hpZ 1 (by decide), trivial⟩]
     refine XG.op (XOp.load1 (v := av) Tryz.isAgg58 rfl (Rd.own [_, _, _, _] rfl rfl) ?_)
     exact ⟨rfl, rfl, rfl⟩
    refine stepsP.cons (fun vals R hpZ => ?_) ?_
    ·refine XG.op (XOp.move (.int .i64 ((k : Int))) rfl ?_)
     exact ⟨rfl, rfl, rfl⟩
    refine stepsP.cons (fun vals R hpZ => ?_) ?_
    ·rw [eS (l := [(2, av), (3, (.int .i64 ((k : Int)) : Value))]) ⟨hpZ 2 (by decide), hpZ 3 (by decide), trivial⟩]
     refine XG.op (XOp.indexS (v := av) (i := (k : Int)) (n := an) k Tryz.runUnderlying58 Tryz.sizeOf22 rfl rfl rfl (SlV.own [] rfl) (by omega) (Nat.mul_one _) ?_)
     exact ⟨rfl, rfl, rfl⟩
    refine stepsP.cons (fun vals R hpZ => ?_) ?_
    ·rw [eS (l := [(4, (.pointer (some (elemA av (k))) : Value))]) ⟨hpZ 4 (by decide), trivial⟩]
     refine XG.op (XOp.load1 (v := a1) Tryz.isAgg22 rfl (Rd.sl [] rfl he1) ?_)
     exact ⟨rfl, rfl, rfl⟩
    exact stepsP.nil
   ·intro vals hphi
    rw [eS (l := [(0, (.agg #[arv, rsv] : Value)), (1, ptr b3 0), (2, av), (3, (.int .i64 ((k : Int)) : Value)), (4, (.pointer (some (elemA av (k))) : Value)), (5, a1)]) ⟨(hphi 0 (by decide)), (hphi 1 (by decide)), (hphi 2 (by decide)), (hphi 3 (by decide)), (hphi 4 (by decide)), (hphi 5 (by decide)), trivial⟩]
    show XL _ _ _ _ _ _ _ (slH 22 1 av an acs :: intsH 2 bv fs :: slH 116 3 cv cn ccs :: intsH 2 dv ds :: cellsH b3 [av, bv, cv, dv, .bool (true)] 169 :: cellsH b2 [(.slice none 0 0), (.slice none 0 0), (.slice none 0 0), (.slice none 0 0), .bool (false)] 169 :: cellsH b1 [arv, rsv] 37 :: L)
    refine XL.cons (XOp.call (args := [.agg #[arv, rsv], a1]) Tryz.call144 rfl (l7Steps_spec har hrs ha1 (hsys := (hsys)) (ho := (by rw [hEt]; exact hdk (by omega)))) ?_)
    rintro _ F2 _ le2 ⟨x1, rfl, hr1, rfl⟩
    replace har := har.mono le2
    replace hrs := hrs.mono le2
    replace ht := ht.mono le2
    replace hf1 := hf1.mono le2
    replace hc1 := hc1.mono le2
    replace hc2 := hc2.mono le2
    replace hA := hA.mono le2
    replace hB := hB.mono le2
    replace ha1 := ha1.mono le2
    refine XL.as (x1) rfl ?_
    refine XL.nil (X.seq (X.region ?_))
    have hk7 : k < os.length := by omega
    obtain ⟨nx, hnx⟩ : ∃ nx, stepsL ar rs (ts.getD k []) = nx := ⟨_, rfl⟩
    rw [hnx] at hr1
    obtain ⟨os0, hos0⟩ : ∃ o, o = os := ⟨_, rfl⟩
    have hdeep0 := hdeep
    have hgo0 := hgo
    rw [← hos0] at hdeep0 hgo0
    have hnx0 : stepsL ar rs (EL os0 k).1 = nx := by rw [hos0, ← hEt]; exact hnx
    have hdk0 := hdk hk7
    have hdo0 := hdo k hk7
    have hl0 : os0.length ≤ 60 := by rw [hos0]; exact hl
    rw [← hos0] at hdk0 hdo0
    have hk70 := hk7
    rw [← hos0] at hk70
    have hnxo : ∀ i, i < nx.length → termOk ar (nx.getD i (0, 0, [])).2.2 = true := fun i hi => by rw [← hnx0] at hi ⊢; exact steps_ok hsys hdk0 hi
    have hnxl : nx.length ≤ 1000 := by have h9 := stepsTo_len (ar := ar) (t := (EL os0 k).1) (rs := rs) hrl (EL os0 k).1.length; have h8 := termOk_len hdk0; rw [← hnx0]; show (stepsTo ar rs (EL os0 k).1 (EL os0 k).1.length).length ≤ 1000; omega
    skip
    refine XL.as (.int .i64 (0)) rfl ?_
    refine XL.nil (X.block ?_)
    refine X.loop (α := Nat × List FoundT × Value × RowL × List Value × Nat × Value × List Int × Value × List StepT × List Value × Nat × Value × List Int × FH) (fun xQ => [(2, .int .i64 (n)), (3, ptr b1 0), (6, ptr b2 0), (7, ptr b3 0), (8, .int .i64 ((k : Int))), (9, x1), (10, .int .i64 (((xQ.1 : Nat) : Int)))]) (fun xQ => slH 22 1 xQ.2.2.1 xQ.2.2.2.2.2.1 xQ.2.2.2.2.1 :: intsH 2 xQ.2.2.2.2.2.2.1 xQ.2.2.2.2.2.2.2.1 :: slH 116 3 xQ.2.2.2.2.2.2.2.2.1 xQ.2.2.2.2.2.2.2.2.2.2.2.1 xQ.2.2.2.2.2.2.2.2.2.2.1 :: intsH 2 xQ.2.2.2.2.2.2.2.2.2.2.2.2.1 xQ.2.2.2.2.2.2.2.2.2.2.2.2.2.1 :: cellsH b3 [xQ.2.2.1, xQ.2.2.2.2.2.2.1, xQ.2.2.2.2.2.2.2.2.1, xQ.2.2.2.2.2.2.2.2.2.2.2.2.1, .bool (true)] 169 :: cellsH b2 [(.slice none 0 0), (.slice none 0 0), (.slice none 0 0), (.slice none 0 0), .bool (false)] 169 :: cellsH b1 [arv, rsv] 37 :: L) (fun xQ F' => xQ.2.2.2.2.2.2.2.2.2.2.2.2.2.2 = F' ∧ F2 ≤ xQ.2.2.2.2.2.2.2.2.2.2.2.2.2.2 ∧ (IsSl xQ.2.2.1) ∧ (IsSl xQ.2.2.2.2.2.2.1) ∧ (IsSl xQ.2.2.2.2.2.2.2.2.1) ∧ (IsSl xQ.2.2.2.2.2.2.2.2.2.2.2.2.1) ∧ (RowsC xQ.2.2.2.2.2.2.2.2.2.2.2.2.2.2 xQ.2.2.2.2.1 xQ.2.2.2.1) ∧ (StepsC xQ.2.2.2.2.2.2.2.2.2.2.2.2.2.2 xQ.2.2.2.2.2.2.2.2.2.2.1 xQ.2.2.2.2.2.2.2.2.2.1) ∧ (xQ.2.2.2.2.2.1 = xQ.2.2.2.1.length) ∧ (xQ.2.2.2.2.2.2.2.2.2.2.2.1 = xQ.2.2.2.2.2.2.2.2.2.1.length) ∧ (xQ.2.2.2.1 = terms xQ.2.1) ∧ (xQ.2.2.2.2.2.2.2.1 = froms xQ.2.1) ∧ (xQ.2.2.2.2.2.2.2.2.2.1 = bys xQ.2.1) ∧ (xQ.2.2.2.2.2.2.2.2.2.2.2.2.2.1 = deeps xQ.2.1) ∧ (xQ.2.1.length ≤ 60) ∧ (AllOk ar xQ.2.1) ∧ (DeepOk n xQ.2.1) ∧ (xQ.1 ≤ nx.length) ∧ (k < xQ.2.1.length) ∧ (EL xQ.2.1 k = EL os0 k) ∧ (addGo (k : Int) (EL os0 k).2.2.2 nx os0 = addGo (k : Int) (EL os0 k).2.2.2 (nx.drop xQ.1) xQ.2.1)) (fun xQ => nx.length - xQ.1) (0, os, av, ts, acs, an, bv, fs, cv, bs, ccs, cn, dv, ds, F2) ⟨rfl, rfl, rfl, rfl, rfl, rfl, rfl, trivial⟩ (Sub.cons (Sub.cons (Sub.cons (Sub.cons (Sub.cons (Sub.cons (Sub.cons sR))))))) ⟨rfl, FLe.refl _, (hav), (hbv), (hcv), (hdv), (hA), (hB), (han), (hcn), (hts), (hfs), (hbs), (hds), (hl), (hok), (hdo), (by (try dsimp only) <;> omega), (by (try dsimp only); omega), (by (try dsimp only); rw [hos0]), (by (try dsimp only); rw [hos0]; rfl)⟩ ?_
    rintro ⟨q, os, av, ts, acs, an, bv, fs, cv, bs, ccs, cn, dv, ds, G2⟩ rE _ _ ⟨rfl, leG, havi, hbvi, hcvi, hdvi, hAi, hBi, hani, hcni, htsi, hfsi, hbsi, hdsi, hli, hoki, hdoi, hq, hkp, hel, hgoi⟩
    show X _ _ _ _ (envs [(2, .int .i64 (n)), (3, ptr b1 0), (6, ptr b2 0), (7, ptr b3 0), (8, .int .i64 ((k : Int))), (9, x1), (10, .int .i64 ((q : Int)))] rE) _ (slH 22 1 av an acs :: intsH 2 bv fs :: slH 116 3 cv cn ccs :: intsH 2 dv ds :: cellsH b3 [av, bv, cv, dv, .bool (true)] 169 :: cellsH b2 [(.slice none 0 0), (.slice none 0 0), (.slice none 0 0), (.slice none 0 0), .bool (false)] 169 :: cellsH b1 [arv, rsv] 37 :: L)
    replace leG : F2 ≤ G2 := leG
    dsimp only at havi hbvi hcvi hdvi hAi hBi hani hcni htsi hfsi hbsi hdsi hli hoki hdoi hq hkp hel hgoi
    have htl9i : ts.length = os.length := by rw [htsi]; exact terms_len
    have hfl9i : fs.length = os.length := by rw [hfsi]; exact froms_len
    have hbl9i : bs.length = os.length := by rw [hbsi]; exact bys_len
    have hdl9i : ds.length = os.length := by rw [hdsi]; exact deeps_len
    have hsok := fun (h : q < nx.length) => termOk_len (hnxo q h)
    have hdk9 : ds.getD k 0 = (EL os0 k).2.2.2 := by rw [hdsi, deeps_get hkp, hel]
    have leG2 := leG
    replace har := har.mono leG2
    replace hrs := hrs.mono leG2
    replace ht := ht.mono leG2
    replace hf1 := hf1.mono leG2
    replace hc1 := hc1.mono leG2
    replace hc2 := hc2.mono leG2
    replace hA := hA.mono leG2
    replace hB := hB.mono leG2
    replace ha1 := ha1.mono leG2
    replace hr1 := hr1.mono leG2
    refine X.seq (X.seq (X.region ?_))
    refine XL.mv (.int .i64 ((q : Int))) rfl ?_
    refine XL.mv (x1) rfl ?_
    refine XL.cons (XOp.lenS (v := x1) (n := (nx).length) Tryz.runUnderlying55 rfl hr1.slv ?_)
    refine XL.cons (XOp.lss (a := (q : Int)) (b := (nx.length : Int)) rfl rfl ?_)
    refine XL.nil ?_
    refine X.condD (p := (q : Int) < (nx.length : Int)) rfl (fun h3 => ?_) (fun h3 => ?_)
    ·refine X.skip (X.seq (X.block (X.seq (X.seq ?_))))
     obtain ⟨a2, ha2, hr2, hr3, hr4⟩ := hr1.rd (i := q) (by omega)
     refine X.draw [slH 22 1 av an acs, intsH 2 bv fs, slH 116 3 cv cn ccs, intsH 2 dv ds, cellsH b3 [av, bv, cv, dv, .bool (true)] 169, cellsH b2 [(.slice none 0 0), (.slice none 0 0), (.slice none 0 0), (.slice none 0 0), .bool (false)] 169, cellsH b1 [arv, rsv] 37] L 7 [[], [], [], [], [], [], []] [[], [0], [], [], [2, 3], [4], [5]] (phiL [fun us v => v = ptr b3 0, fun us v => v = av, fun us v => v = x1, fun us v => v = (.int .i64 ((q : Int)) : Value), fun us v => v = (.pointer (some (elemA x1 (q * 3))) : Value), fun us v => v = (.pointer (some (elemA x1 (q * 3 + 2))) : Value), fun us v => v = a2]) (ownL [fun us v => [], fun us v => [], fun us v => [], fun us v => [], fun us v => [], fun us v => [], fun us v => []]) mixed rfl rfl (by kernel_rfl) ?_ ?_
     ·refine stepsP.cons (fun vals R hpZ => ?_) ?_
      ·refine XG.op (XOp.fieldP (b := b3) (0) Tryz.runUnderlying169 rfl Tryz.sizeOf58 (by decide) rfl rfl ?_)
       exact ⟨rfl, rfl, rfl⟩
      refine stepsP.cons (fun vals R hpZ => ?_) ?_
      ·rw [eS (l := [(0, ptr b3 0)]) ⟨hpZ 0 (by decide), trivial⟩]
       refine XG.op (XOp.load1 (v := av) Tryz.isAgg58 rfl (Rd.own [_, _, _, _] rfl rfl) ?_)
       exact ⟨rfl, rfl, rfl⟩
      refine stepsP.cons (fun vals R hpZ => ?_) ?_
      ·refine XG.op (XOp.move (x1) rfl ?_)
       exact ⟨rfl, rfl, rfl⟩
      refine stepsP.cons (fun vals R hpZ => ?_) ?_
      ·refine XG.op (XOp.move (.int .i64 ((q : Int))) rfl ?_)
       exact ⟨rfl, rfl, rfl⟩
      refine stepsP.cons (fun vals R hpZ => ?_) ?_
      ·rw [eS (l := [(2, x1), (3, (.int .i64 ((q : Int)) : Value))]) ⟨hpZ 2 (by decide), hpZ 3 (by decide), trivial⟩]
       refine XG.op (XOp.indexS (v := x1) (i := (q : Int)) (n := (nx).length) q Tryz.runUnderlying55 Tryz.sizeOf116 rfl rfl rfl hr1.slv (by omega) rfl ?_)
       exact ⟨rfl, rfl, rfl⟩
      refine stepsP.cons (fun vals R hpZ => ?_) ?_
      ·rw [eS (l := [(4, (.pointer (some (elemA x1 (q * 3))) : Value))]) ⟨hpZ 4 (by decide), trivial⟩]
       refine XG.op (XOp.fieldE (v := x1) (q * 3 + 2) Tryz.runUnderlying116 rfl Tryz.sizeOf22 (by decide) rfl rfl ?_)
       exact ⟨rfl, rfl, rfl⟩
      refine stepsP.cons (fun vals R hpZ => ?_) ?_
      ·rw [eS (l := [(5, (.pointer (some (elemA x1 (q * 3 + 2))) : Value))]) ⟨hpZ 5 (by decide), trivial⟩]
       refine XG.op (XOp.load1 (v := a2) Tryz.isAgg22 rfl (hr4 _) ?_)
       exact ⟨rfl, rfl, rfl⟩
      exact stepsP.nil
     ·intro vals hphi
      rw [eS (l := [(0, ptr b3 0), (1, av), (2, x1), (3, (.int .i64 ((q : Int)) : Value)), (4, (.pointer (some (elemA x1 (q * 3))) : Value)), (5, (.pointer (some (elemA x1 (q * 3 + 2))) : Value)), (6, a2)]) ⟨(hphi 0 (by decide)), (hphi 1 (by decide)), (hphi 2 (by decide)), (hphi 3 (by decide)), (hphi 4 (by decide)), (hphi 5 (by decide)), (hphi 6 (by decide)), trivial⟩]
      show XL _ _ _ _ _ _ _ (slH 22 1 av an acs :: intsH 2 bv fs :: slH 116 3 cv cn ccs :: intsH 2 dv ds :: cellsH b3 [av, bv, cv, dv, .bool (true)] 169 :: cellsH b2 [(.slice none 0 0), (.slice none 0 0), (.slice none 0 0), (.slice none 0 0), .bool (false)] 169 :: cellsH b1 [arv, rsv] 37 :: L)
      refine XL.cons (XOp.lend [] _ _ rfl (fun F3 le3 hz2 => ?_))
      have hf2 : RowsF _ av ts := (CO.fz (RowsC.mono hAi (FLe.trans le3 rF)) (by first | rfl | assumption | omega | (rw [List.length_append]; simp only [List.length_singleton]; omega)) hz2 : RowsF _ av ts)
      refine id (XOp.call (args := [av, a2]) Tryz.call147 rfl (l1TermPlace_spec hf2 ((ha2.mono le3)) (hlt := (by omega)) (htb := (fun i hi => by rw [htsi, terms_get]; have := termOk_len (hoki i (by omega)); omega)) (hlx := (by have := hsok (by omega); omega))) ?_)
      rintro _ _ _ _ ⟨rfl, rfl, rfl⟩
      show XL _ _ _ _ _ _ _ (slH 22 1 av an acs :: intsH 2 bv fs :: slH 116 3 cv cn ccs :: intsH 2 dv ds :: cellsH b3 [av, bv, cv, dv, .bool (true)] 169 :: cellsH b2 [(.slice none 0 0), (.slice none 0 0), (.slice none 0 0), (.slice none 0 0), .bool (false)] 169 :: cellsH b1 [arv, rsv] 37 :: L)
      refine XL.cons (XOp.geq (a := badG (fun y => !decide (y = ((nx.getD q (0, 0, [])).2.2))) ts) (b := 0) rfl rfl ?_)
      refine XL.nil ?_
      refine X.condD (p := (badG (fun y => !decide (y = ((nx.getD q (0, 0, [])).2.2))) ts : Int) ≥ 0) rfl (fun h4 => ?_) (fun h4 => ?_)
      ·have hbg : badG (fun y => !decide (y = (nx.getD q (0, 0, [])).2.2)) ts = foundI os (nx.getD q (0, 0, [])).2.2 := by rw [htsi]; exact foundI_terms
       have hin : isIn os (nx.getD q (0, 0, [])).2.2 = true := foundI_iff.1 (by rw [← hbg]; exact h4)
       refine X.exit (thenQ_exit (blockQ_exit ?_))
       refine X.region ?_
       refine XL.mv (.int .i64 ((q : Int))) rfl ?_
       refine XL.cons (XOp.addR (a := (q : Int)) (b := 1) (((q + 1 : Nat) : Int)) rfl rfl (by omega) (by omega) ?_)
       refine XL.as (.int .i64 (((q + 1 : Nat) : Int))) rfl ?_
       refine XL.nil ?_
       exact ⟨(q + 1, os, av, ts, acs, an, bv, fs, cv, bs, ccs, cn, dv, ds, G2), _, leG2, rF, ⟨rfl, rfl, rfl, rfl, rfl, rfl, rfl, trivial⟩, (Sub.cons (Sub.cons (Sub.cons (Sub.cons (Sub.cons (Sub.cons (Sub.cons sR))))))), ⟨rfl, leG2, (havi), (hbvi), (hcvi), (hdvi), (hAi), (hBi), (hani), (hcni), (htsi), (hfsi), (hbsi), (hdsi), (hli), (hoki), (hdoi), (by (try dsimp only) <;> omega), (hkp), (hel), (by (try dsimp only); exact hgoi.trans (add_in (by omega) hin))⟩, (by omega)⟩
      ·have hbg : badG (fun y => !decide (y = (nx.getD q (0, 0, [])).2.2)) ts = foundI os (nx.getD q (0, 0, [])).2.2 := by rw [htsi]; exact foundI_terms
       have hnin : isIn os (nx.getD q (0, 0, [])).2.2 = false := by rw [Bool.eq_false_iff]; intro h9; exact absurd (foundI_iff.2 h9) (by rw [← hbg]; exact h4)
       refine X.skip (X.seq (X.seq (X.region ?_)))
       refine XL.cons (XOp.fieldP (b := b3) (0) Tryz.runUnderlying169 rfl Tryz.sizeOf58 (by decide) rfl rfl ?_)
       refine XL.cons (XOp.load1 (v := av) Tryz.isAgg58 rfl (Rd.own [_, _, _, _] rfl rfl) ?_)
       refine XL.cons (XOp.lenS (v := av) (n := an) Tryz.runUnderlying58 rfl (SlV.own [] rfl) ?_)
       refine XL.cons (XOp.eql (a := ((an : Nat) : Int)) (b := 60) rfl rfl ?_)
       refine XL.nil ?_
       refine X.condD (p := (((an : Nat) : Int) : Int) = 60) rfl (fun h5 => ?_) (fun h5 => ?_)
       ·refine X.seq (X.region ?_)
        refine XL.cons (XOp.fieldP (b := b3) (4) Tryz.runUnderlying169 rfl Tryz.sizeOf4 (by decide) rfl rfl ?_)
        refine XL.cons (XOp.store1 (v := .bool (false)) [_, _, _, _] _ [av, bv, cv, dv, .bool (false)] Tryz.sizeOf4 rfl rfl rfl rfl rfl rfl ?_)
        refine XL.nil (X.seq (X.region ?_))
        refine XL.cons (XOp.loadN [av, bv, cv, dv, .bool (false)] Tryz.isAgg169 Tryz.sizeOf169 rfl rfl (Rd.ownN [_, _, _, _] rfl rfl) ?_)
        refine XL.cons (XOp.storeN (vs := [av, bv, cv, dv, .bool (false)]) [_, _, _, _, _] _ [av, bv, cv, dv, .bool (false)] Tryz.sizeOf169 rfl rfl rfl (ones_cons (one_sl havi) (ones_cons (one_sl hbvi) (ones_cons (one_sl hcvi) (ones_cons (one_sl hdvi) (ones_cons rfl ones_nil))))) rfl rfl rfl ?_)
        refine XL.nil ?_
        refine X.freezeF [] _ _ rfl (fun F4 le4 hz3 => ?_)
        replace har := har.mono le4
        replace hrs := hrs.mono le4
        replace ht := ht.mono le4
        replace hf1 := hf1.mono le4
        replace hc1 := hc1.mono le4
        replace hc2 := hc2.mono le4
        replace hA := hA.mono le4
        replace hB := hB.mono le4
        replace ha1 := ha1.mono le4
        replace hr1 := hr1.mono le4
        replace hAi := hAi.mono le4
        replace hBi := hBi.mono le4
        replace ha2 := ha2.mono le4
        replace hr2 := Rd.monoA hr2 le4
        replace hr3 := Rd.monoA hr3 le4
        replace hr4 := Rd.monoA hr4 le4
        have hf3 : RowsF F4 av ts := CO.fz hAi (by first | rfl | simp | omega) hz3.fz
        refine X.freezeF [] _ _ rfl (fun F5 le5 hz4 => ?_)
        replace har := har.mono le5
        replace hrs := hrs.mono le5
        replace ht := ht.mono le5
        replace hf1 := hf1.mono le5
        replace hc1 := hc1.mono le5
        replace hc2 := hc2.mono le5
        replace hA := hA.mono le5
        replace hB := hB.mono le5
        replace ha1 := ha1.mono le5
        replace hr1 := hr1.mono le5
        replace hAi := hAi.mono le5
        replace hBi := hBi.mono le5
        replace ha2 := ha2.mono le5
        replace hf3 := hf3.mono le5
        replace hr2 := Rd.monoA hr2 le5
        replace hr3 := Rd.monoA hr3 le5
        replace hr4 := Rd.monoA hr4 le5
        have hf4 : IntsF F5 bv fs := intsH.fz (xs := fs) hz4.fz
        refine X.freezeF [] _ _ rfl (fun F6 le6 hz5 => ?_)
        replace har := har.mono le6
        replace hrs := hrs.mono le6
        replace ht := ht.mono le6
        replace hf1 := hf1.mono le6
        replace hc1 := hc1.mono le6
        replace hc2 := hc2.mono le6
        replace hA := hA.mono le6
        replace hB := hB.mono le6
        replace ha1 := ha1.mono le6
        replace hr1 := hr1.mono le6
        replace hAi := hAi.mono le6
        replace hBi := hBi.mono le6
        replace ha2 := ha2.mono le6
        replace hf3 := hf3.mono le6
        replace hf4 := hf4.mono le6
        replace hr2 := Rd.monoA hr2 le6
        replace hr3 := Rd.monoA hr3 le6
        replace hr4 := Rd.monoA hr4 le6
        have hf5 : StepsF F6 cv bs := CO.fz hBi (by first | rfl | simp | omega) hz5.fz
        refine X.freezeF [] _ _ rfl (fun F7 le7 hz6 => ?_)
        replace har := har.mono le7
        replace hrs := hrs.mono le7
        replace ht := ht.mono le7
        replace hf1 := hf1.mono le7
        replace hc1 := hc1.mono le7
        replace hc2 := hc2.mono le7
        replace hA := hA.mono le7
        replace hB := hB.mono le7
        replace ha1 := ha1.mono le7
        replace hr1 := hr1.mono le7
        replace hAi := hAi.mono le7
        replace hBi := hBi.mono le7
        replace ha2 := ha2.mono le7
        replace hf3 := hf3.mono le7
        replace hf4 := hf4.mono le7
        replace hf5 := hf5.mono le7
        replace hr2 := Rd.monoA hr2 le7
        replace hr3 := Rd.monoA hr3 le7
        replace hr4 := Rd.monoA hr4 le7
        have hf6 : IntsF F7 dv ds := intsH.fz (xs := ds) hz6.fz
        refine X.ret (thenQ_ret (blockQ_ret (thenQ_ret (thenQ_ret (blockQ_ret (blockQ_ret (thenQ_ret (thenQ_ret (blockQ_ret (thenQ_ret (retEnd (L' := L) [.agg #[av, bv, cv, dv, .bool (false)]] (.agg #[av, bv, cv, dv, .bool (false)]) (.cell rfl (loadNV [av, bv, cv, dv, .bool (false)] Tryz.isAgg169 Tryz.sizeOf169 rfl (Rd.ownN [_] rfl rfl)) .nil) rfl (FLe.trans (FLe.trans (FLe.trans (FLe.trans (FLe.trans (FLe.trans (FLe.trans le1 leG1) le2) leG2) le4) le5) le6) le7) rF (Sub.drop (Sub.drop (Sub.drop sR))) ?_)))))))))))
        have h9 := hgoi.trans (add_full (by omega) hnin (by omega))
        have h8 := reach_stop (ar := ar) (rs := rs) (n := n) (f := 60 - k - 1) hk70 (by omega) hdeep0 (by rw [hnx0, h9])
        rw [hnx0, h9] at h8
        have e9 : reachL ar rs t n = (os, false) := hgo0.trans h8
        rw [e9]
        exact ⟨_, _, _, _, rfl, by rw [← htsi]; exact hf3, by rw [← hfsi]; exact hf4, by rw [← hbsi]; exact hf5, by rw [← hdsi]; exact hf6, rfl⟩
       ·refine X.skip (X.seq ?_)
        refine X.draw [slH 22 1 av an acs, intsH 2 bv fs, slH 116 3 cv cn ccs, intsH 2 dv ds, cellsH b3 [av, bv, cv, dv, .bool (true)] 169, cellsH b2 [(.slice none 0 0), (.slice none 0 0), (.slice none 0 0), (.slice none 0 0), .bool (false)] 169, cellsH b1 [arv, rsv] 37] L 8 [[], [], [], [], [], [], [], []] [[], [0], [], [], [2, 3], [4], [5], [6]] (phiL [fun us v => v = ptr b3 0, fun us v => v = av, fun us v => v = x1, fun us v => v = (.int .i64 ((q : Int)) : Value), fun us v => v = (.pointer (some (elemA x1 (q * 3))) : Value), fun us v => v = (.pointer (some (elemA x1 (q * 3 + 2))) : Value), fun us v => v = a2, fun us v => ∃ b, v = .slice (some ⟨b, 0, none⟩) 1 1]) (ownL [fun us v => [], fun us v => [], fun us v => [], fun us v => [], fun us v => [], fun us v => [], fun us v => [], fun us v => [slH 22 1 v 1 [a2]]]) mixed rfl rfl (by kernel_rfl) ?_ ?_
        ·refine stepsP.cons (fun vals R hpZ => ?_) ?_
         ·refine XG.op (XOp.fieldP (b := b3) (0) Tryz.runUnderlying169 rfl Tryz.sizeOf58 (by decide) rfl rfl ?_)
          exact ⟨rfl, rfl, rfl⟩
         refine stepsP.cons (fun vals R hpZ => ?_) ?_
         ·rw [eS (l := [(0, ptr b3 0)]) ⟨hpZ 0 (by decide), trivial⟩]
          refine XG.op (XOp.load1 (v := av) Tryz.isAgg58 rfl (Rd.own [_, _, _, _] rfl rfl) ?_)
          exact ⟨rfl, rfl, rfl⟩
         refine stepsP.cons (fun vals R hpZ => ?_) ?_
         ·refine XG.op (XOp.move (x1) rfl ?_)
          exact ⟨rfl, rfl, rfl⟩
         refine stepsP.cons (fun vals R hpZ => ?_) ?_
         ·refine XG.op (XOp.move (.int .i64 ((q : Int))) rfl ?_)
          exact ⟨rfl, rfl, rfl⟩
         refine stepsP.cons (fun vals R hpZ => ?_) ?_
         ·rw [eS (l := [(2, x1), (3, (.int .i64 ((q : Int)) : Value))]) ⟨hpZ 2 (by decide), hpZ 3 (by decide), trivial⟩]
          refine XG.op (XOp.indexS (v := x1) (i := (q : Int)) (n := (nx).length) q Tryz.runUnderlying55 Tryz.sizeOf116 rfl rfl rfl hr1.slv (by omega) rfl ?_)
          exact ⟨rfl, rfl, rfl⟩
         refine stepsP.cons (fun vals R hpZ => ?_) ?_
         ·rw [eS (l := [(4, (.pointer (some (elemA x1 (q * 3))) : Value))]) ⟨hpZ 4 (by decide), trivial⟩]
          refine XG.op (XOp.fieldE (v := x1) (q * 3 + 2) Tryz.runUnderlying116 rfl Tryz.sizeOf22 (by decide) rfl rfl ?_)
          exact ⟨rfl, rfl, rfl⟩
         refine stepsP.cons (fun vals R hpZ => ?_) ?_
         ·rw [eS (l := [(5, (.pointer (some (elemA x1 (q * 3 + 2))) : Value))]) ⟨hpZ 5 (by decide), trivial⟩]
          refine XG.op (XOp.load1 (v := a2) Tryz.isAgg22 rfl (hr4 _) ?_)
          exact ⟨rfl, rfl, rfl⟩
         refine stepsP.cons (fun vals R hpZ => ?_) ?_
         ·rw [eS (l := [(6, a2)]) ⟨hpZ 6 (by decide), trivial⟩]
          refine XG.op (XOp.buildSlice (s := 1) [a2] [(.slice none 0 0)] [(0, [a2])] Tryz.runUnderlying58 Tryz.sizeOf22 Tryz.zeroValue22 rfl (by decide) rfl (.cons (cells_one (IntsF.isSl ha2)) CellsAre.nil) rfl ?_)
          intro v7 hv6
          exact ⟨rfl, hv6, rfl⟩
         exact stepsP.nil
        ·intro vals hphi
         have f7 : ∃ b, (vals 7) = .slice (some ⟨b, 0, none⟩) 1 1 := hphi 7 (by decide)
         generalize hu7 : vals 7 = u1 at f7
         rw [eS (l := [(0, ptr b3 0), (1, av), (2, x1), (3, (.int .i64 ((q : Int)) : Value)), (4, (.pointer (some (elemA x1 (q * 3))) : Value)), (5, (.pointer (some (elemA x1 (q * 3 + 2))) : Value)), (6, a2), (7, u1)]) ⟨(hphi 0 (by decide)), (hphi 1 (by decide)), (hphi 2 (by decide)), (hphi 3 (by decide)), (hphi 4 (by decide)), (hphi 5 (by decide)), (hphi 6 (by decide)), hu7, trivial⟩]
         show XL _ _ _ _ _ _ _ (slH 22 1 u1 1 [a2] :: slH 22 1 av an acs :: intsH 2 bv fs :: slH 116 3 cv cn ccs :: intsH 2 dv ds :: cellsH b3 [av, bv, cv, dv, .bool (true)] 169 :: cellsH b2 [(.slice none 0 0), (.slice none 0 0), (.slice none 0 0), (.slice none 0 0), .bool (false)] 169 :: cellsH b1 [arv, rsv] 37 :: L)
         refine XL.cons (XOp.append (m := 1) (bytes := 24) (cs := acs) [_] _ [a2] Tryz.runUnderlying58 Tryz.typeInfo22 rfl rfl rfl rfl rfl rfl rfl (SlV.own [] rfl) rfl (Rd.lit [] rfl) (ones_cons (one_sl (IntsF.isSl ha2)) ones_nil) (by (try simp only [List.length_append, List.length_nil, List.length_cons, List.length_singleton]); omega) (by (try simp only [List.length_append, List.length_nil, List.length_cons, List.length_singleton]); omega) ?_)
         intro v8 hs2 hn1 hm1
         have hc3 := RowsC.snoc hAi ha2
         refine XL.cons (XOp.fieldP (b := b3) (0) Tryz.runUnderlying169 rfl Tryz.sizeOf58 (by decide) rfl rfl ?_)
         refine XL.cons (XOp.store1 (v := v8) [_, _, _, _, _] _ [v8, bv, cv, dv, .bool (true)] Tryz.sizeOf58 rfl rfl (one_sl hs2) rfl rfl rfl ?_)
         refine XL.nil (X.seq (X.region ?_))
         refine XL.cons (XOp.fieldP (b := b3) (1) Tryz.runUnderlying169 rfl Tryz.sizeOf22 (by decide) rfl rfl ?_)
         refine XL.cons (XOp.load1 (v := bv) Tryz.isAgg22 rfl (Rd.own [_, _, _, _, _] rfl rfl) ?_)
         refine XL.mv (.int .i64 ((k : Int))) rfl ?_
         refine XL.cons (XOp.buildSlice (s := 1) [.int .i64 ((k : Int))] [.int .i64 (0)] [(0, [.int .i64 ((k : Int))])] Tryz.runUnderlying22 Tryz.sizeOf2 Tryz.zeroValue2 rfl (by decide) rfl (.cons rfl CellsAre.nil) rfl ?_)
         intro v9 hv7
         refine XL.cons (XOp.append1 (u := (k : Int)) [_, _, _] _ Tryz.runUnderlying22 Tryz.typeInfo2 rfl rfl rfl rfl rfl rfl (SlV.own [] rfl) (Rd.sl [] rfl rfl) (by (try simp only [List.length_append, List.length_nil, List.length_cons, List.length_singleton, List.length_take, List.length_drop]); omega) ?_)
         intro v10 hs3 hn2
         refine XL.cons (XOp.fieldP (b := b3) (1) Tryz.runUnderlying169 rfl Tryz.sizeOf22 (by decide) rfl rfl ?_)
         refine XL.cons (XOp.store1 (v := v10) [_, _, _, _, _, _] _ [v8, v10, cv, dv, .bool (true)] Tryz.sizeOf22 rfl rfl (one_sl hs3) rfl rfl rfl ?_)
         refine XL.nil (X.seq ?_)
         refine X.draw [slH 2 1 v9 1 [.int .i64 ((k : Int))], slH 22 1 u1 1 [a2], slH 22 1 v8 ((an) + 1) (acs ++ [a2]), intsH 2 v10 (fs ++ [(k : Int)]), slH 116 3 cv cn ccs, intsH 2 dv ds, cellsH b3 [v8, v10, cv, dv, .bool (true)] 169, cellsH b2 [(.slice none 0 0), (.slice none 0 0), (.slice none 0 0), (.slice none 0 0), .bool (false)] 169, cellsH b1 [arv, rsv] 37] L 7 [[], [], [], [], [], [], []] [[], [0], [], [], [2, 3], [4], [5]] (phiL [fun us v => v = ptr b3 2, fun us v => v = cv, fun us v => v = x1, fun us v => v = (.int .i64 ((q : Int)) : Value), fun us v => v = (.pointer (some (elemA x1 (q * 3))) : Value), fun us v => v = (.agg #[.int .i64 ((nx.getD q (0, 0, [])).1), .int .i64 ((nx.getD q (0, 0, [])).2.1), a2] : Value), fun us v => ∃ b, v = .slice (some ⟨b, 0, none⟩) 1 1]) (ownL [fun us v => [], fun us v => [], fun us v => [], fun us v => [], fun us v => [], fun us v => [], fun us v => [slH 116 3 v 1 [.int .i64 ((nx.getD q (0, 0, [])).1), .int .i64 ((nx.getD q (0, 0, [])).2.1), a2]]]) mixed rfl rfl (by kernel_rfl) ?_ ?_
         ·refine stepsP.cons (fun vals R hpZ => ?_) ?_
          ·refine XG.op (XOp.fieldP (b := b3) (2) Tryz.runUnderlying169 rfl Tryz.sizeOf55 (by decide) rfl rfl ?_)
           exact ⟨rfl, rfl, rfl⟩
          refine stepsP.cons (fun vals R hpZ => ?_) ?_
          ·rw [eS (l := [(0, ptr b3 2)]) ⟨hpZ 0 (by decide), trivial⟩]
           refine XG.op (XOp.load1 (v := cv) Tryz.isAgg55 rfl (Rd.own [_, _, _, _, _, _] rfl rfl) ?_)
           exact ⟨rfl, rfl, rfl⟩
          refine stepsP.cons (fun vals R hpZ => ?_) ?_
          ·refine XG.op (XOp.move (x1) rfl ?_)
           exact ⟨rfl, rfl, rfl⟩
          refine stepsP.cons (fun vals R hpZ => ?_) ?_
          ·refine XG.op (XOp.move (.int .i64 ((q : Int))) rfl ?_)
           exact ⟨rfl, rfl, rfl⟩
          refine stepsP.cons (fun vals R hpZ => ?_) ?_
          ·rw [eS (l := [(2, x1), (3, (.int .i64 ((q : Int)) : Value))]) ⟨hpZ 2 (by decide), hpZ 3 (by decide), trivial⟩]
           refine XG.op (XOp.indexS (v := x1) (i := (q : Int)) (n := (nx).length) q Tryz.runUnderlying55 Tryz.sizeOf116 rfl rfl rfl hr1.slv (by omega) rfl ?_)
           exact ⟨rfl, rfl, rfl⟩
          refine stepsP.cons (fun vals R hpZ => ?_) ?_
          ·rw [eS (l := [(4, (.pointer (some (elemA x1 (q * 3))) : Value))]) ⟨hpZ 4 (by decide), trivial⟩]
           refine XG.op (XOp.loadN [.int .i64 ((nx.getD q (0, 0, [])).1), .int .i64 ((nx.getD q (0, 0, [])).2.1), a2] Tryz.isAgg116 Tryz.sizeOf116 rfl rfl (Rd.three (hr2 _) (hr3 _) (hr4 _)) ?_)
           exact ⟨rfl, rfl, rfl⟩
          refine stepsP.cons (fun vals R hpZ => ?_) ?_
          ·rw [eS (l := [(5, (.agg #[.int .i64 ((nx.getD q (0, 0, [])).1), .int .i64 ((nx.getD q (0, 0, [])).2.1), a2] : Value))]) ⟨hpZ 5 (by decide), trivial⟩]
           refine XG.op (XOp.buildSlice (s := 3) [.int .i64 ((nx.getD q (0, 0, [])).1), .int .i64 ((nx.getD q (0, 0, [])).2.1), a2] [.int .i64 (0), .int .i64 (0), (.slice none 0 0)] [(0, [.int .i64 ((nx.getD q (0, 0, [])).1), .int .i64 ((nx.getD q (0, 0, [])).2.1), a2])] Tryz.runUnderlying55 Tryz.sizeOf116 Tryz.zeroValue116 rfl (by decide) rfl (.cons rfl CellsAre.nil) rfl ?_)
           intro v12 hv9
           exact ⟨rfl, hv9, rfl⟩
          exact stepsP.nil
         ·intro vals hphi
          have f6 : ∃ b, (vals 6) = .slice (some ⟨b, 0, none⟩) 1 1 := hphi 6 (by decide)
          generalize hu6 : vals 6 = u2 at f6
          rw [eS (l := [(0, ptr b3 2), (1, cv), (2, x1), (3, (.int .i64 ((q : Int)) : Value)), (4, (.pointer (some (elemA x1 (q * 3))) : Value)), (5, (.agg #[.int .i64 ((nx.getD q (0, 0, [])).1), .int .i64 ((nx.getD q (0, 0, [])).2.1), a2] : Value)), (6, u2)]) ⟨(hphi 0 (by decide)), (hphi 1 (by decide)), (hphi 2 (by decide)), (hphi 3 (by decide)), (hphi 4 (by decide)), (hphi 5 (by decide)), hu6, trivial⟩]
          show XL _ _ _ _ _ _ _ (slH 116 3 u2 1 [.int .i64 ((nx.getD q (0, 0, [])).1), .int .i64 ((nx.getD q (0, 0, [])).2.1), a2] :: slH 2 1 v9 1 [.int .i64 ((k : Int))] :: slH 22 1 u1 1 [a2] :: slH 22 1 v8 ((an) + 1) (acs ++ [a2]) :: intsH 2 v10 (fs ++ [(k : Int)]) :: slH 116 3 cv cn ccs :: intsH 2 dv ds :: cellsH b3 [v8, v10, cv, dv, .bool (true)] 169 :: cellsH b2 [(.slice none 0 0), (.slice none 0 0), (.slice none 0 0), (.slice none 0 0), .bool (false)] 169 :: cellsH b1 [arv, rsv] 37 :: L)
          refine XL.cons (XOp.append (m := 1) (bytes := 40) (cs := ccs) [_, _, _, _, _] _ [.int .i64 ((nx.getD q (0, 0, [])).1), .int .i64 ((nx.getD q (0, 0, [])).2.1), a2] Tryz.runUnderlying55 Tryz.typeInfo116 rfl rfl rfl rfl rfl rfl rfl (SlV.own [] rfl) rfl (Rd.lit [] rfl) (ones_cons rfl (ones_cons rfl (ones_cons (one_sl (IntsF.isSl ha2)) ones_nil))) (by (try simp only [List.length_append, List.length_nil, List.length_cons, List.length_singleton]); omega) (by (try simp only [List.length_append, List.length_nil, List.length_cons, List.length_singleton]); omega) ?_)
          intro v13 hs4 hn3 hm2
          have hc4 := StepsC.snoc hBi (i := (nx.getD q (0, 0, [])).1) (j := (nx.getD q (0, 0, [])).2.1) ha2
          refine XL.cons (XOp.fieldP (b := b3) (2) Tryz.runUnderlying169 rfl Tryz.sizeOf55 (by decide) rfl rfl ?_)
          refine XL.cons (XOp.store1 (v := v13) [_, _, _, _, _, _, _] _ [v8, v10, v13, dv, .bool (true)] Tryz.sizeOf55 rfl rfl (one_sl hs4) rfl rfl rfl ?_)
          refine XL.nil ?_
          refine X.draw [slH 116 3 u2 1 [.int .i64 ((nx.getD q (0, 0, [])).1), .int .i64 ((nx.getD q (0, 0, [])).2.1), a2], slH 2 1 v9 1 [.int .i64 ((k : Int))], slH 22 1 u1 1 [a2], slH 22 1 v8 ((an) + 1) (acs ++ [a2]), intsH 2 v10 (fs ++ [(k : Int)]), slH 116 3 v13 ((cn) + 1) (ccs ++ [.int .i64 ((nx.getD q (0, 0, [])).1), .int .i64 ((nx.getD q (0, 0, [])).2.1), a2]), intsH 2 dv ds, cellsH b3 [v8, v10, v13, dv, .bool (true)] 169, cellsH b2 [(.slice none 0 0), (.slice none 0 0), (.slice none 0 0), (.slice none 0 0), .bool (false)] 169, cellsH b1 [arv, rsv] 37] L 9 [[], [], [], [], [], [], [], [], []] [[], [0], [], [2], [], [3, 4], [5], [6], [7]] (phiL [fun us v => v = ptr b3 3, fun us v => v = dv, fun us v => v = ptr b3 3, fun us v => v = dv, fun us v => v = (.int .i64 ((k : Int)) : Value), fun us v => v = (.pointer (some (elemA dv (k))) : Value), fun us v => v = (.int .i64 (ds.getD k 0) : Value), fun us v => v = (.int .i64 ((ds.getD k 0) + 1) : Value), fun us v => ∃ b, v = .slice (some ⟨b, 0, none⟩) 1 1]) (ownL [fun us v => [], fun us v => [], fun us v => [], fun us v => [], fun us v => [], fun us v => [], fun us v => [], fun us v => [], fun us v => [slH 2 1 v 1 [.int .i64 ((ds.getD k 0) + 1)]]]) mixed rfl rfl (by kernel_rfl) ?_ ?_
          ·refine stepsP.cons (fun vals R hpZ => ?_) ?_
           ·refine XG.op (XOp.fieldP (b := b3) (3) Tryz.runUnderlying169 rfl Tryz.sizeOf22 (by decide) rfl rfl ?_)
            exact ⟨rfl, rfl, rfl⟩
           refine stepsP.cons (fun vals R hpZ => ?_) ?_
           ·rw [eS (l := [(0, ptr b3 3)]) ⟨hpZ 0 (by decide), trivial⟩]
            refine XG.op (XOp.load1 (v := dv) Tryz.isAgg22 rfl (Rd.own [_, _, _, _, _, _, _] rfl rfl) ?_)
            exact ⟨rfl, rfl, rfl⟩
           refine stepsP.cons (fun vals R hpZ => ?_) ?_
           ·refine XG.op (XOp.fieldP (b := b3) (3) Tryz.runUnderlying169 rfl Tryz.sizeOf22 (by decide) rfl rfl ?_)
            exact ⟨rfl, rfl, rfl⟩
           refine stepsP.cons (fun vals R hpZ => ?_) ?_
           ·rw [eS (l := [(2, ptr b3 3)]) ⟨hpZ 2 (by decide), trivial⟩]
            refine XG.op (XOp.load1 (v := dv) Tryz.isAgg22 rfl (Rd.own [_, _, _, _, _, _, _] rfl rfl) ?_)
            exact ⟨rfl, rfl, rfl⟩
           refine stepsP.cons (fun vals R hpZ => ?_) ?_
           ·refine XG.op (XOp.move (.int .i64 ((k : Int))) rfl ?_)
            exact ⟨rfl, rfl, rfl⟩
           refine stepsP.cons (fun vals R hpZ => ?_) ?_
           ·rw [eS (l := [(3, dv), (4, (.int .i64 ((k : Int)) : Value))]) ⟨hpZ 3 (by decide), hpZ 4 (by decide), trivial⟩]
            refine XG.op (XOp.indexS (v := dv) (i := (k : Int)) (n := (ds).length) k Tryz.runUnderlying22 Tryz.sizeOf2 rfl rfl rfl (intsH.slv [_, _, _, _, _, _] rfl) (by omega) (Nat.mul_one _) ?_)
            exact ⟨rfl, rfl, rfl⟩
           refine stepsP.cons (fun vals R hpZ => ?_) ?_
           ·rw [eS (l := [(5, (.pointer (some (elemA dv (k))) : Value))]) ⟨hpZ 5 (by decide), trivial⟩]
            refine XG.op (XOp.load1 (v := .int .i64 (ds.getD k 0)) Tryz.isAgg2 rfl (intsH.rd [_, _, _, _, _, _] rfl (by omega)) ?_)
            exact ⟨rfl, rfl, rfl⟩
           refine stepsP.cons (fun vals R hpZ => ?_) ?_
           ·rw [eS (l := [(6, (.int .i64 (ds.getD k 0) : Value))]) ⟨hpZ 6 (by decide), trivial⟩]
            refine XG.op (XOp.addR (a := ds.getD k 0) (b := 1) ((ds.getD k 0) + 1) rfl rfl (by omega) (by omega) ?_)
            exact ⟨rfl, rfl, rfl⟩
           refine stepsP.cons (fun vals R hpZ => ?_) ?_
           ·rw [eS (l := [(7, (.int .i64 ((ds.getD k 0) + 1) : Value))]) ⟨hpZ 7 (by decide), trivial⟩]
            refine XG.op (XOp.buildSlice (s := 1) [.int .i64 ((ds.getD k 0) + 1)] [.int .i64 (0)] [(0, [.int .i64 ((ds.getD k 0) + 1)])] Tryz.runUnderlying22 Tryz.sizeOf2 Tryz.zeroValue2 rfl (by decide) rfl (.cons rfl CellsAre.nil) rfl ?_)
            intro v15 hv11
            exact ⟨rfl, hv11, rfl⟩
           exact stepsP.nil
          ·intro vals hphi
           have f8 : ∃ b, (vals 8) = .slice (some ⟨b, 0, none⟩) 1 1 := hphi 8 (by decide)
           generalize hu8 : vals 8 = u3 at f8
           rw [eS (l := [(0, ptr b3 3), (1, dv), (2, ptr b3 3), (3, dv), (4, (.int .i64 ((k : Int)) : Value)), (5, (.pointer (some (elemA dv (k))) : Value)), (6, (.int .i64 (ds.getD k 0) : Value)), (7, (.int .i64 ((ds.getD k 0) + 1) : Value)), (8, u3)]) ⟨(hphi 0 (by decide)), (hphi 1 (by decide)), (hphi 2 (by decide)), (hphi 3 (by decide)), (hphi 4 (by decide)), (hphi 5 (by decide)), (hphi 6 (by decide)), (hphi 7 (by decide)), hu8, trivial⟩]
           show XL _ _ _ _ _ _ _ (slH 2 1 u3 1 [.int .i64 ((ds.getD k 0) + 1)] :: slH 116 3 u2 1 [.int .i64 ((nx.getD q (0, 0, [])).1), .int .i64 ((nx.getD q (0, 0, [])).2.1), a2] :: slH 2 1 v9 1 [.int .i64 ((k : Int))] :: slH 22 1 u1 1 [a2] :: slH 22 1 v8 ((an) + 1) (acs ++ [a2]) :: intsH 2 v10 (fs ++ [(k : Int)]) :: slH 116 3 v13 ((cn) + 1) (ccs ++ [.int .i64 ((nx.getD q (0, 0, [])).1), .int .i64 ((nx.getD q (0, 0, [])).2.1), a2]) :: intsH 2 dv ds :: cellsH b3 [v8, v10, v13, dv, .bool (true)] 169 :: cellsH b2 [(.slice none 0 0), (.slice none 0 0), (.slice none 0 0), (.slice none 0 0), .bool (false)] 169 :: cellsH b1 [arv, rsv] 37 :: L)
           refine XL.cons (XOp.append1 (u := (ds.getD k 0) + 1) [_, _, _, _, _, _, _] _ Tryz.runUnderlying22 Tryz.typeInfo2 rfl rfl rfl rfl rfl rfl (SlV.own [] rfl) (Rd.sl [] rfl rfl) (by (try simp only [List.length_append, List.length_nil, List.length_cons, List.length_singleton, List.length_take, List.length_drop]); omega) ?_)
           intro v16 hs5 hn4
           refine XL.cons (XOp.fieldP (b := b3) (3) Tryz.runUnderlying169 rfl Tryz.sizeOf22 (by decide) rfl rfl ?_)
           refine XL.cons (XOp.store1 (v := v16) [_, _, _, _, _, _, _, _] _ [v8, v10, v13, v16, .bool (true)] Tryz.sizeOf22 rfl rfl (one_sl hs5) rfl rfl rfl ?_)
           refine XL.nil (X.region ?_)
           refine XL.mv (.int .i64 ((q : Int))) rfl ?_
           refine XL.cons (XOp.addR (a := (q : Int)) (b := 1) (((q + 1 : Nat) : Int)) rfl rfl (by omega) (by omega) ?_)
           refine XL.as (.int .i64 (((q + 1 : Nat) : Int))) rfl ?_
           refine XL.nil ?_
           exact ⟨(q + 1, os ++ [((nx.getD q (0, 0, [])).2.2, (k : Int), nx.getD q (0, 0, []), (EL os0 k).2.2.2 + 1)], v8, ts ++ [(nx.getD q (0, 0, [])).2.2], acs ++ [a2], (an) + 1, v10, fs ++ [(k : Int)], v13, bs ++ [((nx.getD q (0, 0, [])).1, (nx.getD q (0, 0, [])).2.1, (nx.getD q (0, 0, [])).2.2)], ccs ++ [.int .i64 ((nx.getD q (0, 0, [])).1), .int .i64 ((nx.getD q (0, 0, [])).2.1), a2], (cn) + 1, v16, ds ++ [(ds.getD k 0) + 1], G2), _, leG2, rF, ⟨rfl, rfl, rfl, rfl, rfl, rfl, rfl, trivial⟩, (Sub.drop (Sub.drop (Sub.drop (Sub.drop (Sub.cons (Sub.cons (Sub.cons (Sub.cons (Sub.cons (Sub.cons (Sub.cons sR))))))))))), ⟨rfl, leG2, (hs2), (hs3), (hs4), (hs5), (hc3), (hc4), (by (try dsimp only); rw [List.length_append, List.length_singleton]; omega), (by (try dsimp only); rw [List.length_append, List.length_singleton]; omega), (by (try dsimp only); rw [terms_snoc, htsi]), (by (try dsimp only); rw [froms_snoc, hfsi]), (by (try dsimp only); rw [bys_snoc, hbsi]), (by (try dsimp only); rw [deeps_snoc, ← hdsi, hdk9]), (by (try dsimp only); rw [List.length_append, List.length_singleton]; omega), (hoki.snoc (hnxo q (by omega))), (hdoi.snoc (by dsimp only; omega)), (by (try dsimp only) <;> omega), (by (try dsimp only); rw [List.length_append, List.length_singleton]; omega), (by (try dsimp only); rw [EL_snoc hkp]; exact hel), (by (try dsimp only); exact hgoi.trans (add_new (by omega) hnin (by omega)))⟩, (by omega)⟩
    ·refine X.exit (thenQ_exit (thenQ_exit (blockQ_exit ?_)))
     refine X.region ?_
     refine XL.mv (.int .i64 ((k : Int))) rfl ?_
     refine XL.cons (XOp.addR (a := (k : Int)) (b := 1) (((k + 1 : Nat) : Int)) rfl rfl (by omega) (by omega) ?_)
     refine XL.as (.int .i64 (((k + 1 : Nat) : Int))) rfl ?_
     refine XL.nil ?_
     exact ⟨(k + 1, os, av, ts, acs, an, bv, fs, cv, bs, ccs, cn, dv, ds, G2), _, (FLe.trans (FLe.trans leG1 le2) leG2), rF, ⟨rfl, rfl, rfl, rfl, rfl, trivial⟩, (Sub.cons (Sub.cons (Sub.cons (Sub.cons (Sub.cons (Sub.cons (Sub.cons sR))))))), ⟨rfl, (FLe.trans (FLe.trans leG1 le2) leG2), (havi), (hbvi), (hcvi), (hdvi), (hAi), (hBi), (hani), (hcni), (htsi), (hfsi), (hbsi), (hdsi), (hli), (hoki), (hdoi), (by (try dsimp only); omega), (by (try dsimp only); have h9 := hgoi.trans (add_end (by omega)); have h8 := reach_more (ar := ar) (rs := rs) (n := n) (f := 60 - k - 1) hk70 (by omega) hdeep0 (by rw [hnx0, h9]); rw [hnx0, h9] at h8; exact hgo0.trans h8)⟩, (by (try dsimp only); omega)⟩
 ·refine X.exit (thenQ_exit (thenQ_exit (blockQ_exit ?_)))
  refine X.seq (X.region ?_)
  refine XL.cons (XOp.loadN [av, bv, cv, dv, .bool (true)] Tryz.isAgg169 Tryz.sizeOf169 rfl rfl (Rd.ownN [_, _, _, _] rfl rfl) ?_)
  refine XL.cons (XOp.storeN (vs := [av, bv, cv, dv, .bool (true)]) [_, _, _, _, _] _ [av, bv, cv, dv, .bool (true)] Tryz.sizeOf169 rfl rfl rfl (ones_cons (one_sl hav) (ones_cons (one_sl hbv) (ones_cons (one_sl hcv) (ones_cons (one_sl hdv) (ones_cons rfl ones_nil))))) rfl rfl rfl ?_)
  refine XL.nil ?_
  refine X.freezeF [] _ _ rfl (fun F8 le8 hz7 => ?_)
  replace har := har.mono le8
  replace hrs := hrs.mono le8
  replace ht := ht.mono le8
  replace hf1 := hf1.mono le8
  replace hc1 := hc1.mono le8
  replace hc2 := hc2.mono le8
  replace hA := hA.mono le8
  replace hB := hB.mono le8
  have hf7 : RowsF F8 av ts := CO.fz hA (by first | rfl | simp | omega) hz7.fz
  refine X.freezeF [] _ _ rfl (fun F9 le9 hz8 => ?_)
  replace har := har.mono le9
  replace hrs := hrs.mono le9
  replace ht := ht.mono le9
  replace hf1 := hf1.mono le9
  replace hc1 := hc1.mono le9
  replace hc2 := hc2.mono le9
  replace hA := hA.mono le9
  replace hB := hB.mono le9
  replace hf7 := hf7.mono le9
  have hf8 : IntsF F9 bv fs := intsH.fz (xs := fs) hz8.fz
  refine X.freezeF [] _ _ rfl (fun F10 le10 hz9 => ?_)
  replace har := har.mono le10
  replace hrs := hrs.mono le10
  replace ht := ht.mono le10
  replace hf1 := hf1.mono le10
  replace hc1 := hc1.mono le10
  replace hc2 := hc2.mono le10
  replace hA := hA.mono le10
  replace hB := hB.mono le10
  replace hf7 := hf7.mono le10
  replace hf8 := hf8.mono le10
  have hf9 : StepsF F10 cv bs := CO.fz hB (by first | rfl | simp | omega) hz9.fz
  refine X.freezeF [] _ _ rfl (fun F11 le11 hz10 => ?_)
  replace har := har.mono le11
  replace hrs := hrs.mono le11
  replace ht := ht.mono le11
  replace hf1 := hf1.mono le11
  replace hc1 := hc1.mono le11
  replace hc2 := hc2.mono le11
  replace hA := hA.mono le11
  replace hB := hB.mono le11
  replace hf7 := hf7.mono le11
  replace hf8 := hf8.mono le11
  replace hf9 := hf9.mono le11
  have hf10 : IntsF F11 dv ds := intsH.fz (xs := ds) hz10.fz
  refine X.ret (retEnd (L' := L) [.agg #[av, bv, cv, dv, .bool (true)]] (.agg #[av, bv, cv, dv, .bool (true)]) (.cell rfl (loadNV [av, bv, cv, dv, .bool (true)] Tryz.isAgg169 Tryz.sizeOf169 rfl (Rd.ownN [_] rfl rfl)) .nil) rfl (FLe.trans (FLe.trans (FLe.trans (FLe.trans (FLe.trans le1 leG1) le8) le9) le10) le11) rF (Sub.drop (Sub.drop (Sub.drop sR))) ?_)
  have e9 : reachL ar rs t n = (os, true) := hgo.trans (reach_done (by omega) hl)
  rw [e9]
  exact ⟨_, _, _, _, rfl, by rw [← hts]; exact hf7, by rw [← hfs]; exact hf8, by rw [← hbs]; exact hf9, by rw [← hds]; exact hf10, rfl⟩

/- spec.l1CopyTerms -/
theorem l1CopyTerms_spec {F : FH} {L : List HP} {tsv : Value} {ts : List (List Int)} (hts : RowsF F tsv ts) (hlt : ts.length ≤ 4000000) (htb : ∀ i, i < ts.length → (ts.getD i []).length ≤ 4000000) :
    Does Tryz.prog 142 [tsv] F (L) (fun v F' L' => ∃ (a : Value), (a : Value) = v ∧ (RowsF F' a ts) ∧ L = L') := by
 refine Does.of_X Tryz.func142 rfl rfl rfl ?_
 refine X.seq (X.region ?_)
 refine XL.as ((.slice none 0 0)) rfl ?_
 refine XL.nil (X.seq (X.region ?_))
 refine XL.cons (XOp.buildSlice (s := 1) [] [(.slice none 0 0)] [] Tryz.runUnderlying58 Tryz.sizeOf22 Tryz.zeroValue22 rfl (by decide) rfl CellsAre.nil rfl ?_)
 intro v1 hv1
 refine XL.as (v1) rfl ?_
 refine XL.nil (X.seq (X.seq (X.region ?_)))
 refine XL.as (.int .i64 (0)) rfl ?_
 refine XL.nil (X.block ?_)
 refine X.loop (α := Nat × Value × RowL × List Value × FH) (fun xQ => [(0, tsv), (3, xQ.2.1), (4, .int .i64 (((xQ.1 : Nat) : Int)))]) (fun xQ => slH 22 1 xQ.2.1 xQ.1 xQ.2.2.2.1 :: L) (fun xQ F' => xQ.2.2.2.2 = F' ∧ F ≤ xQ.2.2.2.2 ∧ (IsSl xQ.2.1) ∧ (xQ.1 ≤ ts.length) ∧ (RowsC xQ.2.2.2.2 xQ.2.2.2.1 xQ.2.2.1) ∧ (xQ.2.2.1 = ts.take xQ.1)) (fun xQ => ts.length - xQ.1) (0, v1, [], [], F) ⟨rfl, rfl, rfl, trivial⟩ (Sub.cons sR) ⟨rfl, FLe.refl _, ((isSl_lit hv1)), (by (try dsimp only) <;> omega), (CO.nil), (rfl)⟩ ?_
 rintro ⟨k, ov, os, ocs, G1⟩ rE _ _ ⟨rfl, leG, hov, hk, hC, hos⟩
 show X _ _ _ _ (envs [(0, tsv), (3, ov), (4, .int .i64 ((k : Int)))] rE) _ (slH 22 1 ov k ocs :: L)
 replace leG : F ≤ G1 := leG
 dsimp only at hov hk hC hos
 have htbk := htb k
 have hol : os.length = k := by rw [hos, List.length_take]; omega
 have leG1 := leG
 replace hts := hts.mono leG1
 refine X.seq (X.seq (X.region ?_))
 refine XL.mv (.int .i64 ((k : Int))) rfl ?_
 refine XL.mv (tsv) rfl ?_
 refine XL.cons (XOp.lenS (v := tsv) (n := (ts).length) Tryz.runUnderlying58 rfl hts.slv ?_)
 refine XL.cons (XOp.lss (a := (k : Int)) (b := (ts.length : Int)) rfl rfl ?_)
 refine XL.nil ?_
 refine X.condD (p := (k : Int) < (ts.length : Int)) rfl (fun h1 => ?_) (fun h1 => ?_)
 ·refine X.skip (X.seq (X.block (X.region ?_)))
  refine XL.mv (ov) rfl ?_
  refine XL.mv (tsv) rfl ?_
  refine XL.mv (.int .i64 ((k : Int))) rfl ?_
  refine XL.cons (XOp.indexS (v := tsv) (i := (k : Int)) (n := (ts).length) k Tryz.runUnderlying58 Tryz.sizeOf22 rfl rfl rfl hts.slv (by omega) (Nat.mul_one _) ?_)
  obtain ⟨a1, ha1, hr1⟩ := hts.rd (i := k) (by omega)
  refine XL.cons (XOp.load1 (v := a1) Tryz.isAgg22 rfl (hr1 _) ?_)
  refine XL.cons (XOp.frzF <| XOp.call (args := [a1]) Tryz.call99 rfl (l1Copy_spec ha1 (hlt := (htbk (by omega)))) ?_)
  rintro v2 _ _ _ ⟨rfl, hs1, rfl⟩
  refine ⟨_, _, rfl, fun F1 le1 hz1 => ?_⟩
  replace hts := hts.mono le1
  replace hC := hC.mono le1
  replace ha1 := ha1.mono le1
  replace hr1 := Rd.monoA hr1 le1
  have hf1 : IntsF F1 v2 ((((ts.getD k [])))) := intsH.fz (xs := (((ts.getD k [])))) hz1.fz
  refine XL.cons (XOp.buildSlice (s := 1) [v2] [(.slice none 0 0)] [(0, [v2])] Tryz.runUnderlying58 Tryz.sizeOf22 Tryz.zeroValue22 rfl (by decide) rfl (.cons (cells_one (IntsF.isSl hf1)) CellsAre.nil) rfl ?_)
  intro v3 hv2
  refine XL.cons (XOp.append (m := 1) (bytes := 24) (cs := ocs) [_] _ [v2] Tryz.runUnderlying58 Tryz.typeInfo22 rfl rfl rfl rfl rfl rfl rfl (SlV.own [] rfl) rfl (Rd.lit [] rfl) (ones_cons (one_sl (IntsF.isSl hf1)) ones_nil) (by (try simp only [List.length_append, List.length_nil, List.length_cons, List.length_singleton]); omega) (by (try simp only [List.length_append, List.length_nil, List.length_cons, List.length_singleton]); omega) ?_)
  intro v4 hs2 hn1 hm1
  have hc1 := RowsC.snoc hC hf1
  refine XL.as (v4) rfl ?_
  refine XL.nil (X.region ?_)
  refine XL.mv (.int .i64 ((k : Int))) rfl ?_
  refine XL.cons (XOp.addR (a := (k : Int)) (b := 1) (((k + 1 : Nat) : Int)) rfl rfl (by omega) (by omega) ?_)
  refine XL.as (.int .i64 (((k + 1 : Nat) : Int))) rfl ?_
  refine XL.nil ?_
  exact ⟨(k + 1, v4, os ++ [(((ts.getD k [])))], ocs ++ [v2], F1), _, (FLe.trans leG1 le1), rF, ⟨rfl, rfl, rfl, trivial⟩, (Sub.drop (Sub.cons sR)), ⟨rfl, (FLe.trans leG1 le1), (hs2), (by (try dsimp only) <;> omega), (hc1), (by (try dsimp only); rw [hos, take_succ_getD [] (by omega)])⟩, (by omega)⟩
 ·refine X.exit (thenQ_exit (thenQ_exit (blockQ_exit ?_)))
  refine X.seq (X.region ?_)
  refine XL.mv (ov) rfl ?_
  refine XL.as (ov) rfl ?_
  refine XL.nil ?_
  refine X.freezeF [] _ _ rfl (fun F2 le2 hz2 => ?_)
  replace hts := hts.mono le2
  replace hC := hC.mono le2
  have hf2 : RowsF F2 ov os := CO.fz hC (by first | rfl | simp | omega) hz2.fz
  refine X.ret (retEnd (L' := L) [ov] (ov) (.tmp rfl .nil) rfl (FLe.trans leG1 le2) rF sR ?_)
  have e1 : os = ts := by rw [hos, show k = ts.length from by omega, List.take_length]
  subst e1
  exact ⟨_, rfl, hf2, rfl⟩

/- spec.ReachOf -/
set_option maxRecDepth 20000 in
theorem sReachOf_spec {F : FH} {L : List HP} {arv : Value} {ar : List Int} (har : IntsF F arv ar) {rsv : Value} {rs : List (List Int × List Int)} (hrs : PairsF F rsv rs) {tv : Value} {t : List Int} (ht : IntsF F tv t) {n : Int} (hla : ar.length ≤ 4000000) (hlr : rs.length ≤ 4000000) (hrb : ∀ i, i < rs.length → (rs.getD i ([], [])).1.length ≤ 4000000 ∧ (rs.getD i ([], [])).2.length ≤ 4000000) (hlt : t.length ≤ 4000000) :
    Does Tryz.prog 72 [.agg #[arv, rsv], tv, .int .i64 (n)] F (L) (fun v F' L' => ∃ (a : Value), (.tuple #[a, .bool ((reachF ar rs t n).2)] : Value) = v ∧ (RowsF F' a (terms (reachF ar rs t n).1)) ∧ L = L') := by
 refine Does.of_X Tryz.func72 rfl rfl rfl ?_
 refine X.seq (X.region ?_)
 refine XL.cons (XOp.box [arv, rsv] rfl rfl ?_)
 intro b1
 refine XL.as ((.slice none 0 0)) rfl ?_
 refine XL.as (.bool (false)) rfl ?_
 refine XL.nil (X.seq (X.seq (X.region ?_)))
 refine XL.cons (XOp.loadN [arv, rsv] Tryz.isAgg37 Tryz.sizeOf37 rfl rfl (Rd.ownN [] rfl rfl) ?_)
 refine XL.mv (tv) rfl ?_
 refine XL.mv (.int .i64 (n)) rfl ?_
 refine XL.cons (XOp.call (args := [.agg #[arv, rsv], tv, .int .i64 (n)]) Tryz.call140 rfl (l9Right_spec (n := n) har hrs ht (hla := (by first | assumption | rfl | omega | simp)) (hlr := (by first | assumption | rfl | omega | simp)) (hrb := (by first | assumption | rfl | omega | simp)) (hlt := (by first | assumption | rfl | omega | simp))) ?_)
 rintro _ _ _ _ ⟨rfl, rfl, rfl⟩
 refine XL.cons (XOp.notB (b := reachOkL ar rs n [t]) rfl ?_)
 refine XL.nil ?_
 refine X.cond (t := !(reachOkL ar rs n [t])) rfl (fun h1 => ?_) (fun h1 => ?_)
 ·have hro : reachOkL ar rs n [t] = false := by simpa using h1
  refine X.seq (X.region ?_)
  refine XL.cons (XOp.buildSlice (s := 1) [] [(.slice none 0 0)] [] Tryz.runUnderlying58 Tryz.sizeOf22 Tryz.zeroValue22 rfl (by decide) rfl CellsAre.nil rfl ?_)
  intro v1 hv1
  refine XL.as (v1) rfl ?_
  refine XL.as (.bool (false)) rfl ?_
  refine XL.nil ?_
  have hc1 : RowsC F [] ([] : List (List Int)) := (CO.nil : RowsC F [] [])
  refine X.freezeF [] _ _ rfl (fun F1 le1 hz1 => ?_)
  replace har := har.mono le1
  replace hrs := hrs.mono le1
  replace ht := ht.mono le1
  replace hc1 := hc1.mono le1
  have hf1 : RowsF F1 v1 (([] : List (List Int))) := CO.fz hc1 (by first | rfl | simp | omega) hz1.fz
  refine X.ret (thenQ_ret (retEnd (L' := L) [v1, .bool (false)] (.tuple #[v1, .bool (false)]) (.tmp rfl (.tmp rfl .nil)) rfl le1 rF (Sub.drop sR) ?_))
  rw [reachF_no hro]
  exact ⟨_, rfl, hf1, rfl⟩
 ·have hro : reachOkL ar rs n [t] = true := by simpa using h1
  have hr3 := reachOk_iff.1 hro
  have hsys := hr3.1.1
  have ho := hr3.1.2
  have hro2 := reachL_ok (n := n) hsys ho
  have hro3 := hro2.1
  have htl5 : (terms (reachL ar rs t n).1).length ≤ 60 := by rw [terms_len]; exact hro3
  have htb5 : ∀ i, i < (terms (reachL ar rs t n).1).length → ((terms (reachL ar rs t n).1).getD i []).length ≤ 4000000 := fun i hi => by rw [terms_get]; rw [terms_len] at hi; have := termOk_len (hro2.2 i hi); omega
  refine X.skip (X.seq (X.region ?_))
  refine XL.cons (XOp.loadN [arv, rsv] Tryz.isAgg37 Tryz.sizeOf37 rfl rfl (Rd.ownN [] rfl rfl) ?_)
  refine XL.mv (tv) rfl ?_
  refine XL.mv (.int .i64 (n)) rfl ?_
  refine XL.cons (XOp.call (args := [.agg #[arv, rsv], tv, .int .i64 (n)]) Tryz.call141 rfl (l9Find_spec (n := n) har hrs ht (hsys := (by first | assumption | rfl | omega | simp)) (ho := (by first | assumption | rfl | omega | simp)) (hn20 := (by first | assumption | rfl | omega | simp))) ?_)
  rintro _ F2 _ le2 ⟨x1, x2, x3, x4, rfl, hr1, hr2, hr3, hr4, rfl⟩
  replace har := har.mono le2
  replace hrs := hrs.mono le2
  replace ht := ht.mono le2
  refine XL.cons (XOp.alloc [(.slice none 0 0), (.slice none 0 0), (.slice none 0 0), (.slice none 0 0), .bool (false)] Tryz.zeroValue169 rfl ?_)
  intro b2
  refine XL.cons (XOp.storeN (vs := [x1, x2, x3, x4, .bool ((reachL ar rs t n).2)]) [] _ [x1, x2, x3, x4, .bool ((reachL ar rs t n).2)] Tryz.sizeOf169 rfl rfl rfl (ones_cons (one_sl (RowsF.isSl hr1)) (ones_cons (one_sl (IntsF.isSl hr2)) (ones_cons (one_sl (StepsF.isSl hr3)) (ones_cons (one_sl (IntsF.isSl hr4)) (ones_cons rfl ones_nil))))) rfl rfl rfl ?_)
  refine XL.nil (X.seq ?_)
  refine X.drawG [cellsH b2 [x1, x2, x3, x4, .bool ((reachL ar rs t n).2)] 169, cellsH b1 [arv, rsv] 37] L 6 [[], [], [], [], [], [2]] [[], [0], [1], [], [3], [2]] [[], [], [], [], [], []] (phiG [fun FF us v => v = ptr b2 0, fun FF us v => v = x1, fun FF us v => ((v) : Value) = v ∧ (RowsF FF (v) (terms (reachL ar rs t n).1)), fun FF us v => v = ptr b2 4, fun FF us v => v = (.bool ((reachL ar rs t n).2) : Value), fun FF us v => v = ((us.getD 0 undef))]) (ownL [fun us v => [], fun us v => [], fun us v => [], fun us v => [], fun us v => [], fun us v => []]) mixed rfl rfl (by kernel_rfl) (by kernel_rfl) (MonoG.get (MonoG.cons (fun le h => h) (MonoG.cons (fun le h => h) (MonoG.cons (fun le h => ⟨h.1, h.2.mono le⟩) (MonoG.cons (fun le h => h) (MonoG.cons (fun le h => h) (MonoG.cons (fun le h => h) MonoG.nil))))))) ?_ ?_
  ·refine stepsG.cons (fun vals Fs R leFs hpZ => ?_) ?_
   ·refine XG.op (XOp.fieldP (b := b2) (0) Tryz.runUnderlying169 rfl Tryz.sizeOf58 (by decide) rfl rfl ?_)
    exact ⟨rfl, rfl⟩
   refine stepsG.cons (fun vals Fs R leFs hpZ => ?_) ?_
   ·replace har := har.mono leFs
    replace hrs := hrs.mono leFs
    replace ht := ht.mono leFs
    replace hr1 := hr1.mono leFs
    replace hr2 := hr2.mono leFs
    replace hr3 := hr3.mono leFs
    replace hr4 := hr4.mono leFs
    rw [eS (l := [(0, ptr b2 0)]) ⟨(hpZ 0 (by decide)), trivial⟩]
    refine XG.op (XOp.load1 (v := x1) Tryz.isAgg58 rfl (Rd.own [] rfl rfl) ?_)
    exact ⟨rfl, rfl⟩
   refine stepsG.cons (fun vals Fs R leFs hpZ => ?_) ?_
   ·replace har := har.mono leFs
    replace hrs := hrs.mono leFs
    replace ht := ht.mono leFs
    replace hr1 := hr1.mono leFs
    replace hr2 := hr2.mono leFs
    replace hr3 := hr3.mono leFs
    replace hr4 := hr4.mono leFs
    rw [eS (l := [(1, x1)]) ⟨(hpZ 1 (by decide)), trivial⟩]
    refine XG.op (XOp.call (args := [x1]) Tryz.call142 rfl (l1CopyTerms_spec hr1 (hlt := (by omega)) (htb := (htb5))) ?_)
    rintro _ F4 _ le4 ⟨x6, rfl, hr6, rfl⟩
    replace har := har.mono le4
    replace hrs := hrs.mono le4
    replace ht := ht.mono le4
    replace hr1 := hr1.mono le4
    replace hr2 := hr2.mono le4
    replace hr3 := hr3.mono le4
    replace hr4 := hr4.mono le4
    exact ⟨⟨rfl, hr6⟩, rfl⟩
   refine stepsG.cons (fun vals Fs R leFs hpZ => ?_) ?_
   ·refine XG.op (XOp.fieldP (b := b2) (4) Tryz.runUnderlying169 rfl Tryz.sizeOf4 (by decide) rfl rfl ?_)
    exact ⟨rfl, rfl⟩
   refine stepsG.cons (fun vals Fs R leFs hpZ => ?_) ?_
   ·replace har := har.mono leFs
    replace hrs := hrs.mono leFs
    replace ht := ht.mono leFs
    replace hr1 := hr1.mono leFs
    replace hr2 := hr2.mono leFs
    replace hr3 := hr3.mono leFs
    replace hr4 := hr4.mono leFs
    rw [eS (l := [(3, ptr b2 4)]) ⟨(hpZ 3 (by decide)), trivial⟩]
    refine XG.op (XOp.load1 (v := .bool ((reachL ar rs t n).2)) Tryz.isAgg4 rfl (Rd.own [] rfl rfl) ?_)
    exact ⟨rfl, rfl⟩
   refine stepsG.cons (fun vals Fs R leFs hpZ => ?_) ?_
   ·obtain ⟨e2, f2_1hr⟩ := hpZ 2 (by decide)
    rw [eS (l := [(2, ((vals 2)))]) ⟨(e2).symm, trivial⟩]
    refine XG.op (XOp.assign (((vals 2))) rfl ?_)
    exact ⟨rfl, rfl⟩
   exact stepsG.nil
  ·intro vals F5 le5 hphi
   obtain ⟨e2, f2_1hr⟩ := hphi 2 (by decide)
   have e5 : vals 5 = ((vals 2)) := hphi 5 (by decide)
   generalize hu1 : ((vals 2)) = u1 at e2 f2_1hr e5
   rw [eS (l := [(0, ptr b2 0), (1, x1), (2, u1), (3, ptr b2 4), (4, (.bool ((reachL ar rs t n).2) : Value)), (5, u1)]) ⟨(hphi 0 (by decide)), (hphi 1 (by decide)), hu1, (hphi 3 (by decide)), (hphi 4 (by decide)), e5, trivial⟩]
   replace har := har.mono le5
   replace hrs := hrs.mono le5
   replace ht := ht.mono le5
   replace hr1 := hr1.mono le5
   replace hr2 := hr2.mono le5
   replace hr3 := hr3.mono le5
   replace hr4 := hr4.mono le5
   show XL _ _ _ _ _ _ _ (cellsH b2 [x1, x2, x3, x4, .bool ((reachL ar rs t n).2)] 169 :: cellsH b1 [arv, rsv] 37 :: L)
   refine XL.as (.bool ((reachL ar rs t n).2)) rfl ?_
   refine XL.nil ?_
   refine X.ret (retEnd (L' := L) [u1, .bool ((reachL ar rs t n).2)] (.tuple #[u1, .bool ((reachL ar rs t n).2)]) (.tmp rfl (.tmp rfl .nil)) rfl (FLe.trans le2 le5) rF (Sub.drop (Sub.drop sR)) ?_)
   rw [reachF_yes hro]
   exact ⟨_, rfl, f2_1hr, rfl⟩
end Go.Proofs.YtiaanelimbmniaaGreat
set_option linter.unusedSimpArgs false
set_option linter.unusedVariables false
namespace Go.Proofs.YtiaanelimbmniaaGreat
open Go X M

/- spec.l9Walk -/
theorem l9Walk_spec {F : FH} {L : List HP} {x1v x2v x3v x4v : Value} {al : List FoundT} {ab : Bool} (hx1 : RowsF F x1v (terms al)) (hx2 : IntsF F x2v (froms al)) (hx3 : StepsF F x3v (bys al)) (hx4 : IntsF F x4v (deeps al)) {k : Nat} (hk : k < al.length) (hll : al.length ≤ 60) (hlk : Link al) (hbd : ∀ i, i < al.length → (EL al i).1.length ≤ 60) :
    Does Tryz.prog 148 [.agg #[x1v, x2v, x3v, x4v, .bool (ab)], .int .i64 ((k : Int))] F (L) (fun v F' L' => ∃ (a : Value), ∃ (b : Value), (.agg #[a, b] : Value) = v ∧ (IntsF F' a (EL al 0).1) ∧ (StepsF F' b (walkL al k)) ∧ (Fresh F F' (star [intsH 2 a (EL al 0).1, stepsD 2 116 b (walkL al k)])) ∧ L = L') := by
 refine Does.of_X Tryz.func148 rfl rfl rfl ?_
 have htl9 : (terms al).length = al.length := terms_len
 have hfl9 : (froms al).length = al.length := froms_len
 have hbl9 : (bys al).length = al.length := bys_len
 have ht0 : ((terms al).getD 0 []).length ≤ 60 := by rw [terms_get]; exact hbd 0 (by omega)
 refine X.seq (X.region ?_)
 refine XL.cons (XOp.box [x1v, x2v, x3v, x4v, .bool (ab)] rfl rfl ?_)
 intro b1
 refine XL.cons (XOp.alloc [(.slice none 0 0), (.slice none 0 0)] Tryz.zeroValue57 rfl ?_)
 intro b2
 refine XL.nil (X.seq (X.region ?_))
 refine XL.cons (XOp.buildSlice (s := 3) [] [.int .i64 (0), .int .i64 (0), (.slice none 0 0)] [] Tryz.runUnderlying55 Tryz.sizeOf116 Tryz.zeroValue116 rfl (by decide) rfl CellsAre.nil rfl ?_)
 intro v1 hv1
 refine XL.as (v1) rfl ?_
 refine XL.nil (X.seq (X.block ?_))
 refine X.loop (α := Nat × Value × List StepT × List Value × Nat) (fun xQ => [(1, .int .i64 (((xQ.1 : Nat) : Int))), (2, ptr b1 0), (4, ptr b2 0), (5, xQ.2.1)]) (fun xQ => slH 116 3 xQ.2.1 xQ.2.2.2.2 xQ.2.2.2.1 :: cellsH b2 [(.slice none 0 0), (.slice none 0 0)] 57 :: cellsH b1 [x1v, x2v, x3v, x4v, .bool (ab)] 169 :: L) (fun xQ F' => F = F' ∧ (xQ.1 < al.length) ∧ (IsSl xQ.2.1) ∧ (StepsC F xQ.2.2.2.1 xQ.2.2.1) ∧ (xQ.2.2.2.2 = xQ.2.2.1.length) ∧ (xQ.2.2.2.2 + xQ.1 ≤ k) ∧ (backL al k = xQ.2.2.1 ++ backL al xQ.1)) (fun xQ => xQ.1) (k, v1, [], [], 0) ⟨rfl, rfl, rfl, rfl, trivial⟩ (Sub.cons (Sub.cons (Sub.cons sR))) ⟨rfl, (hk), ((isSl_lit hv1)), (CO.nil), (rfl), (by (try dsimp only) <;> omega), (rfl)⟩ ?_
 rintro ⟨j, bv, bs, bcs, bm⟩ rE _ _ ⟨rfl, hj, hbv, hB, hbm, hmj, hbk⟩
 show X _ _ _ _ (envs [(1, .int .i64 ((j : Int))), (2, ptr b1 0), (4, ptr b2 0), (5, bv)] rE) _ (slH 116 3 bv bm bcs :: cellsH b2 [(.slice none 0 0), (.slice none 0 0)] 57 :: cellsH b1 [x1v, x2v, x3v, x4v, .bool (ab)] 169 :: L)
 dsimp only at hj hbv hB hbm hmj hbk
 have hlj := fun (h : 0 < j) => hlk.2 j h hj
 have hfj : ((froms al).getD j 0) = (EL al j).2.1 := froms_get hj
 have hljx : 0 < j → 0 ≤ ((froms al).getD j 0) ∧ ((froms al).getD j 0) < (j : Int) := fun h => ⟨by rw [hfj]; exact (hlj h).1, by rw [hfj]; exact (hlj h).2.1⟩
 have hlj0 : j = 0 → ((froms al).getD j 0) = -1 := fun h => by rw [hfj, h]; exact hlk.1.2.1
 refine X.seq (X.seq (X.region ?_))
 refine XL.cons (XOp.fieldP (b := b1) (1) Tryz.runUnderlying169 rfl Tryz.sizeOf22 (by decide) rfl rfl ?_)
 refine XL.cons (XOp.load1 (v := x2v) Tryz.isAgg22 rfl (Rd.own [_, _] rfl rfl) ?_)
 refine XL.mv (.int .i64 ((j : Int))) rfl ?_
 refine XL.cons (XOp.indexS (v := x2v) (i := (j : Int)) (n := (froms al).length) j Tryz.runUnderlying22 Tryz.sizeOf2 rfl rfl rfl hx2.slv (by omega) (Nat.mul_one _) ?_)
 refine XL.cons (XOp.load1 (v := .int .i64 ((froms al).getD j 0)) Tryz.isAgg2 rfl (hx2.rd (by omega)) ?_)
 refine XL.cons (XOp.geq (a := (froms al).getD j 0) (b := 0) rfl rfl ?_)
 refine XL.nil ?_
 refine X.condD (p := ((froms al).getD j 0 : Int) ≥ 0) rfl (fun h1 => ?_) (fun h1 => ?_)
 ·refine X.skip (X.block (X.seq (X.region ?_)))
  refine XL.mv (bv) rfl ?_
  refine XL.cons (XOp.fieldP (b := b1) (2) Tryz.runUnderlying169 rfl Tryz.sizeOf55 (by decide) rfl rfl ?_)
  refine XL.cons (XOp.load1 (v := x3v) Tryz.isAgg55 rfl (Rd.own [_, _] rfl rfl) ?_)
  refine XL.mv (.int .i64 ((j : Int))) rfl ?_
  refine XL.cons (XOp.indexS (v := x3v) (i := (j : Int)) (n := (bys al).length) j Tryz.runUnderlying55 Tryz.sizeOf116 rfl rfl rfl hx3.slv (by omega) rfl ?_)
  obtain ⟨a1, ha1, hr1, hr2, hr3⟩ := hx3.rd (i := j) (by omega)
  refine XL.cons (XOp.loadN [.int .i64 (((bys al).getD j (0, 0, [])).1), .int .i64 (((bys al).getD j (0, 0, [])).2.1), a1] Tryz.isAgg116 Tryz.sizeOf116 rfl rfl (Rd.three (hr1 _) (hr2 _) (hr3 _)) ?_)
  refine XL.cons (XOp.buildSlice (s := 3) [.int .i64 (((bys al).getD j (0, 0, [])).1), .int .i64 (((bys al).getD j (0, 0, [])).2.1), a1] [.int .i64 (0), .int .i64 (0), (.slice none 0 0)] [(0, [.int .i64 (((bys al).getD j (0, 0, [])).1), .int .i64 (((bys al).getD j (0, 0, [])).2.1), a1])] Tryz.runUnderlying55 Tryz.sizeOf116 Tryz.zeroValue116 rfl (by decide) rfl (.cons rfl CellsAre.nil) rfl ?_)
  intro v2 hv2
  refine XL.cons (XOp.append (m := 1) (bytes := 40) (cs := bcs) [_] _ [.int .i64 (((bys al).getD j (0, 0, [])).1), .int .i64 (((bys al).getD j (0, 0, [])).2.1), a1] Tryz.runUnderlying55 Tryz.typeInfo116 rfl rfl rfl rfl rfl rfl rfl (SlV.own [] rfl) rfl (Rd.lit [] rfl) (ones_cons rfl (ones_cons rfl (ones_cons (one_sl (IntsF.isSl ha1)) ones_nil))) (by (try simp only [List.length_append, List.length_nil, List.length_cons, List.length_singleton]); omega) (by (try simp only [List.length_append, List.length_nil, List.length_cons, List.length_singleton]); omega) ?_)
  intro v3 hs1 hn1 hm1
  have hc1 := StepsC.snoc hB (i := ((bys al).getD j (0, 0, [])).1) (j := ((bys al).getD j (0, 0, [])).2.1) ha1
  refine XL.as (v3) rfl ?_
  refine XL.nil (X.region ?_)
  refine XL.cons (XOp.fieldP (b := b1) (1) Tryz.runUnderlying169 rfl Tryz.sizeOf22 (by decide) rfl rfl ?_)
  refine XL.cons (XOp.load1 (v := x2v) Tryz.isAgg22 rfl (Rd.own [_, _, _] rfl rfl) ?_)
  refine XL.mv (.int .i64 ((j : Int))) rfl ?_
  refine XL.cons (XOp.indexS (v := x2v) (i := (j : Int)) (n := (froms al).length) j Tryz.runUnderlying22 Tryz.sizeOf2 rfl rfl rfl hx2.slv (by omega) (Nat.mul_one _) ?_)
  refine XL.cons (XOp.load1 (v := .int .i64 ((froms al).getD j 0)) Tryz.isAgg2 rfl (hx2.rd (by omega)) ?_)
  refine XL.as (.int .i64 ((froms al).getD j 0)) rfl ?_
  refine XL.nil ?_
  exact ⟨(((froms al).getD j 0).toNat, v3, bs ++ [(((bys al).getD j (0, 0, [])).1, ((bys al).getD j (0, 0, [])).2.1, ((bys al).getD j (0, 0, [])).2.2)], bcs ++ [.int .i64 (((bys al).getD j (0, 0, [])).1), .int .i64 (((bys al).getD j (0, 0, [])).2.1), a1], (bm) + 1), _, FLe.refl _, rF, ⟨(vI (by have := hljx (by omega); (try dsimp only); omega)), rfl, rfl, rfl, trivial⟩, (Sub.drop (Sub.cons (Sub.cons (Sub.cons sR)))), ⟨rfl, (by have := hljx (by omega); (try dsimp only); omega), (hs1), (hc1), (by (try dsimp only); rw [List.length_append, List.length_singleton]; omega), (by have := hljx (by omega); (try dsimp only); omega), (by (try dsimp only); rw [hbk, backL_succ hlk (by omega) hj, List.append_assoc, bys_get hj, hfj]; rfl)⟩, (by have := hljx (by omega); (try dsimp only); omega)⟩
 ·refine X.exit (thenQ_exit (thenQ_exit (blockQ_exit ?_)))
  refine X.seq (X.region ?_)
  refine XL.cons (XOp.fieldP (b := b1) (0) Tryz.runUnderlying169 rfl Tryz.sizeOf58 (by decide) rfl rfl ?_)
  refine XL.cons (XOp.load1 (v := x1v) Tryz.isAgg58 rfl (Rd.own [_, _] rfl rfl) ?_)
  refine XL.cons (XOp.indexS (v := x1v) (i := 0) (n := (terms al).length) 0 Tryz.runUnderlying58 Tryz.sizeOf22 rfl rfl rfl hx1.slv (by omega) (Nat.mul_one _) ?_)
  obtain ⟨a2, ha2, hr4⟩ := hx1.rd (i := 0) (by omega)
  refine XL.cons (XOp.load1 (v := a2) Tryz.isAgg22 rfl (hr4 _) ?_)
  refine XL.cons (XOp.frzF <| XOp.call (args := [a2]) Tryz.call99 rfl (l1Copy_spec ha2 (hlt := (by first | omega | (rw [hi9 (by omega)]; have := htbi (by omega); omega)))) ?_)
  rintro v4 _ _ _ ⟨rfl, hs2, rfl⟩
  refine ⟨_, _, rfl, fun F1 le1 hz1 => ?_⟩
  replace hx1 := hx1.mono le1
  replace hx2 := hx2.mono le1
  replace hx3 := hx3.mono le1
  replace hx4 := hx4.mono le1
  replace hB := hB.mono le1
  replace ha2 := ha2.mono le1
  replace hr4 := Rd.monoA hr4 le1
  have hf1 : IntsF F1 v4 (((((terms al).getD 0 [])))) := intsH.fz (xs := ((((terms al).getD 0 [])))) hz1.fz
  refine XL.cons (XOp.build [v4, (.slice none 0 0)] [(.slice none 0 0), (.slice none 0 0)] [(0, 1), (1, 1)] [(0, [v4])] Tryz.runUnderlying57 Tryz.zeroValue57 rfl (.cons rfl Tryz.sizeOf22 (.cons rfl Tryz.sizeOf55 PlacesAre.nil)) rfl (.cons (cells_one (IntsF.isSl hf1)) CellsAre.nil) ?_)
  refine XL.cons (XOp.alloc [(.slice none 0 0), (.slice none 0 0)] Tryz.zeroValue57 rfl ?_)
  intro b3
  refine XL.cons (XOp.storeN (vs := [v4, (.slice none 0 0)]) [] _ [v4, (.slice none 0 0)] Tryz.sizeOf57 rfl rfl rfl (ones_cons (one_sl (IntsF.isSl hf1)) (ones_cons rfl ones_nil)) rfl rfl rfl ?_)
  refine XL.nil (X.seq (X.seq (X.region ?_)))
  have hj0 : j = 0 := by omega
  have hssb : bs = backL al k := by rw [hbk, hj0, backL_zero, List.append_nil]
  have htb : ∀ i, i < bs.length → (bs.getD i (0, 0, [])).2.2.length ≤ 60 := fun i hi => by
   obtain ⟨q, hq, he⟩ := backL_mem hlk k k (Nat.le_refl _) hk (bs.getD i (0, 0, [])) (by rw [← hssb]; simp [List.getD, hi])
   rw [he]; exact hbd q hq
  have hbl : bs.length ≤ 60 := by omega
  refine XL.mv (bv) rfl ?_
  refine XL.cons (XOp.lenS (v := bv) (n := bm) Tryz.runUnderlying55 rfl (SlV.own [_] rfl) ?_)
  refine XL.cons (XOp.subR (a := ((bm : Nat) : Int)) (b := 1) ((((bm : Nat) : Int)) - 1) rfl rfl (by omega) (by omega) ?_)
  refine XL.as (.int .i64 ((((bm : Nat) : Int)) - 1)) rfl ?_
  refine XL.nil (X.block ?_)
  refine X.loop (α := Nat × Value × List StepT × List Value × List HP × Nat × FH) (fun xQ => [(4, ptr b2 0), (5, bv), (6, ptr b3 0), (7, .int .i64 ((xQ.1 : Int) - 1))]) (fun xQ => slH 116 3 xQ.2.1 xQ.2.2.2.2.2.1 xQ.2.2.2.1 :: cellsH b3 [v4, xQ.2.1] 57 :: slH 116 3 bv bm bcs :: cellsH b2 [(.slice none 0 0), (.slice none 0 0)] 57 :: cellsH b1 [x1v, x2v, x3v, x4v, .bool (ab)] 169 :: L) (fun xQ F' => xQ.2.2.2.2.2.2 = F' ∧ F1 ≤ xQ.2.2.2.2.2.2 ∧ (xQ.1 ≤ bs.length) ∧ (IsSl xQ.2.1) ∧ (StepsC xQ.2.2.2.2.2.2 xQ.2.2.2.1 xQ.2.2.1) ∧ (xQ.2.2.2.2.2.1 = xQ.2.2.1.length) ∧ (DeepL 3 (StepO 2) xQ.2.2.2.1 xQ.2.2.1 xQ.2.2.2.2.1) ∧ (Fresh F1 xQ.2.2.2.2.2.2 (star xQ.2.2.2.2.1)) ∧ (xQ.2.2.1 = (bs.drop xQ.1).reverse) ∧ (xQ.2.2.2.2.2.1 + xQ.1 = bs.length)) (fun xQ => xQ.1) (bs.length, (.slice none 0 0), [], [], [], 0, F1) ⟨rfl, rfl, rfl, (vI (by (try dsimp only); omega)), trivial⟩ (Sub.trans (Sub.addNil 116 3 _ _) (Sub.cons (Sub.cons (Sub.cons (Sub.cons (Sub.cons sR)))))) ⟨rfl, FLe.refl _, (by (try dsimp only) <;> omega), (⟨_, _, _, rfl⟩), (CO.nil), (rfl), (DeepL.nil), (Fresh.nilL), (by (try dsimp only); simp), (by (try dsimp only); omega)⟩ ?_
  rintro ⟨i, sv, ss, cs, Ls, m, G1⟩ rE _ _ ⟨rfl, leG, hi, hsv, hC, hm, hD, hZ, hss, hmi⟩
  show X _ _ _ _ (envs [(4, ptr b2 0), (5, bv), (6, ptr b3 0), (7, .int .i64 ((i : Int) - 1))] rE) _ (slH 116 3 sv m cs :: cellsH b3 [v4, sv] 57 :: slH 116 3 bv bm bcs :: cellsH b2 [(.slice none 0 0), (.slice none 0 0)] 57 :: cellsH b1 [x1v, x2v, x3v, x4v, .bool (ab)] 169 :: L)
  replace leG : F1 ≤ G1 := leG
  dsimp only at hi hsv hC hm hD hZ hss hmi
  have htbi := htb (i - 1)
  have hi9 : 0 < i → ((i : Int) - 1).toNat = i - 1 := fun h => by omega
  have hdr9 := fun (h : 0 < i) => drop_rev ((0, 0, []) : StepT) (l := bs) (k := i - 1) (by omega)
  have leG1 := leG
  replace hx1 := hx1.mono leG1
  replace hx2 := hx2.mono leG1
  replace hx3 := hx3.mono leG1
  replace hx4 := hx4.mono leG1
  replace hB := hB.mono leG1
  replace ha2 := ha2.mono leG1
  replace hf1 := hf1.mono leG1
  refine X.seq (X.seq (X.region ?_))
  refine XL.mv (.int .i64 ((i : Int) - 1)) rfl ?_
  refine XL.cons (XOp.geq (a := (i : Int) - 1) (b := 0) rfl rfl ?_)
  refine XL.nil ?_
  refine X.condD (p := ((i : Int) - 1 : Int) ≥ 0) rfl (fun h2 => ?_) (fun h2 => ?_)
  ·refine X.skip (X.seq (X.block ?_))
   obtain ⟨a3, ha3, he1, he2, he3⟩ := hB.get (i := ((i : Int) - 1).toNat) (by omega)
   refine X.drawG [slH 116 3 sv m cs, cellsH b3 [v4, sv] 57, slH 116 3 bv bm bcs, cellsH b2 [(.slice none 0 0), (.slice none 0 0)] 57, cellsH b1 [x1v, x2v, x3v, x4v, .bool (ab)] 169] L 20 [[], [], [], [], [], [], [], [], [], [], [], [], [], [], [], [], [], [], [17], [17]] [[], [0], [], [], [2, 3], [4], [5], [], [], [7, 8], [9], [10], [], [], [12, 13], [14], [15], [16], [6, 11, 17], [17, 18]] [[], [], [], [], [], [], [], [], [], [], [], [], [], [], [], [], [], [], [], []] (phiG [fun FF us v => v = ptr b3 1, fun FF us v => v = sv, fun FF us v => v = bv, fun FF us v => v = (.int .i64 ((i : Int) - 1) : Value), fun FF us v => v = (.pointer (some (elemA bv ((((i : Int) - 1).toNat) * 3))) : Value), fun FF us v => v = (.pointer (some (elemA bv ((((i : Int) - 1).toNat) * 3))) : Value), fun FF us v => v = (.int .i64 ((bs.getD (((i : Int) - 1).toNat) (0, 0, [])).1) : Value), fun FF us v => v = bv, fun FF us v => v = (.int .i64 ((i : Int) - 1) : Value), fun FF us v => v = (.pointer (some (elemA bv ((((i : Int) - 1).toNat) * 3))) : Value), fun FF us v => v = (.pointer (some (elemA bv ((((i : Int) - 1).toNat) * 3 + 1))) : Value), fun FF us v => v = (.int .i64 ((bs.getD (((i : Int) - 1).toNat) (0, 0, [])).2.1) : Value), fun FF us v => v = bv, fun FF us v => v = (.int .i64 ((i : Int) - 1) : Value), fun FF us v => v = (.pointer (some (elemA bv ((((i : Int) - 1).toNat) * 3))) : Value), fun FF us v => v = (.pointer (some (elemA bv ((((i : Int) - 1).toNat) * 3 + 2))) : Value), fun FF us v => v = a3, fun FF us v => ((v) : Value) = v ∧ (IntsF FF (v) (((bs.getD (((i : Int) - 1).toNat) (0, 0, [])).2.2))) ∧ (FrIntsF G1 FF 2 (v) (((bs.getD (((i : Int) - 1).toNat) (0, 0, [])).2.2))), fun FF us v => v = (.agg #[.int .i64 ((bs.getD (((i : Int) - 1).toNat) (0, 0, [])).1), .int .i64 ((bs.getD (((i : Int) - 1).toNat) (0, 0, [])).2.1), ((us.getD 0 undef))] : Value), fun FF us v => ∃ b, v = .slice (some ⟨b, 0, none⟩) 1 1]) (ownL [fun us v => [], fun us v => [], fun us v => [], fun us v => [], fun us v => [], fun us v => [], fun us v => [], fun us v => [], fun us v => [], fun us v => [], fun us v => [], fun us v => [], fun us v => [], fun us v => [], fun us v => [], fun us v => [], fun us v => [], fun us v => [], fun us v => [], fun us v => [slH 116 3 v 1 [.int .i64 ((bs.getD (((i : Int) - 1).toNat) (0, 0, [])).1), .int .i64 ((bs.getD (((i : Int) - 1).toNat) (0, 0, [])).2.1), ((us.getD 0 undef))]]]) mixed rfl rfl (by kernel_rfl) (by kernel_rfl) (MonoG.get (MonoG.cons (fun le h => h) (MonoG.cons (fun le h => h) (MonoG.cons (fun le h => h) (MonoG.cons (fun le h => h) (MonoG.cons (fun le h => h) (MonoG.cons (fun le h => h) (MonoG.cons (fun le h => h) (MonoG.cons (fun le h => h) (MonoG.cons (fun le h => h) (MonoG.cons (fun le h => h) (MonoG.cons (fun le h => h) (MonoG.cons (fun le h => h) (MonoG.cons (fun le h => h) (MonoG.cons (fun le h => h) (MonoG.cons (fun le h => h) (MonoG.cons (fun le h => h) (MonoG.cons (fun le h => h) (MonoG.cons (fun le h => ⟨h.1, h.2.1.mono le, h.2.2.mono le⟩) (MonoG.cons (fun le h => h) (MonoG.cons (fun le h => h) MonoG.nil))))))))))))))))))))) ?_ ?_
   ·refine stepsG.cons (fun vals Fs R leFs hpZ => ?_) ?_
    ·refine XG.op (XOp.fieldP (b := b3) (1) Tryz.runUnderlying57 rfl Tryz.sizeOf55 (by decide) rfl rfl ?_)
     exact ⟨rfl, rfl⟩
    refine stepsG.cons (fun vals Fs R leFs hpZ => ?_) ?_
    ·replace hx1 := hx1.mono leFs
     replace hx2 := hx2.mono leFs
     replace hx3 := hx3.mono leFs
     replace hx4 := hx4.mono leFs
     replace hB := hB.mono leFs
     replace ha2 := ha2.mono leFs
     replace hf1 := hf1.mono leFs
     replace hC := hC.mono leFs
     replace ha3 := ha3.mono leFs
     rw [eS (l := [(0, ptr b3 1)]) ⟨(hpZ 0 (by decide)), trivial⟩]
     refine XG.op (XOp.load1 (v := sv) Tryz.isAgg55 rfl (Rd.own [_] rfl rfl) ?_)
     exact ⟨rfl, rfl⟩
    refine stepsG.cons (fun vals Fs R leFs hpZ => ?_) ?_
    ·refine XG.op (XOp.move (bv) rfl ?_)
     exact ⟨rfl, rfl⟩
    refine stepsG.cons (fun vals Fs R leFs hpZ => ?_) ?_
    ·refine XG.op (XOp.move (.int .i64 ((i : Int) - 1)) rfl ?_)
     exact ⟨rfl, rfl⟩
    refine stepsG.cons (fun vals Fs R leFs hpZ => ?_) ?_
    ·replace hx1 := hx1.mono leFs
     replace hx2 := hx2.mono leFs
     replace hx3 := hx3.mono leFs
     replace hx4 := hx4.mono leFs
     replace hB := hB.mono leFs
     replace ha2 := ha2.mono leFs
     replace hf1 := hf1.mono leFs
     replace hC := hC.mono leFs
     replace ha3 := ha3.mono leFs
     rw [eS (l := [(2, bv), (3, (.int .i64 ((i : Int) - 1) : Value))]) ⟨(hpZ 2 (by decide)), (hpZ 3 (by decide)), trivial⟩]
     refine XG.op (XOp.indexS (v := bv) (i := (i : Int) - 1) (n := bm) (((i : Int) - 1).toNat) Tryz.runUnderlying55 Tryz.sizeOf116 rfl rfl (by omega) (SlV.own [_, _] rfl) (by omega) rfl ?_)
     exact ⟨rfl, rfl⟩
    refine stepsG.cons (fun vals Fs R leFs hpZ => ?_) ?_
    ·rw [eS (l := [(4, (.pointer (some (elemA bv ((((i : Int) - 1).toNat) * 3))) : Value))]) ⟨(hpZ 4 (by decide)), trivial⟩]
     refine XG.op (XOp.fieldE (v := bv) ((((i : Int) - 1).toNat) * 3) Tryz.runUnderlying116 rfl Tryz.sizeOf2 (by decide) rfl rfl ?_)
     exact ⟨rfl, rfl⟩
    refine stepsG.cons (fun vals Fs R leFs hpZ => ?_) ?_
    ·replace hx1 := hx1.mono leFs
     replace hx2 := hx2.mono leFs
     replace hx3 := hx3.mono leFs
     replace hx4 := hx4.mono leFs
     replace hB := hB.mono leFs
     replace ha2 := ha2.mono leFs
     replace hf1 := hf1.mono leFs
     replace hC := hC.mono leFs
     replace ha3 := ha3.mono leFs
     rw [eS (l := [(5, (.pointer (some (elemA bv ((((i : Int) - 1).toNat) * 3))) : Value))]) ⟨(hpZ 5 (by decide)), trivial⟩]
     refine XG.op (XOp.load1 (v := .int .i64 ((bs.getD (((i : Int) - 1).toNat) (0, 0, [])).1)) Tryz.isAgg2 rfl (Rd.sl [_, _] rfl he1) ?_)
     exact ⟨rfl, rfl⟩
    refine stepsG.cons (fun vals Fs R leFs hpZ => ?_) ?_
    ·refine XG.op (XOp.move (bv) rfl ?_)
     exact ⟨rfl, rfl⟩
    refine stepsG.cons (fun vals Fs R leFs hpZ => ?_) ?_
    ·refine XG.op (XOp.move (.int .i64 ((i : Int) - 1)) rfl ?_)
     exact ⟨rfl, rfl⟩
    refine stepsG.cons (fun vals Fs R leFs hpZ => ?_) ?_
    ·replace hx1 := hx1.mono leFs
     replace hx2 := hx2.mono leFs
     replace hx3 := hx3.mono leFs
     replace hx4 := hx4.mono leFs
     replace hB := hB.mono leFs
     replace ha2 := ha2.mono leFs
     replace hf1 := hf1.mono leFs
     replace hC := hC.mono leFs
     replace ha3 := ha3.mono leFs
     rw [eS (l := [(7, bv), (8, (.int .i64 ((i : Int) - 1) : Value))]) ⟨(hpZ 7 (by decide)), (hpZ 8 (by decide)), trivial⟩]
     refine XG.op (XOp.indexS (v := bv) (i := (i : Int) - 1) (n := bm) (((i : Int) - 1).toNat) Tryz.runUnderlying55 Tryz.sizeOf116 rfl rfl (by omega) (SlV.own [_, _] rfl) (by omega) rfl ?_)
     exact ⟨rfl, rfl⟩
    refine stepsG.cons (fun vals Fs R leFs hpZ => ?_) ?_
    ·rw [eS (l := [(9, (.pointer (some (elemA bv ((((i : Int) - 1).toNat) * 3))) : Value))]) ⟨(hpZ 9 (by decide)), trivial⟩]
     refine XG.op (XOp.fieldE (v := bv) ((((i : Int) - 1).toNat) * 3 + 1) Tryz.runUnderlying116 rfl Tryz.sizeOf2 (by decide) rfl rfl ?_)
     exact ⟨rfl, rfl⟩
    refine stepsG.cons (fun vals Fs R leFs hpZ => ?_) ?_
    ·replace hx1 := hx1.mono leFs
     replace hx2 := hx2.mono leFs
     replace hx3 := hx3.mono leFs
     replace hx4 := hx4.mono leFs
     replace hB := hB.mono leFs
     replace ha2 := ha2.mono leFs
     replace hf1 := hf1.mono leFs
     replace hC := hC.mono leFs
     replace ha3 := ha3.mono leFs
     rw [eS (l := [(10, (.pointer (some (elemA bv ((((i : Int) - 1).toNat) * 3 + 1))) : Value))]) ⟨(hpZ 10 (by decide)), trivial⟩]
     refine XG.op (XOp.load1 (v := .int .i64 ((bs.getD (((i : Int) - 1).toNat) (0, 0, [])).2.1)) Tryz.isAgg2 rfl (Rd.sl [_, _] rfl he2) ?_)
     exact ⟨rfl, rfl⟩
    refine stepsG.cons (fun vals Fs R leFs hpZ => ?_) ?_
    ·refine XG.op (XOp.move (bv) rfl ?_)
     exact ⟨rfl, rfl⟩
    refine stepsG.cons (fun vals Fs R leFs hpZ => ?_) ?_
    ·refine XG.op (XOp.move (.int .i64 ((i : Int) - 1)) rfl ?_)
     exact ⟨rfl, rfl⟩
    refine stepsG.cons (fun vals Fs R leFs hpZ => ?_) ?_
    ·replace hx1 := hx1.mono leFs
     replace hx2 := hx2.mono leFs
     replace hx3 := hx3.mono leFs
     replace hx4 := hx4.mono leFs
     replace hB := hB.mono leFs
     replace ha2 := ha2.mono leFs
     replace hf1 := hf1.mono leFs
     replace hC := hC.mono leFs
     replace ha3 := ha3.mono leFs
     rw [eS (l := [(12, bv), (13, (.int .i64 ((i : Int) - 1) : Value))]) ⟨(hpZ 12 (by decide)), (hpZ 13 (by decide)), trivial⟩]
     refine XG.op (XOp.indexS (v := bv) (i := (i : Int) - 1) (n := bm) (((i : Int) - 1).toNat) Tryz.runUnderlying55 Tryz.sizeOf116 rfl rfl (by omega) (SlV.own [_, _] rfl) (by omega) rfl ?_)
     exact ⟨rfl, rfl⟩
    refine stepsG.cons (fun vals Fs R leFs hpZ => ?_) ?_
    ·rw [eS (l := [(14, (.pointer (some (elemA bv ((((i : Int) - 1).toNat) * 3))) : Value))]) ⟨(hpZ 14 (by decide)), trivial⟩]
     refine XG.op (XOp.fieldE (v := bv) ((((i : Int) - 1).toNat) * 3 + 2) Tryz.runUnderlying116 rfl Tryz.sizeOf22 (by decide) rfl rfl ?_)
     exact ⟨rfl, rfl⟩
    refine stepsG.cons (fun vals Fs R leFs hpZ => ?_) ?_
    ·replace hx1 := hx1.mono leFs
     replace hx2 := hx2.mono leFs
     replace hx3 := hx3.mono leFs
     replace hx4 := hx4.mono leFs
     replace hB := hB.mono leFs
     replace ha2 := ha2.mono leFs
     replace hf1 := hf1.mono leFs
     replace hC := hC.mono leFs
     replace ha3 := ha3.mono leFs
     rw [eS (l := [(15, (.pointer (some (elemA bv ((((i : Int) - 1).toNat) * 3 + 2))) : Value))]) ⟨(hpZ 15 (by decide)), trivial⟩]
     refine XG.op (XOp.load1 (v := a3) Tryz.isAgg22 rfl (Rd.sl [_, _] rfl he3) ?_)
     exact ⟨rfl, rfl⟩
    refine stepsG.cons (fun vals Fs R leFs hpZ => ?_) ?_
    ·replace hx1 := hx1.mono leFs
     replace hx2 := hx2.mono leFs
     replace hx3 := hx3.mono leFs
     replace hx4 := hx4.mono leFs
     replace hB := hB.mono leFs
     replace ha2 := ha2.mono leFs
     replace hf1 := hf1.mono leFs
     replace hC := hC.mono leFs
     replace ha3 := ha3.mono leFs
     rw [eS (l := [(16, a3)]) ⟨(hpZ 16 (by decide)), trivial⟩]
     refine XG.op (XOp.frzF <| XOp.call (args := [a3]) Tryz.call99 rfl (l1Copy_spec ha3 (hlt := (by first | omega | (rw [hi9 (by omega)]; have := htbi (by omega); omega)))) ?_)
     rintro v7 _ _ _ ⟨rfl, hs4, rfl⟩
     refine ⟨_, _, rfl, fun F2 le2 hz2 => ?_⟩
     replace hx1 := hx1.mono le2
     replace hx2 := hx2.mono le2
     replace hx3 := hx3.mono le2
     replace hx4 := hx4.mono le2
     replace hB := hB.mono le2
     replace ha2 := ha2.mono le2
     replace hf1 := hf1.mono le2
     replace hC := hC.mono le2
     replace ha3 := ha3.mono le2
     have hf2 : IntsF F2 v7 ((((bs.getD (((i : Int) - 1).toNat) (0, 0, [])).2.2))) := intsH.fz (xs := (((bs.getD (((i : Int) - 1).toNat) (0, 0, [])).2.2))) hz2.fz
     exact ⟨⟨rfl, hf2, (hz2.base leFs)⟩, rfl⟩
    refine stepsG.cons (fun vals Fs R leFs hpZ => ?_) ?_
    ·obtain ⟨e17, f17_1ha, f17_1hz⟩ := hpZ 17 (by decide)
     replace hx1 := hx1.mono leFs
     replace hx2 := hx2.mono leFs
     replace hx3 := hx3.mono leFs
     replace hx4 := hx4.mono leFs
     replace hB := hB.mono leFs
     replace ha2 := ha2.mono leFs
     replace hf1 := hf1.mono leFs
     replace hC := hC.mono leFs
     replace ha3 := ha3.mono leFs
     rw [eS (l := [(6, (.int .i64 ((bs.getD (((i : Int) - 1).toNat) (0, 0, [])).1) : Value)), (11, (.int .i64 ((bs.getD (((i : Int) - 1).toNat) (0, 0, [])).2.1) : Value)), (17, ((vals 17)))]) ⟨(hpZ 6 (by decide)), (hpZ 11 (by decide)), (e17).symm, trivial⟩]
     refine XG.op (XOp.build [.int .i64 ((bs.getD (((i : Int) - 1).toNat) (0, 0, [])).1), .int .i64 ((bs.getD (((i : Int) - 1).toNat) (0, 0, [])).2.1), ((vals 17))] [.int .i64 (0), .int .i64 (0), (.slice none 0 0)] [(0, 1), (1, 1), (2, 1)] [(0, [.int .i64 ((bs.getD (((i : Int) - 1).toNat) (0, 0, [])).1)]), (1, [.int .i64 ((bs.getD (((i : Int) - 1).toNat) (0, 0, [])).2.1)]), (2, [((vals 17))])] Tryz.runUnderlying116 Tryz.zeroValue116 rfl (.cons rfl Tryz.sizeOf2 (.cons rfl Tryz.sizeOf2 (.cons rfl Tryz.sizeOf22 PlacesAre.nil))) rfl (.cons rfl (.cons rfl (.cons (cells_one (IntsF.isSl f17_1ha)) CellsAre.nil))) ?_)
     exact ⟨rfl, rfl⟩
    refine stepsG.cons (fun vals Fs R leFs hpZ => ?_) ?_
    ·obtain ⟨e17, f17_1ha, f17_1hz⟩ := hpZ 17 (by decide)
     have e18 : vals 18 = (.agg #[.int .i64 ((bs.getD (((i : Int) - 1).toNat) (0, 0, [])).1), .int .i64 ((bs.getD (((i : Int) - 1).toNat) (0, 0, [])).2.1), ((vals 17))] : Value) := hpZ 18 (by decide)
     replace hx1 := hx1.mono leFs
     replace hx2 := hx2.mono leFs
     replace hx3 := hx3.mono leFs
     replace hx4 := hx4.mono leFs
     replace hB := hB.mono leFs
     replace ha2 := ha2.mono leFs
     replace hf1 := hf1.mono leFs
     replace hC := hC.mono leFs
     replace ha3 := ha3.mono leFs
     rw [eS (l := [(17, ((vals 17))), (18, (.agg #[.int .i64 ((bs.getD (((i : Int) - 1).toNat) (0, 0, [])).1), .int .i64 ((bs.getD (((i : Int) - 1).toNat) (0, 0, [])).2.1), ((vals 17))] : Value))]) ⟨(e17).symm, e18, trivial⟩]
     refine XG.op (XOp.buildSlice (s := 3) [.int .i64 ((bs.getD (((i : Int) - 1).toNat) (0, 0, [])).1), .int .i64 ((bs.getD (((i : Int) - 1).toNat) (0, 0, [])).2.1), ((vals 17))] [.int .i64 (0), .int .i64 (0), (.slice none 0 0)] [(0, [.int .i64 ((bs.getD (((i : Int) - 1).toNat) (0, 0, [])).1), .int .i64 ((bs.getD (((i : Int) - 1).toNat) (0, 0, [])).2.1), ((vals 17))])] Tryz.runUnderlying55 Tryz.sizeOf116 Tryz.zeroValue116 rfl (by decide) rfl (.cons rfl CellsAre.nil) rfl ?_)
     intro v8 hv4
     exact ⟨hv4, rfl⟩
    exact stepsG.nil
   ·intro vals F3 le3 hphi
    obtain ⟨e17, f17_1ha, f17_1hz⟩ := hphi 17 (by decide)
    have e18 : vals 18 = (.agg #[.int .i64 ((bs.getD (((i : Int) - 1).toNat) (0, 0, [])).1), .int .i64 ((bs.getD (((i : Int) - 1).toNat) (0, 0, [])).2.1), ((vals 17))] : Value) := hphi 18 (by decide)
    have f19 : ∃ b, (vals 19) = .slice (some ⟨b, 0, none⟩) 1 1 := hphi 19 (by decide)
    generalize hu1 : ((vals 17)) = u1 at e17 f17_1ha f17_1hz e18 f19
    generalize hu19 : vals 19 = u2 at e17 f17_1ha f17_1hz e18 f19
    rw [eS (l := [(0, ptr b3 1), (1, sv), (2, bv), (3, (.int .i64 ((i : Int) - 1) : Value)), (4, (.pointer (some (elemA bv ((((i : Int) - 1).toNat) * 3))) : Value)), (5, (.pointer (some (elemA bv ((((i : Int) - 1).toNat) * 3))) : Value)), (6, (.int .i64 ((bs.getD (((i : Int) - 1).toNat) (0, 0, [])).1) : Value)), (7, bv), (8, (.int .i64 ((i : Int) - 1) : Value)), (9, (.pointer (some (elemA bv ((((i : Int) - 1).toNat) * 3))) : Value)), (10, (.pointer (some (elemA bv ((((i : Int) - 1).toNat) * 3 + 1))) : Value)), (11, (.int .i64 ((bs.getD (((i : Int) - 1).toNat) (0, 0, [])).2.1) : Value)), (12, bv), (13, (.int .i64 ((i : Int) - 1) : Value)), (14, (.pointer (some (elemA bv ((((i : Int) - 1).toNat) * 3))) : Value)), (15, (.pointer (some (elemA bv ((((i : Int) - 1).toNat) * 3 + 2))) : Value)), (16, a3), (17, u1), (18, (.agg #[.int .i64 ((bs.getD (((i : Int) - 1).toNat) (0, 0, [])).1), .int .i64 ((bs.getD (((i : Int) - 1).toNat) (0, 0, [])).2.1), u1] : Value)), (19, u2)]) ⟨(hphi 0 (by decide)), (hphi 1 (by decide)), (hphi 2 (by decide)), (hphi 3 (by decide)), (hphi 4 (by decide)), (hphi 5 (by decide)), (hphi 6 (by decide)), (hphi 7 (by decide)), (hphi 8 (by decide)), (hphi 9 (by decide)), (hphi 10 (by decide)), (hphi 11 (by decide)), (hphi 12 (by decide)), (hphi 13 (by decide)), (hphi 14 (by decide)), (hphi 15 (by decide)), (hphi 16 (by decide)), hu1, e18, hu19, trivial⟩]
    replace hx1 := hx1.mono le3
    replace hx2 := hx2.mono le3
    replace hx3 := hx3.mono le3
    replace hx4 := hx4.mono le3
    replace hB := hB.mono le3
    replace ha2 := ha2.mono le3
    replace hf1 := hf1.mono le3
    replace hC := hC.mono le3
    replace ha3 := ha3.mono le3
    show XL _ _ _ _ _ _ _ (slH 116 3 u2 1 [.int .i64 ((bs.getD (((i : Int) - 1).toNat) (0, 0, [])).1), .int .i64 ((bs.getD (((i : Int) - 1).toNat) (0, 0, [])).2.1), u1] :: slH 116 3 sv m cs :: cellsH b3 [v4, sv] 57 :: slH 116 3 bv bm bcs :: cellsH b2 [(.slice none 0 0), (.slice none 0 0)] 57 :: cellsH b1 [x1v, x2v, x3v, x4v, .bool (ab)] 169 :: L)
    refine XL.cons (XOp.append (m := 1) (bytes := 40) (cs := cs) [_] _ [.int .i64 ((bs.getD (((i : Int) - 1).toNat) (0, 0, [])).1), .int .i64 ((bs.getD (((i : Int) - 1).toNat) (0, 0, [])).2.1), u1] Tryz.runUnderlying55 Tryz.typeInfo116 rfl rfl rfl rfl rfl rfl rfl (SlV.own [] rfl) rfl (Rd.lit [] rfl) (ones_cons rfl (ones_cons rfl (ones_cons (one_sl (IntsF.isSl f17_1ha)) ones_nil))) (by (try simp only [List.length_append, List.length_nil, List.length_cons, List.length_singleton]); omega) (by (try simp only [List.length_append, List.length_nil, List.length_cons, List.length_singleton]); omega) ?_)
    intro v9 hs5 hn2 hm2
    have hc2 := StepsC.snoc hC (i := (bs.getD (((i : Int) - 1).toNat) (0, 0, [])).1) (j := (bs.getD (((i : Int) - 1).toNat) (0, 0, [])).2.1) f17_1ha
    skip
    refine XL.cons (XOp.fieldP (b := b3) (1) Tryz.runUnderlying57 rfl Tryz.sizeOf55 (by decide) rfl rfl ?_)
    refine XL.cons (XOp.store1 (v := v9) [_, _] _ [v4, v9] Tryz.sizeOf55 rfl rfl (one_sl hs5) rfl rfl rfl ?_)
    refine XL.nil (X.region ?_)
    refine XL.mv (.int .i64 ((i : Int) - 1)) rfl ?_
    refine XL.cons (XOp.subR (a := (i : Int) - 1) (b := 1) (((i : Int) - 1) - 1) rfl rfl (by omega) (by omega) ?_)
    refine XL.as (.int .i64 (((i : Int) - 1) - 1)) rfl ?_
    refine XL.nil ?_
    exact ⟨(i - 1, v9, ss ++ [((bs.getD (((i : Int) - 1).toNat) (0, 0, [])).1, (bs.getD (((i : Int) - 1).toNat) (0, 0, [])).2.1, (((bs.getD (((i : Int) - 1).toNat) (0, 0, [])).2.2)))], cs ++ [.int .i64 ((bs.getD (((i : Int) - 1).toNat) (0, 0, [])).1), .int .i64 ((bs.getD (((i : Int) - 1).toNat) (0, 0, [])).2.1), u1], Ls ++ [intsH 2 u1 ((((bs.getD (((i : Int) - 1).toNat) (0, 0, [])).2.2)))], (m) + 1, F3), _, (FLe.trans leG1 le3), rF, ⟨rfl, rfl, rfl, (vI (by (try dsimp only); omega)), trivial⟩, (Sub.drop (Sub.cons (Sub.cons (Sub.cons (Sub.cons (Sub.cons sR)))))), ⟨rfl, (FLe.trans leG1 le3), (by (try dsimp only) <;> omega), (hs5), (hc2), (by (try dsimp only); rw [List.length_append]; simp only [List.length_singleton]; omega), (DeepL.snoc hD rfl ⟨_, rfl, rfl⟩), ((Fresh.app hZ leG1 (Fresh.one f17_1hz) le3)), (by (try dsimp only); have h9 := hdr9 (by omega); rw [show i - 1 + 1 = i from by omega] at h9; rw [hss, h9, hi9 (by omega)]), (by (try dsimp only); omega)⟩, (by (try dsimp only); omega)⟩
  ·refine X.exit (thenQ_exit (thenQ_exit (blockQ_exit ?_)))
   refine X.seq (X.region ?_)
   refine XL.cons (XOp.loadN [v4, sv] Tryz.isAgg57 Tryz.sizeOf57 rfl rfl (Rd.ownN [_] rfl rfl) ?_)
   refine XL.cons (XOp.storeN (vs := [v4, sv]) [_, _, _] _ [v4, sv] Tryz.sizeOf57 rfl rfl rfl (ones_cons (one_sl (IntsF.isSl hf1)) (ones_cons (one_sl hsv) ones_nil)) rfl rfl rfl ?_)
   refine XL.nil ?_
   refine X.freezeF [] _ _ rfl (fun F4 le4 hz3 => ?_)
   replace hx1 := hx1.mono le4
   replace hx2 := hx2.mono le4
   replace hx3 := hx3.mono le4
   replace hx4 := hx4.mono le4
   replace hB := hB.mono le4
   replace ha2 := ha2.mono le4
   replace hf1 := hf1.mono le4
   replace hC := hC.mono le4
   have hf3 : StepsF F4 sv ss := CO.fz hC (by first | rfl | simp | omega) hz3.fz
   refine X.ret (retEnd (L' := L) [.agg #[v4, sv]] (.agg #[v4, sv]) (.cell rfl (loadNV [v4, sv] Tryz.isAgg57 Tryz.sizeOf57 rfl (Rd.ownN [_, _] rfl rfl)) .nil) rfl (FLe.trans (FLe.trans le1 leG1) le4) rF (Sub.drop (Sub.drop (Sub.drop (Sub.drop sR)))) ?_)
   have e9 : ss = walkL al k := by rw [hss, show i = 0 from by omega, List.drop_zero, hssb]; rfl
   rw [← e9, ← terms_get 0]
   exact ⟨_, _, rfl, hf1, hf3, (Fresh.app (Fresh.one hz1) le1 (Fresh.one (Fresh.deep hD hZ leG1 hz3 (by omega) le4)) (FLe.trans leG1 le4)), rfl⟩

/- spec.WalkTo -/
set_option maxRecDepth 20000 in
theorem sWalkTo_spec {F : FH} {L : List HP} {arv : Value} {ar : List Int} (har : IntsF F arv ar) {rsv : Value} {rs : List (List Int × List Int)} (hrs : PairsF F rsv rs) {tv : Value} {t : List Int} (ht : IntsF F tv t) {uv : Value} {u : List Int} (hu : IntsF F uv u) {n : Int} (hla : ar.length ≤ 4000000) (hlr : rs.length ≤ 4000000) (hrb : ∀ i, i < rs.length → (rs.getD i ([], [])).1.length ≤ 4000000 ∧ (rs.getD i ([], [])).2.length ≤ 4000000) (hlt : t.length ≤ 4000000) (hlu : u.length ≤ 4000000) :
    Does Tryz.prog 75 [.agg #[arv, rsv], tv, uv, .int .i64 (n)] F (L) (fun v F' L' => ∃ (a : Value), ∃ (b : Value), (.tuple #[.agg #[a, b], .bool ((walkToF ar rs t u n).2.2)] : Value) = v ∧ (IntsF F' a (walkToF ar rs t u n).1) ∧ (StepsF F' b (walkToF ar rs t u n).2.1) ∧ (Fresh F F' (star [intsH 2 a (walkToF ar rs t u n).1, stepsD 2 116 b (walkToF ar rs t u n).2.1])) ∧ L = L') := by
 refine Does.of_X Tryz.func75 rfl rfl rfl ?_
 refine X.seq (X.region ?_)
 refine XL.cons (XOp.box [arv, rsv] rfl rfl ?_)
 intro b1
 refine XL.cons (XOp.alloc [(.slice none 0 0), (.slice none 0 0)] Tryz.zeroValue57 rfl ?_)
 intro b2
 refine XL.as (.bool (false)) rfl ?_
 refine XL.nil (X.seq (X.seq (X.region ?_)))
 refine XL.cons (XOp.loadN [arv, rsv] Tryz.isAgg37 Tryz.sizeOf37 rfl rfl (Rd.ownN [_] rfl rfl) ?_)
 refine XL.mv (tv) rfl ?_
 refine XL.mv (.int .i64 (n)) rfl ?_
 refine XL.cons (XOp.call (args := [.agg #[arv, rsv], tv, .int .i64 (n)]) Tryz.call140 rfl (l9Right_spec (n := n) har hrs ht (hla := (by first | assumption | rfl | omega | simp)) (hlr := (by first | assumption | rfl | omega | simp)) (hrb := (by first | assumption | rfl | omega | simp)) (hlt := (by first | assumption | rfl | omega | simp))) ?_)
 rintro _ _ _ _ ⟨rfl, rfl, rfl⟩
 refine XL.cons (XOp.notB (b := reachOkL ar rs n [t]) rfl ?_)
 refine XL.mv (.bool (!(reachOkL ar rs n [t]))) rfl ?_
 by_cases h1 : (!(reachOkL ar rs n [t])) = true
 ·have hro : reachOkL ar rs n [t, u] = false := by rw [reachOk2]; simp_all
  refine XL.no (t := 17) rfl (vB h1) ?_
  refine XL.no (t := 17) rfl (vB h1) ?_
  refine XL.no (t := 17) rfl (vB h1) ?_
  refine XL.no (t := 17) rfl (vB h1) ?_
  refine XL.no (t := 17) rfl (vB h1) ?_
  refine XL.cons (XOp.pickT (.bool (true)) (vB h1) rfl ?_)
  refine XL.nil ?_
  refine X.condT rfl ?_
  refine X.seq (X.region ?_)
  refine XL.cons (XOp.build [(.slice none 0 0), (.slice none 0 0)] [(.slice none 0 0), (.slice none 0 0)] [(0, 1), (1, 1)] [] Tryz.runUnderlying57 Tryz.zeroValue57 rfl (.cons rfl Tryz.sizeOf22 (.cons rfl Tryz.sizeOf55 PlacesAre.nil)) rfl CellsAre.nil ?_)
  refine XL.cons (XOp.storeN (vs := [(.slice none 0 0), (.slice none 0 0)]) [] _ [(.slice none 0 0), (.slice none 0 0)] Tryz.sizeOf57 rfl rfl rfl (ones_cons rfl (ones_cons rfl ones_nil)) rfl rfl rfl ?_)
  refine XL.as (.bool (false)) rfl ?_
  refine XL.nil ?_
  refine X.ret (thenQ_ret (retEnd (L' := L) [.agg #[(.slice none 0 0), (.slice none 0 0)], .bool (false)] (.tuple #[.agg #[(.slice none 0 0), (.slice none 0 0)], .bool (false)]) (.cell rfl (loadNV [(.slice none 0 0), (.slice none 0 0)] Tryz.isAgg57 Tryz.sizeOf57 rfl (Rd.ownN [] rfl rfl)) (.tmp rfl .nil)) rfl rF rF (Sub.drop (Sub.drop sR)) ?_))
  have e : walkToF ar rs t u n = ([], [], false) := walkToF_no hro
  exact ⟨_, _, by rw [e], by rw [e]; exact IntsF.nilV, by rw [e]; exact SlOf.nilV, by rw [e]; exact Fresh.empty nilWalk, rfl⟩
 ·rw [Bool.not_eq_true] at h1
  refine XL.yes (t := 17) rfl (vB h1) (XOp.loadN [arv, rsv] Tryz.isAgg37 Tryz.sizeOf37 rfl rfl (Rd.ownN [_] rfl rfl) ?_)
  refine XL.yes (t := 17) rfl (vB h1) (XOp.move (uv) rfl ?_)
  refine XL.yes (t := 17) rfl (vB h1) (XOp.move (.int .i64 (n)) rfl ?_)
  refine XL.yes (t := 17) rfl (vB h1) (XOp.call (args := [.agg #[arv, rsv], uv, .int .i64 (n)]) Tryz.call140 rfl (l9Right_spec (n := n) har hrs hu (hla := (by first | assumption | rfl | omega | simp)) (hlr := (by first | assumption | rfl | omega | simp)) (hrb := (by first | assumption | rfl | omega | simp)) (hlt := (by first | assumption | rfl | omega | simp))) ?_)
  rintro _ _ _ _ ⟨rfl, rfl, rfl⟩
  refine XL.yes (t := 17) rfl (vB h1) (XOp.notB (b := reachOkL ar rs n [u]) rfl ?_)
  refine XL.cons (XOp.pickF (.bool (!(reachOkL ar rs n [u]))) (vB h1) rfl ?_)
  refine XL.nil ?_
  refine X.cond (t := !(reachOkL ar rs n [u])) rfl (fun h2 => ?_) (fun h2 => ?_)
  ·have hro : reachOkL ar rs n [t, u] = false := by rw [reachOk2]; simp_all
   refine X.seq (X.region ?_)
   refine XL.cons (XOp.build [(.slice none 0 0), (.slice none 0 0)] [(.slice none 0 0), (.slice none 0 0)] [(0, 1), (1, 1)] [] Tryz.runUnderlying57 Tryz.zeroValue57 rfl (.cons rfl Tryz.sizeOf22 (.cons rfl Tryz.sizeOf55 PlacesAre.nil)) rfl CellsAre.nil ?_)
   refine XL.cons (XOp.storeN (vs := [(.slice none 0 0), (.slice none 0 0)]) [] _ [(.slice none 0 0), (.slice none 0 0)] Tryz.sizeOf57 rfl rfl rfl (ones_cons rfl (ones_cons rfl ones_nil)) rfl rfl rfl ?_)
   refine XL.as (.bool (false)) rfl ?_
   refine XL.nil ?_
   refine X.ret (thenQ_ret (retEnd (L' := L) [.agg #[(.slice none 0 0), (.slice none 0 0)], .bool (false)] (.tuple #[.agg #[(.slice none 0 0), (.slice none 0 0)], .bool (false)]) (.cell rfl (loadNV [(.slice none 0 0), (.slice none 0 0)] Tryz.isAgg57 Tryz.sizeOf57 rfl (Rd.ownN [] rfl rfl)) (.tmp rfl .nil)) rfl rF rF (Sub.drop (Sub.drop sR)) ?_))
   have e : walkToF ar rs t u n = ([], [], false) := walkToF_no hro
   exact ⟨_, _, by rw [e], by rw [e]; exact IntsF.nilV, by rw [e]; exact SlOf.nilV, by rw [e]; exact Fresh.empty nilWalk, rfl⟩
  ·have hro : reachOkL ar rs n [t, u] = true := by rw [reachOk2]; simp_all
   have hr3 := reachOk2_iff.1 hro
   have hsys := hr3.1.1
   have ho := hr3.1.2.1
   have hou := hr3.1.2.2
   have hn20 := hr3.2
   have hgd := reachL_good (ar := ar) (rs := rs) (t := t) (n := n) hn20.1
   have hrk := reachL_ok (n := n) hsys ho
   have hrl := hrk.1
   have hrd : ∀ i, i < (reachL ar rs t n).1.length → (EL (reachL ar rs t n).1 i).1.length ≤ 60 := fun i hi => (termOk_len (hrk.2 i hi)).2
   have htz : (terms (reachL ar rs t n).1).length = (reachL ar rs t n).1.length := terms_len
   have htq : ∀ i, i < (terms (reachL ar rs t n).1).length → ((terms (reachL ar rs t n).1).getD i []).length ≤ 4000000 := fun i hi => by rw [terms_get]; have := hrd i (by omega); omega
   have hfi : badG (fun y => !decide (y = u)) (terms (reachL ar rs t n).1) = (foundI (reachL ar rs t n).1 u) := foundI_terms
   have hfl := fun (h : 0 ≤ (foundI (reachL ar rs t n).1 u)) => (foundI_lt h).1
   refine X.skip (X.seq (X.region ?_))
   refine XL.cons (XOp.loadN [arv, rsv] Tryz.isAgg37 Tryz.sizeOf37 rfl rfl (Rd.ownN [_] rfl rfl) ?_)
   refine XL.mv (tv) rfl ?_
   refine XL.mv (.int .i64 (n)) rfl ?_
   refine XL.cons (XOp.call (args := [.agg #[arv, rsv], tv, .int .i64 (n)]) Tryz.call141 rfl (l9Find_spec (n := n) har hrs ht (hsys := (by first | assumption | rfl | omega | simp)) (ho := (by first | assumption | rfl | omega | simp)) (hn20 := (by first | assumption | rfl | omega | simp))) ?_)
   rintro _ F1 _ le1 ⟨x1, x2, x3, x4, rfl, hr1, hr2, hr3, hr4, rfl⟩
   replace har := har.mono le1
   replace hrs := hrs.mono le1
   replace ht := ht.mono le1
   replace hu := hu.mono le1
   refine XL.cons (XOp.alloc [(.slice none 0 0), (.slice none 0 0), (.slice none 0 0), (.slice none 0 0), .bool (false)] Tryz.zeroValue169 rfl ?_)
   intro b3
   refine XL.cons (XOp.storeN (vs := [x1, x2, x3, x4, .bool ((reachL ar rs t n).2)]) [] _ [x1, x2, x3, x4, .bool ((reachL ar rs t n).2)] Tryz.sizeOf169 rfl rfl rfl (ones_cons (one_sl (RowsF.isSl hr1)) (ones_cons (one_sl (IntsF.isSl hr2)) (ones_cons (one_sl (StepsF.isSl hr3)) (ones_cons (one_sl (IntsF.isSl hr4)) (ones_cons rfl ones_nil))))) rfl rfl rfl ?_)
   refine XL.nil (X.seq (X.region ?_))
   refine XL.cons (XOp.fieldP (b := b3) (0) Tryz.runUnderlying169 rfl Tryz.sizeOf58 (by decide) rfl rfl ?_)
   refine XL.cons (XOp.load1 (v := x1) Tryz.isAgg58 rfl (Rd.own [] rfl rfl) ?_)
   refine XL.mv (uv) rfl ?_
   refine XL.cons (XOp.call (args := [x1, uv]) Tryz.call147 rfl (l1TermPlace_spec hr1 hu (hlt := (by omega)) (htb := (htq)) (hlx := (by first | assumption | rfl | omega | simp))) ?_)
   rintro _ _ _ _ ⟨rfl, rfl, rfl⟩
   refine XL.as (.int .i64 (badG (fun y => !decide (y = u)) (terms (reachL ar rs t n).1))) rfl ?_
   refine XL.nil (X.seq (X.seq (X.region ?_)))
   refine XL.mv (.int .i64 (badG (fun y => !decide (y = u)) (terms (reachL ar rs t n).1))) rfl ?_
   refine XL.cons (XOp.lss (a := badG (fun y => !decide (y = u)) (terms (reachL ar rs t n).1)) (b := 0) rfl rfl ?_)
   refine XL.nil ?_
   refine X.condD (p := (badG (fun y => !decide (y = u)) (terms (reachL ar rs t n).1) : Int) < 0) rfl (fun h3 => ?_) (fun h3 => ?_)
   ·refine X.seq (X.region ?_)
    refine XL.cons (XOp.build [(.slice none 0 0), (.slice none 0 0)] [(.slice none 0 0), (.slice none 0 0)] [(0, 1), (1, 1)] [] Tryz.runUnderlying57 Tryz.zeroValue57 rfl (.cons rfl Tryz.sizeOf22 (.cons rfl Tryz.sizeOf55 PlacesAre.nil)) rfl CellsAre.nil ?_)
    refine XL.cons (XOp.storeN (vs := [(.slice none 0 0), (.slice none 0 0)]) [_] _ [(.slice none 0 0), (.slice none 0 0)] Tryz.sizeOf57 rfl rfl rfl (ones_cons rfl (ones_cons rfl ones_nil)) rfl rfl rfl ?_)
    refine XL.as (.bool (false)) rfl ?_
    refine XL.nil ?_
    refine X.ret (thenQ_ret (retEnd (L' := L) [.agg #[(.slice none 0 0), (.slice none 0 0)], .bool (false)] (.tuple #[.agg #[(.slice none 0 0), (.slice none 0 0)], .bool (false)]) (.cell rfl (loadNV [(.slice none 0 0), (.slice none 0 0)] Tryz.isAgg57 Tryz.sizeOf57 rfl (Rd.ownN [_] rfl rfl)) (.tmp rfl .nil)) rfl le1 rF (Sub.drop (Sub.drop (Sub.drop sR))) ?_))
    have e : walkToF ar rs t u n = ([], [], false) := (walkToF_yes hro).trans (walkTo0_no (by omega))
    exact ⟨_, _, by rw [e], by rw [e]; exact IntsF.nilV, by rw [e]; exact SlOf.nilV, by rw [e]; exact Fresh.empty nilWalk, rfl⟩
   ·refine X.skip (X.seq (X.region ?_))
    refine XL.cons (XOp.loadN [x1, x2, x3, x4, .bool ((reachL ar rs t n).2)] Tryz.isAgg169 Tryz.sizeOf169 rfl rfl (Rd.ownN [] rfl rfl) ?_)
    refine XL.mv (.int .i64 (badG (fun y => !decide (y = u)) (terms (reachL ar rs t n).1))) rfl ?_
    refine XL.cons (XOp.call (args := [.agg #[x1, x2, x3, x4, .bool ((reachL ar rs t n).2)], .int .i64 (((badG (fun y => !decide (y = u)) (terms (reachL ar rs t n).1)).toNat : Nat) : Int)]) Tryz.call148 (by rw [show (((badG (fun y => !decide (y = u)) (terms (reachL ar rs t n).1)).toNat : Nat) : Int) = badG (fun y => !decide (y = u)) (terms (reachL ar rs t n).1) from by omega]; rfl) (l9Walk_spec (k := (badG (fun y => !decide (y = u)) (terms (reachL ar rs t n).1)).toNat) hr1 hr2 hr3 hr4 (hk := (by rw [hfi]; exact hfl (by omega))) (hll := (hrl)) (hlk := (hgd.1)) (hbd := (hrd))) ?_)
    rintro _ F2 _ le2 ⟨x5, x6, rfl, hr5, hr6, hr7, rfl⟩
    replace har := har.mono le2
    replace hrs := hrs.mono le2
    replace ht := ht.mono le2
    replace hu := hu.mono le2
    replace hr1 := hr1.mono le2
    replace hr2 := hr2.mono le2
    replace hr3 := hr3.mono le2
    replace hr4 := hr4.mono le2
    refine XL.cons (XOp.storeN (vs := [x5, x6]) [_] _ [x5, x6] Tryz.sizeOf57 rfl rfl rfl (ones_cons (one_sl (IntsF.isSl hr5)) (ones_cons (one_sl (StepsF.isSl hr6)) ones_nil)) rfl rfl rfl ?_)
    refine XL.as (.bool (true)) rfl ?_
    refine XL.nil ?_
    refine X.ret (retEnd (L' := L) [.agg #[x5, x6], .bool (true)] (.tuple #[.agg #[x5, x6], .bool (true)]) (.cell rfl (loadNV [x5, x6] Tryz.isAgg57 Tryz.sizeOf57 rfl (Rd.ownN [_] rfl rfl)) (.tmp rfl .nil)) rfl (FLe.trans le1 le2) rF (Sub.drop (Sub.drop (Sub.drop sR))) ?_)
    have e : walkToF ar rs t u n = ((EL (reachL ar rs t n).1 0).1, walkL (reachL ar rs t n).1 (badG (fun y => !decide (y = u)) (terms (reachL ar rs t n).1)).toNat, true) := by rw [walkToF_yes hro, walkTo0_yes (by omega), hgd.2.2.2, hfi]
    exact ⟨_, _, by rw [e], by rw [e]; exact hr5, by rw [e]; exact hr6, by rw [e]; exact (hr7.base le1), rfl⟩
end Go.Proofs.YtiaanelimbmniaaGreat
