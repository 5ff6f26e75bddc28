/-
  Walks: plain substitutions, matching, redexes.
-/
import Derived.Test.YtnloeeaidknblaaQmFe
set_option linter.unusedSimpArgs false
set_option linter.unusedVariables false
namespace Go.Proofs.Ytnloeeaidknblaa
open Go X M

/- impl.plain -/
theorem plain_spec {F : FH} {L : List HP} {sv : Value} {s : List (List Int)} (hs : RowsF F sv s) (hsl : s.length ≤ 24) (hsb : ∀ i, i < s.length → (s.getD i []).length ≤ 4000000) :
    Does Try.prog 210 [.agg #[sv]] F (L) (fun v F' L' => ∃ (a : Value), (.agg #[a] : Value) = v ∧ (RowsF F' a (plainL s)) ∧ L = L') := by
  refine Does.of_X Try.func210 rfl rfl rfl ?_
  refine X.seq ?_
  refine X.region ?_
  refine XL.cons (XOp.box [sv] rfl rfl ?_)
  intro b1
  refine XL.cons (XOp.alloc [(.slice none 0 0)] Try.zeroValue184 rfl ?_)
  intro b2
  refine XL.nil ?_
  refine X.seq ?_
  refine X.region ?_
  refine XL.cons (XOp.alloc [(.slice none 0 0)] Try.zeroValue184 rfl ?_)
  intro b3
  refine XL.nil ?_
  refine X.seq ?_
  refine X.seq ?_
  refine X.region ?_
  refine XL.cons (XOp.fieldP (b := b1) (0) Try.runUnderlying184 rfl Try.sizeOf47 (by decide) rfl rfl ?_)
  refine XL.cons (XOp.load1 (v := sv) Try.isAgg47 rfl (Rd.own [_, _] rfl rfl) ?_)
  refine XL.cons (XOp.lenS (v := sv) (n := (s).length) Try.runUnderlying47 rfl hs.slv ?_)
  refine XL.cons (XOp.move (.int .i64 (0)) rfl ?_)
  refine XL.nil ?_
  refine X.block ?_
  refine X.loop (α := Nat × Value × RowL × FH) (fun xQ => [(2, ptr b2 0), (3, ptr b3 0), (7, sv), (8, .int .i64 ((((s).length : Nat) : Int))), (9, .int .i64 (((xQ.1 : Nat) : Int)))]) (fun xQ => rowsH 22 xQ.2.2.2 xQ.2.1 xQ.2.2.1 :: cellsH b3 [xQ.2.1] 184 :: cellsH b2 [(.slice none 0 0)] 184 :: cellsH b1 [sv] 184 :: L) (fun xQ F' => xQ.2.2.2 = F' ∧ F ≤ xQ.2.2.2 ∧ (IsSl xQ.2.1) ∧ (xQ.2.2.1 = trim ((plainGo 0 s).take xQ.1)) ∧ (xQ.1 ≤ s.length)) (fun xQ => s.length - xQ.1) (0, (.slice none 0 0), [], F) ⟨rfl, rfl, rfl, rfl, rfl, trivial⟩ (coH.addNil none (Sub.cons (Sub.cons (Sub.cons (Sub.refl _))))) ⟨rfl, FLe.refl _, (⟨_, _, _, rfl⟩), (rfl), (by (try dsimp only) <;> omega)⟩ ?_
  rintro ⟨k, ov, os, G1⟩ rE _ _ ⟨rfl, leG, hov, hos, hk⟩
  show X _ _ _ _ (envs [(2, ptr b2 0), (3, ptr b3 0), (7, sv), (8, .int .i64 ((((s).length : Nat) : Int))), (9, .int .i64 (((k : Nat) : Int)))] rE) _ (rowsH 22 G1 ov os :: cellsH b3 [ov] 184 :: cellsH b2 [(.slice none 0 0)] 184 :: cellsH b1 [sv] 184 :: L)
  replace leG : F ≤ G1 := leG
  dsimp only at hov hos hk
  have leG1 := leG
  replace hs := hs.mono leG1
  refine X.open [] rfl (fun cs1 hc1 => ?_)
  replace hc1 : RowsC G1 cs1 os := hc1
  refine X.seq ?_
  refine X.region ?_
  refine XL.cons (XOp.lss (a := ((k : Nat) : Int)) (b := (((s).length : Nat) : Int)) rfl rfl ?_)
  refine XL.nil ?_
  refine X.seq ?_
  refine X.condD (p := (((k : Nat) : Int) : Int) < (((s).length : Nat) : Int)) rfl (fun h1 => ?_) (fun h1 => ?_)
  · refine X.skip ?_
    refine X.seq ?_
    refine X.block ?_
    refine X.seq ?_
    refine X.region ?_
    refine XL.cons (XOp.move (.int .i64 (((k : Nat) : Int))) rfl ?_)
    refine XL.cons (XOp.indexS (v := sv) (i := ((k : Nat) : Int)) (n := (s).length) k Try.runUnderlying47 Try.sizeOf22 rfl rfl rfl hs.slv (by omega) (Nat.mul_one _) ?_)
    obtain ⟨a1, ha1, hr1⟩ := hs.rd (i := k) (by omega)
    refine XL.cons (XOp.load1 (v := a1) Try.isAgg22 rfl (hr1 _) ?_)
    refine XL.cons (XOp.assign (.int .i64 (((k : Nat) : Int))) rfl ?_)
    refine XL.cons (XOp.assign (a1) rfl ?_)
    refine XL.nil ?_
    refine X.seq ?_
    refine X.seq ?_
    refine X.region ?_
    refine XL.cons (XOp.move (a1) rfl ?_)
    refine XL.cons (XOp.lenS (v := a1) (n := ((s.getD k [])).length) Try.runUnderlying22 rfl ha1.slv ?_)
    refine XL.cons (XOp.eql (a := ((((s.getD k [])).length : Nat) : Int)) (b := 0) rfl rfl ?_)
    refine XL.cons (XOp.move (.bool (decide ((((((s.getD k [])).length : Nat) : Int) : Int) = 0))) rfl ?_)
    by_cases h2 : (((((s.getD k [])).length : Nat) : Int) : Int) = 0
    · refine XL.no (t := 17) rfl (congrArg Value.bool (decide_eq_true h2)) ?_
      refine XL.no (t := 17) rfl (congrArg Value.bool (decide_eq_true h2)) ?_
      refine XL.no (t := 17) rfl (congrArg Value.bool (decide_eq_true h2)) ?_
      refine XL.no (t := 17) rfl (congrArg Value.bool (decide_eq_true h2)) ?_
      refine XL.cons (XOp.pickT (.bool (true)) (congrArg Value.bool (decide_eq_true h2)) rfl ?_)
      refine XL.nil ?_
      refine X.condT rfl ?_
      refine X.exit (thenQ_exit (blockQ_exit ?_))
      refine X.region ?_
      refine XL.cons (XOp.addR (a := ((k : Nat) : Int)) (b := 1) (((k + 1 : Nat) : Int)) rfl rfl (by omega) (by omega) ?_)
      refine XL.cons (XOp.move (.int .i64 (((k + 1 : Nat) : Int))) rfl ?_)
      refine XL.nil ?_
      exact ⟨(k + 1, ov, os, G1), _, leG1, (FLe.refl _), ⟨rfl, rfl, rfl, rfl, rfl, trivial⟩, (coH.close hc1 (by first | rfl | simp) (Sub.cons (Sub.cons (Sub.cons (Sub.refl _))))), ⟨rfl, leG1, (hov), (hos.trans (plain_skip (by omega) (by first | (left; exact List.eq_nil_of_length_eq_zero (by omega)) | (right; assumption))).symm), (by (try dsimp only) <;> omega)⟩, (by omega)⟩
    · refine XL.yes (t := 17) rfl (congrArg Value.bool (decide_eq_false h2)) (XOp.move (a1) rfl ?_)
      refine XL.yes (t := 17) rfl (congrArg Value.bool (decide_eq_false h2)) (XOp.move (.int .i64 (((k : Nat) : Int))) rfl ?_)
      refine XL.yes (t := 17) rfl (congrArg Value.bool (decide_eq_false h2)) (XOp.frzF <| XOp.call (args := [.int .i64 ((k : Nat) : Int)]) Try.call216 rfl (variable_spec (i := k) (hi := (by first | assumption | rfl | omega | (left; simp; done) | (right; simp; done)))) ?_)
      rintro v1 _ _ _ ⟨rfl, hs1, rfl⟩
      refine ⟨_, _, rfl, fun F1 le1 hz1 => ?_⟩
      replace hs := hs.mono le1
      replace hc1 := hc1.mono le1
      replace ha1 := ha1.mono le1
      replace hr1 := Rd.monoA hr1 le1
      have hf1 : IntsF F1 v1 (([-1 - (k : Int)])) := intsH.fz (xs := ([-1 - (k : Int)])) hz1.fz
      refine XL.yes (t := 17) rfl (congrArg Value.bool (decide_eq_false h2)) (XOp.call (args := [a1, v1]) Try.call122 rfl (Equal_spec ha1 hf1 (hbd := (by first | assumption | rfl | omega | (left; simp; done) | (right; simp; done)))) ?_)
      rintro _ _ _ _ ⟨rfl, rfl, rfl⟩
      refine XL.cons (XOp.pickF (.bool (decide (((s.getD k [])) = (([-1 - (k : Int)]))))) (congrArg Value.bool (decide_eq_false h2)) rfl ?_)
      refine XL.nil ?_
      refine X.condD (p := ((s.getD k [])) = (([-1 - (k : Int)]))) rfl (fun h3 => ?_) (fun h3 => ?_)
      · refine X.exit (thenQ_exit (blockQ_exit ?_))
        refine X.region ?_
        refine XL.cons (XOp.addR (a := ((k : Nat) : Int)) (b := 1) (((k + 1 : Nat) : Int)) rfl rfl (by omega) (by omega) ?_)
        refine XL.cons (XOp.move (.int .i64 (((k + 1 : Nat) : Int))) rfl ?_)
        refine XL.nil ?_
        exact ⟨(k + 1, ov, os, F1), _, (FLe.trans leG1 le1), (FLe.refl _), ⟨rfl, rfl, rfl, rfl, rfl, trivial⟩, (coH.close hc1 (by first | rfl | simp) (Sub.cons (Sub.cons (Sub.cons (Sub.refl _))))), ⟨rfl, (FLe.trans leG1 le1), (hov), (hos.trans (plain_skip (by omega) (by first | (left; exact List.eq_nil_of_length_eq_zero (by omega)) | (right; assumption))).symm), (by (try dsimp only) <;> omega)⟩, (by omega)⟩
      · refine X.skip ?_
        refine X.seq ?_
        refine X.block ?_
        refine X.loop (α := Nat × Value × RowL × FH) (fun xQ => [(2, ptr b2 0), (3, ptr b3 0), (4, .int .i64 (((k : Nat) : Int))), (5, a1), (7, sv), (8, .int .i64 ((((s).length : Nat) : Int))), (9, .int .i64 (((k : Nat) : Int)))]) (fun xQ => rowsH 22 xQ.2.2.2 xQ.2.1 xQ.2.2.1 :: cellsH b3 [xQ.2.1] 184 :: cellsH b2 [(.slice none 0 0)] 184 :: cellsH b1 [sv] 184 :: L) (fun xQ F' => xQ.2.2.2 = F' ∧ F1 ≤ xQ.2.2.2 ∧ (IsSl xQ.2.1) ∧ (xQ.2.2.1 = os ++ List.replicate xQ.1 []) ∧ (xQ.2.2.1.length ≤ k)) (fun xQ => k - xQ.2.2.1.length) (0, ov, os, F1) ⟨rfl, rfl, rfl, rfl, rfl, rfl, rfl, trivial⟩ (coH.close hc1 (by first | rfl | simp) (Sub.cons (Sub.cons (Sub.cons (Sub.refl _))))) ⟨rfl, FLe.refl _, (hov), (by simp), (by have := trim_le ((plainGo 0 s).take k); rw [← hos, List.length_take] at this; (try dsimp only); omega)⟩ ?_
        rintro ⟨j, ov2, os2, G2⟩ rE _ _ ⟨rfl, leG, hov2, hos2, hl2⟩
        show X _ _ _ _ (envs [(2, ptr b2 0), (3, ptr b3 0), (4, .int .i64 (((k : Nat) : Int))), (5, a1), (7, sv), (8, .int .i64 ((((s).length : Nat) : Int))), (9, .int .i64 (((k : Nat) : Int)))] rE) _ (rowsH 22 G2 ov2 os2 :: cellsH b3 [ov2] 184 :: cellsH b2 [(.slice none 0 0)] 184 :: cellsH b1 [sv] 184 :: L)
        replace leG : F1 ≤ G2 := leG
        dsimp only at hov2 hos2 hl2
        have leG2 := leG
        replace hs := hs.mono leG2
        replace hc1 := hc1.mono leG2
        replace ha1 := ha1.mono leG2
        replace hf1 := hf1.mono leG2
        refine X.open [] rfl (fun cs2 hc2 => ?_)
        replace hc2 : RowsC G2 cs2 os2 := hc2
        refine X.seq ?_
        refine X.seq ?_
        refine X.region ?_
        refine XL.cons (XOp.fieldP (b := b3) (0) Try.runUnderlying184 rfl Try.sizeOf47 (by decide) rfl rfl ?_)
        refine XL.cons (XOp.load1 (v := ov2) Try.isAgg47 rfl (Rd.own [_] rfl rfl) ?_)
        refine XL.cons (XOp.lenS (v := ov2) (n := os2.length) Try.runUnderlying47 rfl (SlV.own [] rfl) ?_)
        refine XL.cons (XOp.move (.int .i64 (((k : Nat) : Int))) rfl ?_)
        refine XL.cons (XOp.lss (a := ((os2.length : Nat) : Int)) (b := ((k : Nat) : Int)) rfl rfl ?_)
        refine XL.nil ?_
        refine X.condD (p := (((os2.length : Nat) : Int) : Int) < ((k : Nat) : Int)) rfl (fun h4 => ?_) (fun h4 => ?_)
        · refine X.skip ?_
          refine X.block ?_
          refine X.region ?_
          refine XL.cons (XOp.fieldP (b := b3) (0) Try.runUnderlying184 rfl Try.sizeOf47 (by decide) rfl rfl ?_)
          refine XL.cons (XOp.load1 (v := ov2) Try.isAgg47 rfl (Rd.own [_] rfl rfl) ?_)
          refine XL.cons (XOp.buildSlice (s := 1) [(.slice none 0 0)] [(.slice none 0 0)] [(0, [(.slice none 0 0)])] Try.runUnderlying47 Try.sizeOf22 Try.zeroValue22 rfl (by decide) rfl (.cons rfl CellsAre.nil) rfl ?_)
          intro v2 hv1
          refine XL.cons (XOp.append (m := 1) (bytes := 24) (cs := cs2) [_] _ [(.slice none 0 0)] Try.runUnderlying47 Try.typeInfo22 rfl rfl rfl rfl rfl rfl rfl (SlV.own [] rfl) rfl (Rd.lit [] rfl) (ones_cons rfl ones_nil) (by (try simp only [List.length_append, List.length_nil, List.length_cons, List.length_singleton]); omega) (by (try simp only [List.length_append, List.length_nil, List.length_cons, List.length_singleton]); omega) ?_)
          intro v3 hs2 hn1 hm1
          have hc3 := RowsC.snoc hc2 IntsF.nilV
          refine XL.cons (XOp.fieldP (b := b3) (0) Try.runUnderlying184 rfl Try.sizeOf47 (by decide) rfl rfl ?_)
          refine XL.cons (XOp.store1 (v := v3) [_, _] _ [v3] Try.sizeOf47 rfl rfl (one_sl hs2) rfl rfl rfl ?_)
          refine XL.nil ?_
          exact ⟨(j + 1, v3, os2 ++ [[]], G2), _, leG2, (FLe.refl _), ⟨rfl, rfl, rfl, rfl, rfl, rfl, rfl, trivial⟩, (Sub.drop (coH.close hc3 (by first | rfl | simp) (Sub.cons (Sub.cons (Sub.cons (Sub.refl _)))))), ⟨rfl, leG2, (hs2), (by dsimp only; rw [hos2, List.append_assoc, List.replicate_succ']), (by dsimp only; rw [List.length_append]; simp only [List.length_singleton]; omega)⟩, (by dsimp only; rw [List.length_append]; simp only [List.length_singleton]; omega)⟩
        · refine X.exit (thenQ_exit (thenQ_exit (blockQ_exit ?_)))
          refine X.drawG [slH 22 1 ov2 ((os2).length) cs2, cellsH b3 [ov2] 184, cellsH b2 [(.slice none 0 0)] 184, cellsH b1 [sv] 184] L 5 [[], [], [], [], [3]] [[], [0], [], [2], [3]] [[], [], [], [], []] (phiG [fun FF us v => v = ptr b3 0, fun FF us v => v = ov2, fun FF us v => v = a1, fun FF us v => ((v) : Value) = v ∧ (IntsF FF (v) (((s.getD k [])))), fun FF us v => ∃ b, v = .slice (some ⟨b, 0, none⟩) 1 1]) (ownL [fun us v => [], fun us v => [], fun us v => [], fun us v => [], fun us v => [slH 22 1 v 1 [((us.getD 0 undef))]]]) mixed rfl rfl (by kernel_rfl) (by kernel_rfl) (MonoG.get (MonoG.cons (fun le h => h) (MonoG.cons (fun le h => h) (MonoG.cons (fun le h => h) (MonoG.cons (fun le h => ⟨h.1, h.2.mono le⟩) (MonoG.cons (fun le h => h) MonoG.nil)))))) ?_ ?_
          · refine stepsG.cons (fun vals Fs R leFs hpZ => ?_) ?_
            · refine XG.op (XOp.fieldP (b := b3) (0) Try.runUnderlying184 rfl Try.sizeOf47 (by decide) rfl rfl ?_)
              exact ⟨rfl, rfl⟩
            refine stepsG.cons (fun vals Fs R leFs hpZ => ?_) ?_
            · have e0 : vals 0 = ptr b3 0 := hpZ 0 (by decide)
              replace hs := hs.mono leFs
              replace hc1 := hc1.mono leFs
              replace ha1 := ha1.mono leFs
              replace hf1 := hf1.mono leFs
              replace hc2 := hc2.mono leFs
              rw [(envs_of_sat (l := [(0, ptr b3 0)]) ⟨e0, trivial⟩).symm]
              refine XG.op (XOp.load1 (v := ov2) Try.isAgg47 rfl (Rd.own [_] rfl rfl) ?_)
              exact ⟨rfl, rfl⟩
            refine stepsG.cons (fun vals Fs R leFs hpZ => ?_) ?_
            · refine XG.op (XOp.move (a1) rfl ?_)
              exact ⟨rfl, rfl⟩
            refine stepsG.cons (fun vals Fs R leFs hpZ => ?_) ?_
            · have e2 : vals 2 = a1 := hpZ 2 (by decide)
              replace hs := hs.mono leFs
              replace hc1 := hc1.mono leFs
              replace ha1 := ha1.mono leFs
              replace hf1 := hf1.mono leFs
              replace hc2 := hc2.mono leFs
              rw [(envs_of_sat (l := [(2, a1)]) ⟨e2, trivial⟩).symm]
              refine XG.op (XOp.frzF <| XOp.call (args := [a1]) Try.call102 rfl (Clone_spec ha1 (hlt := (hsb k (by omega)))) ?_)
              rintro v6 _ _ _ ⟨rfl, hs4, rfl⟩
              refine ⟨_, _, rfl, fun F2 le2 hz2 => ?_⟩
              replace hs := hs.mono le2
              replace hc1 := hc1.mono le2
              replace ha1 := ha1.mono le2
              replace hf1 := hf1.mono le2
              replace hc2 := hc2.mono le2
              have hf2 : IntsF F2 v6 ((((s.getD k [])))) := intsH.fz (xs := (((s.getD k [])))) hz2.fz
              exact ⟨⟨rfl, hf2⟩, rfl⟩
            refine stepsG.cons (fun vals Fs R leFs hpZ => ?_) ?_
            · obtain ⟨e3, f3_1ha⟩ := hpZ 3 (by decide)
              replace hs := hs.mono leFs
              replace hc1 := hc1.mono leFs
              replace ha1 := ha1.mono leFs
              replace hf1 := hf1.mono leFs
              replace hc2 := hc2.mono leFs
              rw [(envs_of_sat (l := [(3, ((vals 3)))]) ⟨(e3).symm, trivial⟩).symm]
              refine XG.op (XOp.buildSlice (s := 1) [((vals 3))] [(.slice none 0 0)] [(0, [((vals 3))])] Try.runUnderlying47 Try.sizeOf22 Try.zeroValue22 rfl (by decide) rfl (.cons (cells_one (IntsF.isSl f3_1ha)) CellsAre.nil) rfl ?_)
              intro v7 hv3
              exact ⟨hv3, rfl⟩
            exact stepsG.nil
          · intro vals F3 le3 hphi
            have e0 : vals 0 = ptr b3 0 := hphi 0 (by decide)
            have e1 : vals 1 = ov2 := hphi 1 (by decide)
            have e2 : vals 2 = a1 := hphi 2 (by decide)
            obtain ⟨e3, f3_1ha⟩ := hphi 3 (by decide)
            have f4 : ∃ b, (vals 4) = .slice (some ⟨b, 0, none⟩) 1 1 := hphi 4 (by decide)
            generalize hu1 : ((vals 3)) = u1 at e0 e1 e2 e3 f3_1ha f4
            generalize hu4 : vals 4 = u2 at e0 e1 e2 e3 f3_1ha f4
            rw [(envs_of_sat (l := [(0, ptr b3 0), (1, ov2), (2, a1), (3, u1), (4, u2)]) ⟨e0, e1, e2, hu1, hu4, trivial⟩).symm]
            replace hs := hs.mono le3
            replace hc1 := hc1.mono le3
            replace ha1 := ha1.mono le3
            replace hf1 := hf1.mono le3
            replace hc2 := hc2.mono le3
            show XL _ _ _ _ _ _ _ (slH 22 1 u2 1 [u1] :: slH 22 1 ov2 ((os2).length) cs2 :: cellsH b3 [ov2] 184 :: cellsH b2 [(.slice none 0 0)] 184 :: cellsH b1 [sv] 184 :: L)
            refine XL.cons (XOp.append (m := 1) (bytes := 24) (cs := cs2) [_] _ [u1] Try.runUnderlying47 Try.typeInfo22 rfl rfl rfl rfl rfl rfl rfl (SlV.own [] rfl) rfl (Rd.lit [] rfl) (ones_cons (one_sl (IntsF.isSl f3_1ha)) ones_nil) (by (try simp only [List.length_append, List.length_nil, List.length_cons, List.length_singleton]); omega) (by (try simp only [List.length_append, List.length_nil, List.length_cons, List.length_singleton]); omega) ?_)
            intro v8 hs5 hn2 hm2
            have hc4 := RowsC.snoc hc2 f3_1ha
            refine XL.cons (XOp.fieldP (b := b3) (0) Try.runUnderlying184 rfl Try.sizeOf47 (by decide) rfl rfl ?_)
            refine XL.cons (XOp.store1 (v := v8) [_, _] _ [v8] Try.sizeOf47 rfl rfl (one_sl hs5) rfl rfl rfl ?_)
            refine XL.nil ?_
            refine X.region ?_
            refine XL.cons (XOp.addR (a := ((k : Nat) : Int)) (b := 1) (((k + 1 : Nat) : Int)) rfl rfl (by omega) (by omega) ?_)
            refine XL.cons (XOp.move (.int .i64 (((k + 1 : Nat) : Int))) rfl ?_)
            refine XL.nil ?_
            exact ⟨(k + 1, v8, os2 ++ [(((s.getD k [])))], F3), _, (FLe.trans (FLe.trans (FLe.trans leG1 le1) leG2) le3), (FLe.refl _), ⟨rfl, rfl, rfl, rfl, rfl, trivial⟩, (Sub.drop (coH.close hc4 (by first | rfl | simp) (Sub.cons (Sub.cons (Sub.cons (Sub.refl _)))))), ⟨rfl, (FLe.trans (FLe.trans (FLe.trans leG1 le1) leG2) le3), (hs5), (plain_put (m := os2) (by omega) (by intro e; have := congrArg List.length e; simp only [List.length_nil] at this; omega) (by assumption) (by rw [hos2, hos]; exact plain_padded (by rw [← hos, ← hos2, List.length_take, plainGo_length]; omega))), (by (try dsimp only) <;> omega)⟩, (by omega)⟩
  · refine X.exit (thenQ_exit (thenQ_exit (blockQ_exit ?_)))
    refine X.seq ?_
    refine X.region ?_
    refine XL.cons (XOp.loadN [ov] Try.isAgg184 Try.sizeOf184 rfl rfl (Rd.ownN [_] rfl rfl) ?_)
    refine XL.cons (XOp.storeN (vs := [ov]) [_, _] _ [ov] Try.sizeOf184 rfl rfl rfl (ones_cons (one_sl hov) ones_nil) rfl rfl rfl ?_)
    refine XL.nil ?_
    refine X.freezeF [] _ _ rfl (fun F4 le4 hz3 => ?_)
    replace hs := hs.mono le4
    replace hc1 := hc1.mono le4
    have hf3 : RowsF F4 ov os := CO.fz hc1 (by first | rfl | simp | omega) hz3.fz
    refine X.ret (retEnd (L' := L) [.agg #[ov]] (.agg #[ov]) (.cell rfl (loadNV [ov] Try.isAgg184 Try.sizeOf184 rfl (Rd.ownN [_] rfl rfl)) .nil) rfl (FLe.trans leG1 le4) (FLe.refl _) (Sub.drop (Sub.drop (Sub.drop (Sub.refl _)))) ?_)
    have e : os = plainL s := by rw [hos, show k = s.length from by omega, plain_all]
    exact ⟨_, rfl, by rw [← e]; exact hf3, rfl⟩

/- impl.match -/
theorem match_spec {F : FH} {L : List HP} {arv : Value} {ar : List Int} (har : IntsF F arv ar) {pv : Value} {p : List Int} (hp : IntsF F pv p) {tv : Value} {t : List Int} (ht : IntsF F tv t) (ho : termOk ar t = true) (hpo : termOk ar p = true) :
    Does Try.prog 190 [.agg #[arv], pv, tv] F (L) (fun v F' L' => ∃ (a : Value), (.tuple #[.agg #[a], .bool ((matchB ar p t).isSome)] : Value) = v ∧ (RowsF F' a (matchP ar p t)) ∧ L = L') := by
  refine Does.of_X Try.func190 rfl rfl rfl ?_
  have hpl := termOk_len hpo
  have hpg := fun k (hk : k < p.length) => termOk_ge hpo hk
  refine X.seq ?_
  refine X.region ?_
  refine XL.cons (XOp.box [arv] rfl rfl ?_)
  intro b1
  refine XL.cons (XOp.alloc [(.slice none 0 0)] Try.zeroValue184 rfl ?_)
  intro b2
  refine XL.cons (XOp.assign (.bool (false)) rfl ?_)
  refine XL.nil ?_
  refine X.seq ?_
  refine X.region ?_
  refine XL.cons (XOp.loadN [arv] Try.isAgg33 Try.sizeOf33 rfl rfl (Rd.ownN [_] rfl rfl) ?_)
  refine XL.cons (XOp.move (pv) rfl ?_)
  refine XL.cons (XOp.move (tv) rfl ?_)
  refine XL.cons (XOp.build0 (List.replicate 24 (Value.slice none 0 0)) Try.runUnderlying187 ⟨_, Try.sizeOf22⟩ Try.zeroValue187 rfl ?_)
  have hc1 : BindC F _ _ := BindC.nils 24
  refine XL.cons (XOp.call (args := [.agg #[arv], pv, tv, .agg (List.replicate 24 (Value.slice none 0 0)).toArray]) Try.call152 rfl (matchInto_spec har hp ht hc1 ((by first | assumption | rfl | simp | omega)) (ho := (by first | assumption | rfl | omega | (left; simp; done) | (right; simp; done))) (hpl := (by first | assumption | rfl | omega | (left; simp; done) | (right; simp; done))) (hpg := (by first | assumption | rfl | omega | (left; simp; done) | (right; simp; done)))) ?_)
  rintro _ _ _ _ ⟨rfl, x1, x2, rfl, hr1, hr2, hr3, rfl⟩
  have hbl24 := hr2
  refine XL.cons (XOp.move (.tuple #[.agg (x1).toArray, .bool ((mGo ar t p 0 (List.replicate 24 ([] : List Int))).isSome)]) rfl ?_)
  refine XL.cons (XOp.extract (.agg (x1).toArray) rfl rfl ?_)
  refine XL.cons (XOp.extract (.bool ((mGo ar t p 0 (List.replicate 24 ([] : List Int))).isSome)) rfl rfl ?_)
  refine XL.cons (XOp.alloc (List.replicate 24 (Value.slice none 0 0)) Try.zeroValue187 rfl ?_)
  intro b3
  have hc2 : BindC F _ _ := BindC.nils 24
  refine XL.cons (XOp.storeN (vs := x1) [] _ x1 Try.sizeOf187 rfl rfl (by have := CO.len hr1; (try simp only [List.length_set, List.length_replicate] at this ⊢) <;> omega) hr1.ones rfl (Nat.ble_eq_true_of_le (Nat.le_of_eq (by have := CO.len hc2; (try simp only [List.length_set, List.length_replicate] at this ⊢) <;> omega))) (arr_over (by have := CO.len hc2; (try simp only [List.length_set, List.length_replicate] at this ⊢) <;> omega)) ?_)
  refine XL.cons (XOp.assign (.bool ((mGo ar t p 0 (List.replicate 24 ([] : List Int))).isSome)) rfl ?_)
  refine XL.nil ?_
  refine X.seq ?_
  refine X.seq ?_
  refine X.region ?_
  refine XL.cons (XOp.move (.bool ((mGo ar t p 0 (List.replicate 24 ([] : List Int))).isSome)) rfl ?_)
  refine XL.cons (XOp.notB (b := (mGo ar t p 0 (List.replicate 24 ([] : List Int))).isSome) rfl ?_)
  refine XL.nil ?_
  refine X.cond (t := !((mGo ar t p 0 (List.replicate 24 ([] : List Int))).isSome)) rfl (fun h1 => ?_) (fun h1 => ?_)
  · refine X.seq ?_
    refine X.region ?_
    refine XL.cons (XOp.build [(.slice none 0 0)] [(.slice none 0 0)] [(0, 1)] [] Try.runUnderlying184 Try.zeroValue184 rfl (.cons rfl Try.sizeOf47 PlacesAre.nil) rfl CellsAre.nil ?_)
    refine XL.cons (XOp.storeN (vs := [(.slice none 0 0)]) [_] _ [(.slice none 0 0)] Try.sizeOf184 rfl rfl rfl (ones_cons rfl ones_nil) rfl rfl rfl ?_)
    refine XL.cons (XOp.assign (.bool (false)) rfl ?_)
    refine XL.nil ?_
    refine X.ret (thenQ_ret (retEnd (L' := L) [.agg #[(.slice none 0 0)], .bool (false)] (.tuple #[.agg #[(.slice none 0 0)], .bool (false)]) (.cell rfl (loadNV [(.slice none 0 0)] Try.isAgg184 Try.sizeOf184 rfl (Rd.ownN [_] rfl rfl)) (.tmp rfl .nil)) rfl (FLe.refl _) (FLe.refl _) (Sub.drop (Sub.drop (Sub.drop (Sub.refl _)))) ?_))
    have hz : matchB ar p t = none := by have h0 := h1; simpa [matchB] using h0
    exact ⟨_, by rw [hz]; rfl, by rw [matchP, hz]; exact SlOf.nilV, rfl⟩
  · have hz : ∃ r, matchB ar p t = some r := Option.isSome_iff_exists.1 (by have h0 := h1; simpa [matchB] using h0)
    have hmb : ∀ i, (x2.getD i []).length ≤ t.length := by obtain ⟨r, hz⟩ := hz; have e := hr3 _ hz; rw [e]; exact (matchB_len hz).2
    have htl := termOk_len ho
    refine X.skip ?_
    refine X.seq ?_
    refine X.region ?_
    refine XL.cons (XOp.loadN x1 Try.isAgg187 Try.sizeOf187 (by have := CO.len hr1; (try simp only [List.length_set, List.length_replicate] at this ⊢) <;> omega) rfl (Rd.ownN [] rfl take_all) ?_)
    refine XL.cons (XOp.call (args := [.agg (x1).toArray]) Try.call155 rfl (subst_spec hr1 ((by first | assumption | rfl | simp | omega))) ?_)
    rintro _ F2 _ le2 ⟨x3, rfl, hr4, rfl⟩
    replace har := har.mono le2
    replace hp := hp.mono le2
    replace ht := ht.mono le2
    replace hc1 := hc1.mono le2
    replace hr1 := hr1.mono le2
    replace hc2 := hc2.mono le2
    refine XL.cons (XOp.call (args := [.agg #[x3]]) Try.call210 rfl (plain_spec hr4 (hsl := (by first | assumption | rfl | omega | (left; simp; done) | (right; simp; done))) (hsb := (fun i hi => by have := hmb i; omega))) ?_)
    rintro _ F3 _ le3 ⟨x4, rfl, hr5, rfl⟩
    replace har := har.mono le3
    replace hp := hp.mono le3
    replace ht := ht.mono le3
    replace hc1 := hc1.mono le3
    replace hr1 := hr1.mono le3
    replace hc2 := hc2.mono le3
    replace hr4 := hr4.mono le3
    refine XL.cons (XOp.storeN (vs := [x4]) [_] _ [x4] Try.sizeOf184 rfl rfl rfl (ones_cons (one_sl (RowsF.isSl hr5)) ones_nil) rfl rfl rfl ?_)
    refine XL.cons (XOp.assign (.bool (true)) rfl ?_)
    refine XL.nil ?_
    refine X.ret (retEnd (L' := L) [.agg #[x4], .bool (true)] (.tuple #[.agg #[x4], .bool (true)]) (.cell rfl (loadNV [x4] Try.isAgg184 Try.sizeOf184 rfl (Rd.ownN [_] rfl rfl)) (.tmp rfl .nil)) rfl (FLe.trans le2 le3) (FLe.refl _) (Sub.drop (Sub.drop (Sub.drop (Sub.refl _)))) ?_)
    obtain ⟨b0, hz⟩ := Option.isSome_iff_exists.1 (show (matchB ar p t).isSome = true from by have h0 := h1; simpa [matchB] using h0)
    have hb0 := hr3 _ hz
    exact ⟨_, by rw [hz]; rfl, by rw [matchP, hz]; subst hb0; exact hr5, rfl⟩
end Go.Proofs.Ytnloeeaidknblaa
