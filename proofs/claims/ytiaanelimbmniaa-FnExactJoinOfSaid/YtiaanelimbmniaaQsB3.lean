/-
  Walks, one after the other (part 4).
-/
import Derived.Test.YtiaanelimbmniaaQsL1
import Derived.Test.YtiaanelimbmniaaQsB2
set_option linter.unusedSimpArgs false
set_option linter.unusedVariables false
namespace Go.Proofs.Ytiaanelimbmniaa
open Go X M

/- (*impl.Walk).add -/
theorem walkAdd_spec {F : FH} {L : List HP} {b m : Nat} {fv sv tov : Value} {ss : List StepT} {cs : List Value} {i j : Int} {to : List Int} (hto : IntsF F tov to) (hsv : IsSl sv) (hC : StepsC F cs ss) (hm : m = ss.length) (hsb : ss.length ≤ 4000000) (hlt : to.length ≤ 4000000) :
    Does Try.prog 125 [ptr b 0, .agg #[.int .i64 (i), .int .i64 (j), tov]] F (cellsH b [fv, sv] 41 :: slH 77 3 sv m cs :: L) (fun v F' L' => ∃ (sw cw : Value), IsSl sw ∧ IntsF F' cw to ∧ Fresh F F' (intsH 2 cw to) ∧ cellsH b [fv, sw] 41 :: slH 77 3 sw (m + 1) (cs ++ [.int .i64 i, .int .i64 j, cw]) :: L = L') := by
 refine Does.of_X Try.func125 rfl rfl rfl ?_
 refine X.seq ?_
 refine X.region ?_
 refine XL.cons (XOp.box [.int .i64 (i), .int .i64 (j), tov] rfl rfl ?_)
 intro b1
 refine XL.nil ?_
 refine X.weaken (Sub.front (A := [_, _])) ?_
 show X _ _ _ _ _ _ (slH 77 3 sv m cs :: cellsH b1 [.int .i64 (i), .int .i64 (j), tov] 77 :: cellsH b [fv, sv] 41 :: L)
 refine X.drawH [cellsH b1 [.int .i64 (i), .int .i64 (j), tov] 77, cellsH b [fv, sv] 41] L 15 [[], [], [], [], [], [], [], [], [], [], [], [], [11], [11], [11, 13]] [[], [], [1], [2], [3], [], [5], [], [7], [], [9], [10], [6, 8, 11], [11, 12], [4, 11, 13]] [[], [], [], [], [], [], [], [], [], [], [], [], [], [], [13]] (phiG [fun FF us v => v = ptr b 0, fun FF us v => v = ptr b 0, fun FF us v => v = ptr b 0, fun FF us v => v = ptr b 1, fun FF us v => v = sv, fun FF us v => v = ptr b1 0, fun FF us v => v = (.int .i64 (i) : Value), fun FF us v => v = ptr b1 1, fun FF us v => v = (.int .i64 (j) : Value), fun FF us v => v = ptr b1 2, fun FF us v => v = tov, fun FF us v => ((v) : Value) = v ∧ (IntsF FF (v) (to)) ∧ (FrIntsF F FF 2 (v) (to)), fun FF us v => v = (.agg #[.int .i64 (i), .int .i64 (j), ((us.getD 0 undef))] : Value), fun FF us v => ∃ b, v = .slice (some ⟨b, 0, none⟩) 1 1, fun FF us v => IsSl v]) (ownL [fun us v => [], fun us v => [], fun us v => [], fun us v => [], fun us v => [], fun us v => [], fun us v => [], fun us v => [], fun us v => [], fun us v => [], fun us v => [], fun us v => [], fun us v => [], fun us v => [slH 77 3 v 1 [.int .i64 (i), .int .i64 (j), ((us.getD 0 undef))]], fun us v => [slH 77 3 (us.getD 1 undef) 1 [.int .i64 (i), .int .i64 (j), ((us.getD 0 undef))], slH 77 3 (v) ((m) + 1) (cs ++ [.int .i64 (i), .int .i64 (j), ((us.getD 0 undef))])]]) (fun i => ([[], [], [], [], [], [], [], [], [], [], [], [], [], [], [slH 77 3 sv m cs]] : List (List HP)).getD i []) mixed rfl rfl (by kernel_rfl) (by kernel_rfl) (MonoG.get (MonoG.cons (fun le h => h) (MonoG.cons (fun le h => h) (MonoG.cons (fun le h => h) (MonoG.cons (fun le h => h) (MonoG.cons (fun le h => h) (MonoG.cons (fun le h => h) (MonoG.cons (fun le h => h) (MonoG.cons (fun le h => h) (MonoG.cons (fun le h => h) (MonoG.cons (fun le h => h) (MonoG.cons (fun le h => h) (MonoG.cons (fun le h => ⟨h.1, h.2.1.mono le, h.2.2.mono le⟩) (MonoG.cons (fun le h => h) (MonoG.cons (fun le h => h) (MonoG.cons (fun le h => h) MonoG.nil)))))))))))))))) ?_ ?_
 ·refine stepsT.cons (fun vals Fs R leFs hpZ => ?_) ?_
  ·refine XG.op (XOp.move (ptr b 0) rfl ?_)
   exact ⟨rfl, rfl⟩
  refine stepsT.cons (fun vals Fs R leFs hpZ => ?_) ?_
  ·refine XG.op (XOp.move (ptr b 0) rfl ?_)
   exact ⟨rfl, rfl⟩
  refine stepsT.cons (fun vals Fs R leFs hpZ => ?_) ?_
  ·have e1 : vals 1 = ptr b 0 := hpZ 1 (by decide)
   replace hto := hto.mono leFs
   replace hC := hC.mono leFs
   rw [(envs_of_sat (l := [(1, ptr b 0)]) ⟨e1, trivial⟩).symm]
   refine XG.op (XOp.nilCheck (a := ⟨b, 0, none⟩) rfl ?_)
   exact ⟨rfl, rfl⟩
  refine stepsT.cons (fun vals Fs R leFs hpZ => ?_) ?_
  ·have e2 : vals 2 = ptr b 0 := hpZ 2 (by decide)
   rw [(envs_of_sat (l := [(2, ptr b 0)]) ⟨e2, trivial⟩).symm]
   refine XG.op (XOp.fieldP (b := b) (1) Try.runUnderlying41 rfl Try.sizeOf39 (by decide) rfl rfl ?_)
   exact ⟨rfl, rfl⟩
  refine stepsT.cons (fun vals Fs R leFs hpZ => ?_) ?_
  ·have e3 : vals 3 = ptr b 1 := hpZ 3 (by decide)
   replace hto := hto.mono leFs
   replace hC := hC.mono leFs
   rw [(envs_of_sat (l := [(3, ptr b 1)]) ⟨e3, trivial⟩).symm]
   refine XG.op (XOp.load1 (v := sv) Try.isAgg39 rfl (Rd.own [_] rfl rfl) ?_)
   exact ⟨rfl, rfl⟩
  refine stepsT.cons (fun vals Fs R leFs hpZ => ?_) ?_
  ·refine XG.op (XOp.fieldP (b := b1) (0) Try.runUnderlying77 rfl Try.sizeOf2 (by decide) rfl rfl ?_)
   exact ⟨rfl, rfl⟩
  refine stepsT.cons (fun vals Fs R leFs hpZ => ?_) ?_
  ·have e5 : vals 5 = ptr b1 0 := hpZ 5 (by decide)
   replace hto := hto.mono leFs
   replace hC := hC.mono leFs
   rw [(envs_of_sat (l := [(5, ptr b1 0)]) ⟨e5, trivial⟩).symm]
   refine XG.op (XOp.load1 (v := .int .i64 (i)) Try.isAgg2 rfl (Rd.own [] rfl rfl) ?_)
   exact ⟨rfl, rfl⟩
  refine stepsT.cons (fun vals Fs R leFs hpZ => ?_) ?_
  ·refine XG.op (XOp.fieldP (b := b1) (1) Try.runUnderlying77 rfl Try.sizeOf2 (by decide) rfl rfl ?_)
   exact ⟨rfl, rfl⟩
  refine stepsT.cons (fun vals Fs R leFs hpZ => ?_) ?_
  ·have e7 : vals 7 = ptr b1 1 := hpZ 7 (by decide)
   replace hto := hto.mono leFs
   replace hC := hC.mono leFs
   rw [(envs_of_sat (l := [(7, ptr b1 1)]) ⟨e7, trivial⟩).symm]
   refine XG.op (XOp.load1 (v := .int .i64 (j)) Try.isAgg2 rfl (Rd.own [] rfl rfl) ?_)
   exact ⟨rfl, rfl⟩
  refine stepsT.cons (fun vals Fs R leFs hpZ => ?_) ?_
  ·refine XG.op (XOp.fieldP (b := b1) (2) Try.runUnderlying77 rfl Try.sizeOf22 (by decide) rfl rfl ?_)
   exact ⟨rfl, rfl⟩
  refine stepsT.cons (fun vals Fs R leFs hpZ => ?_) ?_
  ·have e9 : vals 9 = ptr b1 2 := hpZ 9 (by decide)
   replace hto := hto.mono leFs
   replace hC := hC.mono leFs
   rw [(envs_of_sat (l := [(9, ptr b1 2)]) ⟨e9, trivial⟩).symm]
   refine XG.op (XOp.load1 (v := tov) Try.isAgg22 rfl (Rd.own [] rfl rfl) ?_)
   exact ⟨rfl, rfl⟩
  refine stepsT.cons (fun vals Fs R leFs hpZ => ?_) ?_
  ·have e10 : vals 10 = tov := hpZ 10 (by decide)
   replace hto := hto.mono leFs
   replace hC := hC.mono leFs
   rw [(envs_of_sat (l := [(10, tov)]) ⟨e10, trivial⟩).symm]
   refine XG.op (XOp.frzF <| XOp.call (args := [tov]) Try.call94 rfl (Clone_spec hto (hlt := (by first | assumption | rfl | omega | (left; simp; done) | (right; simp; done)))) ?_)
   rintro v4 _ _ _ ⟨rfl, hs3, rfl⟩
   refine ⟨_, _, rfl, fun F1 le1 hz1 => ?_⟩
   replace hto := hto.mono le1
   replace hC := hC.mono le1
   have hf1 : IntsF F1 v4 ((to)) := intsH.fz (xs := (to)) hz1.fz
   exact ⟨⟨rfl, hf1, (hz1.base leFs)⟩, rfl⟩
  refine stepsT.cons (fun vals Fs R leFs hpZ => ?_) ?_
  ·have e6 : vals 6 = (.int .i64 (i) : Value) := hpZ 6 (by decide)
   have e8 : vals 8 = (.int .i64 (j) : Value) := hpZ 8 (by decide)
   obtain ⟨e11, f11_1ha, f11_1hz⟩ := hpZ 11 (by decide)
   replace hto := hto.mono leFs
   replace hC := hC.mono leFs
   rw [(envs_of_sat (l := [(6, (.int .i64 (i) : Value)), (8, (.int .i64 (j) : Value)), (11, ((vals 11)))]) ⟨e6, e8, (e11).symm, trivial⟩).symm]
   refine XG.op (XOp.build [.int .i64 (i), .int .i64 (j), ((vals 11))] [.int .i64 (0), .int .i64 (0), (.slice none 0 0)] [(0, 1), (1, 1), (2, 1)] [(0, [.int .i64 (i)]), (1, [.int .i64 (j)]), (2, [((vals 11))])] Try.runUnderlying77 Try.zeroValue77 rfl (.cons rfl Try.sizeOf2 (.cons rfl Try.sizeOf2 (.cons rfl Try.sizeOf22 PlacesAre.nil))) rfl (.cons rfl (.cons rfl (.cons (cells_one (IntsF.isSl f11_1ha)) CellsAre.nil))) ?_)
   exact ⟨rfl, rfl⟩
  refine stepsT.cons (fun vals Fs R leFs hpZ => ?_) ?_
  ·obtain ⟨e11, f11_1ha, f11_1hz⟩ := hpZ 11 (by decide)
   have e12 : vals 12 = (.agg #[.int .i64 (i), .int .i64 (j), ((vals 11))] : Value) := hpZ 12 (by decide)
   replace hto := hto.mono leFs
   replace hC := hC.mono leFs
   rw [(envs_of_sat (l := [(11, ((vals 11))), (12, (.agg #[.int .i64 (i), .int .i64 (j), ((vals 11))] : Value))]) ⟨(e11).symm, e12, trivial⟩).symm]
   refine XG.op (XOp.buildSlice (s := 3) [.int .i64 (i), .int .i64 (j), ((vals 11))] [.int .i64 (0), .int .i64 (0), (.slice none 0 0)] [(0, [.int .i64 (i), .int .i64 (j), ((vals 11))])] Try.runUnderlying39 Try.sizeOf77 Try.zeroValue77 rfl (by decide) rfl (.cons rfl CellsAre.nil) rfl ?_)
   intro v5 hv2
   exact ⟨hv2, rfl⟩
  refine stepsT.cons (fun vals Fs R leFs hpZ => ?_) ?_
  ·have e4 : vals 4 = sv := hpZ 4 (by decide)
   obtain ⟨e11, f11_1ha, f11_1hz⟩ := hpZ 11 (by decide)
   have f13 : ∃ b, (vals 13) = .slice (some ⟨b, 0, none⟩) 1 1 := hpZ 13 (by decide)
   replace hto := hto.mono leFs
   replace hC := hC.mono leFs
   rw [(envs_of_sat (l := [(4, sv), (11, ((vals 11)))]) ⟨e4, (e11).symm, trivial⟩).symm]
   show XG _ _ _ _ _ (slH 77 3 (vals 13) 1 [.int .i64 (i), .int .i64 (j), ((vals 11))] :: slH 77 3 sv m cs :: ([cellsH b1 [.int .i64 (i), .int .i64 (j), tov] 77, cellsH b [fv, sv] 41] ++ R)) _
   refine XG.op (XOp.append (m := 1) (bytes := 40) (cs := cs) [_] _ [.int .i64 (i), .int .i64 (j), ((vals 11))] Try.runUnderlying39 Try.typeInfo77 rfl rfl rfl rfl rfl rfl rfl (SlV.own [] rfl) rfl (Rd.lit [] rfl) (ones_cons rfl (ones_cons rfl (ones_cons (one_sl (IntsF.isSl f11_1ha)) ones_nil))) (by (try simp only [List.length_append, List.length_nil, List.length_cons, List.length_singleton]); omega) (by (try simp only [List.length_append, List.length_nil, List.length_cons, List.length_singleton]); omega) ?_)
   intro v6 hs4 hn2 hm2
   have hc2 := StepsC.snoc hC (i := i) (j := j) f11_1ha
   exact ⟨hs4, rfl⟩
  exact stepsT.nil
 ·intro vals F2 le2 hphi
  have e0 : vals 0 = ptr b 0 := hphi 0 (by decide)
  have e1 : vals 1 = ptr b 0 := hphi 1 (by decide)
  have e2 : vals 2 = ptr b 0 := hphi 2 (by decide)
  have e3 : vals 3 = ptr b 1 := hphi 3 (by decide)
  have e4 : vals 4 = sv := hphi 4 (by decide)
  have e5 : vals 5 = ptr b1 0 := hphi 5 (by decide)
  have e6 : vals 6 = (.int .i64 (i) : Value) := hphi 6 (by decide)
  have e7 : vals 7 = ptr b1 1 := hphi 7 (by decide)
  have e8 : vals 8 = (.int .i64 (j) : Value) := hphi 8 (by decide)
  have e9 : vals 9 = ptr b1 2 := hphi 9 (by decide)
  have e10 : vals 10 = tov := hphi 10 (by decide)
  obtain ⟨e11, f11_1ha, f11_1hz⟩ := hphi 11 (by decide)
  have e12 : vals 12 = (.agg #[.int .i64 (i), .int .i64 (j), ((vals 11))] : Value) := hphi 12 (by decide)
  have f13 : ∃ b, (vals 13) = .slice (some ⟨b, 0, none⟩) 1 1 := hphi 13 (by decide)
  have f14 : IsSl (vals 14) := hphi 14 (by decide)
  generalize hu1 : ((vals 11)) = u1 at e0 e1 e2 e3 e4 e5 e6 e7 e8 e9 e10 e11 f11_1ha f11_1hz e12 f13 f14
  generalize hu13 : vals 13 = u2 at e0 e1 e2 e3 e4 e5 e6 e7 e8 e9 e10 e11 f11_1ha f11_1hz e12 f13 f14
  generalize hu14 : vals 14 = u3 at e0 e1 e2 e3 e4 e5 e6 e7 e8 e9 e10 e11 f11_1ha f11_1hz e12 f13 f14
  rw [(envs_of_sat (l := [(0, ptr b 0), (1, ptr b 0), (2, ptr b 0), (3, ptr b 1), (4, sv), (5, ptr b1 0), (6, (.int .i64 (i) : Value)), (7, ptr b1 1), (8, (.int .i64 (j) : Value)), (9, ptr b1 2), (10, tov), (11, u1), (12, (.agg #[.int .i64 (i), .int .i64 (j), u1] : Value)), (13, u2), (14, u3)]) ⟨e0, e1, e2, e3, e4, e5, e6, e7, e8, e9, e10, hu1, e12, hu13, hu14, trivial⟩).symm]
  replace hto := hto.mono le2
  replace hC := hC.mono le2
  have hc3 := StepsC.snoc hC (i := i) (j := j) f11_1ha
  show XL _ _ _ _ _ _ _ (slH 77 3 u2 1 [.int .i64 (i), .int .i64 (j), u1] :: slH 77 3 u3 ((m) + 1) (cs ++ [.int .i64 (i), .int .i64 (j), u1]) :: cellsH b1 [.int .i64 (i), .int .i64 (j), tov] 77 :: cellsH b [fv, sv] 41 :: L)
  skip
  refine XL.cons (XOp.nilCheck (a := ⟨b, 0, none⟩) rfl ?_)
  refine XL.cons (XOp.fieldP (b := b) (1) Try.runUnderlying41 rfl Try.sizeOf39 (by decide) rfl rfl ?_)
  refine XL.cons (XOp.store1 (v := u3) [_, _, _] _ [fv, u3] Try.sizeOf39 rfl rfl (one_sl f14) rfl rfl rfl ?_)
  refine XL.nil ?_
  refine id (retEndN (L' := cellsH b [fv, u3] 41 :: slH 77 3 u3 ((m) + 1) (cs ++ [.int .i64 (i), .int .i64 (j), u1]) :: L) [] (.tuple #[]) (by exact .nil) rfl le2 (FLe.refl _) (Sub.trans (Sub.front (A := [_])) (Sub.trans (Sub.front (A := [_, _, _])) (Sub.cons (Sub.cons (Sub.drop (Sub.drop (Sub.refl _))))))) ?_)
  exact ⟨_, _, f14, f11_1ha, f11_1hz, rfl⟩

/- slices.Backward[[]impl.Step,impl.Step] -/
theorem backward_spec {F : FH} {L : List HP} {sv : Value} {s : List StepT} (hs : StepsF F sv s) :
    Does Try.prog 124 [sv] F (L) (fun v F' L' => ∃ (bt : Nat), (.func (.func 144) #[] #[ptr bt 0] : Value) = v ∧ FzC F' bt [sv] ∧ L = L') := by
 refine Does.of_X Try.func124 rfl rfl rfl ?_
 refine X.seq ?_
 refine X.region ?_
 refine XL.cons (XOp.box [sv] rfl (cells_one (StepsF.isSl hs)) ?_)
 intro b1
 refine XL.cons (XOp.assign (.nilFunc) rfl ?_)
 refine XL.nil ?_
 refine X.seq ?_
 refine X.region ?_
 refine XL.cons (XOp.makeFuncL [] [ptr b1 0] rfl rfl ?_)
 refine XL.cons (XOp.assign (.func (.func 144) #[] #[ptr b1 0]) rfl ?_)
 refine XL.nil ?_
 refine X.freeze [] _ _ rfl (fun F1 le1 hz1 => ?_)
 replace hs := hs.mono le1
 have hf1 : FzC F1 b1 [sv] := Fz.cells hz1
 refine X.ret (retEnd (L' := L) [.func (.func 144) #[] #[ptr b1 0]] (.func (.func 144) #[] #[ptr b1 0]) (.tmp rfl .nil) rfl le1 (FLe.refl _) (Sub.refl _) ?_)
 exact ⟨_, rfl, hf1, rfl⟩

/- slices.Backward[[]impl.Step,impl.Step]$1 -/
set_option maxRecDepth 20000 in
theorem backIt_spec {F : FH} {L : List HP} {l bt : Nat} {R : Loop} {sv : Value} {ss : List StepT} (hbt : FzC F bt [sv]) (hs : StepsF F sv ss) (hsl : ss.length ≤ 4000000) {J : Nat → FH → List HP → Prop} (hJ0 : J ss.length F L) (hyes : ∀ (k : Nat) (i : Int) (Fy : FH) (Ly : List HP) (tov : Value), k < ss.length → F ≤ Fy → J (k + 1) Fy Ly → IntsF Fy tov (ss.getD k (0, 0, [])).2.2 → i = (k : Int) → Yld Try.prog l [.int .i64 i, .agg #[.int .i64 (ss.getD k (0, 0, [])).1, .int .i64 (ss.getD k (0, 0, [])).2.1, tov]] Fy (objH l (.loop R) :: Ly) (fun v F' L' => .bool true = v ∧ ∃ L2, J k F' L2 ∧ objH l (.loop R) :: L2 = L')) :
    Does Try.prog 144 [(.func (.yield l) #[] #[]), ptr bt 0] F (objH l (.loop R) :: L) (fun v F' L' => ∃ L2, J 0 F' L2 ∧ objH l (.loop R) :: L2 = L') := by
 refine Does.of_X Try.func144 rfl rfl rfl ?_
 refine X.seq ?_
 refine X.region ?_
 refine XL.cons (XOp.load1 (v := sv) Try.isAgg39 rfl (FzC.rd1 hbt rfl) ?_)
 refine XL.cons (XOp.lenS (v := sv) (n := (ss).length) Try.runUnderlying39 rfl hs.slv ?_)
 refine XL.cons (XOp.subR (a := (((ss).length : Nat) : Int)) (b := 1) (((((ss).length : Nat) : Int)) - 1) rfl rfl (by omega) (by omega) ?_)
 refine XL.cons (XOp.assign (.int .i64 (((((ss).length : Nat) : Int)) - 1)) rfl ?_)
 refine XL.nil ?_
 refine X.block ?_
 refine X.loop (α := Nat × List HP × FH) (fun xQ => [(0, (.func (.yield l) #[] #[])), (1, ptr bt 0), (3, .int .i64 ((xQ.1 : Int) - 1))]) (fun xQ => objH l (.loop R) :: xQ.2.1) (fun xQ F' => xQ.2.2 = F' ∧ F ≤ xQ.2.2 ∧ (xQ.1 ≤ ss.length) ∧ (J xQ.1 xQ.2.2 xQ.2.1)) (fun xQ => xQ.1) (ss.length, L, F) ⟨rfl, rfl, rfl, trivial⟩ (Sub.cons (Sub.refl _)) ⟨rfl, FLe.refl _, (Nat.le_refl _), (hJ0)⟩ ?_
 rintro ⟨j, Lk, G1⟩ rE _ _ ⟨rfl, leG, hj, hJ⟩
 show X _ _ _ _ (envs [(0, (.func (.yield l) #[] #[])), (1, ptr bt 0), (3, .int .i64 ((j : Int) - 1))] rE) _ (objH l (.loop R) :: Lk)
 replace leG : F ≤ G1 := leG
 dsimp only at hj hJ
 have hjl : j - 1 < ss.length ∨ j = 0 := by omega
 have leG1 := leG
 replace hs := hs.mono leG1
 replace hbt := hbt.mono leG1
 refine X.seq ?_
 refine X.seq ?_
 refine X.region ?_
 refine XL.cons (XOp.move (.int .i64 ((j : Int) - 1)) rfl ?_)
 refine XL.cons (XOp.geq (a := (j : Int) - 1) (b := 0) rfl rfl ?_)
 refine XL.nil ?_
 refine X.condD (p := ((j : Int) - 1 : Int) ≥ 0) rfl (fun h1 => ?_) (fun h1 => ?_)
 ·have hj0 : ((j : Int) - 1).toNat = j - 1 := by omega
  have hjk : ((j : Int) - 1) = ((j - 1 : Nat) : Int) := by omega
  refine X.skip ?_
  refine X.seq ?_
  refine X.block ?_
  refine X.seq ?_
  refine X.ofI (by kernel_rfl) ?_
  refine XI.region ?_
  refine XIL.cons (XOp.move ((.func (.yield l) #[] #[])) rfl ?_)
  refine XIL.cons (XOp.move (.int .i64 ((j : Int) - 1)) rfl ?_)
  refine XIL.cons (XOp.load1 (v := sv) Try.isAgg39 rfl (FzC.rd1 hbt rfl) ?_)
  refine XIL.cons (XOp.move (.int .i64 ((j : Int) - 1)) rfl ?_)
  refine XIL.cons (XOp.indexS (v := sv) (i := (j : Int) - 1) (n := (ss).length) (((j : Int) - 1).toNat) Try.runUnderlying39 Try.sizeOf77 rfl rfl (by omega) hs.slv (by omega) rfl ?_)
  obtain ⟨a1, ha1, hr1, hr2, hr3⟩ := hs.rd (i := ((j : Int) - 1).toNat) (by omega)
  refine XIL.cons (XOp.loadN [.int .i64 ((ss.getD (((j : Int) - 1).toNat) (0, 0, [])).1), .int .i64 ((ss.getD (((j : Int) - 1).toNat) (0, 0, [])).2.1), a1] Try.isAgg77 Try.sizeOf77 rfl rfl (Rd.three (hr1 _) (hr2 _) (hr3 _)) ?_)
  refine XIL.yield (k := l) (args := [.int .i64 ((j : Int) - 1), .agg #[.int .i64 ((ss.getD (((j : Int) - 1).toNat) (0, 0, [])).1), .int .i64 ((ss.getD (((j : Int) - 1).toNat) (0, 0, [])).2.1), a1]]) rfl (by rfl) ?_
  refine Yld.weaken (Sub.cons (Sub.refl _)) ?_
  have hJ9 : J ((((j : Int) - 1).toNat) + 1) G1 Lk := by rw [show ((j : Int) - 1).toNat + 1 = j from by omega]; exact hJ
  refine (hyes _ _ _ _ _ (by omega) leG1 hJ9 ha1 (by omega)).mono ?_
  rintro _ F1 _ le1 ⟨rfl, Lj1, hJ1, rfl⟩
  rw [hj0] at hJ1
  replace hs := hs.mono le1
  replace hbt := hbt.mono le1
  replace ha1 := ha1.mono le1
  replace hr1 := Rd.monoA hr1 le1
  replace hr2 := Rd.monoA hr2 le1
  replace hr3 := Rd.monoA hr3 le1
  show XIL _ _ _ _ _ _ _ _ _ (objH l (.loop R) :: Lj1)
  refine XIL.cons (XOp.notB (b := true) rfl ?_)
  refine XIL.nil ?_
  refine X.condF rfl ?_
  refine X.skip ?_
  refine X.region ?_
  refine XL.cons (XOp.move (.int .i64 ((j : Int) - 1)) rfl ?_)
  refine XL.cons (XOp.subR (a := (j : Int) - 1) (b := 1) (((j : Int) - 1) - 1) rfl rfl (by omega) (by omega) ?_)
  refine XL.cons (XOp.assign (.int .i64 (((j : Int) - 1) - 1)) rfl ?_)
  refine XL.nil ?_
  exact ⟨(j - 1, Lj1, F1), _, (FLe.trans leG1 le1), (FLe.refl _), ⟨rfl, rfl, (congrArg (Value.int .i64) (by (try dsimp only); omega)), trivial⟩, (Sub.cons (Sub.refl _)), ⟨rfl, (FLe.trans leG1 le1), (by (try dsimp only) <;> omega), (hJ1)⟩, (by (try dsimp only); omega)⟩
 ·refine X.exit (thenQ_exit (thenQ_exit (blockQ_exit ?_)))
  refine id (retEndN (L' := objH l (.loop R) :: Lk) [] (.tuple #[]) (by exact .nil) rfl leG1 (FLe.refl _) (Sub.cons (Sub.refl _)) ?_)
  obtain rfl : j = 0 := by omega
  exact ⟨_, hJ, rfl⟩

/- impl.walkBack -/
set_option maxRecDepth 20000 in
theorem walkBack_spec {F : FH} {L : List HP} {alv : Value} {al : List FoundT} {alcs : List Value} (hal : FoundsF F alv al alcs) {k : Nat} (hk : k < al.length) (hll : al.length ≤ 60) (hlk : Link al) (hbd : ∀ i, i < al.length → (EL al i).1.length ≤ 60) :
    Does Try.prog 102 [alv, .int .i64 (((k : Nat) : Int))] F (L) (fun v F' L' => ∃ (a : Value), ∃ (b : Value), (.agg #[a, b] : Value) = v ∧ (IntsF F' a (EL al 0).1) ∧ (StepsF F' b (walkL al k)) ∧ (Fresh F F' (star [intsH 2 a (EL al 0).1, stepsD 2 77 b (walkL al k)])) ∧ L = L') := by
 refine Does.of_XF Try.func102 rfl (by kernel_rfl) rfl ?_
 have hbd0 : (al.getD 0 ([], 0, (0, 0, []), 0)).1.length ≤ 60 := hbd 0 (by omega)
 refine XF.seq ?_
 refine X.region ?_
 refine XL.cons (XOp.alloc [(.slice none 0 0), (.slice none 0 0)] Try.zeroValue41 rfl ?_)
 intro b1
 refine XL.nil ?_
 refine XF.seq ?_
 refine X.region ?_
 refine XL.cons (XOp.move (alv) rfl ?_)
 refine XL.cons (XOp.indexS (v := alv) (i := 0) (n := (al).length) 0 Try.runUnderlying87 Try.sizeOf91 rfl rfl rfl hal.slv (by omega) rfl ?_)
 refine XL.cons (XOp.fieldE (v := alv) (0 * 6) Try.runUnderlying91 rfl Try.sizeOf22 (by decide) rfl rfl ?_)
 obtain ⟨a1, a2, ha1, ha2, hrg1, hq1⟩ := hal.rd (i := 0) (by omega)
 refine XL.cons (XOp.load1 (v := a1) Try.isAgg22 rfl (hrg1 _ 0 _ rfl) ?_)
 refine XL.cons (XOp.frzF <| XOp.call (args := [a1]) Try.call94 rfl (Clone_spec ha1 (hlt := (by first | assumption | rfl | omega | (left; simp; done) | (right; simp; done)))) ?_)
 rintro v1 _ _ _ ⟨rfl, hs1, rfl⟩
 refine ⟨_, _, rfl, fun F1 le1 hz1 => ?_⟩
 replace hal := hal.mono le1
 replace ha1 := ha1.mono le1
 replace ha2 := ha2.mono le1
 replace hrg1 := fun L9 j9 u9 h9 => Rd.mono (hrg1 L9 j9 u9 h9) le1
 have hf1 : IntsF F1 v1 ((((al.getD 0 ([], 0, (0, 0, []), 0)).1))) := intsH.fz (xs := (((al.getD 0 ([], 0, (0, 0, []), 0)).1))) hz1.fz
 refine XL.cons (XOp.build [v1, (.slice none 0 0)] [(.slice none 0 0), (.slice none 0 0)] [(0, 1), (1, 1)] [(0, [v1])] Try.runUnderlying41 Try.zeroValue41 rfl (.cons rfl Try.sizeOf22 (.cons rfl Try.sizeOf39 PlacesAre.nil)) rfl (.cons (cells_one (IntsF.isSl hf1)) CellsAre.nil) ?_)
 refine XL.cons (XOp.alloc [(.slice none 0 0), (.slice none 0 0)] Try.zeroValue41 rfl ?_)
 intro b2
 refine XL.cons (XOp.storeN (vs := [v1, (.slice none 0 0)]) [] _ [v1, (.slice none 0 0)] Try.sizeOf41 rfl rfl rfl (ones_cons (one_sl (IntsF.isSl hf1)) (ones_cons rfl ones_nil)) rfl rfl rfl ?_)
 refine XL.nil ?_
 refine XF.seq ?_
 refine X.region ?_
 refine XL.cons (XOp.assign ((.slice none 0 0)) rfl ?_)
 refine XL.nil ?_
 refine XF.seq ?_
 refine X.block ?_
 refine X.loop (α := Nat × Value × List StepT × List Value × Nat) (fun xQ => [(0, alv), (1, .int .i64 (((xQ.1 : Nat) : Int))), (4, ptr b1 0), (5, ptr b2 0), (6, xQ.2.1)]) (fun xQ => slH 77 3 xQ.2.1 xQ.2.2.2.2 xQ.2.2.2.1 :: cellsH b2 [v1, (.slice none 0 0)] 41 :: cellsH b1 [(.slice none 0 0), (.slice none 0 0)] 41 :: L) (fun xQ F' => F1 = F' ∧ (xQ.1 < al.length) ∧ (IsSl xQ.2.1) ∧ (StepsC F1 xQ.2.2.2.1 xQ.2.2.1) ∧ (xQ.2.2.2.2 = xQ.2.2.1.length) ∧ (xQ.2.2.2.2 + xQ.1 ≤ k) ∧ (backL al k = xQ.2.2.1 ++ backL al xQ.1)) (fun xQ => xQ.1) (k, (.slice none 0 0), [], [], 0) ⟨rfl, rfl, rfl, rfl, rfl, trivial⟩ (Sub.trans (Sub.addNil 77 3 _ _) (Sub.cons (Sub.cons (Sub.cons (Sub.refl _))))) ⟨rfl, (hk), (⟨_, _, _, rfl⟩), (CO.nil), (rfl), (by (try dsimp only) <;> omega), (rfl)⟩ ?_
 rintro ⟨j, sv, ss, cs, m⟩ rE _ _ ⟨rfl, hj, hsv, hC, hm, hmj, hbk⟩
 show X _ _ _ _ (envs [(0, alv), (1, .int .i64 (((j : Nat) : Int))), (4, ptr b1 0), (5, ptr b2 0), (6, sv)] rE) _ (slH 77 3 sv m cs :: cellsH b2 [v1, (.slice none 0 0)] 41 :: cellsH b1 [(.slice none 0 0), (.slice none 0 0)] 41 :: L)
 dsimp only at hj hsv hC hm hmj hbk
 have hlj := fun (h : 0 < j) => hlk.2 j h hj
 have hljx : 0 < j → 0 ≤ (al.getD j ([], 0, (0, 0, []), 0)).2.1 ∧ (al.getD j ([], 0, (0, 0, []), 0)).2.1 < (j : Int) := fun h => ⟨(hlj h).1, (hlj h).2.1⟩
 refine X.seq ?_
 refine X.seq ?_
 refine X.region ?_
 refine XL.cons (XOp.move (.int .i64 (((j : Nat) : Int))) rfl ?_)
 refine XL.cons (XOp.gtr (a := ((j : Nat) : Int)) (b := 0) rfl rfl ?_)
 refine XL.nil ?_
 refine X.condD (p := (((j : Nat) : Int) : Int) > 0) rfl (fun h1 => ?_) (fun h1 => ?_)
 ·refine X.skip ?_
  refine X.seq ?_
  refine X.block ?_
  refine X.region ?_
  refine XL.cons (XOp.move (sv) rfl ?_)
  refine XL.cons (XOp.move (alv) rfl ?_)
  refine XL.cons (XOp.move (.int .i64 (((j : Nat) : Int))) rfl ?_)
  refine XL.cons (XOp.indexS (v := alv) (i := ((j : Nat) : Int)) (n := (al).length) j Try.runUnderlying87 Try.sizeOf91 rfl rfl rfl hal.slv (by omega) rfl ?_)
  refine XL.cons (XOp.fieldE (v := alv) (j * 6 + 2) Try.runUnderlying91 rfl Try.sizeOf77 (by decide) rfl rfl ?_)
  obtain ⟨a3, a4, ha3, ha4, hrg2, hq2⟩ := hal.rd (i := j) (by omega)
  refine XL.cons (XOp.loadN [.int .i64 ((al.getD j ([], 0, (0, 0, []), 0)).2.2.1.1), .int .i64 ((al.getD j ([], 0, (0, 0, []), 0)).2.2.1.2.1), a4] Try.isAgg77 Try.sizeOf77 rfl rfl (Rd.part 2 (hrg2 _) rfl) ?_)
  refine XL.cons (XOp.buildSlice (s := 3) [.int .i64 ((al.getD j ([], 0, (0, 0, []), 0)).2.2.1.1), .int .i64 ((al.getD j ([], 0, (0, 0, []), 0)).2.2.1.2.1), a4] [.int .i64 (0), .int .i64 (0), (.slice none 0 0)] [(0, [.int .i64 ((al.getD j ([], 0, (0, 0, []), 0)).2.2.1.1), .int .i64 ((al.getD j ([], 0, (0, 0, []), 0)).2.2.1.2.1), a4])] Try.runUnderlying39 Try.sizeOf77 Try.zeroValue77 rfl (by decide) rfl (.cons rfl CellsAre.nil) rfl ?_)
  intro v2 hv1
  refine XL.cons (XOp.append (m := 1) (bytes := 40) (cs := cs) [_] _ [.int .i64 ((al.getD j ([], 0, (0, 0, []), 0)).2.2.1.1), .int .i64 ((al.getD j ([], 0, (0, 0, []), 0)).2.2.1.2.1), a4] Try.runUnderlying39 Try.typeInfo77 rfl rfl rfl rfl rfl rfl rfl (SlV.own [] rfl) rfl (Rd.lit [] rfl) (ones_cons rfl (ones_cons rfl (ones_cons (one_sl (IntsF.isSl ha4)) ones_nil))) (by (try simp only [List.length_append, List.length_nil, List.length_cons, List.length_singleton]); omega) (by (try simp only [List.length_append, List.length_nil, List.length_cons, List.length_singleton]); omega) ?_)
  intro v3 hs2 hn1 hm1
  have hc1 := StepsC.snoc hC (i := (al.getD j ([], 0, (0, 0, []), 0)).2.2.1.1) (j := (al.getD j ([], 0, (0, 0, []), 0)).2.2.1.2.1) ha4
  refine XL.cons (XOp.assign (v3) rfl ?_)
  refine XL.nil ?_
  refine X.region ?_
  refine XL.cons (XOp.move (alv) rfl ?_)
  refine XL.cons (XOp.move (.int .i64 (((j : Nat) : Int))) rfl ?_)
  refine XL.cons (XOp.indexS (v := alv) (i := ((j : Nat) : Int)) (n := (al).length) j Try.runUnderlying87 Try.sizeOf91 rfl rfl rfl hal.slv (by omega) rfl ?_)
  refine XL.cons (XOp.fieldE (v := alv) (j * 6 + 1) Try.runUnderlying91 rfl Try.sizeOf3 (by decide) rfl rfl ?_)
  refine XL.cons (XOp.load1 (v := .int .i64 ((al.getD j ([], 0, (0, 0, []), 0)).2.1)) Try.isAgg3 rfl (hrg2 _ 1 _ rfl) ?_)
  refine XL.cons (XOp.assign (.int .i64 ((al.getD j ([], 0, (0, 0, []), 0)).2.1)) rfl ?_)
  refine XL.nil ?_
  exact ⟨((al.getD j ([], 0, (0, 0, []), 0)).2.1.toNat, v3, ss ++ [((al.getD j ([], 0, (0, 0, []), 0)).2.2.1.1, (al.getD j ([], 0, (0, 0, []), 0)).2.2.1.2.1, (al.getD j ([], 0, (0, 0, []), 0)).2.2.1.2.2)], cs ++ [.int .i64 ((al.getD j ([], 0, (0, 0, []), 0)).2.2.1.1), .int .i64 ((al.getD j ([], 0, (0, 0, []), 0)).2.2.1.2.1), a4], (m) + 1), _, FLe.refl _, (FLe.refl _), ⟨rfl, (congrArg (Value.int .i64) (by have := hljx (by omega); (try dsimp only); omega)), rfl, rfl, rfl, trivial⟩, (Sub.drop (Sub.cons (Sub.cons (Sub.cons (Sub.refl _))))), ⟨rfl, (by have := hljx (by omega); (try dsimp only); omega), (hs2), (hc1), (by (try dsimp only); rw [List.length_append, List.length_singleton]; omega), (by have := hljx (by omega); (try dsimp only); omega), (by (try dsimp only); rw [hbk, backL_succ hlk (by omega) hj, List.append_assoc]; rfl)⟩, (by have := hljx (by omega); (try dsimp only); omega)⟩
 ·refine X.exit (thenQ_exit (thenQ_exit (blockQ_exit ?_)))
  refine XF.ofR ?_
  refine XR.seq ?_
  refine X.region ?_
  skip
  refine XL.cons (XOp.move (sv) rfl ?_)
  refine XL.freezeF [] _ _ rfl (fun F2 le2 hz2 => ?_)
  replace hal := hal.mono le2
  replace ha1 := ha1.mono le2
  replace ha2 := ha2.mono le2
  replace hf1 := hf1.mono le2
  replace hC := hC.mono le2
  have hf2 : StepsF F2 sv ss := CO.fz hC (by first | rfl | simp | omega) hz2.fz
  refine XL.cons (XOp.call (args := [sv]) Try.call124 rfl (backward_spec hf2) ?_)
  rintro _ F3 _ le3 ⟨x1, rfl, hb1, rfl⟩
  replace hal := hal.mono le3
  replace ha1 := ha1.mono le3
  replace ha2 := ha2.mono le3
  replace hf1 := hf1.mono le3
  replace hC := hC.mono le3
  replace hf2 := hf2.mono le3
  refine XL.nil ?_
  refine XR.rangeB (gf := 144) (lb := [ptr x1 0]) rfl Try.call144 (fun l D R hRs hRp hRps hRa hRb hRz hRg => ?_)
  have hR0 : ({ R with state := .ready, pending := none } : Loop) = R := by
   cases R
   simp only at hRs hRp
   subst hRs hRp
   rfl
  have hssb : ss = backL al k := by rw [hbk, show j = 0 from by omega, backL_zero, List.append_nil]
  have htb : ∀ i, i < ss.length → (ss.getD i (0, 0, [])).2.2.length ≤ 60 := fun i hi => by
   obtain ⟨q, hq, he⟩ := backL_mem hlk k k (Nat.le_refl _) hk (ss.getD i (0, 0, [])) (by rw [← hssb]; simp [List.getD, hi])
   rw [he]; exact hbd q hq
  have hyes : ∀ (k : Nat) (i : Int) (Fy : FH) (Ly : List HP) (tov : Value), k < ss.length → F3 ≤ Fy → (WJ F3 2 77 41 b2 v1 ss (objH D (.deferred (some [])) :: cellsH b1 [(.slice none 0 0), (.slice none 0 0)] 41 :: L)) (k + 1) Fy Ly → IntsF Fy tov (ss.getD k (0, 0, [])).2.2 → i = (k : Int) → Yld Try.prog l [.int .i64 i, .agg #[.int .i64 (ss.getD k (0, 0, [])).1, .int .i64 (ss.getD k (0, 0, [])).2.1, tov]] Fy (objH l (.loop R) :: Ly) (fun v F' L' => .bool true = v ∧ ∃ L2, (WJ F3 2 77 41 b2 v1 ss (objH D (.deferred (some [])) :: cellsH b1 [(.slice none 0 0), (.slice none 0 0)] 41 :: L)) k F' L2 ∧ objH l (.loop R) :: L2 = L') := by
   intro k i Fy Ly tov hk9 leF hJ hto hi
   obtain ⟨sv8, ss8, cs8, Ls8, m8, hsv8, hC8, hm8, hDp, hZ, hss8, rfl⟩ := hJ
   have hssl : ss8.length ≤ 60 := by rw [hss8, List.length_reverse, List.length_drop]; omega
   have htob := htb k hk9
   refine Yld.of_round hRs hRp hRps hRa hRb hRz hRg rfl (by kernel_rfl) (by kernel_rfl) (by kernel_rfl) ?_
   refine XI.slots [(32, .int .i64 (i)), (33, .agg #[.int .i64 ((ss.getD k (0, 0, [])).1), .int .i64 ((ss.getD k (0, 0, [])).2.1), tov]), (5, ptr b2 0)] ⟨rfl, rfl, rfl, trivial⟩ (fun rE => ?_)
   refine XI.region ?_
   refine XIL.cons (XOp.alloc [.int .i64 (0), .int .i64 (0), (.slice none 0 0)] Try.zeroValue77 rfl ?_)
   intro b3
   refine XIL.cons (XOp.storeN (vs := [.int .i64 ((ss.getD k (0, 0, [])).1), .int .i64 ((ss.getD k (0, 0, [])).2.1), tov]) [] _ [.int .i64 ((ss.getD k (0, 0, [])).1), .int .i64 ((ss.getD k (0, 0, [])).2.1), tov] Try.sizeOf77 rfl rfl rfl (ones_cons rfl (ones_cons rfl (ones_cons (one_sl (IntsF.isSl hto)) ones_nil))) rfl rfl rfl ?_)
   refine XIL.nil ?_
   refine ⟨cellsH b3 [.int .i64 ((ss.getD k (0, 0, [])).1), .int .i64 ((ss.getD k (0, 0, [])).2.1), tov] 77 :: cellsH b2 [v1, sv8] 41 :: slH 77 3 sv8 m8 cs8 :: objH D (.deferred (some [])) :: cellsH b1 [(.slice none 0 0), (.slice none 0 0)] 41 :: L, (Sub.trans (Sub.front (A := [_, _, _])) (Sub.trans (Sub.front (A := [_, _, _])) (Sub.trans (Sub.front (A := [_, _])) (Sub.trans (Sub.front (A := [_, _, _])) (Sub.cons (Sub.cons (Sub.cons (Sub.cons (Sub.refl _))))))))), ?_⟩
   refine XI.block ?_
   refine XI.region ?_
   refine XIL.cons (XOp.loadN [.int .i64 ((ss.getD k (0, 0, [])).1), .int .i64 ((ss.getD k (0, 0, [])).2.1), tov] Try.isAgg77 Try.sizeOf77 rfl rfl (Rd.ownN [_] rfl rfl) ?_)
   refine XIL.weaken (Sub.front (A := [_, _, _])) ?_
   show XIL _ _ _ _ _ _ _ _ _ (slH 77 3 sv8 m8 cs8 :: objH l (.loop { R with state := .busy }) :: cellsH b3 [.int .i64 ((ss.getD k (0, 0, [])).1), .int .i64 ((ss.getD k (0, 0, [])).2.1), tov] 77 :: cellsH b2 [v1, sv8] 41 :: objH D (.deferred (some [])) :: cellsH b1 [(.slice none 0 0), (.slice none 0 0)] 41 :: L)
   refine XIL.weaken (Sub.front (A := [_, _, _])) ?_
   show XIL _ _ _ _ _ _ _ _ _ (cellsH b2 [v1, sv8] 41 :: slH 77 3 sv8 m8 cs8 :: objH l (.loop { R with state := .busy }) :: cellsH b3 [.int .i64 ((ss.getD k (0, 0, [])).1), .int .i64 ((ss.getD k (0, 0, [])).2.1), tov] 77 :: objH D (.deferred (some [])) :: cellsH b1 [(.slice none 0 0), (.slice none 0 0)] 41 :: L)
   refine XIL.cons (XOp.call (args := [ptr b2 0, .agg #[.int .i64 ((ss.getD k (0, 0, [])).1), .int .i64 ((ss.getD k (0, 0, [])).2.1), tov]]) Try.call125 rfl (walkAdd_spec hto hsv8 hC8 (by first | rfl | assumption | omega) (by omega) (by omega)) ?_)
   rintro _ F4 _ le4 ⟨sw1, cw1, hs3, hw1, hf3, rfl⟩
   replace hC8 := hC8.mono le4
   replace hto := hto.mono le4
   have hc2 := StepsC.snoc hC8 (i := (ss.getD k (0, 0, [])).1) (j := (ss.getD k (0, 0, [])).2.1) hw1
   show XIL _ _ _ _ _ _ _ _ _ (cellsH b2 [v1, sw1] 41 :: slH 77 3 sw1 ((m8) + 1) ((cs8 ++ [.int .i64 ((ss.getD k (0, 0, [])).1), .int .i64 ((ss.getD k (0, 0, [])).2.1), cw1])) :: objH l (.loop { R with state := .busy }) :: cellsH b3 [.int .i64 ((ss.getD k (0, 0, [])).1), .int .i64 ((ss.getD k (0, 0, [])).2.1), tov] 77 :: objH D (.deferred (some [])) :: cellsH b1 [(.slice none 0 0), (.slice none 0 0)] 41 :: L)
   refine XIL.nil ?_
   refine ⟨rfl, ?_⟩
   refine ⟨cellsH b2 [v1, sw1] 41 :: slH 77 3 sw1 ((m8) + 1) ((cs8 ++ [.int .i64 ((ss.getD k (0, 0, [])).1), .int .i64 ((ss.getD k (0, 0, [])).2.1), cw1])) :: objH D (.deferred (some [])) :: cellsH b1 [(.slice none 0 0), (.slice none 0 0)] 41 :: L, (Sub.trans (Sub.front (A := [_])) (Sub.trans (Sub.front (A := [_])) (Sub.trans (Sub.front (A := [_, _])) (Sub.cons (Sub.cons (Sub.cons (Sub.drop (Sub.refl _)))))))), ?_⟩
   rw [hR0]
   exact ⟨rfl, _, ⟨_, _, _, _, _, hs3, hc2, by rw [List.length_append, List.length_singleton]; omega, DeepL.snoc hDp rfl ⟨_, rfl, rfl⟩, (Fresh.app hZ leF (Fresh.one hf3) le4), by rw [hss8]; exact (drop_rev (0, 0, []) hk9).symm, rfl⟩, rfl⟩
  refine (Does.weaken (Sub.trans (Sub.addNil 77 3 none _) (Sub.trans (Sub.front (A := [_, _, _, _])) (Sub.trans (Sub.front (A := [_, _, _])) (Sub.trans (Sub.front (A := [_, _])) (Sub.trans (Sub.front (A := [_, _, _, _])) (Sub.trans (Sub.front (A := [_, _, _, _])) (Sub.cons (Sub.cons (Sub.cons (Sub.cons (Sub.cons (Sub.refl _)))))))))))) (backIt_spec (J := (WJ F3 2 77 41 b2 v1 ss (objH D (.deferred (some [])) :: cellsH b1 [(.slice none 0 0), (.slice none 0 0)] 41 :: L))) hb1 hf2 (by omega) WJ.start hyes)).mono ?_
  rintro _ F9 _ le9 ⟨L9, ⟨sv9, ss9, cs9, Ls9, m9, hsv9, hC9, hm9, hD9, hZ9, hss9, rfl⟩, rfl⟩
  replace hal := hal.mono le9
  replace ha1 := ha1.mono le9
  replace ha2 := ha2.mono le9
  replace hf1 := hf1.mono le9
  replace hC := hC.mono le9
  replace hf2 := hf2.mono le9
  replace hb1 := hb1.mono le9
  rw [List.drop_zero] at hss9
  refine ⟨R, cellsH b2 [v1, sv9] 41 :: slH 77 3 sv9 m9 cs9 :: cellsH b1 [(.slice none 0 0), (.slice none 0 0)] 41 :: L, by rw [hRs]; simp, hRp, (Sub.trans (Sub.front (A := [_, _, _, _])) (Sub.trans (Sub.front (A := [_, _, _])) (Sub.trans (Sub.front (A := [_, _, _])) (Sub.trans (Sub.front (A := [_, _, _, _])) (Sub.trans (Sub.front (A := [_, _, _, _])) (Sub.cons (Sub.cons (Sub.cons (Sub.cons (Sub.cons (Sub.refl _))))))))))), ?_⟩
  refine XI.seq ?_
  refine XI.region ?_
  refine XIL.cons (XOp.loadN [v1, sv9] Try.isAgg41 Try.sizeOf41 rfl rfl (Rd.ownN [_] rfl rfl) ?_)
  refine XIL.cons (XOp.storeN (vs := [v1, sv9]) [_, _, _] _ [v1, sv9] Try.sizeOf41 rfl rfl rfl (ones_cons (one_sl (IntsF.isSl hf1)) (ones_cons (one_sl hsv9) ones_nil)) rfl rfl rfl ?_)
  refine XIL.nil ?_
  refine XI.freezeF [_, _] _ _ rfl (fun F5 le5 hz3 => ?_)
  replace hal := hal.mono le5
  replace ha1 := ha1.mono le5
  replace ha2 := ha2.mono le5
  replace hf1 := hf1.mono le5
  replace hC := hC.mono le5
  replace hf2 := hf2.mono le5
  replace hb1 := hb1.mono le5
  replace hC9 := hC9.mono le5
  have hf4 : StepsF F5 sv9 ss9 := CO.fz hC9 (by first | rfl | simp | omega) hz3.fz
  refine XI.ret (retEndC (L' := L) (cellsH b2 [v1, sv9] 41 :: cellsH b1 [v1, sv9] 41 :: L) [.agg #[v1, sv9]] (.agg #[v1, sv9]) (.cell rfl (loadNV [v1, sv9] Try.isAgg41 Try.sizeOf41 rfl (Rd.ownN [_, _] rfl rfl)) .nil) rfl (FLe.trans (FLe.trans (FLe.trans (FLe.trans le1 le2) le3) le9) le5) (FLe.refl _) (Sub.cons (Sub.cons (Sub.cons (Sub.refl _)))) (Sub.drop (Sub.drop (Sub.refl _))) ?_)
  have e9 : ss9 = walkL al k := by rw [hss9]; unfold walkL; rw [hbk, show j = 0 from by omega, backL_zero, List.append_nil]
  rw [← e9]
  exact ⟨_, _, rfl, hf1, hf4, (Fresh.app ((Fresh.one hz1).mono (FLe.trans le2 le3)) (FLe.trans (FLe.trans le1 le2) le3) (Fresh.one (Fresh.deep hD9 hZ9 le9 hz3 (by omega) le5)) (FLe.trans le9 le5)), rfl⟩
end Go.Proofs.Ytiaanelimbmniaa
set_option linter.unusedSimpArgs false
set_option linter.unusedVariables false
namespace Go.Proofs.Ytiaanelimbmniaa
open Go X M

/- impl.join -/
set_option maxRecDepth 20000 in
theorem join0_spec {F : FH} {L : List HP} {arv : Value} {ar : List Int} (har : IntsF F arv ar) {rsv : Value} {rs : List (List Int × List Int)} (hrs : PairsF F rsv rs) {av : Value} {a : List Int} (ha : IntsF F av a) {bv : Value} {b : List Int} (hb : IntsF F bv b) {n : Int} (hsys : sysOk ar rs = true) (ho : termOk ar a = true) (hob : termOk ar b = true) (hn20 : 0 ≤ n ∧ n ≤ 20) :
    Does Try.prog 71 [.agg #[arv, rsv], av, bv, .int .i64 (n)] F (L) (fun v F' L' => ∃ (a1 : Value), ∃ (b1 : Value), ∃ (a2 : Value), ∃ (b2 : Value), (.tuple #[.agg #[a1, b1], .agg #[a2, b2], .bool ((join0 ar rs a b n).2.2.2.2)] : Value) = v ∧ (IntsF F' a1 (join0 ar rs a b n).1) ∧ (StepsF F' b1 (join0 ar rs a b n).2.1) ∧ (IntsF F' a2 (join0 ar rs a b n).2.2.1) ∧ (StepsF F' b2 (join0 ar rs a b n).2.2.2.1) ∧ (Fresh F F' (star [intsH 2 a1 (join0 ar rs a b n).1, stepsD 2 77 b1 (join0 ar rs a b n).2.1, intsH 2 a2 (join0 ar rs a b n).2.2.1, stepsD 2 77 b2 (join0 ar rs a b n).2.2.2.1])) ∧ L = L') := by
 refine Does.of_X Try.func71 rfl rfl rfl ?_
 have hgda := reachL_good (ar := ar) (rs := rs) (t := a) (n := n) hn20.1
 have hrka := reachL_ok (n := n) hsys ho
 have hrla := hrka.1
 have hrda : ∀ i, i < (reachL ar rs a n).1.length → (EL (reachL ar rs a n).1 i).1.length ≤ 60 := fun i hi => (termOk_len (hrka.2 i hi)).2
 have hgdb := reachL_good (ar := ar) (rs := rs) (t := b) (n := n) hn20.1
 have hrkb := reachL_ok (n := n) hsys hob
 have hrlb := hrkb.1
 have hrdb : ∀ i, i < (reachL ar rs b n).1.length → (EL (reachL ar rs b n).1 i).1.length ≤ 60 := fun i hi => (termOk_len (hrkb.2 i hi)).2
 refine X.seq ?_
 refine X.region ?_
 refine XL.cons (XOp.box [arv, rsv] rfl rfl ?_)
 intro b1
 refine XL.cons (XOp.alloc [(.slice none 0 0), (.slice none 0 0)] Try.zeroValue41 rfl ?_)
 intro b2
 refine XL.cons (XOp.alloc [(.slice none 0 0), (.slice none 0 0)] Try.zeroValue41 rfl ?_)
 intro b3
 refine XL.cons (XOp.assign (.bool (false)) rfl ?_)
 refine XL.nil ?_
 refine X.seq ?_
 refine X.region ?_
 refine XL.cons (XOp.loadN [arv, rsv] Try.isAgg33 Try.sizeOf33 rfl rfl (Rd.ownN [_, _] rfl rfl) ?_)
 refine XL.cons (XOp.move (av) rfl ?_)
 refine XL.cons (XOp.move (.int .i64 (n)) rfl ?_)
 refine XL.cons (XOp.call (args := [.agg #[arv, rsv], av, .int .i64 (n)]) Try.call66 rfl (reach_spec (n := n) har hrs ha (hsys := (by first | assumption | rfl | omega | (left; simp; done) | (right; simp; done))) (ho := (by first | assumption | rfl | omega | (left; simp; done) | (right; simp; done))) (hn20 := (by first | assumption | rfl | omega | (left; simp; done) | (right; simp; done)))) ?_)
 rintro _ F1 _ le1 ⟨x1, xcs1, xLs1, rfl, hx1, hxD1, hxZ1, rfl⟩
 replace har := har.mono le1
 replace hrs := hrs.mono le1
 replace ha := ha.mono le1
 replace hb := hb.mono le1
 refine XL.cons (XOp.move (.tuple #[x1, .bool ((reachL ar rs a n).2)]) rfl ?_)
 refine XL.cons (XOp.extract (x1) rfl rfl ?_)
 refine XL.cons (XOp.extract (.bool ((reachL ar rs a n).2)) rfl rfl ?_)
 refine XL.cons (XOp.assign (x1) rfl ?_)
 refine XL.cons (XOp.assign (.bool ((reachL ar rs a n).2)) rfl ?_)
 refine XL.nil ?_
 refine X.seq ?_
 refine X.region ?_
 refine XL.cons (XOp.loadN [arv, rsv] Try.isAgg33 Try.sizeOf33 rfl rfl (Rd.ownN [_, _] rfl rfl) ?_)
 refine XL.cons (XOp.move (bv) rfl ?_)
 refine XL.cons (XOp.move (.int .i64 (n)) rfl ?_)
 refine XL.cons (XOp.call (args := [.agg #[arv, rsv], bv, .int .i64 (n)]) Try.call66 rfl (reach_spec (n := n) har hrs hb (hsys := (by first | assumption | rfl | omega | (left; simp; done) | (right; simp; done))) (ho := (by first | assumption | rfl | omega | (left; simp; done) | (right; simp; done))) (hn20 := (by first | assumption | rfl | omega | (left; simp; done) | (right; simp; done)))) ?_)
 rintro _ F2 _ le2 ⟨x2, xcs2, xLs2, rfl, hx2, hxD2, hxZ2, rfl⟩
 replace har := har.mono le2
 replace hrs := hrs.mono le2
 replace ha := ha.mono le2
 replace hb := hb.mono le2
 replace hx1 := hx1.mono le2
 refine XL.cons (XOp.move (.tuple #[x2, .bool ((reachL ar rs b n).2)]) rfl ?_)
 refine XL.cons (XOp.extract (x2) rfl rfl ?_)
 refine XL.cons (XOp.extract (.bool ((reachL ar rs b n).2)) rfl rfl ?_)
 refine XL.cons (XOp.assign (x2) rfl ?_)
 refine XL.cons (XOp.assign (.bool ((reachL ar rs b n).2)) rfl ?_)
 refine XL.nil ?_
 refine X.seq ?_
 refine X.seq ?_
 refine X.region ?_
 refine XL.cons (XOp.move (x1) rfl ?_)
 refine XL.cons (XOp.lenS (v := x1) (n := ((reachL ar rs a n).1).length) Try.runUnderlying87 rfl hx1.slv ?_)
 refine XL.cons (XOp.move (.int .i64 (0)) rfl ?_)
 refine XL.nil ?_
 refine X.block ?_
 refine X.loop (α := Nat) (fun k => [(8, ptr b2 0), (9, ptr b3 0), (11, x1), (13, x2), (32, x1), (33, .int .i64 (((((reachL ar rs a n).1).length : Nat) : Int))), (34, .int .i64 (((k : Nat) : Int)))]) (fun k => cellsH b3 [(.slice none 0 0), (.slice none 0 0)] 41 :: cellsH b2 [(.slice none 0 0), (.slice none 0 0)] 41 :: cellsH b1 [arv, rsv] 33 :: L) (fun k F' => F2 = F' ∧ (k ≤ (reachL ar rs a n).1.length) ∧ (∀ i, i < k → foundI (reachL ar rs b n).1 (EL (reachL ar rs a n).1 i).1 < 0)) (fun k => (reachL ar rs a n).1.length - k) 0 ⟨rfl, rfl, rfl, rfl, rfl, rfl, rfl, trivial⟩ (Sub.cons (Sub.cons (Sub.cons (Sub.refl _)))) ⟨rfl, (by (try dsimp only) <;> omega), (fun i hi => absurd hi (by omega))⟩ ?_
 rintro k rE _ _ ⟨rfl, hk, hno⟩
 show X _ _ _ _ (envs [(8, ptr b2 0), (9, ptr b3 0), (11, x1), (13, x2), (32, x1), (33, .int .i64 (((((reachL ar rs a n).1).length : Nat) : Int))), (34, .int .i64 (((k : Nat) : Int)))] rE) _ (cellsH b3 [(.slice none 0 0), (.slice none 0 0)] 41 :: cellsH b2 [(.slice none 0 0), (.slice none 0 0)] 41 :: cellsH b1 [arv, rsv] 33 :: L)
 have hfl := fun (h : 0 ≤ foundI (reachL ar rs b n).1 ((reachL ar rs a n).1.getD k ([], 0, (0, 0, []), 0)).1) => (foundI_lt h).1
 have hka := fun (h : k < (reachL ar rs a n).1.length) => (show ((reachL ar rs a n).1.getD k ([], 0, (0, 0, []), 0)).1.length ≤ 60 from hrda k h)
 refine X.seq ?_
 refine X.region ?_
 refine XL.cons (XOp.lss (a := ((k : Nat) : Int)) (b := ((((reachL ar rs a n).1).length : Nat) : Int)) rfl rfl ?_)
 refine XL.nil ?_
 refine X.seq ?_
 refine X.condD (p := (((k : Nat) : Int) : Int) < ((((reachL ar rs a n).1).length : Nat) : Int)) rfl (fun h1 => ?_) (fun h1 => ?_)
 ·refine X.skip ?_
  refine X.seq ?_
  refine X.block ?_
  refine X.seq ?_
  refine X.region ?_
  refine XL.cons (XOp.move (.int .i64 (((k : Nat) : Int))) rfl ?_)
  refine XL.cons (XOp.indexS (v := x1) (i := ((k : Nat) : Int)) (n := ((reachL ar rs a n).1).length) k Try.runUnderlying87 Try.sizeOf91 rfl rfl rfl hx1.slv (by omega) rfl ?_)
  obtain ⟨a1, a2, ha1, ha2, hrg1, hq1⟩ := hx1.rd (i := k) (by omega)
  refine XL.cons (XOp.loadN [a1, .int .i64 ((((reachL ar rs a n).1).getD k ([], 0, (0, 0, []), 0)).2.1), .int .i64 ((((reachL ar rs a n).1).getD k ([], 0, (0, 0, []), 0)).2.2.1.1), .int .i64 ((((reachL ar rs a n).1).getD k ([], 0, (0, 0, []), 0)).2.2.1.2.1), a2, .int .i64 ((((reachL ar rs a n).1).getD k ([], 0, (0, 0, []), 0)).2.2.2)] Try.isAgg91 Try.sizeOf91 rfl rfl (Rd.all (hrg1 _)) ?_)
  refine XL.cons (XOp.alloc [(.slice none 0 0), .int .i64 (0), .int .i64 (0), .int .i64 (0), (.slice none 0 0), .int .i64 (0)] Try.zeroValue91 rfl ?_)
  intro b4
  refine XL.cons (XOp.assign (.int .i64 (((k : Nat) : Int))) rfl ?_)
  refine XL.cons (XOp.storeN (vs := [a1, .int .i64 ((((reachL ar rs a n).1).getD k ([], 0, (0, 0, []), 0)).2.1), .int .i64 ((((reachL ar rs a n).1).getD k ([], 0, (0, 0, []), 0)).2.2.1.1), .int .i64 ((((reachL ar rs a n).1).getD k ([], 0, (0, 0, []), 0)).2.2.1.2.1), a2, .int .i64 ((((reachL ar rs a n).1).getD k ([], 0, (0, 0, []), 0)).2.2.2)]) [] _ [a1, .int .i64 ((((reachL ar rs a n).1).getD k ([], 0, (0, 0, []), 0)).2.1), .int .i64 ((((reachL ar rs a n).1).getD k ([], 0, (0, 0, []), 0)).2.2.1.1), .int .i64 ((((reachL ar rs a n).1).getD k ([], 0, (0, 0, []), 0)).2.2.1.2.1), a2, .int .i64 ((((reachL ar rs a n).1).getD k ([], 0, (0, 0, []), 0)).2.2.2)] Try.sizeOf91 rfl rfl rfl (ones_cons (one_sl (IntsF.isSl ha1)) (ones_cons rfl (ones_cons rfl (ones_cons rfl (ones_cons (one_sl (IntsF.isSl ha2)) (ones_cons rfl ones_nil)))))) rfl rfl rfl ?_)
  refine XL.nil ?_
  refine X.seq ?_
  refine X.region ?_
  refine XL.cons (XOp.move (x2) rfl ?_)
  refine XL.cons (XOp.fieldP (b := b4) (0) Try.runUnderlying91 rfl Try.sizeOf22 (by decide) rfl rfl ?_)
  refine XL.cons (XOp.load1 (v := a1) Try.isAgg22 rfl (Rd.own [] rfl rfl) ?_)
  refine XL.cons (XOp.call (args := [x2, a1]) Try.call99 rfl (found_spec hx2 ha1 (hlt := (by omega)) (hlu := (by have := hka (by omega); omega))) ?_)
  rintro _ _ _ _ ⟨rfl, rfl, rfl⟩
  refine XL.cons (XOp.assign (.int .i64 (foundI ((reachL ar rs b n).1) ((((reachL ar rs a n).1).getD k ([], 0, (0, 0, []), 0)).1))) rfl ?_)
  refine XL.nil ?_
  refine X.seq ?_
  refine X.region ?_
  refine XL.cons (XOp.move (.int .i64 (foundI ((reachL ar rs b n).1) ((((reachL ar rs a n).1).getD k ([], 0, (0, 0, []), 0)).1))) rfl ?_)
  refine XL.cons (XOp.geq (a := foundI ((reachL ar rs b n).1) ((((reachL ar rs a n).1).getD k ([], 0, (0, 0, []), 0)).1)) (b := 0) rfl rfl ?_)
  refine XL.nil ?_
  refine X.condD (p := (foundI ((reachL ar rs b n).1) ((((reachL ar rs a n).1).getD k ([], 0, (0, 0, []), 0)).1) : Int) ≥ 0) rfl (fun h2 => ?_) (fun h2 => ?_)
  ·refine X.seq ?_
   refine X.region ?_
   refine XL.cons (XOp.move (x1) rfl ?_)
   refine XL.cons (XOp.move (.int .i64 (((k : Nat) : Int))) rfl ?_)
   refine XL.cons (XOp.call (args := [x1, .int .i64 ((k : Nat) : Int)]) Try.call102 rfl (walkBack_spec (k := k) hx1 (hk := (by omega)) (hll := (hrla)) (hlk := (hgda.1)) (hbd := (hrda))) ?_)
   rintro _ F3 _ le3 ⟨x3, x4, rfl, hr1, hr2, hr3, rfl⟩
   replace har := har.mono le3
   replace hrs := hrs.mono le3
   replace ha := ha.mono le3
   replace hb := hb.mono le3
   replace hx1 := hx1.mono le3
   replace hx2 := hx2.mono le3
   replace ha1 := ha1.mono le3
   replace ha2 := ha2.mono le3
   replace hrg1 := fun L9 j9 u9 h9 => Rd.mono (hrg1 L9 j9 u9 h9) le3
   refine XL.cons (XOp.move (x2) rfl ?_)
   refine XL.cons (XOp.move (.int .i64 (foundI ((reachL ar rs b n).1) ((((reachL ar rs a n).1).getD k ([], 0, (0, 0, []), 0)).1))) rfl ?_)
   refine XL.cons (XOp.call (args := [x2, .int .i64 (((foundI ((reachL ar rs b n).1) ((((reachL ar rs a n).1).getD k ([], 0, (0, 0, []), 0)).1)).toNat : Nat) : Int)]) Try.call102 (by rw [show (((foundI ((reachL ar rs b n).1) ((((reachL ar rs a n).1).getD k ([], 0, (0, 0, []), 0)).1)).toNat : Nat) : Int) = foundI ((reachL ar rs b n).1) ((((reachL ar rs a n).1).getD k ([], 0, (0, 0, []), 0)).1) from by omega]; rfl) (walkBack_spec (k := (foundI ((reachL ar rs b n).1) ((((reachL ar rs a n).1).getD k ([], 0, (0, 0, []), 0)).1)).toNat) hx2 (hk := (hfl (by omega))) (hll := (hrlb)) (hlk := (hgdb.1)) (hbd := (hrdb))) ?_)
   rintro _ F4 _ le4 ⟨x5, x6, rfl, hr4, hr5, hr6, rfl⟩
   replace har := har.mono le4
   replace hrs := hrs.mono le4
   replace ha := ha.mono le4
   replace hb := hb.mono le4
   replace hx1 := hx1.mono le4
   replace hx2 := hx2.mono le4
   replace ha1 := ha1.mono le4
   replace ha2 := ha2.mono le4
   replace hr1 := hr1.mono le4
   replace hr2 := hr2.mono le4
   replace hrg1 := fun L9 j9 u9 h9 => Rd.mono (hrg1 L9 j9 u9 h9) le4
   refine XL.cons (XOp.storeN (vs := [x3, x4]) [_, _] _ [x3, x4] Try.sizeOf41 rfl rfl rfl (ones_cons (one_sl (IntsF.isSl hr1)) (ones_cons (one_sl (StepsF.isSl hr2)) ones_nil)) rfl rfl rfl ?_)
   refine XL.cons (XOp.storeN (vs := [x5, x6]) [_] _ [x5, x6] Try.sizeOf41 rfl rfl rfl (ones_cons (one_sl (IntsF.isSl hr4)) (ones_cons (one_sl (StepsF.isSl hr5)) ones_nil)) rfl rfl rfl ?_)
   refine XL.cons (XOp.assign (.bool (true)) rfl ?_)
   refine XL.nil ?_
   refine X.ret (blockQ_ret (thenQ_ret (thenQ_ret (blockQ_ret (thenQ_ret (retEnd (L' := L) [.agg #[x3, x4], .agg #[x5, x6], .bool (true)] (.tuple #[.agg #[x3, x4], .agg #[x5, x6], .bool (true)]) (.cell rfl (loadNV [x3, x4] Try.isAgg41 Try.sizeOf41 rfl (Rd.ownN [_, _] rfl rfl)) (.cell rfl (loadNV [x5, x6] Try.isAgg41 Try.sizeOf41 rfl (Rd.ownN [_] rfl rfl)) (.tmp rfl .nil))) rfl (FLe.trans (FLe.trans (FLe.trans le1 le2) le3) le4) (FLe.refl _) (Sub.drop (Sub.drop (Sub.drop (Sub.drop (Sub.refl _))))) ?_))))))
   have e : join0 ar rs a b n = ((EL (reachL ar rs a n).1 0).1, walkL (reachL ar rs a n).1 k, (EL (reachL ar rs b n).1 0).1, walkL (reachL ar rs b n).1 (foundI (reachL ar rs b n).1 ((reachL ar rs a n).1.getD k ([], 0, (0, 0, []), 0)).1).toNat, true) := by rw [join0_at (k := k) (by omega) (by show foundI (reachL ar rs b n).1 ((reachL ar rs a n).1.getD k ([], 0, (0, 0, []), 0)).1 ≥ 0; omega) hno, hgda.2.2.2, hgdb.2.2.2]
   exact ⟨_, _, _, _, by rw [e], by rw [e]; exact hr1, by rw [e]; exact hr2, by rw [e]; exact hr4, by rw [e]; exact hr5, by rw [e]; exact (Fresh.app (hr3.base (FLe.trans le1 le2)) (FLe.trans (FLe.trans le1 le2) le3) hr6 le4), rfl⟩
  ·refine X.skip ?_
   refine X.region ?_
   refine XL.cons (XOp.addR (a := ((k : Nat) : Int)) (b := 1) (((k + 1 : Nat) : Int)) rfl rfl (by omega) (by omega) ?_)
   refine XL.cons (XOp.move (.int .i64 (((k + 1 : Nat) : Int))) rfl ?_)
   refine XL.nil ?_
   exact ⟨k + 1, _, FLe.refl _, (FLe.refl _), ⟨rfl, rfl, rfl, rfl, rfl, rfl, rfl, trivial⟩, (Sub.drop (Sub.cons (Sub.cons (Sub.cons (Sub.refl _))))), ⟨rfl, (by (try dsimp only) <;> omega), (fun i hi => (Nat.lt_or_ge i k).elim (fun h => hno i h) (fun h => by obtain rfl : i = k := (by omega); show foundI (reachL ar rs b n).1 ((reachL ar rs a n).1.getD i ([], 0, (0, 0, []), 0)).1 < 0; omega))⟩, (by omega)⟩
 ·refine X.exit (thenQ_exit (thenQ_exit (blockQ_exit ?_)))
  refine X.seq ?_
  refine X.region ?_
  refine XL.cons (XOp.build [(.slice none 0 0), (.slice none 0 0)] [(.slice none 0 0), (.slice none 0 0)] [(0, 1), (1, 1)] [] Try.runUnderlying41 Try.zeroValue41 rfl (.cons rfl Try.sizeOf22 (.cons rfl Try.sizeOf39 PlacesAre.nil)) rfl CellsAre.nil ?_)
  refine XL.cons (XOp.build [(.slice none 0 0), (.slice none 0 0)] [(.slice none 0 0), (.slice none 0 0)] [(0, 1), (1, 1)] [] Try.runUnderlying41 Try.zeroValue41 rfl (.cons rfl Try.sizeOf22 (.cons rfl Try.sizeOf39 PlacesAre.nil)) rfl CellsAre.nil ?_)
  refine XL.cons (XOp.storeN (vs := [(.slice none 0 0), (.slice none 0 0)]) [_] _ [(.slice none 0 0), (.slice none 0 0)] Try.sizeOf41 rfl rfl rfl (ones_cons rfl (ones_cons rfl ones_nil)) rfl rfl rfl ?_)
  refine XL.cons (XOp.storeN (vs := [(.slice none 0 0), (.slice none 0 0)]) [] _ [(.slice none 0 0), (.slice none 0 0)] Try.sizeOf41 rfl rfl rfl (ones_cons rfl (ones_cons rfl ones_nil)) rfl rfl rfl ?_)
  refine XL.cons (XOp.assign (.bool (false)) rfl ?_)
  refine XL.nil ?_
  refine X.ret (retEnd (L' := L) [.agg #[(.slice none 0 0), (.slice none 0 0)], .agg #[(.slice none 0 0), (.slice none 0 0)], .bool (false)] (.tuple #[.agg #[(.slice none 0 0), (.slice none 0 0)], .agg #[(.slice none 0 0), (.slice none 0 0)], .bool (false)]) (.cell rfl (loadNV [(.slice none 0 0), (.slice none 0 0)] Try.isAgg41 Try.sizeOf41 rfl (Rd.ownN [_] rfl rfl)) (.cell rfl (loadNV [(.slice none 0 0), (.slice none 0 0)] Try.isAgg41 Try.sizeOf41 rfl (Rd.ownN [] rfl rfl)) (.tmp rfl .nil))) rfl (FLe.trans le1 le2) (FLe.refl _) (Sub.drop (Sub.drop (Sub.drop (Sub.refl _)))) ?_)
  have e : join0 ar rs a b n = ([], [], [], [], false) := join0_none (fun i hi => hno i (by omega))
  exact ⟨_, _, _, _, by rw [e], by rw [e]; exact IntsF.nilV, by rw [e]; exact SlOf.nilV, by rw [e]; exact IntsF.nilV, by rw [e]; exact SlOf.nilV, by rw [e]; exact Fresh.app (Fresh.empty nilWalk) (FLe.refl _) (Fresh.empty nilWalk) (FLe.trans le1 le2), rfl⟩

/- impl.JoinOf -/
set_option maxRecDepth 20000 in
theorem JoinOf_spec {F : FH} {L : List HP} {arv : Value} {ar : List Int} (har : IntsF F arv ar) {rsv : Value} {rs : List (List Int × List Int)} (hrs : PairsF F rsv rs) {av : Value} {a : List Int} (ha : IntsF F av a) {bv : Value} {b : List Int} (hb : IntsF F bv b) {n : Int} (hla9 : a.length ≤ 4000000) (hlb9 : b.length ≤ 4000000) :
    Does Try.prog 34 [.agg #[arv, rsv], av, bv, .int .i64 (n)] F (L) (fun v F' L' => ∃ (a1 : Value), ∃ (b1 : Value), ∃ (a2 : Value), ∃ (b2 : Value), (.tuple #[.agg #[a1, b1], .agg #[a2, b2], .bool ((joinF ar rs a b n).2.2.2.2)] : Value) = v ∧ (IntsF F' a1 (joinF ar rs a b n).1) ∧ (StepsF F' b1 (joinF ar rs a b n).2.1) ∧ (IntsF F' a2 (joinF ar rs a b n).2.2.1) ∧ (StepsF F' b2 (joinF ar rs a b n).2.2.2.1) ∧ (Fresh F F' (star [intsH 2 a1 (joinF ar rs a b n).1, stepsD 2 77 b1 (joinF ar rs a b n).2.1, intsH 2 a2 (joinF ar rs a b n).2.2.1, stepsD 2 77 b2 (joinF ar rs a b n).2.2.2.1])) ∧ L = L') := by
 refine Does.of_X Try.func34 rfl rfl rfl ?_
 refine X.seq ?_
 refine X.region ?_
 refine XL.cons (XOp.box [arv, rsv] rfl rfl ?_)
 intro b1
 refine XL.cons (XOp.alloc [(.slice none 0 0), (.slice none 0 0)] Try.zeroValue41 rfl ?_)
 intro b2
 refine XL.cons (XOp.alloc [(.slice none 0 0), (.slice none 0 0)] Try.zeroValue41 rfl ?_)
 intro b3
 refine XL.cons (XOp.assign (.bool (false)) rfl ?_)
 refine XL.nil ?_
 refine X.seq ?_
 refine X.seq ?_
 refine X.region ?_
 refine XL.cons (XOp.loadN [arv, rsv] Try.isAgg33 Try.sizeOf33 rfl rfl (Rd.ownN [_, _] rfl rfl) ?_)
 refine XL.cons (XOp.move (.int .i64 (n)) rfl ?_)
 refine XL.cons (XOp.move (av) rfl ?_)
 refine XL.cons (XOp.move (bv) rfl ?_)
 refine XL.cons (XOp.buildSlice (s := 1) [av, bv] [(.slice none 0 0)] [(0, [av]), (1, [bv])] Try.runUnderlying49 Try.sizeOf22 Try.zeroValue22 rfl (by decide) rfl (.cons (cells_one (IntsF.isSl ha)) (.cons (cells_one (IntsF.isSl hb)) CellsAre.nil)) rfl ?_)
 intro v1 hv1
 have hc1 : RowsC F [av, bv] ([a, b] : List (List Int)) := (RowsC.snoc (RowsC.snoc (CO.nil : RowsC F [] []) ha) hb)
 refine XL.freezeF [] _ _ rfl (fun F1 le1 hz1 => ?_)
 replace har := har.mono le1
 replace hrs := hrs.mono le1
 replace ha := ha.mono le1
 replace hb := hb.mono le1
 replace hc1 := hc1.mono le1
 have hf1 : RowsF F1 v1 (([a, b] : List (List Int))) := CO.fz hc1 (by first | rfl | simp | omega) hz1.fz
 refine XL.cons (XOp.call (args := [.agg #[arv, rsv], .int .i64 (n), v1]) Try.call51 rfl (reachOk_spec (n := n) har hrs hf1 (hlt := (by first | assumption | rfl | omega | (left; simp; done) | (right; simp; done)))) ?_)
 rintro _ _ _ _ ⟨rfl, rfl, rfl⟩
 refine XL.cons (XOp.notB (b := reachOkL ar rs n (([a, b] : List (List Int)))) rfl ?_)
 refine XL.nil ?_
 refine X.cond (t := !(reachOkL ar rs n (([a, b] : List (List Int))))) rfl (fun h1 => ?_) (fun h1 => ?_)
 ·have hro : reachOkL ar rs n [a, b] = false := by simpa using h1
  refine X.seq ?_
  refine X.region ?_
  refine XL.cons (XOp.build [(.slice none 0 0), (.slice none 0 0)] [(.slice none 0 0), (.slice none 0 0)] [(0, 1), (1, 1)] [] Try.runUnderlying41 Try.zeroValue41 rfl (.cons rfl Try.sizeOf22 (.cons rfl Try.sizeOf39 PlacesAre.nil)) rfl CellsAre.nil ?_)
  refine XL.cons (XOp.build [(.slice none 0 0), (.slice none 0 0)] [(.slice none 0 0), (.slice none 0 0)] [(0, 1), (1, 1)] [] Try.runUnderlying41 Try.zeroValue41 rfl (.cons rfl Try.sizeOf22 (.cons rfl Try.sizeOf39 PlacesAre.nil)) rfl CellsAre.nil ?_)
  refine XL.cons (XOp.storeN (vs := [(.slice none 0 0), (.slice none 0 0)]) [_] _ [(.slice none 0 0), (.slice none 0 0)] Try.sizeOf41 rfl rfl rfl (ones_cons rfl (ones_cons rfl ones_nil)) rfl rfl rfl ?_)
  refine XL.cons (XOp.storeN (vs := [(.slice none 0 0), (.slice none 0 0)]) [] _ [(.slice none 0 0), (.slice none 0 0)] Try.sizeOf41 rfl rfl rfl (ones_cons rfl (ones_cons rfl ones_nil)) rfl rfl rfl ?_)
  refine XL.cons (XOp.assign (.bool (false)) rfl ?_)
  refine XL.nil ?_
  refine X.ret (thenQ_ret (retEnd (L' := L) [.agg #[(.slice none 0 0), (.slice none 0 0)], .agg #[(.slice none 0 0), (.slice none 0 0)], .bool (false)] (.tuple #[.agg #[(.slice none 0 0), (.slice none 0 0)], .agg #[(.slice none 0 0), (.slice none 0 0)], .bool (false)]) (.cell rfl (loadNV [(.slice none 0 0), (.slice none 0 0)] Try.isAgg41 Try.sizeOf41 rfl (Rd.ownN [_] rfl rfl)) (.cell rfl (loadNV [(.slice none 0 0), (.slice none 0 0)] Try.isAgg41 Try.sizeOf41 rfl (Rd.ownN [] rfl rfl)) (.tmp rfl .nil))) rfl le1 (FLe.refl _) (Sub.drop (Sub.drop (Sub.drop (Sub.refl _)))) ?_))
  have e : joinF ar rs a b n = ([], [], [], [], false) := joinF_no hro
  exact ⟨_, _, _, _, by rw [e], by rw [e]; exact IntsF.nilV, by rw [e]; exact SlOf.nilV, by rw [e]; exact IntsF.nilV, by rw [e]; exact SlOf.nilV, by rw [e]; exact Fresh.app (Fresh.empty nilWalk) (FLe.refl _) (Fresh.empty nilWalk) le1, rfl⟩
 ·have hro : reachOkL ar rs n [a, b] = true := by simpa using h1
  have hr3 := reachOk2_iff.1 hro
  have hsys := hr3.1.1
  have ho := hr3.1.2.1
  have hou := hr3.1.2.2
  have hn20 := hr3.2
  refine X.skip ?_
  refine X.seq ?_
  refine X.region ?_
  refine XL.cons (XOp.loadN [arv, rsv] Try.isAgg33 Try.sizeOf33 rfl rfl (Rd.ownN [_, _] rfl rfl) ?_)
  refine XL.cons (XOp.move (av) rfl ?_)
  refine XL.cons (XOp.move (bv) rfl ?_)
  refine XL.cons (XOp.move (.int .i64 (n)) rfl ?_)
  refine XL.cons (XOp.call (args := [.agg #[arv, rsv], av, bv, .int .i64 (n)]) Try.call71 rfl (join0_spec (n := n) har hrs ha hb (hsys := (by first | assumption | rfl | omega | (left; simp; done) | (right; simp; done))) (ho := (by first | assumption | rfl | omega | (left; simp; done) | (right; simp; done))) (hob := (by first | assumption | rfl | omega | (left; simp; done) | (right; simp; done))) (hn20 := (by first | assumption | rfl | omega | (left; simp; done) | (right; simp; done)))) ?_)
  rintro _ F2 _ le2 ⟨x1, x2, x3, x4, rfl, hr1, hr2, hr3, hr4, hr5, rfl⟩
  replace har := har.mono le2
  replace hrs := hrs.mono le2
  replace ha := ha.mono le2
  replace hb := hb.mono le2
  replace hc1 := hc1.mono le2
  replace hf1 := hf1.mono le2
  refine XL.cons (XOp.extract (.agg #[x1, x2]) rfl rfl ?_)
  refine XL.cons (XOp.extract (.agg #[x3, x4]) rfl rfl ?_)
  refine XL.cons (XOp.extract (.bool ((join0 ar rs a b n).2.2.2.2)) rfl rfl ?_)
  refine XL.cons (XOp.storeN (vs := [x1, x2]) [_] _ [x1, x2] Try.sizeOf41 rfl rfl rfl (ones_cons (one_sl (IntsF.isSl hr1)) (ones_cons (one_sl (StepsF.isSl hr2)) ones_nil)) rfl rfl rfl ?_)
  refine XL.cons (XOp.storeN (vs := [x3, x4]) [] _ [x3, x4] Try.sizeOf41 rfl rfl rfl (ones_cons (one_sl (IntsF.isSl hr3)) (ones_cons (one_sl (StepsF.isSl hr4)) ones_nil)) rfl rfl rfl ?_)
  refine XL.cons (XOp.assign (.bool ((join0 ar rs a b n).2.2.2.2)) rfl ?_)
  refine XL.nil ?_
  refine X.ret (retEnd (L' := L) [.agg #[x1, x2], .agg #[x3, x4], .bool ((join0 ar rs a b n).2.2.2.2)] (.tuple #[.agg #[x1, x2], .agg #[x3, x4], .bool ((join0 ar rs a b n).2.2.2.2)]) (.cell rfl (loadNV [x1, x2] Try.isAgg41 Try.sizeOf41 rfl (Rd.ownN [_] rfl rfl)) (.cell rfl (loadNV [x3, x4] Try.isAgg41 Try.sizeOf41 rfl (Rd.ownN [] rfl rfl)) (.tmp rfl .nil))) rfl (FLe.trans le1 le2) (FLe.refl _) (Sub.drop (Sub.drop (Sub.drop (Sub.refl _)))) ?_)
  have e := joinF_yes hro
  exact ⟨_, _, _, _, by rw [e], by rw [e]; exact hr1, by rw [e]; exact hr2, by rw [e]; exact hr3, by rw [e]; exact hr4, by rw [e]; exact (hr5.base le1), rfl⟩
end Go.Proofs.Ytiaanelimbmniaa
set_option linter.unusedSimpArgs false
set_option linter.unusedVariables false
namespace Go.Proofs.Ytiaanelimbmniaa
open Go X M

/- spec.l9Walk -/
theorem l9Walk_spec {F : FH} {L : List HP} {x1v x2v x3v x4v : Value} {al : List FoundT} {ab : Bool} (hx1 : RowsF F x1v (terms al)) (hx2 : IntsF F x2v (froms al)) (hx3 : StepsF F x3v (bys al)) (hx4 : IntsF F x4v (deeps al)) {k : Nat} (hk : k < al.length) (hll : al.length ≤ 60) (hlk : Link al) (hbd : ∀ i, i < al.length → (EL al i).1.length ≤ 60) :
    Does Try.prog 69 [.agg #[x1v, x2v, x3v, x4v, .bool (ab)], .int .i64 (((k : Nat) : Int))] F (L) (fun v F' L' => ∃ (a : Value), ∃ (b : Value), (.agg #[a, b] : Value) = v ∧ (IntsF F' a (EL al 0).1) ∧ (StepsF F' b (walkL al k)) ∧ (Fresh F F' (star [intsH 2 a (EL al 0).1, stepsD 2 77 b (walkL al k)])) ∧ L = L') := by
 refine Does.of_X Try.func69 rfl rfl rfl ?_
 have htl9 : (terms al).length = al.length := terms_len
 have hfl9 : (froms al).length = al.length := froms_len
 have hbl9 : (bys al).length = al.length := bys_len
 have ht0 : ((terms al).getD 0 []).length ≤ 60 := by rw [terms_get]; exact hbd 0 (by omega)
 refine X.seq ?_
 refine X.region ?_
 refine XL.cons (XOp.box [x1v, x2v, x3v, x4v, .bool (ab)] rfl rfl ?_)
 intro b1
 refine XL.cons (XOp.alloc [(.slice none 0 0), (.slice none 0 0)] Try.zeroValue41 rfl ?_)
 intro b2
 refine XL.nil ?_
 refine X.seq ?_
 refine X.region ?_
 refine XL.cons (XOp.buildSlice (s := 3) [] [.int .i64 (0), .int .i64 (0), (.slice none 0 0)] [] Try.runUnderlying39 Try.sizeOf77 Try.zeroValue77 rfl (by decide) rfl CellsAre.nil rfl ?_)
 intro v1 hv1
 refine XL.cons (XOp.assign (v1) rfl ?_)
 refine XL.nil ?_
 refine X.seq ?_
 refine X.block ?_
 refine X.loop (α := Nat × Value × List StepT × List Value × Nat) (fun xQ => [(1, .int .i64 (((xQ.1 : Nat) : Int))), (2, ptr b1 0), (4, ptr b2 0), (5, xQ.2.1)]) (fun xQ => slH 77 3 xQ.2.1 xQ.2.2.2.2 xQ.2.2.2.1 :: cellsH b2 [(.slice none 0 0), (.slice none 0 0)] 41 :: cellsH b1 [x1v, x2v, x3v, x4v, .bool (ab)] 85 :: L) (fun xQ F' => F = F' ∧ (xQ.1 < al.length) ∧ (IsSl xQ.2.1) ∧ (StepsC F xQ.2.2.2.1 xQ.2.2.1) ∧ (xQ.2.2.2.2 = xQ.2.2.1.length) ∧ (xQ.2.2.2.2 + xQ.1 ≤ k) ∧ (backL al k = xQ.2.2.1 ++ backL al xQ.1)) (fun xQ => xQ.1) (k, v1, [], [], 0) ⟨rfl, rfl, rfl, rfl, trivial⟩ (Sub.cons (Sub.cons (Sub.cons (Sub.refl _)))) ⟨rfl, (hk), ((isSl_lit hv1)), (CO.nil), (rfl), (by (try dsimp only) <;> omega), (rfl)⟩ ?_
 rintro ⟨j, bv, bs, bcs, bm⟩ rE _ _ ⟨rfl, hj, hbv, hB, hbm, hmj, hbk⟩
 show X _ _ _ _ (envs [(1, .int .i64 (((j : Nat) : Int))), (2, ptr b1 0), (4, ptr b2 0), (5, bv)] rE) _ (slH 77 3 bv bm bcs :: cellsH b2 [(.slice none 0 0), (.slice none 0 0)] 41 :: cellsH b1 [x1v, x2v, x3v, x4v, .bool (ab)] 85 :: L)
 dsimp only at hj hbv hB hbm hmj hbk
 have hlj := fun (h : 0 < j) => hlk.2 j h hj
 have hfj : ((froms al).getD j 0) = (EL al j).2.1 := froms_get hj
 have hljx : 0 < j → 0 ≤ ((froms al).getD j 0) ∧ ((froms al).getD j 0) < (j : Int) := fun h => ⟨by rw [hfj]; exact (hlj h).1, by rw [hfj]; exact (hlj h).2.1⟩
 have hlj0 : j = 0 → ((froms al).getD j 0) = -1 := fun h => by rw [hfj, h]; exact hlk.1.2.1
 refine X.seq ?_
 refine X.seq ?_
 refine X.region ?_
 refine XL.cons (XOp.fieldP (b := b1) (1) Try.runUnderlying85 rfl Try.sizeOf22 (by decide) rfl rfl ?_)
 refine XL.cons (XOp.load1 (v := x2v) Try.isAgg22 rfl (Rd.own [_, _] rfl rfl) ?_)
 refine XL.cons (XOp.move (.int .i64 (((j : Nat) : Int))) rfl ?_)
 refine XL.cons (XOp.indexS (v := x2v) (i := ((j : Nat) : Int)) (n := (froms al).length) j Try.runUnderlying22 Try.sizeOf2 rfl rfl rfl hx2.slv (by omega) (Nat.mul_one _) ?_)
 refine XL.cons (XOp.load1 (v := .int .i64 ((froms al).getD j 0)) Try.isAgg2 rfl (hx2.rd (by omega)) ?_)
 refine XL.cons (XOp.geq (a := (froms al).getD j 0) (b := 0) rfl rfl ?_)
 refine XL.nil ?_
 refine X.condD (p := ((froms al).getD j 0 : Int) ≥ 0) rfl (fun h1 => ?_) (fun h1 => ?_)
 ·refine X.skip ?_
  refine X.block ?_
  refine X.seq ?_
  refine X.region ?_
  refine XL.cons (XOp.move (bv) rfl ?_)
  refine XL.cons (XOp.fieldP (b := b1) (2) Try.runUnderlying85 rfl Try.sizeOf39 (by decide) rfl rfl ?_)
  refine XL.cons (XOp.load1 (v := x3v) Try.isAgg39 rfl (Rd.own [_, _] rfl rfl) ?_)
  refine XL.cons (XOp.move (.int .i64 (((j : Nat) : Int))) rfl ?_)
  refine XL.cons (XOp.indexS (v := x3v) (i := ((j : Nat) : Int)) (n := (bys al).length) j Try.runUnderlying39 Try.sizeOf77 rfl rfl rfl hx3.slv (by omega) rfl ?_)
  obtain ⟨a1, ha1, hr1, hr2, hr3⟩ := hx3.rd (i := j) (by omega)
  refine XL.cons (XOp.loadN [.int .i64 (((bys al).getD j (0, 0, [])).1), .int .i64 (((bys al).getD j (0, 0, [])).2.1), a1] Try.isAgg77 Try.sizeOf77 rfl rfl (Rd.three (hr1 _) (hr2 _) (hr3 _)) ?_)
  refine XL.cons (XOp.buildSlice (s := 3) [.int .i64 (((bys al).getD j (0, 0, [])).1), .int .i64 (((bys al).getD j (0, 0, [])).2.1), a1] [.int .i64 (0), .int .i64 (0), (.slice none 0 0)] [(0, [.int .i64 (((bys al).getD j (0, 0, [])).1), .int .i64 (((bys al).getD j (0, 0, [])).2.1), a1])] Try.runUnderlying39 Try.sizeOf77 Try.zeroValue77 rfl (by decide) rfl (.cons rfl CellsAre.nil) rfl ?_)
  intro v2 hv2
  refine XL.cons (XOp.append (m := 1) (bytes := 40) (cs := bcs) [_] _ [.int .i64 (((bys al).getD j (0, 0, [])).1), .int .i64 (((bys al).getD j (0, 0, [])).2.1), a1] Try.runUnderlying39 Try.typeInfo77 rfl rfl rfl rfl rfl rfl rfl (SlV.own [] rfl) rfl (Rd.lit [] rfl) (ones_cons rfl (ones_cons rfl (ones_cons (one_sl (IntsF.isSl ha1)) ones_nil))) (by (try simp only [List.length_append, List.length_nil, List.length_cons, List.length_singleton]); omega) (by (try simp only [List.length_append, List.length_nil, List.length_cons, List.length_singleton]); omega) ?_)
  intro v3 hs1 hn1 hm1
  have hc1 := StepsC.snoc hB (i := ((bys al).getD j (0, 0, [])).1) (j := ((bys al).getD j (0, 0, [])).2.1) ha1
  refine XL.cons (XOp.assign (v3) rfl ?_)
  refine XL.nil ?_
  refine X.region ?_
  refine XL.cons (XOp.fieldP (b := b1) (1) Try.runUnderlying85 rfl Try.sizeOf22 (by decide) rfl rfl ?_)
  refine XL.cons (XOp.load1 (v := x2v) Try.isAgg22 rfl (Rd.own [_, _, _] rfl rfl) ?_)
  refine XL.cons (XOp.move (.int .i64 (((j : Nat) : Int))) rfl ?_)
  refine XL.cons (XOp.indexS (v := x2v) (i := ((j : Nat) : Int)) (n := (froms al).length) j Try.runUnderlying22 Try.sizeOf2 rfl rfl rfl hx2.slv (by omega) (Nat.mul_one _) ?_)
  refine XL.cons (XOp.load1 (v := .int .i64 ((froms al).getD j 0)) Try.isAgg2 rfl (hx2.rd (by omega)) ?_)
  refine XL.cons (XOp.assign (.int .i64 ((froms al).getD j 0)) rfl ?_)
  refine XL.nil ?_
  exact ⟨(((froms al).getD j 0).toNat, v3, bs ++ [(((bys al).getD j (0, 0, [])).1, ((bys al).getD j (0, 0, [])).2.1, ((bys al).getD j (0, 0, [])).2.2)], bcs ++ [.int .i64 (((bys al).getD j (0, 0, [])).1), .int .i64 (((bys al).getD j (0, 0, [])).2.1), a1], (bm) + 1), _, FLe.refl _, (FLe.refl _), ⟨(congrArg (Value.int .i64) (by have := hljx (by omega); (try dsimp only); omega)), rfl, rfl, rfl, trivial⟩, (Sub.drop (Sub.cons (Sub.cons (Sub.cons (Sub.refl _))))), ⟨rfl, (by have := hljx (by omega); (try dsimp only); omega), (hs1), (hc1), (by (try dsimp only); rw [List.length_append, List.length_singleton]; omega), (by have := hljx (by omega); (try dsimp only); omega), (by (try dsimp only); rw [hbk, backL_succ hlk (by omega) hj, List.append_assoc, bys_get hj, hfj]; rfl)⟩, (by have := hljx (by omega); (try dsimp only); omega)⟩
 ·refine X.exit (thenQ_exit (thenQ_exit (blockQ_exit ?_)))
  refine X.seq ?_
  refine X.region ?_
  refine XL.cons (XOp.fieldP (b := b1) (0) Try.runUnderlying85 rfl Try.sizeOf49 (by decide) rfl rfl ?_)
  refine XL.cons (XOp.load1 (v := x1v) Try.isAgg49 rfl (Rd.own [_, _] rfl rfl) ?_)
  refine XL.cons (XOp.indexS (v := x1v) (i := 0) (n := (terms al).length) 0 Try.runUnderlying49 Try.sizeOf22 rfl rfl rfl hx1.slv (by omega) (Nat.mul_one _) ?_)
  obtain ⟨a2, ha2, hr4⟩ := hx1.rd (i := 0) (by omega)
  refine XL.cons (XOp.load1 (v := a2) Try.isAgg22 rfl (hr4 _) ?_)
  refine XL.cons (XOp.frzF <| XOp.call (args := [a2]) Try.call49 rfl (l1Copy_spec ha2 (hlt := (by first | omega | (rw [hi9 (by omega)]; have := htbi (by omega); omega)))) ?_)
  rintro v4 _ _ _ ⟨rfl, hs2, rfl⟩
  refine ⟨_, _, rfl, fun F1 le1 hz1 => ?_⟩
  replace hx1 := hx1.mono le1
  replace hx2 := hx2.mono le1
  replace hx3 := hx3.mono le1
  replace hx4 := hx4.mono le1
  replace hB := hB.mono le1
  replace ha2 := ha2.mono le1
  replace hr4 := Rd.monoA hr4 le1
  have hf1 : IntsF F1 v4 (((((terms al).getD 0 [])))) := intsH.fz (xs := ((((terms al).getD 0 [])))) hz1.fz
  refine XL.cons (XOp.build [v4, (.slice none 0 0)] [(.slice none 0 0), (.slice none 0 0)] [(0, 1), (1, 1)] [(0, [v4])] Try.runUnderlying41 Try.zeroValue41 rfl (.cons rfl Try.sizeOf22 (.cons rfl Try.sizeOf39 PlacesAre.nil)) rfl (.cons (cells_one (IntsF.isSl hf1)) CellsAre.nil) ?_)
  refine XL.cons (XOp.alloc [(.slice none 0 0), (.slice none 0 0)] Try.zeroValue41 rfl ?_)
  intro b3
  refine XL.cons (XOp.storeN (vs := [v4, (.slice none 0 0)]) [] _ [v4, (.slice none 0 0)] Try.sizeOf41 rfl rfl rfl (ones_cons (one_sl (IntsF.isSl hf1)) (ones_cons rfl ones_nil)) rfl rfl rfl ?_)
  refine XL.nil ?_
  refine X.seq ?_
  refine X.seq ?_
  refine X.region ?_
  have hj0 : j = 0 := by omega
  have hssb : bs = backL al k := by rw [hbk, hj0, backL_zero, List.append_nil]
  have htb : ∀ i, i < bs.length → (bs.getD i (0, 0, [])).2.2.length ≤ 60 := fun i hi => by
   obtain ⟨q, hq, he⟩ := backL_mem hlk k k (Nat.le_refl _) hk (bs.getD i (0, 0, [])) (by rw [← hssb]; simp [List.getD, hi])
   rw [he]; exact hbd q hq
  have hbl : bs.length ≤ 60 := by omega
  refine XL.cons (XOp.move (bv) rfl ?_)
  refine XL.cons (XOp.lenS (v := bv) (n := bm) Try.runUnderlying39 rfl (SlV.own [_] rfl) ?_)
  refine XL.cons (XOp.subR (a := ((bm : Nat) : Int)) (b := 1) ((((bm : Nat) : Int)) - 1) rfl rfl (by omega) (by omega) ?_)
  refine XL.cons (XOp.assign (.int .i64 ((((bm : Nat) : Int)) - 1)) rfl ?_)
  refine XL.nil ?_
  refine X.block ?_
  refine X.loop (α := Nat × Value × List StepT × List Value × List HP × Nat × FH) (fun xQ => [(4, ptr b2 0), (5, bv), (6, ptr b3 0), (7, .int .i64 ((xQ.1 : Int) - 1))]) (fun xQ => slH 77 3 xQ.2.1 xQ.2.2.2.2.2.1 xQ.2.2.2.1 :: cellsH b3 [v4, xQ.2.1] 41 :: slH 77 3 bv bm bcs :: cellsH b2 [(.slice none 0 0), (.slice none 0 0)] 41 :: cellsH b1 [x1v, x2v, x3v, x4v, .bool (ab)] 85 :: L) (fun xQ F' => xQ.2.2.2.2.2.2 = F' ∧ F1 ≤ xQ.2.2.2.2.2.2 ∧ (xQ.1 ≤ bs.length) ∧ (IsSl xQ.2.1) ∧ (StepsC xQ.2.2.2.2.2.2 xQ.2.2.2.1 xQ.2.2.1) ∧ (xQ.2.2.2.2.2.1 = xQ.2.2.1.length) ∧ (DeepL 3 (StepO 2) xQ.2.2.2.1 xQ.2.2.1 xQ.2.2.2.2.1) ∧ (Fresh F1 xQ.2.2.2.2.2.2 (star xQ.2.2.2.2.1)) ∧ (xQ.2.2.1 = (bs.drop xQ.1).reverse) ∧ (xQ.2.2.2.2.2.1 + xQ.1 = bs.length)) (fun xQ => xQ.1) (bs.length, (.slice none 0 0), [], [], [], 0, F1) ⟨rfl, rfl, rfl, (congrArg (Value.int .i64) (by (try dsimp only); omega)), trivial⟩ (Sub.trans (Sub.addNil 77 3 _ _) (Sub.cons (Sub.cons (Sub.cons (Sub.cons (Sub.cons (Sub.refl _))))))) ⟨rfl, FLe.refl _, (by (try dsimp only) <;> omega), (⟨_, _, _, rfl⟩), (CO.nil), (rfl), (DeepL.nil), (Fresh.nilL), (by (try dsimp only); simp), (by (try dsimp only); omega)⟩ ?_
  rintro ⟨i, sv, ss, cs, Ls, m, G1⟩ rE _ _ ⟨rfl, leG, hi, hsv, hC, hm, hD, hZ, hss, hmi⟩
  show X _ _ _ _ (envs [(4, ptr b2 0), (5, bv), (6, ptr b3 0), (7, .int .i64 ((i : Int) - 1))] rE) _ (slH 77 3 sv m cs :: cellsH b3 [v4, sv] 41 :: slH 77 3 bv bm bcs :: cellsH b2 [(.slice none 0 0), (.slice none 0 0)] 41 :: cellsH b1 [x1v, x2v, x3v, x4v, .bool (ab)] 85 :: L)
  replace leG : F1 ≤ G1 := leG
  dsimp only at hi hsv hC hm hD hZ hss hmi
  have htbi := htb (i - 1)
  have hi9 : 0 < i → ((i : Int) - 1).toNat = i - 1 := fun h => by omega
  have hdr9 := fun (h : 0 < i) => drop_rev ((0, 0, []) : StepT) (l := bs) (k := i - 1) (by omega)
  have leG1 := leG
  replace hx1 := hx1.mono leG1
  replace hx2 := hx2.mono leG1
  replace hx3 := hx3.mono leG1
  replace hx4 := hx4.mono leG1
  replace hB := hB.mono leG1
  replace ha2 := ha2.mono leG1
  replace hf1 := hf1.mono leG1
  refine X.seq ?_
  refine X.seq ?_
  refine X.region ?_
  refine XL.cons (XOp.move (.int .i64 ((i : Int) - 1)) rfl ?_)
  refine XL.cons (XOp.geq (a := (i : Int) - 1) (b := 0) rfl rfl ?_)
  refine XL.nil ?_
  refine X.condD (p := ((i : Int) - 1 : Int) ≥ 0) rfl (fun h2 => ?_) (fun h2 => ?_)
  ·refine X.skip ?_
   refine X.seq ?_
   refine X.block ?_
   obtain ⟨a3, ha3, he1, he2, he3⟩ := hB.get (i := ((i : Int) - 1).toNat) (by omega)
   refine X.drawG [slH 77 3 sv m cs, cellsH b3 [v4, sv] 41, slH 77 3 bv bm bcs, cellsH b2 [(.slice none 0 0), (.slice none 0 0)] 41, cellsH b1 [x1v, x2v, x3v, x4v, .bool (ab)] 85] L 20 [[], [], [], [], [], [], [], [], [], [], [], [], [], [], [], [], [], [], [17], [17]] [[], [0], [], [], [2, 3], [4], [5], [], [], [7, 8], [9], [10], [], [], [12, 13], [14], [15], [16], [6, 11, 17], [17, 18]] [[], [], [], [], [], [], [], [], [], [], [], [], [], [], [], [], [], [], [], []] (phiG [fun FF us v => v = ptr b3 1, fun FF us v => v = sv, fun FF us v => v = bv, fun FF us v => v = (.int .i64 ((i : Int) - 1) : Value), fun FF us v => v = (.pointer (some (elemA bv ((((i : Int) - 1).toNat) * 3))) : Value), fun FF us v => v = (.pointer (some (elemA bv ((((i : Int) - 1).toNat) * 3))) : Value), fun FF us v => v = (.int .i64 ((bs.getD (((i : Int) - 1).toNat) (0, 0, [])).1) : Value), fun FF us v => v = bv, fun FF us v => v = (.int .i64 ((i : Int) - 1) : Value), fun FF us v => v = (.pointer (some (elemA bv ((((i : Int) - 1).toNat) * 3))) : Value), fun FF us v => v = (.pointer (some (elemA bv ((((i : Int) - 1).toNat) * 3 + 1))) : Value), fun FF us v => v = (.int .i64 ((bs.getD (((i : Int) - 1).toNat) (0, 0, [])).2.1) : Value), fun FF us v => v = bv, fun FF us v => v = (.int .i64 ((i : Int) - 1) : Value), fun FF us v => v = (.pointer (some (elemA bv ((((i : Int) - 1).toNat) * 3))) : Value), fun FF us v => v = (.pointer (some (elemA bv ((((i : Int) - 1).toNat) * 3 + 2))) : Value), fun FF us v => v = a3, fun FF us v => ((v) : Value) = v ∧ (IntsF FF (v) (((bs.getD (((i : Int) - 1).toNat) (0, 0, [])).2.2))) ∧ (FrIntsF G1 FF 2 (v) (((bs.getD (((i : Int) - 1).toNat) (0, 0, [])).2.2))), fun FF us v => v = (.agg #[.int .i64 ((bs.getD (((i : Int) - 1).toNat) (0, 0, [])).1), .int .i64 ((bs.getD (((i : Int) - 1).toNat) (0, 0, [])).2.1), ((us.getD 0 undef))] : Value), fun FF us v => ∃ b, v = .slice (some ⟨b, 0, none⟩) 1 1]) (ownL [fun us v => [], fun us v => [], fun us v => [], fun us v => [], fun us v => [], fun us v => [], fun us v => [], fun us v => [], fun us v => [], fun us v => [], fun us v => [], fun us v => [], fun us v => [], fun us v => [], fun us v => [], fun us v => [], fun us v => [], fun us v => [], fun us v => [], fun us v => [slH 77 3 v 1 [.int .i64 ((bs.getD (((i : Int) - 1).toNat) (0, 0, [])).1), .int .i64 ((bs.getD (((i : Int) - 1).toNat) (0, 0, [])).2.1), ((us.getD 0 undef))]]]) mixed rfl rfl (by kernel_rfl) (by kernel_rfl) (MonoG.get (MonoG.cons (fun le h => h) (MonoG.cons (fun le h => h) (MonoG.cons (fun le h => h) (MonoG.cons (fun le h => h) (MonoG.cons (fun le h => h) (MonoG.cons (fun le h => h) (MonoG.cons (fun le h => h) (MonoG.cons (fun le h => h) (MonoG.cons (fun le h => h) (MonoG.cons (fun le h => h) (MonoG.cons (fun le h => h) (MonoG.cons (fun le h => h) (MonoG.cons (fun le h => h) (MonoG.cons (fun le h => h) (MonoG.cons (fun le h => h) (MonoG.cons (fun le h => h) (MonoG.cons (fun le h => h) (MonoG.cons (fun le h => ⟨h.1, h.2.1.mono le, h.2.2.mono le⟩) (MonoG.cons (fun le h => h) (MonoG.cons (fun le h => h) MonoG.nil))))))))))))))))))))) ?_ ?_
   ·refine stepsG.cons (fun vals Fs R leFs hpZ => ?_) ?_
    ·refine XG.op (XOp.fieldP (b := b3) (1) Try.runUnderlying41 rfl Try.sizeOf39 (by decide) rfl rfl ?_)
     exact ⟨rfl, rfl⟩
    refine stepsG.cons (fun vals Fs R leFs hpZ => ?_) ?_
    ·have e0 : vals 0 = ptr b3 1 := hpZ 0 (by decide)
     replace hx1 := hx1.mono leFs
     replace hx2 := hx2.mono leFs
     replace hx3 := hx3.mono leFs
     replace hx4 := hx4.mono leFs
     replace hB := hB.mono leFs
     replace ha2 := ha2.mono leFs
     replace hf1 := hf1.mono leFs
     replace hC := hC.mono leFs
     replace ha3 := ha3.mono leFs
     rw [(envs_of_sat (l := [(0, ptr b3 1)]) ⟨e0, trivial⟩).symm]
     refine XG.op (XOp.load1 (v := sv) Try.isAgg39 rfl (Rd.own [_] rfl rfl) ?_)
     exact ⟨rfl, rfl⟩
    refine stepsG.cons (fun vals Fs R leFs hpZ => ?_) ?_
    ·refine XG.op (XOp.move (bv) rfl ?_)
     exact ⟨rfl, rfl⟩
    refine stepsG.cons (fun vals Fs R leFs hpZ => ?_) ?_
    ·refine XG.op (XOp.move (.int .i64 ((i : Int) - 1)) rfl ?_)
     exact ⟨rfl, rfl⟩
    refine stepsG.cons (fun vals Fs R leFs hpZ => ?_) ?_
    ·have e2 : vals 2 = bv := hpZ 2 (by decide)
     have e3 : vals 3 = (.int .i64 ((i : Int) - 1) : Value) := hpZ 3 (by decide)
     replace hx1 := hx1.mono leFs
     replace hx2 := hx2.mono leFs
     replace hx3 := hx3.mono leFs
     replace hx4 := hx4.mono leFs
     replace hB := hB.mono leFs
     replace ha2 := ha2.mono leFs
     replace hf1 := hf1.mono leFs
     replace hC := hC.mono leFs
     replace ha3 := ha3.mono leFs
     rw [(envs_of_sat (l := [(2, bv), (3, (.int .i64 ((i : Int) - 1) : Value))]) ⟨e2, e3, trivial⟩).symm]
     refine XG.op (XOp.indexS (v := bv) (i := (i : Int) - 1) (n := bm) (((i : Int) - 1).toNat) Try.runUnderlying39 Try.sizeOf77 rfl rfl (by omega) (SlV.own [_, _] rfl) (by omega) rfl ?_)
     exact ⟨rfl, rfl⟩
    refine stepsG.cons (fun vals Fs R leFs hpZ => ?_) ?_
    ·have e4 : vals 4 = (.pointer (some (elemA bv ((((i : Int) - 1).toNat) * 3))) : Value) := hpZ 4 (by decide)
     rw [(envs_of_sat (l := [(4, (.pointer (some (elemA bv ((((i : Int) - 1).toNat) * 3))) : Value))]) ⟨e4, trivial⟩).symm]
     refine XG.op (XOp.fieldE (v := bv) ((((i : Int) - 1).toNat) * 3) Try.runUnderlying77 rfl Try.sizeOf2 (by decide) rfl rfl ?_)
     exact ⟨rfl, rfl⟩
    refine stepsG.cons (fun vals Fs R leFs hpZ => ?_) ?_
    ·have e5 : vals 5 = (.pointer (some (elemA bv ((((i : Int) - 1).toNat) * 3))) : Value) := hpZ 5 (by decide)
     replace hx1 := hx1.mono leFs
     replace hx2 := hx2.mono leFs
     replace hx3 := hx3.mono leFs
     replace hx4 := hx4.mono leFs
     replace hB := hB.mono leFs
     replace ha2 := ha2.mono leFs
     replace hf1 := hf1.mono leFs
     replace hC := hC.mono leFs
     replace ha3 := ha3.mono leFs
     rw [(envs_of_sat (l := [(5, (.pointer (some (elemA bv ((((i : Int) - 1).toNat) * 3))) : Value))]) ⟨e5, trivial⟩).symm]
     refine XG.op (XOp.load1 (v := .int .i64 ((bs.getD (((i : Int) - 1).toNat) (0, 0, [])).1)) Try.isAgg2 rfl (Rd.sl [_, _] rfl he1) ?_)
     exact ⟨rfl, rfl⟩
    refine stepsG.cons (fun vals Fs R leFs hpZ => ?_) ?_
    ·refine XG.op (XOp.move (bv) rfl ?_)
     exact ⟨rfl, rfl⟩
    refine stepsG.cons (fun vals Fs R leFs hpZ => ?_) ?_
    ·refine XG.op (XOp.move (.int .i64 ((i : Int) - 1)) rfl ?_)
     exact ⟨rfl, rfl⟩
    refine stepsG.cons (fun vals Fs R leFs hpZ => ?_) ?_
    ·have e7 : vals 7 = bv := hpZ 7 (by decide)
     have e8 : vals 8 = (.int .i64 ((i : Int) - 1) : Value) := hpZ 8 (by decide)
     replace hx1 := hx1.mono leFs
     replace hx2 := hx2.mono leFs
     replace hx3 := hx3.mono leFs
     replace hx4 := hx4.mono leFs
     replace hB := hB.mono leFs
     replace ha2 := ha2.mono leFs
     replace hf1 := hf1.mono leFs
     replace hC := hC.mono leFs
     replace ha3 := ha3.mono leFs
     rw [(envs_of_sat (l := [(7, bv), (8, (.int .i64 ((i : Int) - 1) : Value))]) ⟨e7, e8, trivial⟩).symm]
     refine XG.op (XOp.indexS (v := bv) (i := (i : Int) - 1) (n := bm) (((i : Int) - 1).toNat) Try.runUnderlying39 Try.sizeOf77 rfl rfl (by omega) (SlV.own [_, _] rfl) (by omega) rfl ?_)
     exact ⟨rfl, rfl⟩
    refine stepsG.cons (fun vals Fs R leFs hpZ => ?_) ?_
    ·have e9 : vals 9 = (.pointer (some (elemA bv ((((i : Int) - 1).toNat) * 3))) : Value) := hpZ 9 (by decide)
     rw [(envs_of_sat (l := [(9, (.pointer (some (elemA bv ((((i : Int) - 1).toNat) * 3))) : Value))]) ⟨e9, trivial⟩).symm]
     refine XG.op (XOp.fieldE (v := bv) ((((i : Int) - 1).toNat) * 3 + 1) Try.runUnderlying77 rfl Try.sizeOf2 (by decide) rfl rfl ?_)
     exact ⟨rfl, rfl⟩
    refine stepsG.cons (fun vals Fs R leFs hpZ => ?_) ?_
    ·have e10 : vals 10 = (.pointer (some (elemA bv ((((i : Int) - 1).toNat) * 3 + 1))) : Value) := hpZ 10 (by decide)
     replace hx1 := hx1.mono leFs
     replace hx2 := hx2.mono leFs
     replace hx3 := hx3.mono leFs
     replace hx4 := hx4.mono leFs
     replace hB := hB.mono leFs
     replace ha2 := ha2.mono leFs
     replace hf1 := hf1.mono leFs
     replace hC := hC.mono leFs
     replace ha3 := ha3.mono leFs
     rw [(envs_of_sat (l := [(10, (.pointer (some (elemA bv ((((i : Int) - 1).toNat) * 3 + 1))) : Value))]) ⟨e10, trivial⟩).symm]
     refine XG.op (XOp.load1 (v := .int .i64 ((bs.getD (((i : Int) - 1).toNat) (0, 0, [])).2.1)) Try.isAgg2 rfl (Rd.sl [_, _] rfl he2) ?_)
     exact ⟨rfl, rfl⟩
    refine stepsG.cons (fun vals Fs R leFs hpZ => ?_) ?_
    ·refine XG.op (XOp.move (bv) rfl ?_)
     exact ⟨rfl, rfl⟩
    refine stepsG.cons (fun vals Fs R leFs hpZ => ?_) ?_
    ·refine XG.op (XOp.move (.int .i64 ((i : Int) - 1)) rfl ?_)
     exact ⟨rfl, rfl⟩
    refine stepsG.cons (fun vals Fs R leFs hpZ => ?_) ?_
    ·have e12 : vals 12 = bv := hpZ 12 (by decide)
     have e13 : vals 13 = (.int .i64 ((i : Int) - 1) : Value) := hpZ 13 (by decide)
     replace hx1 := hx1.mono leFs
     replace hx2 := hx2.mono leFs
     replace hx3 := hx3.mono leFs
     replace hx4 := hx4.mono leFs
     replace hB := hB.mono leFs
     replace ha2 := ha2.mono leFs
     replace hf1 := hf1.mono leFs
     replace hC := hC.mono leFs
     replace ha3 := ha3.mono leFs
     rw [(envs_of_sat (l := [(12, bv), (13, (.int .i64 ((i : Int) - 1) : Value))]) ⟨e12, e13, trivial⟩).symm]
     refine XG.op (XOp.indexS (v := bv) (i := (i : Int) - 1) (n := bm) (((i : Int) - 1).toNat) Try.runUnderlying39 Try.sizeOf77 rfl rfl (by omega) (SlV.own [_, _] rfl) (by omega) rfl ?_)
     exact ⟨rfl, rfl⟩
    refine stepsG.cons (fun vals Fs R leFs hpZ => ?_) ?_
    ·have e14 : vals 14 = (.pointer (some (elemA bv ((((i : Int) - 1).toNat) * 3))) : Value) := hpZ 14 (by decide)
     rw [(envs_of_sat (l := [(14, (.pointer (some (elemA bv ((((i : Int) - 1).toNat) * 3))) : Value))]) ⟨e14, trivial⟩).symm]
     refine XG.op (XOp.fieldE (v := bv) ((((i : Int) - 1).toNat) * 3 + 2) Try.runUnderlying77 rfl Try.sizeOf22 (by decide) rfl rfl ?_)
     exact ⟨rfl, rfl⟩
    refine stepsG.cons (fun vals Fs R leFs hpZ => ?_) ?_
    ·have e15 : vals 15 = (.pointer (some (elemA bv ((((i : Int) - 1).toNat) * 3 + 2))) : Value) := hpZ 15 (by decide)
     replace hx1 := hx1.mono leFs
     replace hx2 := hx2.mono leFs
     replace hx3 := hx3.mono leFs
     replace hx4 := hx4.mono leFs
     replace hB := hB.mono leFs
     replace ha2 := ha2.mono leFs
     replace hf1 := hf1.mono leFs
     replace hC := hC.mono leFs
     replace ha3 := ha3.mono leFs
     rw [(envs_of_sat (l := [(15, (.pointer (some (elemA bv ((((i : Int) - 1).toNat) * 3 + 2))) : Value))]) ⟨e15, trivial⟩).symm]
     refine XG.op (XOp.load1 (v := a3) Try.isAgg22 rfl (Rd.sl [_, _] rfl he3) ?_)
     exact ⟨rfl, rfl⟩
    refine stepsG.cons (fun vals Fs R leFs hpZ => ?_) ?_
    ·have e16 : vals 16 = a3 := hpZ 16 (by decide)
     replace hx1 := hx1.mono leFs
     replace hx2 := hx2.mono leFs
     replace hx3 := hx3.mono leFs
     replace hx4 := hx4.mono leFs
     replace hB := hB.mono leFs
     replace ha2 := ha2.mono leFs
     replace hf1 := hf1.mono leFs
     replace hC := hC.mono leFs
     replace ha3 := ha3.mono leFs
     rw [(envs_of_sat (l := [(16, a3)]) ⟨e16, trivial⟩).symm]
     refine XG.op (XOp.frzF <| XOp.call (args := [a3]) Try.call49 rfl (l1Copy_spec ha3 (hlt := (by first | omega | (rw [hi9 (by omega)]; have := htbi (by omega); omega)))) ?_)
     rintro v7 _ _ _ ⟨rfl, hs4, rfl⟩
     refine ⟨_, _, rfl, fun F2 le2 hz2 => ?_⟩
     replace hx1 := hx1.mono le2
     replace hx2 := hx2.mono le2
     replace hx3 := hx3.mono le2
     replace hx4 := hx4.mono le2
     replace hB := hB.mono le2
     replace ha2 := ha2.mono le2
     replace hf1 := hf1.mono le2
     replace hC := hC.mono le2
     replace ha3 := ha3.mono le2
     have hf2 : IntsF F2 v7 ((((bs.getD (((i : Int) - 1).toNat) (0, 0, [])).2.2))) := intsH.fz (xs := (((bs.getD (((i : Int) - 1).toNat) (0, 0, [])).2.2))) hz2.fz
     exact ⟨⟨rfl, hf2, (hz2.base leFs)⟩, rfl⟩
    refine stepsG.cons (fun vals Fs R leFs hpZ => ?_) ?_
    ·have e6 : vals 6 = (.int .i64 ((bs.getD (((i : Int) - 1).toNat) (0, 0, [])).1) : Value) := hpZ 6 (by decide)
     have e11 : vals 11 = (.int .i64 ((bs.getD (((i : Int) - 1).toNat) (0, 0, [])).2.1) : Value) := hpZ 11 (by decide)
     obtain ⟨e17, f17_1ha, f17_1hz⟩ := hpZ 17 (by decide)
     replace hx1 := hx1.mono leFs
     replace hx2 := hx2.mono leFs
     replace hx3 := hx3.mono leFs
     replace hx4 := hx4.mono leFs
     replace hB := hB.mono leFs
     replace ha2 := ha2.mono leFs
     replace hf1 := hf1.mono leFs
     replace hC := hC.mono leFs
     replace ha3 := ha3.mono leFs
     rw [(envs_of_sat (l := [(6, (.int .i64 ((bs.getD (((i : Int) - 1).toNat) (0, 0, [])).1) : Value)), (11, (.int .i64 ((bs.getD (((i : Int) - 1).toNat) (0, 0, [])).2.1) : Value)), (17, ((vals 17)))]) ⟨e6, e11, (e17).symm, trivial⟩).symm]
     refine XG.op (XOp.build [.int .i64 ((bs.getD (((i : Int) - 1).toNat) (0, 0, [])).1), .int .i64 ((bs.getD (((i : Int) - 1).toNat) (0, 0, [])).2.1), ((vals 17))] [.int .i64 (0), .int .i64 (0), (.slice none 0 0)] [(0, 1), (1, 1), (2, 1)] [(0, [.int .i64 ((bs.getD (((i : Int) - 1).toNat) (0, 0, [])).1)]), (1, [.int .i64 ((bs.getD (((i : Int) - 1).toNat) (0, 0, [])).2.1)]), (2, [((vals 17))])] Try.runUnderlying77 Try.zeroValue77 rfl (.cons rfl Try.sizeOf2 (.cons rfl Try.sizeOf2 (.cons rfl Try.sizeOf22 PlacesAre.nil))) rfl (.cons rfl (.cons rfl (.cons (cells_one (IntsF.isSl f17_1ha)) CellsAre.nil))) ?_)
     exact ⟨rfl, rfl⟩
    refine stepsG.cons (fun vals Fs R leFs hpZ => ?_) ?_
    ·obtain ⟨e17, f17_1ha, f17_1hz⟩ := hpZ 17 (by decide)
     have e18 : vals 18 = (.agg #[.int .i64 ((bs.getD (((i : Int) - 1).toNat) (0, 0, [])).1), .int .i64 ((bs.getD (((i : Int) - 1).toNat) (0, 0, [])).2.1), ((vals 17))] : Value) := hpZ 18 (by decide)
     replace hx1 := hx1.mono leFs
     replace hx2 := hx2.mono leFs
     replace hx3 := hx3.mono leFs
     replace hx4 := hx4.mono leFs
     replace hB := hB.mono leFs
     replace ha2 := ha2.mono leFs
     replace hf1 := hf1.mono leFs
     replace hC := hC.mono leFs
     replace ha3 := ha3.mono leFs
     rw [(envs_of_sat (l := [(17, ((vals 17))), (18, (.agg #[.int .i64 ((bs.getD (((i : Int) - 1).toNat) (0, 0, [])).1), .int .i64 ((bs.getD (((i : Int) - 1).toNat) (0, 0, [])).2.1), ((vals 17))] : Value))]) ⟨(e17).symm, e18, trivial⟩).symm]
     refine XG.op (XOp.buildSlice (s := 3) [.int .i64 ((bs.getD (((i : Int) - 1).toNat) (0, 0, [])).1), .int .i64 ((bs.getD (((i : Int) - 1).toNat) (0, 0, [])).2.1), ((vals 17))] [.int .i64 (0), .int .i64 (0), (.slice none 0 0)] [(0, [.int .i64 ((bs.getD (((i : Int) - 1).toNat) (0, 0, [])).1), .int .i64 ((bs.getD (((i : Int) - 1).toNat) (0, 0, [])).2.1), ((vals 17))])] Try.runUnderlying39 Try.sizeOf77 Try.zeroValue77 rfl (by decide) rfl (.cons rfl CellsAre.nil) rfl ?_)
     intro v8 hv4
     exact ⟨hv4, rfl⟩
    exact stepsG.nil
   ·intro vals F3 le3 hphi
    have e0 : vals 0 = ptr b3 1 := hphi 0 (by decide)
    have e1 : vals 1 = sv := hphi 1 (by decide)
    have e2 : vals 2 = bv := hphi 2 (by decide)
    have e3 : vals 3 = (.int .i64 ((i : Int) - 1) : Value) := hphi 3 (by decide)
    have e4 : vals 4 = (.pointer (some (elemA bv ((((i : Int) - 1).toNat) * 3))) : Value) := hphi 4 (by decide)
    have e5 : vals 5 = (.pointer (some (elemA bv ((((i : Int) - 1).toNat) * 3))) : Value) := hphi 5 (by decide)
    have e6 : vals 6 = (.int .i64 ((bs.getD (((i : Int) - 1).toNat) (0, 0, [])).1) : Value) := hphi 6 (by decide)
    have e7 : vals 7 = bv := hphi 7 (by decide)
    have e8 : vals 8 = (.int .i64 ((i : Int) - 1) : Value) := hphi 8 (by decide)
    have e9 : vals 9 = (.pointer (some (elemA bv ((((i : Int) - 1).toNat) * 3))) : Value) := hphi 9 (by decide)
    have e10 : vals 10 = (.pointer (some (elemA bv ((((i : Int) - 1).toNat) * 3 + 1))) : Value) := hphi 10 (by decide)
    have e11 : vals 11 = (.int .i64 ((bs.getD (((i : Int) - 1).toNat) (0, 0, [])).2.1) : Value) := hphi 11 (by decide)
    have e12 : vals 12 = bv := hphi 12 (by decide)
    have e13 : vals 13 = (.int .i64 ((i : Int) - 1) : Value) := hphi 13 (by decide)
    have e14 : vals 14 = (.pointer (some (elemA bv ((((i : Int) - 1).toNat) * 3))) : Value) := hphi 14 (by decide)
    have e15 : vals 15 = (.pointer (some (elemA bv ((((i : Int) - 1).toNat) * 3 + 2))) : Value) := hphi 15 (by decide)
    have e16 : vals 16 = a3 := hphi 16 (by decide)
    obtain ⟨e17, f17_1ha, f17_1hz⟩ := hphi 17 (by decide)
    have e18 : vals 18 = (.agg #[.int .i64 ((bs.getD (((i : Int) - 1).toNat) (0, 0, [])).1), .int .i64 ((bs.getD (((i : Int) - 1).toNat) (0, 0, [])).2.1), ((vals 17))] : Value) := hphi 18 (by decide)
    have f19 : ∃ b, (vals 19) = .slice (some ⟨b, 0, none⟩) 1 1 := hphi 19 (by decide)
    generalize hu1 : ((vals 17)) = u1 at e0 e1 e2 e3 e4 e5 e6 e7 e8 e9 e10 e11 e12 e13 e14 e15 e16 e17 f17_1ha f17_1hz e18 f19
    generalize hu19 : vals 19 = u2 at e0 e1 e2 e3 e4 e5 e6 e7 e8 e9 e10 e11 e12 e13 e14 e15 e16 e17 f17_1ha f17_1hz e18 f19
    rw [(envs_of_sat (l := [(0, ptr b3 1), (1, sv), (2, bv), (3, (.int .i64 ((i : Int) - 1) : Value)), (4, (.pointer (some (elemA bv ((((i : Int) - 1).toNat) * 3))) : Value)), (5, (.pointer (some (elemA bv ((((i : Int) - 1).toNat) * 3))) : Value)), (6, (.int .i64 ((bs.getD (((i : Int) - 1).toNat) (0, 0, [])).1) : Value)), (7, bv), (8, (.int .i64 ((i : Int) - 1) : Value)), (9, (.pointer (some (elemA bv ((((i : Int) - 1).toNat) * 3))) : Value)), (10, (.pointer (some (elemA bv ((((i : Int) - 1).toNat) * 3 + 1))) : Value)), (11, (.int .i64 ((bs.getD (((i : Int) - 1).toNat) (0, 0, [])).2.1) : Value)), (12, bv), (13, (.int .i64 ((i : Int) - 1) : Value)), (14, (.pointer (some (elemA bv ((((i : Int) - 1).toNat) * 3))) : Value)), (15, (.pointer (some (elemA bv ((((i : Int) - 1).toNat) * 3 + 2))) : Value)), (16, a3), (17, u1), (18, (.agg #[.int .i64 ((bs.getD (((i : Int) - 1).toNat) (0, 0, [])).1), .int .i64 ((bs.getD (((i : Int) - 1).toNat) (0, 0, [])).2.1), u1] : Value)), (19, u2)]) ⟨e0, e1, e2, e3, e4, e5, e6, e7, e8, e9, e10, e11, e12, e13, e14, e15, e16, hu1, e18, hu19, trivial⟩).symm]
    replace hx1 := hx1.mono le3
    replace hx2 := hx2.mono le3
    replace hx3 := hx3.mono le3
    replace hx4 := hx4.mono le3
    replace hB := hB.mono le3
    replace ha2 := ha2.mono le3
    replace hf1 := hf1.mono le3
    replace hC := hC.mono le3
    replace ha3 := ha3.mono le3
    show XL _ _ _ _ _ _ _ (slH 77 3 u2 1 [.int .i64 ((bs.getD (((i : Int) - 1).toNat) (0, 0, [])).1), .int .i64 ((bs.getD (((i : Int) - 1).toNat) (0, 0, [])).2.1), u1] :: slH 77 3 sv m cs :: cellsH b3 [v4, sv] 41 :: slH 77 3 bv bm bcs :: cellsH b2 [(.slice none 0 0), (.slice none 0 0)] 41 :: cellsH b1 [x1v, x2v, x3v, x4v, .bool (ab)] 85 :: L)
    refine XL.cons (XOp.append (m := 1) (bytes := 40) (cs := cs) [_] _ [.int .i64 ((bs.getD (((i : Int) - 1).toNat) (0, 0, [])).1), .int .i64 ((bs.getD (((i : Int) - 1).toNat) (0, 0, [])).2.1), u1] Try.runUnderlying39 Try.typeInfo77 rfl rfl rfl rfl rfl rfl rfl (SlV.own [] rfl) rfl (Rd.lit [] rfl) (ones_cons rfl (ones_cons rfl (ones_cons (one_sl (IntsF.isSl f17_1ha)) ones_nil))) (by (try simp only [List.length_append, List.length_nil, List.length_cons, List.length_singleton]); omega) (by (try simp only [List.length_append, List.length_nil, List.length_cons, List.length_singleton]); omega) ?_)
    intro v9 hs5 hn2 hm2
    have hc2 := StepsC.snoc hC (i := (bs.getD (((i : Int) - 1).toNat) (0, 0, [])).1) (j := (bs.getD (((i : Int) - 1).toNat) (0, 0, [])).2.1) f17_1ha
    skip
    refine XL.cons (XOp.fieldP (b := b3) (1) Try.runUnderlying41 rfl Try.sizeOf39 (by decide) rfl rfl ?_)
    refine XL.cons (XOp.store1 (v := v9) [_, _] _ [v4, v9] Try.sizeOf39 rfl rfl (one_sl hs5) rfl rfl rfl ?_)
    refine XL.nil ?_
    refine X.region ?_
    refine XL.cons (XOp.move (.int .i64 ((i : Int) - 1)) rfl ?_)
    refine XL.cons (XOp.subR (a := (i : Int) - 1) (b := 1) (((i : Int) - 1) - 1) rfl rfl (by omega) (by omega) ?_)
    refine XL.cons (XOp.assign (.int .i64 (((i : Int) - 1) - 1)) rfl ?_)
    refine XL.nil ?_
    exact ⟨(i - 1, v9, ss ++ [((bs.getD (((i : Int) - 1).toNat) (0, 0, [])).1, (bs.getD (((i : Int) - 1).toNat) (0, 0, [])).2.1, (((bs.getD (((i : Int) - 1).toNat) (0, 0, [])).2.2)))], cs ++ [.int .i64 ((bs.getD (((i : Int) - 1).toNat) (0, 0, [])).1), .int .i64 ((bs.getD (((i : Int) - 1).toNat) (0, 0, [])).2.1), u1], Ls ++ [intsH 2 u1 ((((bs.getD (((i : Int) - 1).toNat) (0, 0, [])).2.2)))], (m) + 1, F3), _, (FLe.trans leG1 le3), (FLe.refl _), ⟨rfl, rfl, rfl, (congrArg (Value.int .i64) (by (try dsimp only); omega)), trivial⟩, (Sub.drop (Sub.cons (Sub.cons (Sub.cons (Sub.cons (Sub.cons (Sub.refl _))))))), ⟨rfl, (FLe.trans leG1 le3), (by (try dsimp only) <;> omega), (hs5), (hc2), (by (try dsimp only); rw [List.length_append]; simp only [List.length_singleton]; omega), (DeepL.snoc hD rfl ⟨_, rfl, rfl⟩), ((Fresh.app hZ leG1 (Fresh.one f17_1hz) le3)), (by (try dsimp only); have h9 := hdr9 (by omega); rw [show i - 1 + 1 = i from by omega] at h9; rw [hss, h9, hi9 (by omega)]), (by (try dsimp only); omega)⟩, (by (try dsimp only); omega)⟩
  ·refine X.exit (thenQ_exit (thenQ_exit (blockQ_exit ?_)))
   refine X.seq ?_
   refine X.region ?_
   refine XL.cons (XOp.loadN [v4, sv] Try.isAgg41 Try.sizeOf41 rfl rfl (Rd.ownN [_] rfl rfl) ?_)
   refine XL.cons (XOp.storeN (vs := [v4, sv]) [_, _, _] _ [v4, sv] Try.sizeOf41 rfl rfl rfl (ones_cons (one_sl (IntsF.isSl hf1)) (ones_cons (one_sl hsv) ones_nil)) rfl rfl rfl ?_)
   refine XL.nil ?_
   refine X.freezeF [] _ _ rfl (fun F4 le4 hz3 => ?_)
   replace hx1 := hx1.mono le4
   replace hx2 := hx2.mono le4
   replace hx3 := hx3.mono le4
   replace hx4 := hx4.mono le4
   replace hB := hB.mono le4
   replace ha2 := ha2.mono le4
   replace hf1 := hf1.mono le4
   replace hC := hC.mono le4
   have hf3 : StepsF F4 sv ss := CO.fz hC (by first | rfl | simp | omega) hz3.fz
   refine X.ret (retEnd (L' := L) [.agg #[v4, sv]] (.agg #[v4, sv]) (.cell rfl (loadNV [v4, sv] Try.isAgg41 Try.sizeOf41 rfl (Rd.ownN [_, _] rfl rfl)) .nil) rfl (FLe.trans (FLe.trans le1 leG1) le4) (FLe.refl _) (Sub.drop (Sub.drop (Sub.drop (Sub.drop (Sub.refl _))))) ?_)
   have e9 : ss = walkL al k := by rw [hss, show i = 0 from by omega, List.drop_zero, hssb]; rfl
   rw [← e9, ← terms_get 0]
   exact ⟨_, _, rfl, hf1, hf3, (Fresh.app (Fresh.one hz1) le1 (Fresh.one (Fresh.deep hD hZ leG1 hz3 (by omega) le4)) (FLe.trans leG1 le4)), rfl⟩

/- spec.JoinOf -/
set_option maxHeartbeats 2000000 in
set_option maxRecDepth 20000 in
theorem sJoinOf_spec {F : FH} {L : List HP} {arv : Value} {ar : List Int} (har : IntsF F arv ar) {rsv : Value} {rs : List (List Int × List Int)} (hrs : PairsF F rsv rs) {av : Value} {a : List Int} (ha : IntsF F av a) {bv : Value} {b : List Int} (hb : IntsF F bv b) {n : Int} (hla : ar.length ≤ 4000000) (hlr : rs.length ≤ 4000000) (hrb : ∀ i, i < rs.length → (rs.getD i ([], [])).1.length ≤ 4000000 ∧ (rs.getD i ([], [])).2.length ≤ 4000000) (hla9 : a.length ≤ 4000000) (hlb9 : b.length ≤ 4000000) :
    Does Try.prog 33 [.agg #[arv, rsv], av, bv, .int .i64 (n)] F (L) (fun v F' L' => ∃ (a1 : Value), ∃ (b1 : Value), ∃ (a2 : Value), ∃ (b2 : Value), (.tuple #[.agg #[a1, b1], .agg #[a2, b2], .bool ((joinF ar rs a b n).2.2.2.2)] : Value) = v ∧ (IntsF F' a1 (joinF ar rs a b n).1) ∧ (StepsF F' b1 (joinF ar rs a b n).2.1) ∧ (IntsF F' a2 (joinF ar rs a b n).2.2.1) ∧ (StepsF F' b2 (joinF ar rs a b n).2.2.2.1) ∧ L = L') := by
 refine Does.of_X Try.func33 rfl rfl rfl ?_
 refine X.seq ?_
 refine X.region ?_
 refine XL.cons (XOp.box [arv, rsv] rfl rfl ?_)
 intro b1
 refine XL.cons (XOp.alloc [(.slice none 0 0), (.slice none 0 0)] Try.zeroValue41 rfl ?_)
 intro b2
 refine XL.cons (XOp.alloc [(.slice none 0 0), (.slice none 0 0)] Try.zeroValue41 rfl ?_)
 intro b3
 refine XL.cons (XOp.assign (.bool (false)) rfl ?_)
 refine XL.nil ?_
 refine X.seq ?_
 refine X.seq ?_
 refine X.region ?_
 refine XL.cons (XOp.loadN [arv, rsv] Try.isAgg33 Try.sizeOf33 rfl rfl (Rd.ownN [_, _] rfl rfl) ?_)
 refine XL.cons (XOp.move (av) rfl ?_)
 refine XL.cons (XOp.move (.int .i64 (n)) rfl ?_)
 refine XL.cons (XOp.call (args := [.agg #[arv, rsv], av, .int .i64 (n)]) Try.call48 rfl (l9Right_spec (n := n) har hrs ha (hla := (by first | assumption | rfl | omega | (left; simp; done) | (right; simp; done))) (hlr := (by first | assumption | rfl | omega | (left; simp; done) | (right; simp; done))) (hrb := (by first | assumption | rfl | omega | (left; simp; done) | (right; simp; done))) (hlt := (by first | assumption | rfl | omega | (left; simp; done) | (right; simp; done)))) ?_)
 rintro _ _ _ _ ⟨rfl, rfl, rfl⟩
 refine XL.cons (XOp.notB (b := reachOkL ar rs n [a]) rfl ?_)
 refine XL.cons (XOp.move (.bool (!(reachOkL ar rs n [a]))) rfl ?_)
 by_cases h1 : (!(reachOkL ar rs n [a])) = true
 ·have hro : reachOkL ar rs n [a, b] = false := by rw [reachOk2]; simp_all
  refine XL.no (t := 20) rfl (congrArg Value.bool h1) ?_
  refine XL.no (t := 20) rfl (congrArg Value.bool h1) ?_
  refine XL.no (t := 20) rfl (congrArg Value.bool h1) ?_
  refine XL.no (t := 20) rfl (congrArg Value.bool h1) ?_
  refine XL.no (t := 20) rfl (congrArg Value.bool h1) ?_
  refine XL.cons (XOp.pickT (.bool (true)) (congrArg Value.bool h1) rfl ?_)
  refine XL.nil ?_
  refine X.condT rfl ?_
  refine X.seq ?_
  refine X.region ?_
  refine XL.cons (XOp.build [(.slice none 0 0), (.slice none 0 0)] [(.slice none 0 0), (.slice none 0 0)] [(0, 1), (1, 1)] [] Try.runUnderlying41 Try.zeroValue41 rfl (.cons rfl Try.sizeOf22 (.cons rfl Try.sizeOf39 PlacesAre.nil)) rfl CellsAre.nil ?_)
  refine XL.cons (XOp.build [(.slice none 0 0), (.slice none 0 0)] [(.slice none 0 0), (.slice none 0 0)] [(0, 1), (1, 1)] [] Try.runUnderlying41 Try.zeroValue41 rfl (.cons rfl Try.sizeOf22 (.cons rfl Try.sizeOf39 PlacesAre.nil)) rfl CellsAre.nil ?_)
  refine XL.cons (XOp.storeN (vs := [(.slice none 0 0), (.slice none 0 0)]) [_] _ [(.slice none 0 0), (.slice none 0 0)] Try.sizeOf41 rfl rfl rfl (ones_cons rfl (ones_cons rfl ones_nil)) rfl rfl rfl ?_)
  refine XL.cons (XOp.storeN (vs := [(.slice none 0 0), (.slice none 0 0)]) [] _ [(.slice none 0 0), (.slice none 0 0)] Try.sizeOf41 rfl rfl rfl (ones_cons rfl (ones_cons rfl ones_nil)) rfl rfl rfl ?_)
  refine XL.cons (XOp.assign (.bool (false)) rfl ?_)
  refine XL.nil ?_
  refine X.ret (thenQ_ret (retEnd (L' := L) [.agg #[(.slice none 0 0), (.slice none 0 0)], .agg #[(.slice none 0 0), (.slice none 0 0)], .bool (false)] (.tuple #[.agg #[(.slice none 0 0), (.slice none 0 0)], .agg #[(.slice none 0 0), (.slice none 0 0)], .bool (false)]) (.cell rfl (loadNV [(.slice none 0 0), (.slice none 0 0)] Try.isAgg41 Try.sizeOf41 rfl (Rd.ownN [_] rfl rfl)) (.cell rfl (loadNV [(.slice none 0 0), (.slice none 0 0)] Try.isAgg41 Try.sizeOf41 rfl (Rd.ownN [] rfl rfl)) (.tmp rfl .nil))) rfl (FLe.refl _) (FLe.refl _) (Sub.drop (Sub.drop (Sub.drop (Sub.refl _)))) ?_))
  have e : joinF ar rs a b n = ([], [], [], [], false) := joinF_no hro
  exact ⟨_, _, _, _, by rw [e], by rw [e]; exact IntsF.nilV, by rw [e]; exact SlOf.nilV, by rw [e]; exact IntsF.nilV, by rw [e]; exact SlOf.nilV, rfl⟩
 ·rw [Bool.not_eq_true] at h1
  refine XL.yes (t := 20) rfl (congrArg Value.bool h1) (XOp.loadN [arv, rsv] Try.isAgg33 Try.sizeOf33 rfl rfl (Rd.ownN [_, _] rfl rfl) ?_)
  refine XL.yes (t := 20) rfl (congrArg Value.bool h1) (XOp.move (bv) rfl ?_)
  refine XL.yes (t := 20) rfl (congrArg Value.bool h1) (XOp.move (.int .i64 (n)) rfl ?_)
  refine XL.yes (t := 20) rfl (congrArg Value.bool h1) (XOp.call (args := [.agg #[arv, rsv], bv, .int .i64 (n)]) Try.call48 rfl (l9Right_spec (n := n) har hrs hb (hla := (by first | assumption | rfl | omega | (left; simp; done) | (right; simp; done))) (hlr := (by first | assumption | rfl | omega | (left; simp; done) | (right; simp; done))) (hrb := (by first | assumption | rfl | omega | (left; simp; done) | (right; simp; done))) (hlt := (by first | assumption | rfl | omega | (left; simp; done) | (right; simp; done)))) ?_)
  rintro _ _ _ _ ⟨rfl, rfl, rfl⟩
  refine XL.yes (t := 20) rfl (congrArg Value.bool h1) (XOp.notB (b := reachOkL ar rs n [b]) rfl ?_)
  refine XL.cons (XOp.pickF (.bool (!(reachOkL ar rs n [b]))) (congrArg Value.bool h1) rfl ?_)
  refine XL.nil ?_
  refine X.cond (t := !(reachOkL ar rs n [b])) rfl (fun h2 => ?_) (fun h2 => ?_)
  ·have hro : reachOkL ar rs n [a, b] = false := by rw [reachOk2]; simp_all
   refine X.seq ?_
   refine X.region ?_
   refine XL.cons (XOp.build [(.slice none 0 0), (.slice none 0 0)] [(.slice none 0 0), (.slice none 0 0)] [(0, 1), (1, 1)] [] Try.runUnderlying41 Try.zeroValue41 rfl (.cons rfl Try.sizeOf22 (.cons rfl Try.sizeOf39 PlacesAre.nil)) rfl CellsAre.nil ?_)
   refine XL.cons (XOp.build [(.slice none 0 0), (.slice none 0 0)] [(.slice none 0 0), (.slice none 0 0)] [(0, 1), (1, 1)] [] Try.runUnderlying41 Try.zeroValue41 rfl (.cons rfl Try.sizeOf22 (.cons rfl Try.sizeOf39 PlacesAre.nil)) rfl CellsAre.nil ?_)
   refine XL.cons (XOp.storeN (vs := [(.slice none 0 0), (.slice none 0 0)]) [_] _ [(.slice none 0 0), (.slice none 0 0)] Try.sizeOf41 rfl rfl rfl (ones_cons rfl (ones_cons rfl ones_nil)) rfl rfl rfl ?_)
   refine XL.cons (XOp.storeN (vs := [(.slice none 0 0), (.slice none 0 0)]) [] _ [(.slice none 0 0), (.slice none 0 0)] Try.sizeOf41 rfl rfl rfl (ones_cons rfl (ones_cons rfl ones_nil)) rfl rfl rfl ?_)
   refine XL.cons (XOp.assign (.bool (false)) rfl ?_)
   refine XL.nil ?_
   refine X.ret (thenQ_ret (retEnd (L' := L) [.agg #[(.slice none 0 0), (.slice none 0 0)], .agg #[(.slice none 0 0), (.slice none 0 0)], .bool (false)] (.tuple #[.agg #[(.slice none 0 0), (.slice none 0 0)], .agg #[(.slice none 0 0), (.slice none 0 0)], .bool (false)]) (.cell rfl (loadNV [(.slice none 0 0), (.slice none 0 0)] Try.isAgg41 Try.sizeOf41 rfl (Rd.ownN [_] rfl rfl)) (.cell rfl (loadNV [(.slice none 0 0), (.slice none 0 0)] Try.isAgg41 Try.sizeOf41 rfl (Rd.ownN [] rfl rfl)) (.tmp rfl .nil))) rfl (FLe.refl _) (FLe.refl _) (Sub.drop (Sub.drop (Sub.drop (Sub.refl _)))) ?_))
   have e : joinF ar rs a b n = ([], [], [], [], false) := joinF_no hro
   exact ⟨_, _, _, _, by rw [e], by rw [e]; exact IntsF.nilV, by rw [e]; exact SlOf.nilV, by rw [e]; exact IntsF.nilV, by rw [e]; exact SlOf.nilV, rfl⟩
  ·have hro : reachOkL ar rs n [a, b] = true := by rw [reachOk2]; simp_all
   have hr3 := reachOk2_iff.1 hro
   have hsys := hr3.1.1
   have ho := hr3.1.2.1
   have hou := hr3.1.2.2
   have hn20 := hr3.2
   have hgda := reachL_good (ar := ar) (rs := rs) (t := a) (n := n) hn20.1
   have hrka := reachL_ok (n := n) hsys ho
   have hrla := hrka.1
   have hrda : ∀ i, i < (reachL ar rs a n).1.length → (EL (reachL ar rs a n).1 i).1.length ≤ 60 := fun i hi => (termOk_len (hrka.2 i hi)).2
   have htza : (terms (reachL ar rs a n).1).length = (reachL ar rs a n).1.length := terms_len
   have htqa : ∀ i, i < (terms (reachL ar rs a n).1).length → ((terms (reachL ar rs a n).1).getD i []).length ≤ 4000000 := fun i hi => by rw [terms_get]; have := hrda i (by omega); omega
   have hgdb := reachL_good (ar := ar) (rs := rs) (t := b) (n := n) hn20.1
   have hrkb := reachL_ok (n := n) hsys hou
   have hrlb := hrkb.1
   have hrdb : ∀ i, i < (reachL ar rs b n).1.length → (EL (reachL ar rs b n).1 i).1.length ≤ 60 := fun i hi => (termOk_len (hrkb.2 i hi)).2
   have htzb : (terms (reachL ar rs b n).1).length = (reachL ar rs b n).1.length := terms_len
   have htqb : ∀ i, i < (terms (reachL ar rs b n).1).length → ((terms (reachL ar rs b n).1).getD i []).length ≤ 4000000 := fun i hi => by rw [terms_get]; have := hrdb i (by omega); omega
   refine X.skip ?_
   refine X.seq ?_
   refine X.region ?_
   refine XL.cons (XOp.loadN [arv, rsv] Try.isAgg33 Try.sizeOf33 rfl rfl (Rd.ownN [_, _] rfl rfl) ?_)
   refine XL.cons (XOp.move (av) rfl ?_)
   refine XL.cons (XOp.move (.int .i64 (n)) rfl ?_)
   refine XL.cons (XOp.call (args := [.agg #[arv, rsv], av, .int .i64 (n)]) Try.call64 rfl (l9Find_spec (n := n) har hrs ha (hsys := (by first | assumption | rfl | omega | (left; simp; done) | (right; simp; done))) (ho := (by first | assumption | rfl | omega | (left; simp; done) | (right; simp; done))) (hn20 := (by first | assumption | rfl | omega | (left; simp; done) | (right; simp; done)))) ?_)
   rintro _ F1 _ le1 ⟨x1, x2, x3, x4, rfl, hr1, hr2, hr3, hr4, rfl⟩
   replace har := har.mono le1
   replace hrs := hrs.mono le1
   replace ha := ha.mono le1
   replace hb := hb.mono le1
   refine XL.cons (XOp.alloc [(.slice none 0 0), (.slice none 0 0), (.slice none 0 0), (.slice none 0 0), .bool (false)] Try.zeroValue85 rfl ?_)
   intro b4
   refine XL.cons (XOp.storeN (vs := [x1, x2, x3, x4, .bool ((reachL ar rs a n).2)]) [] _ [x1, x2, x3, x4, .bool ((reachL ar rs a n).2)] Try.sizeOf85 rfl rfl rfl (ones_cons (one_sl (RowsF.isSl hr1)) (ones_cons (one_sl (IntsF.isSl hr2)) (ones_cons (one_sl (StepsF.isSl hr3)) (ones_cons (one_sl (IntsF.isSl hr4)) (ones_cons rfl ones_nil))))) rfl rfl rfl ?_)
   refine XL.nil ?_
   refine X.seq ?_
   refine X.region ?_
   refine XL.cons (XOp.loadN [arv, rsv] Try.isAgg33 Try.sizeOf33 rfl rfl (Rd.ownN [_, _, _] rfl rfl) ?_)
   refine XL.cons (XOp.move (bv) rfl ?_)
   refine XL.cons (XOp.move (.int .i64 (n)) rfl ?_)
   refine XL.cons (XOp.call (args := [.agg #[arv, rsv], bv, .int .i64 (n)]) Try.call64 rfl (l9Find_spec (n := n) har hrs hb (hsys := (by first | assumption | rfl | omega | (left; simp; done) | (right; simp; done))) (ho := (by first | assumption | rfl | omega | (left; simp; done) | (right; simp; done))) (hn20 := (by first | assumption | rfl | omega | (left; simp; done) | (right; simp; done)))) ?_)
   rintro _ F2 _ le2 ⟨x5, x6, x7, x8, rfl, hr5, hr6, hr7, hr8, rfl⟩
   replace har := har.mono le2
   replace hrs := hrs.mono le2
   replace ha := ha.mono le2
   replace hb := hb.mono le2
   replace hr1 := hr1.mono le2
   replace hr2 := hr2.mono le2
   replace hr3 := hr3.mono le2
   replace hr4 := hr4.mono le2
   refine XL.cons (XOp.alloc [(.slice none 0 0), (.slice none 0 0), (.slice none 0 0), (.slice none 0 0), .bool (false)] Try.zeroValue85 rfl ?_)
   intro b5
   refine XL.cons (XOp.storeN (vs := [x5, x6, x7, x8, .bool ((reachL ar rs b n).2)]) [] _ [x5, x6, x7, x8, .bool ((reachL ar rs b n).2)] Try.sizeOf85 rfl rfl rfl (ones_cons (one_sl (RowsF.isSl hr5)) (ones_cons (one_sl (IntsF.isSl hr6)) (ones_cons (one_sl (StepsF.isSl hr7)) (ones_cons (one_sl (IntsF.isSl hr8)) (ones_cons rfl ones_nil))))) rfl rfl rfl ?_)
   refine XL.nil ?_
   refine X.seq ?_
   refine X.seq ?_
   refine X.region ?_
   refine XL.cons (XOp.assign (.int .i64 (0)) rfl ?_)
   refine XL.nil ?_
   refine X.block ?_
   refine X.loop (α := Nat) (fun k => [(8, ptr b2 0), (9, ptr b3 0), (11, ptr b4 0), (12, ptr b5 0), (13, .int .i64 (((k : Nat) : Int)))]) (fun k => cellsH b5 [x5, x6, x7, x8, .bool ((reachL ar rs b n).2)] 85 :: cellsH b4 [x1, x2, x3, x4, .bool ((reachL ar rs a n).2)] 85 :: cellsH b3 [(.slice none 0 0), (.slice none 0 0)] 41 :: cellsH b2 [(.slice none 0 0), (.slice none 0 0)] 41 :: cellsH b1 [arv, rsv] 33 :: L) (fun k F' => F2 = F' ∧ (k ≤ (reachL ar rs a n).1.length) ∧ (∀ i, i < k → foundI (reachL ar rs b n).1 (EL (reachL ar rs a n).1 i).1 < 0)) (fun k => (reachL ar rs a n).1.length - k) 0 ⟨rfl, rfl, rfl, rfl, rfl, trivial⟩ (Sub.cons (Sub.cons (Sub.cons (Sub.cons (Sub.cons (Sub.refl _)))))) ⟨rfl, (by (try dsimp only) <;> omega), (fun i hi => absurd hi (by omega))⟩ ?_
   rintro k rE _ _ ⟨rfl, hk, hno⟩
   show X _ _ _ _ (envs [(8, ptr b2 0), (9, ptr b3 0), (11, ptr b4 0), (12, ptr b5 0), (13, .int .i64 (((k : Nat) : Int)))] rE) _ (cellsH b5 [x5, x6, x7, x8, .bool ((reachL ar rs b n).2)] 85 :: cellsH b4 [x1, x2, x3, x4, .bool ((reachL ar rs a n).2)] 85 :: cellsH b3 [(.slice none 0 0), (.slice none 0 0)] 41 :: cellsH b2 [(.slice none 0 0), (.slice none 0 0)] 41 :: cellsH b1 [arv, rsv] 33 :: L)
   have hgk : ((terms (reachL ar rs a n).1).getD k []) = (EL (reachL ar rs a n).1 k).1 := terms_get k
   have hfi : badG (fun y => !decide (y = ((terms (reachL ar rs a n).1).getD k []))) (terms (reachL ar rs b n).1) = foundI (reachL ar rs b n).1 (EL (reachL ar rs a n).1 k).1 := by rw [hgk]; exact foundI_terms
   have hfl := fun (h : 0 ≤ foundI (reachL ar rs b n).1 (EL (reachL ar rs a n).1 k).1) => (foundI_lt h).1
   have hka := fun (h : k < (reachL ar rs a n).1.length) => (show ((terms (reachL ar rs a n).1).getD k []).length ≤ 60 from by rw [hgk]; exact hrda k h)
   refine X.seq ?_
   refine X.seq ?_
   refine X.region ?_
   refine XL.cons (XOp.move (.int .i64 (((k : Nat) : Int))) rfl ?_)
   refine XL.cons (XOp.fieldP (b := b4) (0) Try.runUnderlying85 rfl Try.sizeOf49 (by decide) rfl rfl ?_)
   refine XL.cons (XOp.load1 (v := x1) Try.isAgg49 rfl (Rd.own [_] rfl rfl) ?_)
   refine XL.cons (XOp.lenS (v := x1) (n := (terms (reachL ar rs a n).1).length) Try.runUnderlying49 rfl hr1.slv ?_)
   refine XL.cons (XOp.lss (a := ((k : Nat) : Int)) (b := (((terms (reachL ar rs a n).1).length : Nat) : Int)) rfl rfl ?_)
   refine XL.nil ?_
   refine X.condD (p := (((k : Nat) : Int) : Int) < (((terms (reachL ar rs a n).1).length : Nat) : Int)) rfl (fun h3 => ?_) (fun h3 => ?_)
   ·refine X.skip ?_
    refine X.seq ?_
    refine X.block ?_
    refine X.seq ?_
    obtain ⟨a1, ha1, hr9⟩ := hr1.rd (i := k) (by omega)
    refine X.draw [cellsH b5 [x5, x6, x7, x8, .bool ((reachL ar rs b n).2)] 85, cellsH b4 [x1, x2, x3, x4, .bool ((reachL ar rs a n).2)] 85, cellsH b3 [(.slice none 0 0), (.slice none 0 0)] 41, cellsH b2 [(.slice none 0 0), (.slice none 0 0)] 41, cellsH b1 [arv, rsv] 33] L 7 [[], [], [], [], [], [], []] [[], [0], [], [2], [], [3, 4], [5]] (phiL [fun us v => v = ptr b5 0, fun us v => v = x5, fun us v => v = ptr b4 0, fun us v => v = x1, fun us v => v = (.int .i64 (((k : Nat) : Int)) : Value), fun us v => v = (.pointer (some (elemA x1 (k))) : Value), fun us v => v = a1]) (ownL [fun us v => [], fun us v => [], fun us v => [], fun us v => [], fun us v => [], fun us v => [], fun us v => []]) mixed rfl rfl (by kernel_rfl) ?_ ?_
    ·refine stepsP.cons (fun vals R hpZ => ?_) ?_
     ·refine XG.op (XOp.fieldP (b := b5) (0) Try.runUnderlying85 rfl Try.sizeOf49 (by decide) rfl rfl ?_)
      exact ⟨rfl, rfl, rfl⟩
     refine stepsP.cons (fun vals R hpZ => ?_) ?_
     ·rw [(envs_of_sat (l := [(0, ptr b5 0)]) ⟨hpZ 0 (by decide), trivial⟩).symm]
      refine XG.op (XOp.load1 (v := x5) Try.isAgg49 rfl (Rd.own [] rfl rfl) ?_)
      exact ⟨rfl, rfl, rfl⟩
     refine stepsP.cons (fun vals R hpZ => ?_) ?_
     ·refine XG.op (XOp.fieldP (b := b4) (0) Try.runUnderlying85 rfl Try.sizeOf49 (by decide) rfl rfl ?_)
      exact ⟨rfl, rfl, rfl⟩
     refine stepsP.cons (fun vals R hpZ => ?_) ?_
     ·rw [(envs_of_sat (l := [(2, ptr b4 0)]) ⟨hpZ 2 (by decide), trivial⟩).symm]
      refine XG.op (XOp.load1 (v := x1) Try.isAgg49 rfl (Rd.own [_] rfl rfl) ?_)
      exact ⟨rfl, rfl, rfl⟩
     refine stepsP.cons (fun vals R hpZ => ?_) ?_
     ·refine XG.op (XOp.move (.int .i64 (((k : Nat) : Int))) rfl ?_)
      exact ⟨rfl, rfl, rfl⟩
     refine stepsP.cons (fun vals R hpZ => ?_) ?_
     ·rw [(envs_of_sat (l := [(3, x1), (4, (.int .i64 (((k : Nat) : Int)) : Value))]) ⟨hpZ 3 (by decide), hpZ 4 (by decide), trivial⟩).symm]
      refine XG.op (XOp.indexS (v := x1) (i := ((k : Nat) : Int)) (n := (terms (reachL ar rs a n).1).length) k Try.runUnderlying49 Try.sizeOf22 rfl rfl rfl hr1.slv (by omega) (Nat.mul_one _) ?_)
      exact ⟨rfl, rfl, rfl⟩
     refine stepsP.cons (fun vals R hpZ => ?_) ?_
     ·rw [(envs_of_sat (l := [(5, (.pointer (some (elemA x1 (k))) : Value))]) ⟨hpZ 5 (by decide), trivial⟩).symm]
      refine XG.op (XOp.load1 (v := a1) Try.isAgg22 rfl (hr9 _) ?_)
      exact ⟨rfl, rfl, rfl⟩
     exact stepsP.nil
    ·intro vals hphi
     have e0 : vals 0 = ptr b5 0 := hphi 0 (by decide)
     have e1 : vals 1 = x5 := hphi 1 (by decide)
     have e2 : vals 2 = ptr b4 0 := hphi 2 (by decide)
     have e3 : vals 3 = x1 := hphi 3 (by decide)
     have e4 : vals 4 = (.int .i64 (((k : Nat) : Int)) : Value) := hphi 4 (by decide)
     have e5 : vals 5 = (.pointer (some (elemA x1 (k))) : Value) := hphi 5 (by decide)
     have e6 : vals 6 = a1 := hphi 6 (by decide)
     rw [(envs_of_sat (l := [(0, ptr b5 0), (1, x5), (2, ptr b4 0), (3, x1), (4, (.int .i64 (((k : Nat) : Int)) : Value)), (5, (.pointer (some (elemA x1 (k))) : Value)), (6, a1)]) ⟨e0, e1, e2, e3, e4, e5, e6, trivial⟩).symm]
     show XL _ _ _ _ _ _ _ (cellsH b5 [x5, x6, x7, x8, .bool ((reachL ar rs b n).2)] 85 :: cellsH b4 [x1, x2, x3, x4, .bool ((reachL ar rs a n).2)] 85 :: cellsH b3 [(.slice none 0 0), (.slice none 0 0)] 41 :: cellsH b2 [(.slice none 0 0), (.slice none 0 0)] 41 :: cellsH b1 [arv, rsv] 33 :: L)
     refine XL.cons (XOp.call (args := [x5, a1]) Try.call68 rfl (l1TermPlace_spec hr5 ha1 (hlt := (by omega)) (htb := (htqb)) (hlx := (by have := hka (by omega); omega))) ?_)
     rintro _ _ _ _ ⟨rfl, rfl, rfl⟩
     refine XL.cons (XOp.assign (.int .i64 (badG (fun y => !decide (y = (((terms (reachL ar rs a n).1).getD k [])))) (terms (reachL ar rs b n).1))) rfl ?_)
     refine XL.nil ?_
     refine X.seq ?_
     refine X.region ?_
     refine XL.cons (XOp.move (.int .i64 (badG (fun y => !decide (y = (((terms (reachL ar rs a n).1).getD k [])))) (terms (reachL ar rs b n).1))) rfl ?_)
     refine XL.cons (XOp.geq (a := badG (fun y => !decide (y = (((terms (reachL ar rs a n).1).getD k [])))) (terms (reachL ar rs b n).1)) (b := 0) rfl rfl ?_)
     refine XL.nil ?_
     refine X.condD (p := (badG (fun y => !decide (y = (((terms (reachL ar rs a n).1).getD k [])))) (terms (reachL ar rs b n).1) : Int) ≥ 0) rfl (fun h4 => ?_) (fun h4 => ?_)
     ·refine X.seq ?_
      refine X.drawG [cellsH b5 [x5, x6, x7, x8, .bool ((reachL ar rs b n).2)] 85, cellsH b4 [x1, x2, x3, x4, .bool ((reachL ar rs a n).2)] 85, cellsH b3 [(.slice none 0 0), (.slice none 0 0)] 41, cellsH b2 [(.slice none 0 0), (.slice none 0 0)] 41, cellsH b1 [arv, rsv] 33] L 5 [[], [], [], [], []] [[], [], [0, 1], [], []] [[], [], [], [], []] (phiG [fun FF us v => v = (.agg #[x1, x2, x3, x4, .bool ((reachL ar rs a n).2)] : Value), fun FF us v => v = (.int .i64 (((k : Nat) : Int)) : Value), fun FF us v => (.agg #[((aggAt v 0)), ((aggAt v 1))] : Value) = v ∧ (IntsF FF ((aggAt v 0)) (EL (((reachL ar rs a n).1)) 0).1) ∧ (StepsF FF ((aggAt v 1)) (walkL (((reachL ar rs a n).1)) k)), fun FF us v => v = (.agg #[x5, x6, x7, x8, .bool ((reachL ar rs b n).2)] : Value), fun FF us v => v = (.int .i64 (badG (fun y => !decide (y = (((terms (reachL ar rs a n).1).getD k [])))) (terms (reachL ar rs b n).1)) : Value)]) (ownL [fun us v => [], fun us v => [], fun us v => [], fun us v => [], fun us v => []]) mixed rfl rfl (by kernel_rfl) (by kernel_rfl) (MonoG.get (MonoG.cons (fun le h => h) (MonoG.cons (fun le h => h) (MonoG.cons (fun le h => ⟨h.1, h.2.1.mono le, h.2.2.mono le⟩) (MonoG.cons (fun le h => h) (MonoG.cons (fun le h => h) MonoG.nil)))))) ?_ ?_
      ·refine stepsG.cons (fun vals Fs R leFs hpZ => ?_) ?_
       ·replace har := har.mono leFs
        replace hrs := hrs.mono leFs
        replace ha := ha.mono leFs
        replace hb := hb.mono leFs
        replace hr1 := hr1.mono leFs
        replace hr2 := hr2.mono leFs
        replace hr3 := hr3.mono leFs
        replace hr4 := hr4.mono leFs
        replace hr5 := hr5.mono leFs
        replace hr6 := hr6.mono leFs
        replace hr7 := hr7.mono leFs
        replace hr8 := hr8.mono leFs
        replace ha1 := ha1.mono leFs
        replace hr9 := Rd.monoA hr9 leFs
        refine XG.op (XOp.loadN [x1, x2, x3, x4, .bool ((reachL ar rs a n).2)] Try.isAgg85 Try.sizeOf85 rfl rfl (Rd.ownN [_] rfl rfl) ?_)
        exact ⟨rfl, rfl⟩
       refine stepsG.cons (fun vals Fs R leFs hpZ => ?_) ?_
       ·refine XG.op (XOp.move (.int .i64 (((k : Nat) : Int))) rfl ?_)
        exact ⟨rfl, rfl⟩
       refine stepsG.cons (fun vals Fs R leFs hpZ => ?_) ?_
       ·have e0 : vals 0 = (.agg #[x1, x2, x3, x4, .bool ((reachL ar rs a n).2)] : Value) := hpZ 0 (by decide)
        have e1 : vals 1 = (.int .i64 (((k : Nat) : Int)) : Value) := hpZ 1 (by decide)
        replace har := har.mono leFs
        replace hrs := hrs.mono leFs
        replace ha := ha.mono leFs
        replace hb := hb.mono leFs
        replace hr1 := hr1.mono leFs
        replace hr2 := hr2.mono leFs
        replace hr3 := hr3.mono leFs
        replace hr4 := hr4.mono leFs
        replace hr5 := hr5.mono leFs
        replace hr6 := hr6.mono leFs
        replace hr7 := hr7.mono leFs
        replace hr8 := hr8.mono leFs
        replace ha1 := ha1.mono leFs
        replace hr9 := Rd.monoA hr9 leFs
        rw [(envs_of_sat (l := [(0, (.agg #[x1, x2, x3, x4, .bool ((reachL ar rs a n).2)] : Value)), (1, (.int .i64 (((k : Nat) : Int)) : Value))]) ⟨e0, e1, trivial⟩).symm]
        refine XG.op (XOp.call (args := [.agg #[x1, x2, x3, x4, .bool ((reachL ar rs a n).2)], .int .i64 ((k : Nat) : Int)]) Try.call69 rfl (l9Walk_spec (k := k) hr1 hr2 hr3 hr4 (hk := (by omega)) (hll := (hrla)) (hlk := (hgda.1)) (hbd := (hrda))) ?_)
        rintro _ F4 _ le4 ⟨x11, x12, rfl, hr13, hr14, hr15, rfl⟩
        replace har := har.mono le4
        replace hrs := hrs.mono le4
        replace ha := ha.mono le4
        replace hb := hb.mono le4
        replace hr1 := hr1.mono le4
        replace hr2 := hr2.mono le4
        replace hr3 := hr3.mono le4
        replace hr4 := hr4.mono le4
        replace hr5 := hr5.mono le4
        replace hr6 := hr6.mono le4
        replace hr7 := hr7.mono le4
        replace hr8 := hr8.mono le4
        replace ha1 := ha1.mono le4
        replace hr9 := Rd.monoA hr9 le4
        exact ⟨⟨rfl, hr13, hr14⟩, rfl⟩
       refine stepsG.cons (fun vals Fs R leFs hpZ => ?_) ?_
       ·replace har := har.mono leFs
        replace hrs := hrs.mono leFs
        replace ha := ha.mono leFs
        replace hb := hb.mono leFs
        replace hr1 := hr1.mono leFs
        replace hr2 := hr2.mono leFs
        replace hr3 := hr3.mono leFs
        replace hr4 := hr4.mono leFs
        replace hr5 := hr5.mono leFs
        replace hr6 := hr6.mono leFs
        replace hr7 := hr7.mono leFs
        replace hr8 := hr8.mono leFs
        replace ha1 := ha1.mono leFs
        replace hr9 := Rd.monoA hr9 leFs
        refine XG.op (XOp.loadN [x5, x6, x7, x8, .bool ((reachL ar rs b n).2)] Try.isAgg85 Try.sizeOf85 rfl rfl (Rd.ownN [] rfl rfl) ?_)
        exact ⟨rfl, rfl⟩
       refine stepsG.cons (fun vals Fs R leFs hpZ => ?_) ?_
       ·refine XG.op (XOp.move (.int .i64 (badG (fun y => !decide (y = (((terms (reachL ar rs a n).1).getD k [])))) (terms (reachL ar rs b n).1))) rfl ?_)
        exact ⟨rfl, rfl⟩
       exact stepsG.nil
      ·intro vals F5 le5 hphi
       have e0 : vals 0 = (.agg #[x1, x2, x3, x4, .bool ((reachL ar rs a n).2)] : Value) := hphi 0 (by decide)
       have e1 : vals 1 = (.int .i64 (((k : Nat) : Int)) : Value) := hphi 1 (by decide)
       obtain ⟨e2, f2_2hr1, f2_2hr2⟩ := hphi 2 (by decide)
       have e3 : vals 3 = (.agg #[x5, x6, x7, x8, .bool ((reachL ar rs b n).2)] : Value) := hphi 3 (by decide)
       have e4 : vals 4 = (.int .i64 (badG (fun y => !decide (y = (((terms (reachL ar rs a n).1).getD k [])))) (terms (reachL ar rs b n).1)) : Value) := hphi 4 (by decide)
       generalize hu1 : ((aggAt (vals 2) 0)) = u1 at e0 e1 e2 f2_2hr1 f2_2hr2 e3 e4
       generalize hu2 : ((aggAt (vals 2) 1)) = u2 at e0 e1 e2 f2_2hr1 f2_2hr2 e3 e4
       rw [(envs_of_sat (l := [(0, (.agg #[x1, x2, x3, x4, .bool ((reachL ar rs a n).2)] : Value)), (1, (.int .i64 (((k : Nat) : Int)) : Value)), (2, (.agg #[u1, u2] : Value)), (3, (.agg #[x5, x6, x7, x8, .bool ((reachL ar rs b n).2)] : Value)), (4, (.int .i64 (badG (fun y => !decide (y = (((terms (reachL ar rs a n).1).getD k [])))) (terms (reachL ar rs b n).1)) : Value))]) ⟨e0, e1, (e2).symm, e3, e4, trivial⟩).symm]
       replace har := har.mono le5
       replace hrs := hrs.mono le5
       replace ha := ha.mono le5
       replace hb := hb.mono le5
       replace hr1 := hr1.mono le5
       replace hr2 := hr2.mono le5
       replace hr3 := hr3.mono le5
       replace hr4 := hr4.mono le5
       replace hr5 := hr5.mono le5
       replace hr6 := hr6.mono le5
       replace hr7 := hr7.mono le5
       replace hr8 := hr8.mono le5
       replace ha1 := ha1.mono le5
       replace hr9 := Rd.monoA hr9 le5
       show XL _ _ _ _ _ _ _ (cellsH b5 [x5, x6, x7, x8, .bool ((reachL ar rs b n).2)] 85 :: cellsH b4 [x1, x2, x3, x4, .bool ((reachL ar rs a n).2)] 85 :: cellsH b3 [(.slice none 0 0), (.slice none 0 0)] 41 :: cellsH b2 [(.slice none 0 0), (.slice none 0 0)] 41 :: cellsH b1 [arv, rsv] 33 :: L)
       refine XL.cons (XOp.call (args := [.agg #[x5, x6, x7, x8, .bool ((reachL ar rs b n).2)], .int .i64 (((badG (fun y => !decide (y = (((terms (reachL ar rs a n).1).getD k [])))) (terms (reachL ar rs b n).1)).toNat : Nat) : Int)]) Try.call69 (by rw [show (((badG (fun y => !decide (y = (((terms (reachL ar rs a n).1).getD k [])))) (terms (reachL ar rs b n).1)).toNat : Nat) : Int) = badG (fun y => !decide (y = (((terms (reachL ar rs a n).1).getD k [])))) (terms (reachL ar rs b n).1) from by omega]; rfl) (l9Walk_spec (k := (badG (fun y => !decide (y = (((terms (reachL ar rs a n).1).getD k [])))) (terms (reachL ar rs b n).1)).toNat) hr5 hr6 hr7 hr8 (hk := (by rw [hfi]; exact hfl (by omega))) (hll := (hrlb)) (hlk := (hgdb.1)) (hbd := (hrdb))) ?_)
       rintro _ F6 _ le6 ⟨x13, x14, rfl, hr16, hr17, hr18, rfl⟩
       replace har := har.mono le6
       replace hrs := hrs.mono le6
       replace ha := ha.mono le6
       replace hb := hb.mono le6
       replace hr1 := hr1.mono le6
       replace hr2 := hr2.mono le6
       replace hr3 := hr3.mono le6
       replace hr4 := hr4.mono le6
       replace hr5 := hr5.mono le6
       replace hr6 := hr6.mono le6
       replace hr7 := hr7.mono le6
       replace hr8 := hr8.mono le6
       replace ha1 := ha1.mono le6
       replace f2_2hr1 := f2_2hr1.mono le6
       replace f2_2hr2 := f2_2hr2.mono le6
       replace hr9 := Rd.monoA hr9 le6
       refine XL.cons (XOp.storeN (vs := [u1, u2]) [_, _, _] _ [u1, u2] Try.sizeOf41 rfl rfl rfl (ones_cons (one_sl (IntsF.isSl f2_2hr1)) (ones_cons (one_sl (StepsF.isSl f2_2hr2)) ones_nil)) rfl rfl rfl ?_)
       refine XL.cons (XOp.storeN (vs := [x13, x14]) [_, _] _ [x13, x14] Try.sizeOf41 rfl rfl rfl (ones_cons (one_sl (IntsF.isSl hr16)) (ones_cons (one_sl (StepsF.isSl hr17)) ones_nil)) rfl rfl rfl ?_)
       refine XL.cons (XOp.assign (.bool (true)) rfl ?_)
       refine XL.nil ?_
       refine X.ret (blockQ_ret (thenQ_ret (thenQ_ret (blockQ_ret (thenQ_ret (retEnd (L' := L) [.agg #[u1, u2], .agg #[x13, x14], .bool (true)] (.tuple #[.agg #[u1, u2], .agg #[x13, x14], .bool (true)]) (.cell rfl (loadNV [u1, u2] Try.isAgg41 Try.sizeOf41 rfl (Rd.ownN [_, _, _] rfl rfl)) (.cell rfl (loadNV [x13, x14] Try.isAgg41 Try.sizeOf41 rfl (Rd.ownN [_, _] rfl rfl)) (.tmp rfl .nil))) rfl (FLe.trans (FLe.trans (FLe.trans le1 le2) le5) le6) (FLe.refl _) (Sub.drop (Sub.drop (Sub.drop (Sub.drop (Sub.drop (Sub.refl _)))))) ?_))))))
       have e : joinF ar rs a b n = ((EL (reachL ar rs a n).1 0).1, walkL (reachL ar rs a n).1 k, (EL (reachL ar rs b n).1 0).1, walkL (reachL ar rs b n).1 (badG (fun y => !decide (y = ((terms (reachL ar rs a n).1).getD k []))) (terms (reachL ar rs b n).1)).toNat, true) := by rw [joinF_yes hro, join0_at (k := k) (by omega) (by omega) hno, hgda.2.2.2, hgdb.2.2.2, hfi]
       exact ⟨_, _, _, _, by rw [e], by rw [e]; exact f2_2hr1, by rw [e]; exact f2_2hr2, by rw [e]; exact hr16, by rw [e]; exact hr17, rfl⟩
     ·refine X.skip ?_
      refine X.region ?_
      refine XL.cons (XOp.move (.int .i64 (((k : Nat) : Int))) rfl ?_)
      refine XL.cons (XOp.addR (a := ((k : Nat) : Int)) (b := 1) (((k + 1 : Nat) : Int)) rfl rfl (by omega) (by omega) ?_)
      refine XL.cons (XOp.assign (.int .i64 (((k + 1 : Nat) : Int))) rfl ?_)
      refine XL.nil ?_
      exact ⟨k + 1, _, FLe.refl _, (FLe.refl _), ⟨rfl, rfl, rfl, rfl, rfl, trivial⟩, (Sub.cons (Sub.cons (Sub.cons (Sub.cons (Sub.cons (Sub.refl _)))))), ⟨rfl, (by (try dsimp only) <;> omega), (fun i hi => (Nat.lt_or_ge i k).elim (fun h => hno i h) (fun h => by obtain rfl : i = k := (by omega); omega))⟩, (by omega)⟩
   ·refine X.exit (thenQ_exit (thenQ_exit (blockQ_exit ?_)))
    refine X.seq ?_
    refine X.region ?_
    refine XL.cons (XOp.build [(.slice none 0 0), (.slice none 0 0)] [(.slice none 0 0), (.slice none 0 0)] [(0, 1), (1, 1)] [] Try.runUnderlying41 Try.zeroValue41 rfl (.cons rfl Try.sizeOf22 (.cons rfl Try.sizeOf39 PlacesAre.nil)) rfl CellsAre.nil ?_)
    refine XL.cons (XOp.build [(.slice none 0 0), (.slice none 0 0)] [(.slice none 0 0), (.slice none 0 0)] [(0, 1), (1, 1)] [] Try.runUnderlying41 Try.zeroValue41 rfl (.cons rfl Try.sizeOf22 (.cons rfl Try.sizeOf39 PlacesAre.nil)) rfl CellsAre.nil ?_)
    refine XL.cons (XOp.storeN (vs := [(.slice none 0 0), (.slice none 0 0)]) [_, _, _] _ [(.slice none 0 0), (.slice none 0 0)] Try.sizeOf41 rfl rfl rfl (ones_cons rfl (ones_cons rfl ones_nil)) rfl rfl rfl ?_)
    refine XL.cons (XOp.storeN (vs := [(.slice none 0 0), (.slice none 0 0)]) [_, _] _ [(.slice none 0 0), (.slice none 0 0)] Try.sizeOf41 rfl rfl rfl (ones_cons rfl (ones_cons rfl ones_nil)) rfl rfl rfl ?_)
    refine XL.cons (XOp.assign (.bool (false)) rfl ?_)
    refine XL.nil ?_
    refine X.ret (retEnd (L' := L) [.agg #[(.slice none 0 0), (.slice none 0 0)], .agg #[(.slice none 0 0), (.slice none 0 0)], .bool (false)] (.tuple #[.agg #[(.slice none 0 0), (.slice none 0 0)], .agg #[(.slice none 0 0), (.slice none 0 0)], .bool (false)]) (.cell rfl (loadNV [(.slice none 0 0), (.slice none 0 0)] Try.isAgg41 Try.sizeOf41 rfl (Rd.ownN [_, _, _] rfl rfl)) (.cell rfl (loadNV [(.slice none 0 0), (.slice none 0 0)] Try.isAgg41 Try.sizeOf41 rfl (Rd.ownN [_, _] rfl rfl)) (.tmp rfl .nil))) rfl (FLe.trans le1 le2) (FLe.refl _) (Sub.drop (Sub.drop (Sub.drop (Sub.drop (Sub.drop (Sub.refl _)))))) ?_)
    have e : joinF ar rs a b n = ([], [], [], [], false) := (joinF_yes hro).trans (join0_none (fun i hi => hno i (by omega)))
    exact ⟨_, _, _, _, by rw [e], by rw [e]; exact IntsF.nilV, by rw [e]; exact SlOf.nilV, by rw [e]; exact IntsF.nilV, by rw [e]; exact SlOf.nilV, rfl⟩

/- laws.FnExactJoinOf -/
set_option maxRecDepth 20000 in
theorem FnExactJoinOf_does {F : FH} {L : List HP} {arv : Value} {ar : List Int} (har : IntsF F arv ar) {rsv : Value} {rs : List (List Int × List Int)} (hrs : PairsF F rsv rs) {av : Value} {a : List Int} (ha : IntsF F av a) {bv : Value} {b : List Int} (hb : IntsF F bv b) {n : Int} (hlar : ar.length ≤ 9223372036854775807) (hlrs : rs.length ≤ 9223372036854775807) (hbrs : ∀ i, i < rs.length → (rs.getD i ([], [])).1.length ≤ 9223372036854775807 ∧ (rs.getD i ([], [])).2.length ≤ 9223372036854775807) (hla : a.length ≤ 9223372036854775807) (hlb : b.length ≤ 9223372036854775807) :
    Does Try.prog 8 [.agg #[arv, rsv], av, bv, .int .i64 (n)] F (L) (fun v F' L' => (.bool (true) : Value) = v ∧ F = F' ∧ L = L') := by
 refine Does.of_X Try.func8 rfl rfl rfl ?_
 have hnb := joinF_bound (ar := ar) (rs := rs) (a := a) (b := b) (n := n)
 have hnb1 : WalkB (joinF ar rs a b n).1 (joinF ar rs a b n).2.1 := hnb.1
 have hnc1 := hnb1.1
 have hnd1 := hnb1.2.1
 have hne1 := hnb1.2.2.1
 have hnf1 := hnb1.2.2.2
 have hnb2 : WalkB (joinF ar rs a b n).2.2.1 (joinF ar rs a b n).2.2.2.1 := hnb.2
 have hnc2 := hnb2.1
 have hnd2 := hnb2.2.1
 have hne2 := hnb2.2.2.1
 have hnf2 := hnb2.2.2.2
 refine X.seq ?_
 refine X.region ?_
 refine XL.cons (XOp.box [arv, rsv] rfl rfl ?_)
 intro b1
 refine XL.cons (XOp.assign (.bool (false)) rfl ?_)
 refine XL.nil ?_
 refine X.seq ?_
 refine X.seq ?_
 refine X.region ?_
 refine XL.cons (XOp.move (av) rfl ?_)
 refine XL.cons (XOp.lenS (v := av) (n := (a).length) Try.runUnderlying22 rfl ha.slv ?_)
 refine XL.cons (XOp.gtr (a := (((a).length : Nat) : Int)) (b := 1048576) rfl rfl ?_)
 refine XL.nil ?_
 refine X.condD (p := ((((a).length : Nat) : Int) : Int) > 1048576) rfl (fun h1 => ?_) (fun h1 => ?_)
 ·refine X.seq ?_
  refine X.region ?_
  refine XL.cons (XOp.assign (.bool (true)) rfl ?_)
  refine XL.nil ?_
  refine X.ret (thenQ_ret (retEnd (L' := L) [.bool (true)] (.bool (true)) (.tmp rfl .nil) rfl (FLe.refl _) (FLe.refl _) (Sub.drop (Sub.refl _)) ?_))
  exact ⟨rfl, rfl, rfl⟩
 ·refine X.skip ?_
  refine X.seq ?_
  refine X.seq ?_
  refine X.region ?_
  refine XL.cons (XOp.move (bv) rfl ?_)
  refine XL.cons (XOp.lenS (v := bv) (n := (b).length) Try.runUnderlying22 rfl hb.slv ?_)
  refine XL.cons (XOp.gtr (a := (((b).length : Nat) : Int)) (b := 1048576) rfl rfl ?_)
  refine XL.nil ?_
  refine X.condD (p := ((((b).length : Nat) : Int) : Int) > 1048576) rfl (fun h2 => ?_) (fun h2 => ?_)
  ·refine X.seq ?_
   refine X.region ?_
   refine XL.cons (XOp.assign (.bool (true)) rfl ?_)
   refine XL.nil ?_
   refine X.ret (thenQ_ret (retEnd (L' := L) [.bool (true)] (.bool (true)) (.tmp rfl .nil) rfl (FLe.refl _) (FLe.refl _) (Sub.drop (Sub.refl _)) ?_))
   exact ⟨rfl, rfl, rfl⟩
  ·refine X.skip ?_
   refine X.seq ?_
   refine X.region ?_
   refine XL.cons (XOp.assign (.int .i64 (1048576)) rfl ?_)
   refine XL.nil ?_
   refine X.seq ?_
   refine X.region ?_
   refine XL.cons (XOp.loadN [arv, rsv] Try.isAgg27 Try.sizeOf27 rfl rfl (Rd.ownN [] rfl rfl) ?_)
   refine XL.cons (XOp.move (.int .i64 (1048576)) rfl ?_)
   refine XL.cons (XOp.call (args := [.agg #[arv, rsv], .int .i64 (1048576)]) Try.call10 rfl (szSystem_spec (z := 1048576) har hrs (hz := (by first | assumption | rfl | omega | (left; simp; done) | (right; simp; done))) (hal := (by first | assumption | rfl | omega | (left; simp; done) | (right; simp; done))) (hrl := (by first | assumption | rfl | omega | (left; simp; done) | (right; simp; done))) (hrb := (by first | assumption | rfl | omega | (left; simp; done) | (right; simp; done)))) ?_)
   rintro _ _ _ _ ⟨rfl, rfl, rfl⟩
   refine XL.cons (XOp.assign (.int .i64 (dec 1048576 (ar.length + szR rs))) rfl ?_)
   refine XL.nil ?_
   refine X.seq ?_
   refine X.seq ?_
   refine X.region ?_
   refine XL.cons (XOp.move (.int .i64 (dec 1048576 (ar.length + szR rs))) rfl ?_)
   refine XL.cons (XOp.lss (a := dec 1048576 (ar.length + szR rs)) (b := 0) rfl rfl ?_)
   refine XL.nil ?_
   refine X.condD (p := (dec 1048576 (ar.length + szR rs) : Int) < 0) rfl (fun h3 => ?_) (fun h3 => ?_)
   ·refine X.seq ?_
    refine X.region ?_
    refine XL.cons (XOp.assign (.bool (true)) rfl ?_)
    refine XL.nil ?_
    refine X.ret (thenQ_ret (retEnd (L' := L) [.bool (true)] (.bool (true)) (.tmp rfl .nil) rfl (FLe.refl _) (FLe.refl _) (Sub.drop (Sub.refl _)) ?_))
    exact ⟨rfl, rfl, rfl⟩
   ·have hd1 := dec_le2 h3 (by omega)
    have hzrs := szR_le (rs := rs)
    have hirs := hzrs.2
    have hcrs : ∀ i, i < rs.length → (rs.getD i ([], [])).1.length ≤ 4000000 ∧ (rs.getD i ([], [])).2.length ≤ 4000000 := fun i hi => by have := hirs i hi; omega
    have hfrs := flatPair_len rs
    refine X.skip ?_
    refine X.seq ?_
    refine X.region ?_
    refine XL.cons (XOp.loadN [arv, rsv] Try.isAgg27 Try.sizeOf27 rfl rfl (Rd.ownN [] rfl rfl) ?_)
    refine XL.cons (XOp.thawL ?_)
    refine id (XOp.call (args := [.agg #[arv, rsv]]) Try.call12 rfl (toSystem_spec har hrs (hla := (by first | assumption | rfl | omega | (left; simp; done) | (right; simp; done))) (hrl := (by first | assumption | rfl | omega | (left; simp; done) | (right; simp; done))) (hrb := (by first | assumption | rfl | omega | (left; simp; done) | (right; simp; done)))) ?_)
    rintro _ F1 _ le1 ⟨x1, x2, rfl, hr1, hr2, hr3, rfl⟩
    refine ⟨[intsH 2 x1 ar, pairsD 2 105 x2 rs], hr3, ?_⟩
    show XL _ _ _ _ _ _ _ (intsH 2 x1 ar :: pairsD 2 105 x2 rs :: cellsH b1 [arv, rsv] 27 :: L)
    refine XL.cons (XOp.move (av) rfl ?_)
    refine XL.cons (XOp.call (args := [av]) Try.call13 rfl (toInt64S_spec ha (hlx := (by first | assumption | rfl | omega | (left; simp; done) | (right; simp; done)))) ?_)
    rintro v1 _ _ _ ⟨rfl, hs1, rfl⟩
    refine XL.cons (XOp.move (bv) rfl ?_)
    refine XL.cons (XOp.call (args := [bv]) Try.call13 rfl (toInt64S_spec hb (hlx := (by first | assumption | rfl | omega | (left; simp; done) | (right; simp; done)))) ?_)
    rintro v2 _ _ _ ⟨rfl, hs2, rfl⟩
    refine XL.cons (XOp.move (.int .i64 (n)) rfl ?_)
    refine XL.freezeF [_, _] _ _ rfl (fun F2 le2 hz1 => ?_)
    replace har := har.mono le2
    replace hrs := hrs.mono le2
    replace ha := ha.mono le2
    replace hb := hb.mono le2
    have hf1 : IntsF F2 x1 ar := intsH.fz (xs := ar) hz1.fz
    refine XL.freezeF [_, _] _ _ rfl (fun F3 le3 hz2 => ?_)
    replace har := har.mono le3
    replace hrs := hrs.mono le3
    replace ha := ha.mono le3
    replace hb := hb.mono le3
    replace hf1 := hf1.mono le3
    have hf2 : PairsF F3 x2 rs := pairsD.fz hz2.fz
    refine XL.freezeF [_] _ _ rfl (fun F4 le4 hz3 => ?_)
    replace har := har.mono le4
    replace hrs := hrs.mono le4
    replace ha := ha.mono le4
    replace hb := hb.mono le4
    replace hf1 := hf1.mono le4
    replace hf2 := hf2.mono le4
    have hf3 : IntsF F4 v1 ((a)) := intsH.fz (xs := (a)) hz3.fz
    refine XL.freezeF [] _ _ rfl (fun F5 le5 hz4 => ?_)
    replace har := har.mono le5
    replace hrs := hrs.mono le5
    replace ha := ha.mono le5
    replace hb := hb.mono le5
    replace hf1 := hf1.mono le5
    replace hf2 := hf2.mono le5
    replace hf3 := hf3.mono le5
    have hf4 : IntsF F5 v2 ((b)) := intsH.fz (xs := (b)) hz4.fz
    refine XL.cons (XOp.call (args := [.agg #[x1, x2], v1, v2, .int .i64 (n)]) Try.call33 rfl (sJoinOf_spec (n := n) hf1 hf2 hf3 hf4 (hla := (by first | assumption | rfl | omega | (left; simp; done) | (right; simp; done))) (hlr := (by first | assumption | rfl | omega | (left; simp; done) | (right; simp; done))) (hrb := (by first | assumption | rfl | omega | (left; simp; done) | (right; simp; done))) (hla9 := (by first | assumption | rfl | omega | (left; simp; done) | (right; simp; done))) (hlb9 := (by first | assumption | rfl | omega | (left; simp; done) | (right; simp; done)))) ?_)
    rintro _ F6 _ le6 ⟨x3, x4, x5, x6, rfl, hr4, hr5, hr6, hr7, rfl⟩
    replace har := har.mono le6
    replace hrs := hrs.mono le6
    replace ha := ha.mono le6
    replace hb := hb.mono le6
    replace hf1 := hf1.mono le6
    replace hf2 := hf2.mono le6
    replace hf3 := hf3.mono le6
    replace hf4 := hf4.mono le6
    refine XL.cons (XOp.move (.tuple #[.agg #[x3, x4], .agg #[x5, x6], .bool ((joinF ar rs ((a)) ((b)) n).2.2.2.2)]) rfl ?_)
    refine XL.cons (XOp.extract (.agg #[x3, x4]) rfl rfl ?_)
    refine XL.cons (XOp.extract (.agg #[x5, x6]) rfl rfl ?_)
    refine XL.cons (XOp.extract (.bool ((joinF ar rs ((a)) ((b)) n).2.2.2.2)) rfl rfl ?_)
    refine XL.cons (XOp.alloc [(.slice none 0 0), (.slice none 0 0)] Try.zeroValue41 rfl ?_)
    intro b2
    refine XL.cons (XOp.alloc [(.slice none 0 0), (.slice none 0 0)] Try.zeroValue41 rfl ?_)
    intro b3
    refine XL.cons (XOp.storeN (vs := [x3, x4]) [_] _ [x3, x4] Try.sizeOf41 rfl rfl rfl (ones_cons (one_sl (IntsF.isSl hr4)) (ones_cons (one_sl (StepsF.isSl hr5)) ones_nil)) rfl rfl rfl ?_)
    refine XL.cons (XOp.storeN (vs := [x5, x6]) [] _ [x5, x6] Try.sizeOf41 rfl rfl rfl (ones_cons (one_sl (IntsF.isSl hr6)) (ones_cons (one_sl (StepsF.isSl hr7)) ones_nil)) rfl rfl rfl ?_)
    refine XL.cons (XOp.assign (.bool ((joinF ar rs ((a)) ((b)) n).2.2.2.2)) rfl ?_)
    refine XL.nil ?_
    refine X.seq ?_
    refine X.region ?_
    refine XL.cons (XOp.loadN [arv, rsv] Try.isAgg27 Try.sizeOf27 rfl rfl (Rd.ownN [_, _] rfl rfl) ?_)
    refine XL.cons (XOp.thawL ?_)
    refine id (XOp.call (args := [.agg #[arv, rsv]]) Try.call12 rfl (toSystem_spec har hrs (hla := (by first | assumption | rfl | omega | (left; simp; done) | (right; simp; done))) (hrl := (by first | assumption | rfl | omega | (left; simp; done) | (right; simp; done))) (hrb := (by first | assumption | rfl | omega | (left; simp; done) | (right; simp; done)))) ?_)
    rintro _ F7 _ le7 ⟨x7, x8, rfl, hr8, hr9, hr10, rfl⟩
    refine ⟨[intsH 2 x7 ar, pairsD 2 105 x8 rs], hr10, ?_⟩
    show XL _ _ _ _ _ _ _ (intsH 2 x7 ar :: pairsD 2 105 x8 rs :: cellsH b3 [x5, x6] 41 :: cellsH b2 [x3, x4] 41 :: cellsH b1 [arv, rsv] 27 :: L)
    refine XL.cons (XOp.alloc [(.slice none 0 0), (.slice none 0 0)] Try.zeroValue33 rfl ?_)
    intro b4
    refine XL.cons (XOp.storeN (vs := [x7, x8]) [] _ [x7, x8] Try.sizeOf33 rfl rfl rfl (ones_cons (one_sl (IntsF.isSl hr8)) (ones_cons (one_sl (PairsF.isSl hr9)) ones_nil)) rfl rfl rfl ?_)
    refine XL.nil ?_
    refine X.seq ?_
    refine X.region ?_
    refine XL.cons (XOp.move (av) rfl ?_)
    refine XL.cons (XOp.call (args := [av]) Try.call13 rfl (toInt64S_spec ha (hlx := (by first | assumption | rfl | omega | (left; simp; done) | (right; simp; done)))) ?_)
    rintro v3 _ _ _ ⟨rfl, hs3, rfl⟩
    refine XL.cons (XOp.assign (v3) rfl ?_)
    refine XL.nil ?_
    refine X.seq ?_
    refine X.region ?_
    refine XL.cons (XOp.move (bv) rfl ?_)
    refine XL.cons (XOp.call (args := [bv]) Try.call13 rfl (toInt64S_spec hb (hlx := (by first | assumption | rfl | omega | (left; simp; done) | (right; simp; done)))) ?_)
    rintro v4 _ _ _ ⟨rfl, hs4, rfl⟩
    refine XL.cons (XOp.assign (v4) rfl ?_)
    refine XL.nil ?_
    refine X.seq ?_
    refine X.region ?_
    refine XL.cons (XOp.loadN [x7, x8] Try.isAgg33 Try.sizeOf33 rfl rfl (Rd.ownN [_, _] rfl rfl) ?_)
    refine XL.cons (XOp.move (v3) rfl ?_)
    refine XL.cons (XOp.move (v4) rfl ?_)
    refine XL.cons (XOp.move (.int .i64 (n)) rfl ?_)
    refine XL.cons (XOp.lend [_, _, _] _ _ rfl (fun F8 le8 hz5 => ?_))
    refine id (XOp.lend [_, _, _] _ _ rfl (fun F9 le9 hz6 => ?_))
    refine id (XOp.lend [_] _ _ rfl (fun F10 le10 hz7 => ?_))
    refine id (XOp.lend [] _ _ rfl (fun F11 le11 hz8 => ?_))
    have hf5 : IntsF _ x7 ar := (intsH.fz (xs := ar) hz5).mono (FLe.trans (FLe.trans le9 le10) le11)
    have hf6 : PairsF _ x8 rs := (pairsD.fz hz6).mono (FLe.trans le10 le11)
    have hf7 : IntsF _ v3 ((a)) := (intsH.fz (xs := (a)) hz7).mono le11
    have hf8 : IntsF _ v4 ((b)) := intsH.fz (xs := (b)) hz8
    refine id (XOp.thawL ?_)
    refine id (XOp.call (args := [.agg #[x7, x8], v3, v4, .int .i64 (n)]) Try.call34 rfl (JoinOf_spec (n := n) hf5 hf6 hf7 hf8 (hla9 := (by first | assumption | rfl | omega | (left; simp; done) | (right; simp; done))) (hlb9 := (by first | assumption | rfl | omega | (left; simp; done) | (right; simp; done)))) ?_)
    rintro _ F12 _ le12 ⟨x9, x10, x11, x12, rfl, hr11, hr12, hr13, hr14, hr15, rfl⟩
    refine ⟨[intsH 2 x9 ((joinF ar rs ((a)) ((b)) n).1), stepsD 2 77 x10 ((joinF ar rs ((a)) ((b)) n).2.1), intsH 2 x11 ((joinF ar rs ((a)) ((b)) n).2.2.1), stepsD 2 77 x12 ((joinF ar rs ((a)) ((b)) n).2.2.2.1)], hr15, ?_⟩
    show XL _ _ _ _ _ _ _ (intsH 2 x7 ar :: pairsD 2 105 x8 rs :: intsH 2 v3 ((a)) :: intsH 2 v4 ((b)) :: intsH 2 x9 ((joinF ar rs ((a)) ((b)) n).1) :: stepsD 2 77 x10 ((joinF ar rs ((a)) ((b)) n).2.1) :: intsH 2 x11 ((joinF ar rs ((a)) ((b)) n).2.2.1) :: stepsD 2 77 x12 ((joinF ar rs ((a)) ((b)) n).2.2.2.1) :: cellsH b4 [x7, x8] 33 :: cellsH b3 [x5, x6] 41 :: cellsH b2 [x3, x4] 41 :: cellsH b1 [arv, rsv] 27 :: L)
    refine XL.cons (XOp.move (.tuple #[.agg #[x9, x10], .agg #[x11, x12], .bool ((joinF ar rs ((a)) ((b)) n).2.2.2.2)]) rfl ?_)
    refine XL.cons (XOp.extract (.agg #[x9, x10]) rfl rfl ?_)
    refine XL.cons (XOp.extract (.agg #[x11, x12]) rfl rfl ?_)
    refine XL.cons (XOp.extract (.bool ((joinF ar rs ((a)) ((b)) n).2.2.2.2)) rfl rfl ?_)
    refine XL.cons (XOp.alloc [(.slice none 0 0), (.slice none 0 0)] Try.zeroValue41 rfl ?_)
    intro b5
    refine XL.cons (XOp.alloc [(.slice none 0 0), (.slice none 0 0)] Try.zeroValue41 rfl ?_)
    intro b6
    refine XL.cons (XOp.storeN (vs := [x9, x10]) [_] _ [x9, x10] Try.sizeOf41 rfl rfl rfl (ones_cons (one_sl (IntsF.isSl hr11)) (ones_cons (one_sl (StepsF.isSl hr12)) ones_nil)) rfl rfl rfl ?_)
    refine XL.cons (XOp.storeN (vs := [x11, x12]) [] _ [x11, x12] Try.sizeOf41 rfl rfl rfl (ones_cons (one_sl (IntsF.isSl hr13)) (ones_cons (one_sl (StepsF.isSl hr14)) ones_nil)) rfl rfl rfl ?_)
    refine XL.cons (XOp.assign (.bool ((joinF ar rs ((a)) ((b)) n).2.2.2.2)) rfl ?_)
    refine XL.nil ?_
    refine X.seq ?_
    refine X.seq ?_
    refine X.region ?_
    refine XL.cons (XOp.loadN [x9, x10] Try.isAgg41 Try.sizeOf41 rfl rfl (Rd.ownN [_] rfl rfl) ?_)
    refine XL.cons (XOp.loadN [x3, x4] Try.isAgg41 Try.sizeOf41 rfl rfl (Rd.ownN [_, _, _, _, _, _, _, _, _, _, _, _] rfl rfl) ?_)
    refine XL.cons (XOp.lend [_, _, _, _, _, _] _ _ rfl (fun F13 le13 hz9 => ?_))
    refine id (XOp.lend [_, _, _, _, _, _] _ _ rfl (fun F14 le14 hz10 => ?_))
    have hf9 : IntsF _ x9 ((joinF ar rs ((a)) ((b)) n).1) := (intsH.fz (xs := (joinF ar rs ((a)) ((b)) n).1) hz9).mono le14
    have hf10 : StepsF _ x10 ((joinF ar rs ((a)) ((b)) n).2.1) := stepsD.fz hz10
    refine id (XOp.call (args := [.agg #[x9, x10], .agg #[x3, x4]]) Try.call21 rfl (eqWalk_spec hf9 hf10 ((hr4.mono (FLe.trans le13 le14))) ((hr5.mono (FLe.trans le13 le14))) (hfl := (by first | assumption | rfl | omega | (left; simp; done) | (right; simp; done))) (hal := (by first | assumption | rfl | omega | (left; simp; done) | (right; simp; done))) (hbd := (by first | assumption | exact fun i hi => by have := hne1 i hi; omega | exact fun i hi => by have := hne2 i hi; omega))) ?_)
    rintro _ _ _ _ ⟨rfl, rfl, rfl⟩
    show XL _ _ _ _ _ _ _ (intsH 2 x9 ((joinF ar rs ((a)) ((b)) n).1) :: stepsD 2 77 x10 ((joinF ar rs ((a)) ((b)) n).2.1) :: cellsH b6 [x11, x12] 41 :: cellsH b5 [x9, x10] 41 :: intsH 2 x7 ar :: pairsD 2 105 x8 rs :: intsH 2 v3 ((a)) :: intsH 2 v4 ((b)) :: intsH 2 x11 ((joinF ar rs ((a)) ((b)) n).2.2.1) :: stepsD 2 77 x12 ((joinF ar rs ((a)) ((b)) n).2.2.2.1) :: cellsH b4 [x7, x8] 33 :: cellsH b3 [x5, x6] 41 :: cellsH b2 [x3, x4] 41 :: cellsH b1 [arv, rsv] 27 :: L)
    refine XL.cons (XOp.notD (p := ((joinF ar rs ((a)) ((b)) n).1) = ((joinF ar rs ((a)) ((b)) n).1) ∧ ((joinF ar rs ((a)) ((b)) n).2.1) = ((joinF ar rs ((a)) ((b)) n).2.1)) rfl ?_)
    refine XL.cons (XOp.move (.bool (decide (¬(((joinF ar rs ((a)) ((b)) n).1) = ((joinF ar rs ((a)) ((b)) n).1) ∧ ((joinF ar rs ((a)) ((b)) n).2.1) = ((joinF ar rs ((a)) ((b)) n).2.1))))) rfl ?_)
    by_cases h4 : ¬(((joinF ar rs ((a)) ((b)) n).1) = ((joinF ar rs ((a)) ((b)) n).1) ∧ ((joinF ar rs ((a)) ((b)) n).2.1) = ((joinF ar rs ((a)) ((b)) n).2.1))
    ·exact absurd (by first | rfl | exact ⟨rfl, rfl⟩ | exact ⟨⟨rfl, rfl⟩, rfl, rfl⟩ | simp) h4
    ·refine XL.yes (t := 67) rfl (congrArg Value.bool (decide_eq_false h4)) (XOp.loadN [x11, x12] Try.isAgg41 Try.sizeOf41 rfl rfl (Rd.ownN [_, _] rfl rfl) ?_)
     refine XL.yes (t := 67) rfl (congrArg Value.bool (decide_eq_false h4)) (XOp.loadN [x5, x6] Try.isAgg41 Try.sizeOf41 rfl rfl (Rd.ownN [_, _, _, _, _, _, _, _, _, _, _] rfl rfl) ?_)
     refine XL.yes (t := 67) rfl (congrArg Value.bool (decide_eq_false h4)) (XOp.lend [_, _, _, _, _, _, _, _] _ _ rfl (fun F15 le15 hz11 => ?_))
     refine id (XOp.lend [_, _, _, _, _, _, _, _] _ _ rfl (fun F16 le16 hz12 => ?_))
     have hf11 : IntsF _ x11 ((joinF ar rs ((a)) ((b)) n).2.2.1) := (intsH.fz (xs := (joinF ar rs ((a)) ((b)) n).2.2.1) hz11).mono le16
     have hf12 : StepsF _ x12 ((joinF ar rs ((a)) ((b)) n).2.2.2.1) := stepsD.fz hz12
     refine id (XOp.call (args := [.agg #[x11, x12], .agg #[x5, x6]]) Try.call21 rfl (eqWalk_spec hf11 hf12 ((hr6.mono (FLe.trans le15 le16))) ((hr7.mono (FLe.trans le15 le16))) (hfl := (by first | assumption | rfl | omega | (left; simp; done) | (right; simp; done))) (hal := (by first | assumption | rfl | omega | (left; simp; done) | (right; simp; done))) (hbd := (by first | assumption | exact fun i hi => by have := hne1 i hi; omega | exact fun i hi => by have := hne2 i hi; omega))) ?_)
     rintro _ _ _ _ ⟨rfl, rfl, rfl⟩
     show XL _ _ _ _ _ _ _ (intsH 2 x11 ((joinF ar rs ((a)) ((b)) n).2.2.1) :: stepsD 2 77 x12 ((joinF ar rs ((a)) ((b)) n).2.2.2.1) :: intsH 2 x9 ((joinF ar rs ((a)) ((b)) n).1) :: stepsD 2 77 x10 ((joinF ar rs ((a)) ((b)) n).2.1) :: cellsH b6 [x11, x12] 41 :: cellsH b5 [x9, x10] 41 :: intsH 2 x7 ar :: pairsD 2 105 x8 rs :: intsH 2 v3 ((a)) :: intsH 2 v4 ((b)) :: cellsH b4 [x7, x8] 33 :: cellsH b3 [x5, x6] 41 :: cellsH b2 [x3, x4] 41 :: cellsH b1 [arv, rsv] 27 :: L)
     refine XL.yes (t := 67) rfl (congrArg Value.bool (decide_eq_false h4)) (XOp.notD (p := ((joinF ar rs ((a)) ((b)) n).2.2.1) = ((joinF ar rs ((a)) ((b)) n).2.2.1) ∧ ((joinF ar rs ((a)) ((b)) n).2.2.2.1) = ((joinF ar rs ((a)) ((b)) n).2.2.2.1)) rfl ?_)
     refine XL.cons (XOp.pickF (.bool (decide (¬(((joinF ar rs ((a)) ((b)) n).2.2.1) = ((joinF ar rs ((a)) ((b)) n).2.2.1) ∧ ((joinF ar rs ((a)) ((b)) n).2.2.2.1) = ((joinF ar rs ((a)) ((b)) n).2.2.2.1))))) (congrArg Value.bool (decide_eq_false h4)) rfl ?_)
     refine XL.cons (XOp.move (.bool (decide (¬(((joinF ar rs ((a)) ((b)) n).2.2.1) = ((joinF ar rs ((a)) ((b)) n).2.2.1) ∧ ((joinF ar rs ((a)) ((b)) n).2.2.2.1) = ((joinF ar rs ((a)) ((b)) n).2.2.2.1))))) rfl ?_)
     by_cases h5 : ¬(((joinF ar rs ((a)) ((b)) n).2.2.1) = ((joinF ar rs ((a)) ((b)) n).2.2.1) ∧ ((joinF ar rs ((a)) ((b)) n).2.2.2.1) = ((joinF ar rs ((a)) ((b)) n).2.2.2.1))
     ·exact absurd (by first | rfl | exact ⟨rfl, rfl⟩ | exact ⟨⟨rfl, rfl⟩, rfl, rfl⟩ | simp) h5
     ·refine XL.yes (t := 73) rfl (congrArg Value.bool (decide_eq_false h5)) (XOp.move (.bool ((joinF ar rs ((a)) ((b)) n).2.2.2.2)) rfl ?_)
      refine XL.yes (t := 73) rfl (congrArg Value.bool (decide_eq_false h5)) (XOp.move (.bool ((joinF ar rs ((a)) ((b)) n).2.2.2.2)) rfl ?_)
      refine XL.yes (t := 73) rfl (congrArg Value.bool (decide_eq_false h5)) (XOp.neB (a := (joinF ar rs ((a)) ((b)) n).2.2.2.2) (b := (joinF ar rs ((a)) ((b)) n).2.2.2.2) Try.runUnderlying4 rfl rfl ?_)
      refine XL.cons (XOp.pickF (.bool (decide (((joinF ar rs ((a)) ((b)) n).2.2.2.2) ≠ ((joinF ar rs ((a)) ((b)) n).2.2.2.2)))) (congrArg Value.bool (decide_eq_false h5)) rfl ?_)
      refine XL.nil ?_
      refine X.condD (p := ((joinF ar rs ((a)) ((b)) n).2.2.2.2) ≠ ((joinF ar rs ((a)) ((b)) n).2.2.2.2)) rfl (fun h6 => ?_) (fun h6 => ?_)
      ·exact absurd rfl h6
      ·refine X.skip ?_
       refine X.seq ?_
       refine X.seq ?_
       refine X.drawG [intsH 2 x11 ((joinF ar rs ((a)) ((b)) n).2.2.1), stepsD 2 77 x12 ((joinF ar rs ((a)) ((b)) n).2.2.2.1), intsH 2 x9 ((joinF ar rs ((a)) ((b)) n).1), stepsD 2 77 x10 ((joinF ar rs ((a)) ((b)) n).2.1), cellsH b6 [x11, x12] 41, cellsH b5 [x9, x10] 41, intsH 2 x7 ar, pairsD 2 105 x8 rs, intsH 2 v3 ((a)), intsH 2 v4 ((b)), cellsH b4 [x7, x8] 33, cellsH b3 [x5, x6] 41, cellsH b2 [x3, x4] 41, cellsH b1 [arv, rsv] 27] L 3 [[], [], []] [[], [], [1]] [[], [], []] (phiG [fun FF us v => v = (.agg #[x7, x8] : Value), fun FF us v => v = (.agg #[arv, rsv] : Value), fun FF us v => (.agg #[((aggAt v 0)), ((aggAt v 1))] : Value) = v ∧ (IntsF FF ((aggAt v 0)) ar) ∧ (PairsF FF ((aggAt v 1)) rs)]) (ownL [fun us v => [], fun us v => [], fun us v => []]) mixed rfl rfl (by kernel_rfl) (by kernel_rfl) (MonoG.get (MonoG.cons (fun le h => h) (MonoG.cons (fun le h => h) (MonoG.cons (fun le h => ⟨h.1, h.2.1.mono le, h.2.2.mono le⟩) MonoG.nil)))) ?_ ?_
       ·refine stepsG.cons (fun vals Fs R leFs hpZ => ?_) ?_
        ·replace har := har.mono leFs
         replace hrs := hrs.mono leFs
         replace ha := ha.mono leFs
         replace hb := hb.mono leFs
         replace hf1 := hf1.mono leFs
         replace hf2 := hf2.mono leFs
         replace hf3 := hf3.mono leFs
         replace hf4 := hf4.mono leFs
         replace hr4 := hr4.mono leFs
         replace hr5 := hr5.mono leFs
         replace hr6 := hr6.mono leFs
         replace hr7 := hr7.mono leFs
         refine XG.op (XOp.loadN [x7, x8] Try.isAgg33 Try.sizeOf33 rfl rfl (Rd.ownN [_, _, _, _, _, _, _, _, _, _] rfl rfl) ?_)
         exact ⟨rfl, rfl⟩
        refine stepsG.cons (fun vals Fs R leFs hpZ => ?_) ?_
        ·replace har := har.mono leFs
         replace hrs := hrs.mono leFs
         replace ha := ha.mono leFs
         replace hb := hb.mono leFs
         replace hf1 := hf1.mono leFs
         replace hf2 := hf2.mono leFs
         replace hf3 := hf3.mono leFs
         replace hf4 := hf4.mono leFs
         replace hr4 := hr4.mono leFs
         replace hr5 := hr5.mono leFs
         replace hr6 := hr6.mono leFs
         replace hr7 := hr7.mono leFs
         refine XG.op (XOp.loadN [arv, rsv] Try.isAgg27 Try.sizeOf27 rfl rfl (Rd.ownN [_, _, _, _, _, _, _, _, _, _, _, _, _] rfl rfl) ?_)
         exact ⟨rfl, rfl⟩
        refine stepsG.cons (fun vals Fs R leFs hpZ => ?_) ?_
        ·have e1 : vals 1 = (.agg #[arv, rsv] : Value) := hpZ 1 (by decide)
         replace har := har.mono leFs
         replace hrs := hrs.mono leFs
         replace ha := ha.mono leFs
         replace hb := hb.mono leFs
         replace hf1 := hf1.mono leFs
         replace hf2 := hf2.mono leFs
         replace hf3 := hf3.mono leFs
         replace hf4 := hf4.mono leFs
         replace hr4 := hr4.mono leFs
         replace hr5 := hr5.mono leFs
         replace hr6 := hr6.mono leFs
         replace hr7 := hr7.mono leFs
         rw [(envs_of_sat (l := [(1, (.agg #[arv, rsv] : Value))]) ⟨e1, trivial⟩).symm]
         refine XG.op (XOp.call (args := [.agg #[arv, rsv]]) Try.call12 rfl (toSystem_spec har hrs (hla := (by first | assumption | rfl | omega | (left; simp; done) | (right; simp; done))) (hrl := (by first | assumption | rfl | omega | (left; simp; done) | (right; simp; done))) (hrb := (by first | assumption | rfl | omega | (left; simp; done) | (right; simp; done)))) ?_)
         rintro _ F18 _ le18 ⟨x15, x16, rfl, hr19, hr20, hr21, rfl⟩
         replace har := har.mono le18
         replace hrs := hrs.mono le18
         replace ha := ha.mono le18
         replace hb := hb.mono le18
         replace hf1 := hf1.mono le18
         replace hf2 := hf2.mono le18
         replace hf3 := hf3.mono le18
         replace hf4 := hf4.mono le18
         replace hr4 := hr4.mono le18
         replace hr5 := hr5.mono le18
         replace hr6 := hr6.mono le18
         replace hr7 := hr7.mono le18
         exact ⟨⟨rfl, hr19, hr20⟩, rfl⟩
        exact stepsG.nil
       ·intro vals F19 le19 hphi
        have e0 : vals 0 = (.agg #[x7, x8] : Value) := hphi 0 (by decide)
        have e1 : vals 1 = (.agg #[arv, rsv] : Value) := hphi 1 (by decide)
        obtain ⟨e2, f2_1hr1, f2_1hr2⟩ := hphi 2 (by decide)
        generalize hu1 : ((aggAt (vals 2) 0)) = u1 at e0 e1 e2 f2_1hr1 f2_1hr2
        generalize hu2 : ((aggAt (vals 2) 1)) = u2 at e0 e1 e2 f2_1hr1 f2_1hr2
        rw [(envs_of_sat (l := [(0, (.agg #[x7, x8] : Value)), (1, (.agg #[arv, rsv] : Value)), (2, (.agg #[u1, u2] : Value))]) ⟨e0, e1, (e2).symm, trivial⟩).symm]
        replace har := har.mono le19
        replace hrs := hrs.mono le19
        replace ha := ha.mono le19
        replace hb := hb.mono le19
        replace hf1 := hf1.mono le19
        replace hf2 := hf2.mono le19
        replace hf3 := hf3.mono le19
        replace hf4 := hf4.mono le19
        replace hr4 := hr4.mono le19
        replace hr5 := hr5.mono le19
        replace hr6 := hr6.mono le19
        replace hr7 := hr7.mono le19
        show XL _ _ _ _ _ _ _ (intsH 2 x11 ((joinF ar rs ((a)) ((b)) n).2.2.1) :: stepsD 2 77 x12 ((joinF ar rs ((a)) ((b)) n).2.2.2.1) :: intsH 2 x9 ((joinF ar rs ((a)) ((b)) n).1) :: stepsD 2 77 x10 ((joinF ar rs ((a)) ((b)) n).2.1) :: cellsH b6 [x11, x12] 41 :: cellsH b5 [x9, x10] 41 :: intsH 2 x7 ar :: pairsD 2 105 x8 rs :: intsH 2 v3 ((a)) :: intsH 2 v4 ((b)) :: cellsH b4 [x7, x8] 33 :: cellsH b3 [x5, x6] 41 :: cellsH b2 [x3, x4] 41 :: cellsH b1 [arv, rsv] 27 :: L)
        refine XL.cons (XOp.lend [_, _, _, _, _, _] _ _ rfl (fun F20 le20 hz13 => ?_))
        refine id (XOp.lend [_, _, _, _, _, _] _ _ rfl (fun F21 le21 hz14 => ?_))
        have hf13 : IntsF _ x7 ar := (intsH.fz (xs := ar) hz13).mono le21
        have hf14 : PairsF _ x8 rs := pairsD.fz hz14
        refine id (XOp.call (args := [.agg #[x7, x8], .agg #[u1, u2]]) Try.call15 rfl (eqSystem_spec hf13 hf14 ((f2_1hr1.mono (FLe.trans le20 le21))) ((f2_1hr2.mono (FLe.trans le20 le21))) (hcl := (by first | assumption | rfl | omega | (left; simp; done) | (right; simp; done))) (hal := (by first | assumption | rfl | omega | (left; simp; done) | (right; simp; done))) (hbd := (by first | assumption | rfl | omega | (left; simp; done) | (right; simp; done)))) ?_)
        rintro _ _ _ _ ⟨rfl, rfl, rfl⟩
        show XL _ _ _ _ _ _ _ (intsH 2 x7 ar :: pairsD 2 105 x8 rs :: intsH 2 x11 ((joinF ar rs ((a)) ((b)) n).2.2.1) :: stepsD 2 77 x12 ((joinF ar rs ((a)) ((b)) n).2.2.2.1) :: intsH 2 x9 ((joinF ar rs ((a)) ((b)) n).1) :: stepsD 2 77 x10 ((joinF ar rs ((a)) ((b)) n).2.1) :: cellsH b6 [x11, x12] 41 :: cellsH b5 [x9, x10] 41 :: intsH 2 v3 ((a)) :: intsH 2 v4 ((b)) :: cellsH b4 [x7, x8] 33 :: cellsH b3 [x5, x6] 41 :: cellsH b2 [x3, x4] 41 :: cellsH b1 [arv, rsv] 27 :: L)
        refine XL.cons (XOp.notD (p := ar = ar ∧ rs = rs) rfl ?_)
        refine XL.nil ?_
        refine X.condD (p := ¬(ar = ar ∧ rs = rs)) rfl (fun h7 => ?_) (fun h7 => ?_)
        ·exact absurd (by first | rfl | exact ⟨rfl, rfl⟩ | exact ⟨⟨rfl, rfl⟩, rfl, rfl⟩ | simp) h7
        ·refine X.skip ?_
         refine X.seq ?_
         refine X.seq ?_
         refine X.region ?_
         refine XL.cons (XOp.move (v3) rfl ?_)
         refine XL.cons (XOp.move (av) rfl ?_)
         refine XL.cons (XOp.call (args := [av]) Try.call13 rfl (toInt64S_spec ha (hlx := (by first | assumption | rfl | omega | (left; simp; done) | (right; simp; done)))) ?_)
         rintro v5 _ _ _ ⟨rfl, hs5, rfl⟩
         refine XL.cons (XOp.lend [_, _, _, _, _, _, _, _, _] _ _ rfl (fun F22 le22 hz15 => ?_))
         refine id (XOp.lend [] _ _ rfl (fun F23 le23 hz16 => ?_))
         have hf15 : IntsF _ v3 ((a)) := (intsH.fz (xs := (a)) hz15).mono le23
         have hf16 : IntsF _ v5 ((a)) := intsH.fz (xs := (a)) hz16
         refine id (XOp.call (args := [v3, v5]) Try.call16 rfl (eqInt64S_spec hf15 hf16 (hbd := (by first | assumption | rfl | omega | (left; simp; done) | (right; simp; done)))) ?_)
         rintro _ _ _ _ ⟨rfl, rfl, rfl⟩
         show XL _ _ _ _ _ _ _ (intsH 2 v3 ((a)) :: intsH 2 v5 ((a)) :: intsH 2 x7 ar :: pairsD 2 105 x8 rs :: intsH 2 x11 ((joinF ar rs ((a)) ((b)) n).2.2.1) :: stepsD 2 77 x12 ((joinF ar rs ((a)) ((b)) n).2.2.2.1) :: intsH 2 x9 ((joinF ar rs ((a)) ((b)) n).1) :: stepsD 2 77 x10 ((joinF ar rs ((a)) ((b)) n).2.1) :: cellsH b6 [x11, x12] 41 :: cellsH b5 [x9, x10] 41 :: intsH 2 v4 ((b)) :: cellsH b4 [x7, x8] 33 :: cellsH b3 [x5, x6] 41 :: cellsH b2 [x3, x4] 41 :: cellsH b1 [arv, rsv] 27 :: L)
         refine XL.cons (XOp.notD (p := ((a)) = ((a))) rfl ?_)
         refine XL.nil ?_
         refine X.condD (p := ¬(((a)) = ((a)))) rfl (fun h8 => ?_) (fun h8 => ?_)
         ·exact absurd (by first | rfl | exact ⟨rfl, rfl⟩ | exact ⟨⟨rfl, rfl⟩, rfl, rfl⟩ | simp) h8
         ·refine X.skip ?_
          refine X.seq ?_
          refine X.seq ?_
          refine X.region ?_
          refine XL.cons (XOp.move (v4) rfl ?_)
          refine XL.cons (XOp.move (bv) rfl ?_)
          refine XL.cons (XOp.call (args := [bv]) Try.call13 rfl (toInt64S_spec hb (hlx := (by first | assumption | rfl | omega | (left; simp; done) | (right; simp; done)))) ?_)
          rintro v6 _ _ _ ⟨rfl, hs6, rfl⟩
          refine XL.cons (XOp.lend [_, _, _, _, _, _, _, _, _, _, _] _ _ rfl (fun F24 le24 hz17 => ?_))
          refine id (XOp.lend [] _ _ rfl (fun F25 le25 hz18 => ?_))
          have hf17 : IntsF _ v4 ((b)) := (intsH.fz (xs := (b)) hz17).mono le25
          have hf18 : IntsF _ v6 ((b)) := intsH.fz (xs := (b)) hz18
          refine id (XOp.call (args := [v4, v6]) Try.call16 rfl (eqInt64S_spec hf17 hf18 (hbd := (by first | assumption | rfl | omega | (left; simp; done) | (right; simp; done)))) ?_)
          rintro _ _ _ _ ⟨rfl, rfl, rfl⟩
          show XL _ _ _ _ _ _ _ (intsH 2 v4 ((b)) :: intsH 2 v6 ((b)) :: intsH 2 v3 ((a)) :: intsH 2 v5 ((a)) :: intsH 2 x7 ar :: pairsD 2 105 x8 rs :: intsH 2 x11 ((joinF ar rs ((a)) ((b)) n).2.2.1) :: stepsD 2 77 x12 ((joinF ar rs ((a)) ((b)) n).2.2.2.1) :: intsH 2 x9 ((joinF ar rs ((a)) ((b)) n).1) :: stepsD 2 77 x10 ((joinF ar rs ((a)) ((b)) n).2.1) :: cellsH b6 [x11, x12] 41 :: cellsH b5 [x9, x10] 41 :: cellsH b4 [x7, x8] 33 :: cellsH b3 [x5, x6] 41 :: cellsH b2 [x3, x4] 41 :: cellsH b1 [arv, rsv] 27 :: L)
          refine XL.cons (XOp.notD (p := ((b)) = ((b))) rfl ?_)
          refine XL.nil ?_
          refine X.condD (p := ¬(((b)) = ((b)))) rfl (fun h9 => ?_) (fun h9 => ?_)
          ·exact absurd (by first | rfl | exact ⟨rfl, rfl⟩ | exact ⟨⟨rfl, rfl⟩, rfl, rfl⟩ | simp) h9
          ·refine X.skip ?_
           refine X.seq ?_
           refine X.region ?_
           refine XL.cons (XOp.assign (.int .i64 (1)) rfl ?_)
           refine XL.nil ?_
           refine X.seq ?_
           refine X.region ?_
           refine XL.cons (XOp.loadN [x7, x8] Try.isAgg33 Try.sizeOf33 rfl rfl (Rd.ownN [_, _, _, _, _, _, _, _, _, _, _, _] rfl rfl) ?_)
           refine XL.cons (XOp.move (.int .i64 (1)) rfl ?_)
           refine XL.weaken (Sub.front (A := [_, _, _, _, _])) ?_
           show XL _ _ _ _ _ _ _ (pairsD 2 105 x8 rs :: intsH 2 v4 ((b)) :: intsH 2 v6 ((b)) :: intsH 2 v3 ((a)) :: intsH 2 v5 ((a)) :: intsH 2 x7 ar :: intsH 2 x11 ((joinF ar rs ((a)) ((b)) n).2.2.1) :: stepsD 2 77 x12 ((joinF ar rs ((a)) ((b)) n).2.2.2.1) :: intsH 2 x9 ((joinF ar rs ((a)) ((b)) n).1) :: stepsD 2 77 x10 ((joinF ar rs ((a)) ((b)) n).2.1) :: cellsH b6 [x11, x12] 41 :: cellsH b5 [x9, x10] 41 :: cellsH b4 [x7, x8] 33 :: cellsH b3 [x5, x6] 41 :: cellsH b2 [x3, x4] 41 :: cellsH b1 [arv, rsv] 27 :: L)
           refine XL.weaken (Sub.front (A := [_, _, _, _, _])) ?_
           show XL _ _ _ _ _ _ _ (intsH 2 x7 ar :: pairsD 2 105 x8 rs :: intsH 2 v4 ((b)) :: intsH 2 v6 ((b)) :: intsH 2 v3 ((a)) :: intsH 2 v5 ((a)) :: intsH 2 x11 ((joinF ar rs ((a)) ((b)) n).2.2.1) :: stepsD 2 77 x12 ((joinF ar rs ((a)) ((b)) n).2.2.2.1) :: intsH 2 x9 ((joinF ar rs ((a)) ((b)) n).1) :: stepsD 2 77 x10 ((joinF ar rs ((a)) ((b)) n).2.1) :: cellsH b6 [x11, x12] 41 :: cellsH b5 [x9, x10] 41 :: cellsH b4 [x7, x8] 33 :: cellsH b3 [x5, x6] 41 :: cellsH b2 [x3, x4] 41 :: cellsH b1 [arv, rsv] 27 :: L)
           refine XL.cons (XOp.call (args := [.agg #[x7, x8], .int .i64 (1)]) Try.call22 rfl (markSystem_spec (by (try simp only [List.length_append]); omega) (by omega)) ?_)
           rintro _ _ _ _ ⟨m1, m2, hm1, hk1, rfl, rfl, rfl⟩
           have hml1 := congrArg List.length hm1
           rw [iota_len] at hml1
           try simp only [List.length_append] at hml1
           refine XL.cons (XOp.assign (.int .i64 (1 + (((ar) ++ (rs.flatMap flatPair)).length : Int))) rfl ?_)
           refine XL.nil ?_
           refine X.seq ?_
           refine X.region ?_
           refine XL.cons (XOp.move (v3) rfl ?_)
           refine XL.cons (XOp.move (.int .i64 (1 + (((ar) ++ (rs.flatMap flatPair)).length : Int))) rfl ?_)
           refine XL.weaken (Sub.front (A := [_, _, _, _])) ?_
           show XL _ _ _ _ _ _ _ (intsH 2 v3 ((a)) :: intsH 2 x7 m1 :: pairsD 2 105 x8 m2 :: intsH 2 v4 ((b)) :: intsH 2 v6 ((b)) :: intsH 2 v5 ((a)) :: intsH 2 x11 ((joinF ar rs ((a)) ((b)) n).2.2.1) :: stepsD 2 77 x12 ((joinF ar rs ((a)) ((b)) n).2.2.2.1) :: intsH 2 x9 ((joinF ar rs ((a)) ((b)) n).1) :: stepsD 2 77 x10 ((joinF ar rs ((a)) ((b)) n).2.1) :: cellsH b6 [x11, x12] 41 :: cellsH b5 [x9, x10] 41 :: cellsH b4 [x7, x8] 33 :: cellsH b3 [x5, x6] 41 :: cellsH b2 [x3, x4] 41 :: cellsH b1 [arv, rsv] 27 :: L)
           refine XL.cons (XOp.call (args := [v3, .int .i64 (1 + (((ar) ++ (rs.flatMap flatPair)).length : Int))]) Try.call23 rfl (markInt64S_spec (by (try simp only [List.length_append]); omega)) ?_)
           rintro _ _ _ _ ⟨m3, hm2, rfl, rfl, rfl⟩
           have hml2 := congrArg List.length hm2
           rw [iota_len] at hml2
           try simp only [List.length_append] at hml2
           refine XL.cons (XOp.assign (.int .i64 ((1 + (((ar) ++ (rs.flatMap flatPair)).length : Int)) + (((((a)))).length : Int))) rfl ?_)
           refine XL.nil ?_
           refine X.seq ?_
           refine X.region ?_
           refine XL.cons (XOp.move (v4) rfl ?_)
           refine XL.cons (XOp.move (.int .i64 ((1 + (((ar) ++ (rs.flatMap flatPair)).length : Int)) + (((((a)))).length : Int))) rfl ?_)
           refine XL.weaken (Sub.front (A := [_, _, _])) ?_
           show XL _ _ _ _ _ _ _ (intsH 2 v4 ((b)) :: intsH 2 v3 m3 :: intsH 2 x7 m1 :: pairsD 2 105 x8 m2 :: intsH 2 v6 ((b)) :: intsH 2 v5 ((a)) :: intsH 2 x11 ((joinF ar rs ((a)) ((b)) n).2.2.1) :: stepsD 2 77 x12 ((joinF ar rs ((a)) ((b)) n).2.2.2.1) :: intsH 2 x9 ((joinF ar rs ((a)) ((b)) n).1) :: stepsD 2 77 x10 ((joinF ar rs ((a)) ((b)) n).2.1) :: cellsH b6 [x11, x12] 41 :: cellsH b5 [x9, x10] 41 :: cellsH b4 [x7, x8] 33 :: cellsH b3 [x5, x6] 41 :: cellsH b2 [x3, x4] 41 :: cellsH b1 [arv, rsv] 27 :: L)
           refine XL.cons (XOp.call (args := [v4, .int .i64 ((1 + (((ar) ++ (rs.flatMap flatPair)).length : Int)) + (((((a)))).length : Int))]) Try.call23 rfl (markInt64S_spec (by (try simp only [List.length_append]); omega)) ?_)
           rintro _ _ _ _ ⟨m4, hm3, rfl, rfl, rfl⟩
           have hml3 := congrArg List.length hm3
           rw [iota_len] at hml3
           try simp only [List.length_append] at hml3
           refine XL.cons (XOp.assign (.int .i64 (((1 + (((ar) ++ (rs.flatMap flatPair)).length : Int)) + (((((a)))).length : Int)) + (((((b)))).length : Int))) rfl ?_)
           refine XL.nil ?_
           refine X.seq ?_
           refine X.seq ?_
           refine X.region ?_
           refine XL.cons (XOp.move (.int .i64 (((1 + (((ar) ++ (rs.flatMap flatPair)).length : Int)) + (((((a)))).length : Int)) + (((((b)))).length : Int))) rfl ?_)
           refine XL.cons (XOp.lss (a := ((1 + (((ar) ++ (rs.flatMap flatPair)).length : Int)) + (((((a)))).length : Int)) + (((((b)))).length : Int)) (b := 0) rfl rfl ?_)
           refine XL.cons (XOp.move (.bool (decide ((((1 + (((ar) ++ (rs.flatMap flatPair)).length : Int)) + (((((a)))).length : Int)) + (((((b)))).length : Int) : Int) < 0))) rfl ?_)
           by_cases h10 : (((1 + (((ar) ++ (rs.flatMap flatPair)).length : Int)) + (((((a)))).length : Int)) + (((((b)))).length : Int) : Int) < 0
           ·exact absurd h10 (by omega)
           ·refine XL.yes (t := 104) rfl (congrArg Value.bool (decide_eq_false h10)) (XOp.loadN [x9, x10] Try.isAgg41 Try.sizeOf41 rfl rfl (Rd.ownN [_, _, _, _, _, _, _, _, _, _, _] rfl rfl) ?_)
            refine XL.yes (t := 104) rfl (congrArg Value.bool (decide_eq_false h10)) (XOp.loadN [x3, x4] Try.isAgg41 Try.sizeOf41 rfl rfl (Rd.ownN [_, _, _, _, _, _, _, _, _, _, _, _, _, _] rfl rfl) ?_)
            refine XL.yes (t := 104) rfl (congrArg Value.bool (decide_eq_false h10)) (XOp.lend [_, _, _, _, _, _, _, _] _ _ rfl (fun F26 le26 hz19 => ?_))
            refine id (XOp.lend [_, _, _, _, _, _, _, _] _ _ rfl (fun F27 le27 hz20 => ?_))
            have hf19 : IntsF _ x9 ((joinF ar rs ((a)) ((b)) n).1) := (intsH.fz (xs := (joinF ar rs ((a)) ((b)) n).1) hz19).mono le27
            have hf20 : StepsF _ x10 ((joinF ar rs ((a)) ((b)) n).2.1) := stepsD.fz hz20
            refine id (XOp.call (args := [.agg #[x9, x10], .agg #[x3, x4]]) Try.call21 rfl (eqWalk_spec hf19 hf20 ((hr4.mono (FLe.trans le26 le27))) ((hr5.mono (FLe.trans le26 le27))) (hfl := (by first | assumption | rfl | omega | (left; simp; done) | (right; simp; done))) (hal := (by first | assumption | rfl | omega | (left; simp; done) | (right; simp; done))) (hbd := (by first | assumption | exact fun i hi => by have := hne1 i hi; omega | exact fun i hi => by have := hne2 i hi; omega))) ?_)
            rintro _ _ _ _ ⟨rfl, rfl, rfl⟩
            show XL _ _ _ _ _ _ _ (intsH 2 x9 ((joinF ar rs ((a)) ((b)) n).1) :: stepsD 2 77 x10 ((joinF ar rs ((a)) ((b)) n).2.1) :: intsH 2 v4 m4 :: intsH 2 v3 m3 :: intsH 2 x7 m1 :: pairsD 2 105 x8 m2 :: intsH 2 v6 ((b)) :: intsH 2 v5 ((a)) :: intsH 2 x11 ((joinF ar rs ((a)) ((b)) n).2.2.1) :: stepsD 2 77 x12 ((joinF ar rs ((a)) ((b)) n).2.2.2.1) :: cellsH b6 [x11, x12] 41 :: cellsH b5 [x9, x10] 41 :: cellsH b4 [x7, x8] 33 :: cellsH b3 [x5, x6] 41 :: cellsH b2 [x3, x4] 41 :: cellsH b1 [arv, rsv] 27 :: L)
            refine XL.yes (t := 104) rfl (congrArg Value.bool (decide_eq_false h10)) (XOp.notD (p := ((joinF ar rs ((a)) ((b)) n).1) = ((joinF ar rs ((a)) ((b)) n).1) ∧ ((joinF ar rs ((a)) ((b)) n).2.1) = ((joinF ar rs ((a)) ((b)) n).2.1)) rfl ?_)
            refine XL.cons (XOp.pickF (.bool (decide (¬(((joinF ar rs ((a)) ((b)) n).1) = ((joinF ar rs ((a)) ((b)) n).1) ∧ ((joinF ar rs ((a)) ((b)) n).2.1) = ((joinF ar rs ((a)) ((b)) n).2.1))))) (congrArg Value.bool (decide_eq_false h10)) rfl ?_)
            refine XL.cons (XOp.move (.bool (decide (¬(((joinF ar rs ((a)) ((b)) n).1) = ((joinF ar rs ((a)) ((b)) n).1) ∧ ((joinF ar rs ((a)) ((b)) n).2.1) = ((joinF ar rs ((a)) ((b)) n).2.1))))) rfl ?_)
            refine XL.yes (t := 110) rfl (congrArg Value.bool (decide_eq_false h4)) (XOp.loadN [x11, x12] Try.isAgg41 Try.sizeOf41 rfl rfl (Rd.ownN [_, _, _, _, _, _, _, _, _, _] rfl rfl) ?_)
            refine XL.yes (t := 110) rfl (congrArg Value.bool (decide_eq_false h4)) (XOp.loadN [x5, x6] Try.isAgg41 Try.sizeOf41 rfl rfl (Rd.ownN [_, _, _, _, _, _, _, _, _, _, _, _, _] rfl rfl) ?_)
            refine XL.yes (t := 110) rfl (congrArg Value.bool (decide_eq_false h4)) (XOp.lend [_, _, _, _, _, _, _, _] _ _ rfl (fun F28 le28 hz21 => ?_))
            refine id (XOp.lend [_, _, _, _, _, _, _, _] _ _ rfl (fun F29 le29 hz22 => ?_))
            have hf21 : IntsF _ x11 ((joinF ar rs ((a)) ((b)) n).2.2.1) := (intsH.fz (xs := (joinF ar rs ((a)) ((b)) n).2.2.1) hz21).mono le29
            have hf22 : StepsF _ x12 ((joinF ar rs ((a)) ((b)) n).2.2.2.1) := stepsD.fz hz22
            refine id (XOp.call (args := [.agg #[x11, x12], .agg #[x5, x6]]) Try.call21 rfl (eqWalk_spec hf21 hf22 ((hr6.mono (FLe.trans le28 le29))) ((hr7.mono (FLe.trans le28 le29))) (hfl := (by first | assumption | rfl | omega | (left; simp; done) | (right; simp; done))) (hal := (by first | assumption | rfl | omega | (left; simp; done) | (right; simp; done))) (hbd := (by first | assumption | exact fun i hi => by have := hne1 i hi; omega | exact fun i hi => by have := hne2 i hi; omega))) ?_)
            rintro _ _ _ _ ⟨rfl, rfl, rfl⟩
            show XL _ _ _ _ _ _ _ (intsH 2 x11 ((joinF ar rs ((a)) ((b)) n).2.2.1) :: stepsD 2 77 x12 ((joinF ar rs ((a)) ((b)) n).2.2.2.1) :: intsH 2 x9 ((joinF ar rs ((a)) ((b)) n).1) :: stepsD 2 77 x10 ((joinF ar rs ((a)) ((b)) n).2.1) :: intsH 2 v4 m4 :: intsH 2 v3 m3 :: intsH 2 x7 m1 :: pairsD 2 105 x8 m2 :: intsH 2 v6 ((b)) :: intsH 2 v5 ((a)) :: cellsH b6 [x11, x12] 41 :: cellsH b5 [x9, x10] 41 :: cellsH b4 [x7, x8] 33 :: cellsH b3 [x5, x6] 41 :: cellsH b2 [x3, x4] 41 :: cellsH b1 [arv, rsv] 27 :: L)
            refine XL.yes (t := 110) rfl (congrArg Value.bool (decide_eq_false h4)) (XOp.notD (p := ((joinF ar rs ((a)) ((b)) n).2.2.1) = ((joinF ar rs ((a)) ((b)) n).2.2.1) ∧ ((joinF ar rs ((a)) ((b)) n).2.2.2.1) = ((joinF ar rs ((a)) ((b)) n).2.2.2.1)) rfl ?_)
            refine XL.cons (XOp.pickF (.bool (decide (¬(((joinF ar rs ((a)) ((b)) n).2.2.1) = ((joinF ar rs ((a)) ((b)) n).2.2.1) ∧ ((joinF ar rs ((a)) ((b)) n).2.2.2.1) = ((joinF ar rs ((a)) ((b)) n).2.2.2.1))))) (congrArg Value.bool (decide_eq_false h4)) rfl ?_)
            refine XL.cons (XOp.move (.bool (decide (¬(((joinF ar rs ((a)) ((b)) n).2.2.1) = ((joinF ar rs ((a)) ((b)) n).2.2.1) ∧ ((joinF ar rs ((a)) ((b)) n).2.2.2.1) = ((joinF ar rs ((a)) ((b)) n).2.2.2.1))))) rfl ?_)
            refine XL.yes (t := 116) rfl (congrArg Value.bool (decide_eq_false h5)) (XOp.move (.bool ((joinF ar rs ((a)) ((b)) n).2.2.2.2)) rfl ?_)
            refine XL.yes (t := 116) rfl (congrArg Value.bool (decide_eq_false h5)) (XOp.move (.bool ((joinF ar rs ((a)) ((b)) n).2.2.2.2)) rfl ?_)
            refine XL.yes (t := 116) rfl (congrArg Value.bool (decide_eq_false h5)) (XOp.neB (a := (joinF ar rs ((a)) ((b)) n).2.2.2.2) (b := (joinF ar rs ((a)) ((b)) n).2.2.2.2) Try.runUnderlying4 rfl rfl ?_)
            refine XL.cons (XOp.pickF (.bool (decide (((joinF ar rs ((a)) ((b)) n).2.2.2.2) ≠ ((joinF ar rs ((a)) ((b)) n).2.2.2.2)))) (congrArg Value.bool (decide_eq_false h5)) rfl ?_)
            refine XL.nil ?_
            refine X.condF (congrArg Value.bool (decide_eq_false h6)) ?_
            refine X.skip ?_
            refine X.seq ?_
            refine X.region ?_
            refine XL.cons (XOp.assign (.int .i64 (1)) rfl ?_)
            refine XL.nil ?_
            refine X.seq ?_
            refine X.region ?_
            refine XL.cons (XOp.loadN [x9, x10] Try.isAgg41 Try.sizeOf41 rfl rfl (Rd.ownN [_, _, _, _, _, _, _, _, _, _, _] rfl rfl) ?_)
            refine XL.cons (XOp.move (.int .i64 (1)) rfl ?_)
            refine XL.weaken (Sub.front (A := [_, _, _])) ?_
            show XL _ _ _ _ _ _ _ (stepsD 2 77 x10 ((joinF ar rs ((a)) ((b)) n).2.1) :: intsH 2 x11 ((joinF ar rs ((a)) ((b)) n).2.2.1) :: stepsD 2 77 x12 ((joinF ar rs ((a)) ((b)) n).2.2.2.1) :: intsH 2 x9 ((joinF ar rs ((a)) ((b)) n).1) :: intsH 2 v4 m4 :: intsH 2 v3 m3 :: intsH 2 x7 m1 :: pairsD 2 105 x8 m2 :: intsH 2 v6 ((b)) :: intsH 2 v5 ((a)) :: cellsH b6 [x11, x12] 41 :: cellsH b5 [x9, x10] 41 :: cellsH b4 [x7, x8] 33 :: cellsH b3 [x5, x6] 41 :: cellsH b2 [x3, x4] 41 :: cellsH b1 [arv, rsv] 27 :: L)
            refine XL.weaken (Sub.front (A := [_, _, _])) ?_
            show XL _ _ _ _ _ _ _ (intsH 2 x9 ((joinF ar rs ((a)) ((b)) n).1) :: stepsD 2 77 x10 ((joinF ar rs ((a)) ((b)) n).2.1) :: intsH 2 x11 ((joinF ar rs ((a)) ((b)) n).2.2.1) :: stepsD 2 77 x12 ((joinF ar rs ((a)) ((b)) n).2.2.2.1) :: intsH 2 v4 m4 :: intsH 2 v3 m3 :: intsH 2 x7 m1 :: pairsD 2 105 x8 m2 :: intsH 2 v6 ((b)) :: intsH 2 v5 ((a)) :: cellsH b6 [x11, x12] 41 :: cellsH b5 [x9, x10] 41 :: cellsH b4 [x7, x8] 33 :: cellsH b3 [x5, x6] 41 :: cellsH b2 [x3, x4] 41 :: cellsH b1 [arv, rsv] 27 :: L)
            refine XL.cons (XOp.call (args := [.agg #[x9, x10], .int .i64 (1)]) Try.call24 rfl (markWalk_spec (by (try simp only [List.length_append]); omega) (by omega)) ?_)
            rintro _ _ _ _ ⟨m5, m6, hm4, hk2, rfl, rfl, rfl⟩
            have hml4 := congrArg List.length hm4
            rw [iota_len] at hml4
            try simp only [List.length_append] at hml4
            refine XL.cons (XOp.assign (.int .i64 (1 + (((((joinF ar rs ((a)) ((b)) n).1)) ++ (((joinF ar rs ((a)) ((b)) n).2.1).flatMap flatStep)).length : Int))) rfl ?_)
            refine XL.nil ?_
            refine X.seq ?_
            refine X.region ?_
            refine XL.cons (XOp.loadN [x11, x12] Try.isAgg41 Try.sizeOf41 rfl rfl (Rd.ownN [_, _, _, _, _, _, _, _, _, _] rfl rfl) ?_)
            refine XL.cons (XOp.move (.int .i64 (1 + (((((joinF ar rs ((a)) ((b)) n).1)) ++ (((joinF ar rs ((a)) ((b)) n).2.1).flatMap flatStep)).length : Int))) rfl ?_)
            refine XL.weaken (Sub.front (A := [_, _, _])) ?_
            show XL _ _ _ _ _ _ _ (stepsD 2 77 x12 ((joinF ar rs ((a)) ((b)) n).2.2.2.1) :: intsH 2 x9 m5 :: stepsD 2 77 x10 m6 :: intsH 2 x11 ((joinF ar rs ((a)) ((b)) n).2.2.1) :: intsH 2 v4 m4 :: intsH 2 v3 m3 :: intsH 2 x7 m1 :: pairsD 2 105 x8 m2 :: intsH 2 v6 ((b)) :: intsH 2 v5 ((a)) :: cellsH b6 [x11, x12] 41 :: cellsH b5 [x9, x10] 41 :: cellsH b4 [x7, x8] 33 :: cellsH b3 [x5, x6] 41 :: cellsH b2 [x3, x4] 41 :: cellsH b1 [arv, rsv] 27 :: L)
            refine XL.weaken (Sub.front (A := [_, _, _])) ?_
            show XL _ _ _ _ _ _ _ (intsH 2 x11 ((joinF ar rs ((a)) ((b)) n).2.2.1) :: stepsD 2 77 x12 ((joinF ar rs ((a)) ((b)) n).2.2.2.1) :: intsH 2 x9 m5 :: stepsD 2 77 x10 m6 :: intsH 2 v4 m4 :: intsH 2 v3 m3 :: intsH 2 x7 m1 :: pairsD 2 105 x8 m2 :: intsH 2 v6 ((b)) :: intsH 2 v5 ((a)) :: cellsH b6 [x11, x12] 41 :: cellsH b5 [x9, x10] 41 :: cellsH b4 [x7, x8] 33 :: cellsH b3 [x5, x6] 41 :: cellsH b2 [x3, x4] 41 :: cellsH b1 [arv, rsv] 27 :: L)
            refine XL.cons (XOp.call (args := [.agg #[x11, x12], .int .i64 (1 + (((((joinF ar rs ((a)) ((b)) n).1)) ++ (((joinF ar rs ((a)) ((b)) n).2.1).flatMap flatStep)).length : Int))]) Try.call24 rfl (markWalk_spec (by (try simp only [List.length_append]); omega) (by omega)) ?_)
            rintro _ _ _ _ ⟨m7, m8, hm5, hk3, rfl, rfl, rfl⟩
            have hml5 := congrArg List.length hm5
            rw [iota_len] at hml5
            try simp only [List.length_append] at hml5
            refine XL.cons (XOp.assign (.int .i64 ((1 + (((((joinF ar rs ((a)) ((b)) n).1)) ++ (((joinF ar rs ((a)) ((b)) n).2.1).flatMap flatStep)).length : Int)) + (((((joinF ar rs ((a)) ((b)) n).2.2.1)) ++ (((joinF ar rs ((a)) ((b)) n).2.2.2.1).flatMap flatStep)).length : Int))) rfl ?_)
            refine XL.nil ?_
            refine X.seq ?_
            refine X.region ?_
            refine XL.cons (XOp.assign (.int .i64 (1)) rfl ?_)
            refine XL.nil ?_
            refine X.seq ?_
            refine X.region ?_
            refine XL.cons (XOp.loadN [x9, x10] Try.isAgg41 Try.sizeOf41 rfl rfl (Rd.ownN [_, _, _, _, _, _, _, _, _, _, _] rfl rfl) ?_)
            refine XL.cons (XOp.move (.int .i64 (1)) rfl ?_)
            refine XL.cons (XOp.lend [_, _] _ _ rfl (fun F30 le30 hz23 => ?_))
            refine id (XOp.lend [_, _] _ _ rfl (fun F31 le31 hz24 => ?_))
            have hf23 : IntsF _ x9 m5 := (intsH.fz (xs := m5) hz23).mono le31
            have hf24 : StepsF _ x10 m6 := stepsD.fz hz24
            refine id (XOp.call (args := [.agg #[x9, x10], .int .i64 (1)]) Try.call25 rfl (heldWalk_spec (z := 1) hf23 hf24 (hzb := (by first | assumption | rfl | omega | (left; simp; done) | (right; simp; done))) (hxl := (by first | assumption | rfl | omega | (left; simp; done) | (right; simp; done)))) ?_)
            rintro _ _ _ _ ⟨rfl, rfl, rfl⟩
            show XL _ _ _ _ _ _ _ (intsH 2 x9 m5 :: stepsD 2 77 x10 m6 :: intsH 2 x11 m7 :: stepsD 2 77 x12 m8 :: intsH 2 v4 m4 :: intsH 2 v3 m3 :: intsH 2 x7 m1 :: pairsD 2 105 x8 m2 :: intsH 2 v6 ((b)) :: intsH 2 v5 ((a)) :: cellsH b6 [x11, x12] 41 :: cellsH b5 [x9, x10] 41 :: cellsH b4 [x7, x8] 33 :: cellsH b3 [x5, x6] 41 :: cellsH b2 [x3, x4] 41 :: cellsH b1 [arv, rsv] 27 :: L)
            refine XL.cons (XOp.assign (.int .i64 (heldF (m5 ++ m6.flatMap flatStep) 1)) rfl ?_)
            refine XL.nil ?_
            refine X.seq ?_
            refine X.seq ?_
            refine X.region ?_
            refine XL.cons (XOp.move (.int .i64 (heldF (m5 ++ m6.flatMap flatStep) 1)) rfl ?_)
            refine XL.cons (XOp.lss (a := heldF (m5 ++ m6.flatMap flatStep) 1) (b := 0) rfl rfl ?_)
            refine XL.nil ?_
            refine X.condD (p := (heldF (m5 ++ m6.flatMap flatStep) 1 : Int) < 0) rfl (fun h11 => ?_) (fun h11 => ?_)
            ·rw [hm4, heldF_iota] at h11
             exact absurd h11 (by omega)
            ·have hh2 := (fun (l : List Int) (k k2 : Int) (n : Nat) (h : l = iota k n) (hk : k2 = k) => show heldF l k2 = k + n from (by subst hk; rw [h, heldF_iota])) _ _ (1) _ hm4 (by first | rfl | omega)
             have hh2l := hh2
             try simp only [List.length_append] at hh2l
             refine X.skip ?_
             refine X.seq ?_
             refine X.region ?_
             refine XL.cons (XOp.loadN [x11, x12] Try.isAgg41 Try.sizeOf41 rfl rfl (Rd.ownN [_, _, _, _, _, _, _, _, _, _] rfl rfl) ?_)
             refine XL.cons (XOp.move (.int .i64 (heldF (m5 ++ m6.flatMap flatStep) 1)) rfl ?_)
             refine XL.cons (XOp.lend [_, _] _ _ rfl (fun F32 le32 hz25 => ?_))
             refine id (XOp.lend [_, _] _ _ rfl (fun F33 le33 hz26 => ?_))
             have hf25 : IntsF _ x11 m7 := (intsH.fz (xs := m7) hz25).mono le33
             have hf26 : StepsF _ x12 m8 := stepsD.fz hz26
             refine id (XOp.call (args := [.agg #[x11, x12], .int .i64 (heldF (m5 ++ m6.flatMap flatStep) 1)]) Try.call25 rfl (heldWalk_spec (z := heldF (m5 ++ m6.flatMap flatStep) 1) hf25 hf26 (hzb := (by first | assumption | rfl | omega | (left; simp; done) | (right; simp; done))) (hxl := (by first | assumption | rfl | omega | (left; simp; done) | (right; simp; done)))) ?_)
             rintro _ _ _ _ ⟨rfl, rfl, rfl⟩
             show XL _ _ _ _ _ _ _ (intsH 2 x11 m7 :: stepsD 2 77 x12 m8 :: intsH 2 x9 m5 :: stepsD 2 77 x10 m6 :: intsH 2 v4 m4 :: intsH 2 v3 m3 :: intsH 2 x7 m1 :: pairsD 2 105 x8 m2 :: intsH 2 v6 ((b)) :: intsH 2 v5 ((a)) :: cellsH b6 [x11, x12] 41 :: cellsH b5 [x9, x10] 41 :: cellsH b4 [x7, x8] 33 :: cellsH b3 [x5, x6] 41 :: cellsH b2 [x3, x4] 41 :: cellsH b1 [arv, rsv] 27 :: L)
             refine XL.cons (XOp.assign (.int .i64 (heldF (m7 ++ m8.flatMap flatStep) (heldF (m5 ++ m6.flatMap flatStep) 1))) rfl ?_)
             refine XL.nil ?_
             refine X.seq ?_
             refine X.seq ?_
             refine X.region ?_
             refine XL.cons (XOp.move (.int .i64 (heldF (m7 ++ m8.flatMap flatStep) (heldF (m5 ++ m6.flatMap flatStep) 1))) rfl ?_)
             refine XL.cons (XOp.lss (a := heldF (m7 ++ m8.flatMap flatStep) (heldF (m5 ++ m6.flatMap flatStep) 1)) (b := 0) rfl rfl ?_)
             refine XL.nil ?_
             refine X.condD (p := (heldF (m7 ++ m8.flatMap flatStep) (heldF (m5 ++ m6.flatMap flatStep) 1) : Int) < 0) rfl (fun h12 => ?_) (fun h12 => ?_)
             ·have hh3 := (fun (l : List Int) (k k2 : Int) (n : Nat) (h : l = iota k n) (hk : k2 = k) => show heldF l k2 = k + n from (by subst hk; rw [h, heldF_iota])) _ _ (heldF (m5 ++ m6.flatMap flatStep) 1) _ hm5 (by first | rfl | omega)
              exact absurd h12 (by omega)
             ·have hh4 := (fun (l : List Int) (k k2 : Int) (n : Nat) (h : l = iota k n) (hk : k2 = k) => show heldF l k2 = k + n from (by subst hk; rw [h, heldF_iota])) _ _ (heldF (m5 ++ m6.flatMap flatStep) 1) _ hm5 (by first | rfl | omega)
              have hh4l := hh4
              try simp only [List.length_append] at hh4l
              refine X.skip ?_
              refine X.seq ?_
              refine X.seq ?_
              refine X.region ?_
              refine XL.cons (XOp.move (.int .i64 (heldF (m7 ++ m8.flatMap flatStep) (heldF (m5 ++ m6.flatMap flatStep) 1))) rfl ?_)
              refine XL.cons (XOp.move (.int .i64 ((1 + (((((joinF ar rs ((a)) ((b)) n).1)) ++ (((joinF ar rs ((a)) ((b)) n).2.1).flatMap flatStep)).length : Int)) + (((((joinF ar rs ((a)) ((b)) n).2.2.1)) ++ (((joinF ar rs ((a)) ((b)) n).2.2.2.1).flatMap flatStep)).length : Int))) rfl ?_)
              refine XL.cons (XOp.neq (a := heldF (m7 ++ m8.flatMap flatStep) (heldF (m5 ++ m6.flatMap flatStep) 1)) (b := (1 + (((((joinF ar rs ((a)) ((b)) n).1)) ++ (((joinF ar rs ((a)) ((b)) n).2.1).flatMap flatStep)).length : Int)) + (((((joinF ar rs ((a)) ((b)) n).2.2.1)) ++ (((joinF ar rs ((a)) ((b)) n).2.2.2.1).flatMap flatStep)).length : Int)) rfl rfl ?_)
              refine XL.nil ?_
              refine X.condD (p := (heldF (m7 ++ m8.flatMap flatStep) (heldF (m5 ++ m6.flatMap flatStep) 1) : Int) ≠ (1 + (((((joinF ar rs ((a)) ((b)) n).1)) ++ (((joinF ar rs ((a)) ((b)) n).2.1).flatMap flatStep)).length : Int)) + (((((joinF ar rs ((a)) ((b)) n).2.2.1)) ++ (((joinF ar rs ((a)) ((b)) n).2.2.2.1).flatMap flatStep)).length : Int)) rfl (fun h13 => ?_) (fun h13 => ?_)
              ·exact absurd (by omega) h13
              ·refine X.skip ?_
               refine X.seq ?_
               refine X.region ?_
               refine XL.cons (XOp.loadN [arv, rsv] Try.isAgg27 Try.sizeOf27 rfl rfl (Rd.ownN [_, _, _, _, _, _, _, _, _, _, _, _, _, _, _] rfl rfl) ?_)
               refine XL.cons (XOp.thawL ?_)
               refine id (XOp.call (args := [.agg #[arv, rsv]]) Try.call12 rfl (toSystem_spec har hrs (hla := (by first | assumption | rfl | omega | (left; simp; done) | (right; simp; done))) (hrl := (by first | assumption | rfl | omega | (left; simp; done) | (right; simp; done))) (hrb := (by first | assumption | rfl | omega | (left; simp; done) | (right; simp; done)))) ?_)
               rintro _ F34 _ le34 ⟨x17, x18, rfl, hr22, hr23, hr24, rfl⟩
               refine ⟨[intsH 2 x17 ar, pairsD 2 105 x18 rs], hr24, ?_⟩
               show XL _ _ _ _ _ _ _ (intsH 2 x17 ar :: pairsD 2 105 x18 rs :: intsH 2 x11 m7 :: stepsD 2 77 x12 m8 :: intsH 2 x9 m5 :: stepsD 2 77 x10 m6 :: intsH 2 v4 m4 :: intsH 2 v3 m3 :: intsH 2 x7 m1 :: pairsD 2 105 x8 m2 :: intsH 2 v6 ((b)) :: intsH 2 v5 ((a)) :: cellsH b6 [x11, x12] 41 :: cellsH b5 [x9, x10] 41 :: cellsH b4 [x7, x8] 33 :: cellsH b3 [x5, x6] 41 :: cellsH b2 [x3, x4] 41 :: cellsH b1 [arv, rsv] 27 :: L)
               refine XL.cons (XOp.move (av) rfl ?_)
               refine XL.cons (XOp.call (args := [av]) Try.call13 rfl (toInt64S_spec ha (hlx := (by first | assumption | rfl | omega | (left; simp; done) | (right; simp; done)))) ?_)
               rintro v7 _ _ _ ⟨rfl, hs7, rfl⟩
               refine XL.cons (XOp.move (bv) rfl ?_)
               refine XL.cons (XOp.call (args := [bv]) Try.call13 rfl (toInt64S_spec hb (hlx := (by first | assumption | rfl | omega | (left; simp; done) | (right; simp; done)))) ?_)
               rintro v8 _ _ _ ⟨rfl, hs8, rfl⟩
               refine XL.cons (XOp.move (.int .i64 (n)) rfl ?_)
               refine XL.cons (XOp.lend [_, _] _ _ rfl (fun F35 le35 hz27 => ?_))
               refine id (XOp.lend [_, _] _ _ rfl (fun F36 le36 hz28 => ?_))
               refine id (XOp.lend [_] _ _ rfl (fun F37 le37 hz29 => ?_))
               refine id (XOp.lend [] _ _ rfl (fun F38 le38 hz30 => ?_))
               have hf27 : IntsF _ x17 ar := (intsH.fz (xs := ar) hz27).mono (FLe.trans (FLe.trans le36 le37) le38)
               have hf28 : PairsF _ x18 rs := (pairsD.fz hz28).mono (FLe.trans le37 le38)
               have hf29 : IntsF _ v7 ((a)) := (intsH.fz (xs := (a)) hz29).mono le38
               have hf30 : IntsF _ v8 ((b)) := intsH.fz (xs := (b)) hz30
               refine id (XOp.thawL ?_)
               refine id (XOp.call (args := [.agg #[x17, x18], v7, v8, .int .i64 (n)]) Try.call34 rfl (JoinOf_spec (n := n) hf27 hf28 hf29 hf30 (hla9 := (by first | assumption | rfl | omega | (left; simp; done) | (right; simp; done))) (hlb9 := (by first | assumption | rfl | omega | (left; simp; done) | (right; simp; done)))) ?_)
               rintro _ F39 _ le39 ⟨x19, x20, x21, x22, rfl, hr25, hr26, hr27, hr28, hr29, rfl⟩
               refine ⟨[intsH 2 x19 ((joinF ar rs ((a)) ((b)) n).1), stepsD 2 77 x20 ((joinF ar rs ((a)) ((b)) n).2.1), intsH 2 x21 ((joinF ar rs ((a)) ((b)) n).2.2.1), stepsD 2 77 x22 ((joinF ar rs ((a)) ((b)) n).2.2.2.1)], hr29, ?_⟩
               show XL _ _ _ _ _ _ _ (intsH 2 x17 ar :: pairsD 2 105 x18 rs :: intsH 2 v7 ((a)) :: intsH 2 v8 ((b)) :: intsH 2 x19 ((joinF ar rs ((a)) ((b)) n).1) :: stepsD 2 77 x20 ((joinF ar rs ((a)) ((b)) n).2.1) :: intsH 2 x21 ((joinF ar rs ((a)) ((b)) n).2.2.1) :: stepsD 2 77 x22 ((joinF ar rs ((a)) ((b)) n).2.2.2.1) :: intsH 2 x11 m7 :: stepsD 2 77 x12 m8 :: intsH 2 x9 m5 :: stepsD 2 77 x10 m6 :: intsH 2 v4 m4 :: intsH 2 v3 m3 :: intsH 2 x7 m1 :: pairsD 2 105 x8 m2 :: intsH 2 v6 ((b)) :: intsH 2 v5 ((a)) :: cellsH b6 [x11, x12] 41 :: cellsH b5 [x9, x10] 41 :: cellsH b4 [x7, x8] 33 :: cellsH b3 [x5, x6] 41 :: cellsH b2 [x3, x4] 41 :: cellsH b1 [arv, rsv] 27 :: L)
               refine XL.cons (XOp.move (.tuple #[.agg #[x19, x20], .agg #[x21, x22], .bool ((joinF ar rs ((a)) ((b)) n).2.2.2.2)]) rfl ?_)
               refine XL.cons (XOp.extract (.agg #[x19, x20]) rfl rfl ?_)
               refine XL.cons (XOp.extract (.agg #[x21, x22]) rfl rfl ?_)
               refine XL.cons (XOp.extract (.bool ((joinF ar rs ((a)) ((b)) n).2.2.2.2)) rfl rfl ?_)
               refine XL.cons (XOp.alloc [(.slice none 0 0), (.slice none 0 0)] Try.zeroValue41 rfl ?_)
               intro b7
               refine XL.cons (XOp.alloc [(.slice none 0 0), (.slice none 0 0)] Try.zeroValue41 rfl ?_)
               intro b8
               refine XL.cons (XOp.storeN (vs := [x19, x20]) [_] _ [x19, x20] Try.sizeOf41 rfl rfl rfl (ones_cons (one_sl (IntsF.isSl hr25)) (ones_cons (one_sl (StepsF.isSl hr26)) ones_nil)) rfl rfl rfl ?_)
               refine XL.cons (XOp.storeN (vs := [x21, x22]) [] _ [x21, x22] Try.sizeOf41 rfl rfl rfl (ones_cons (one_sl (IntsF.isSl hr27)) (ones_cons (one_sl (StepsF.isSl hr28)) ones_nil)) rfl rfl rfl ?_)
               refine XL.cons (XOp.assign (.bool ((joinF ar rs ((a)) ((b)) n).2.2.2.2)) rfl ?_)
               refine XL.nil ?_
               refine X.seq ?_
               refine X.seq ?_
               refine X.region ?_
               refine XL.cons (XOp.loadN [x19, x20] Try.isAgg41 Try.sizeOf41 rfl rfl (Rd.ownN [_] rfl rfl) ?_)
               refine XL.cons (XOp.loadN [x3, x4] Try.isAgg41 Try.sizeOf41 rfl rfl (Rd.ownN [_, _, _, _, _, _, _, _, _, _, _, _, _, _, _, _, _, _, _, _, _, _, _, _] rfl rfl) ?_)
               refine XL.cons (XOp.lend [_, _, _, _, _, _] _ _ rfl (fun F40 le40 hz31 => ?_))
               refine id (XOp.lend [_, _, _, _, _, _] _ _ rfl (fun F41 le41 hz32 => ?_))
               have hf31 : IntsF _ x19 ((joinF ar rs ((a)) ((b)) n).1) := (intsH.fz (xs := (joinF ar rs ((a)) ((b)) n).1) hz31).mono le41
               have hf32 : StepsF _ x20 ((joinF ar rs ((a)) ((b)) n).2.1) := stepsD.fz hz32
               refine id (XOp.call (args := [.agg #[x19, x20], .agg #[x3, x4]]) Try.call21 rfl (eqWalk_spec hf31 hf32 ((hr4.mono (FLe.trans le40 le41))) ((hr5.mono (FLe.trans le40 le41))) (hfl := (by first | assumption | rfl | omega | (left; simp; done) | (right; simp; done))) (hal := (by first | assumption | rfl | omega | (left; simp; done) | (right; simp; done))) (hbd := (by first | assumption | exact fun i hi => by have := hne1 i hi; omega | exact fun i hi => by have := hne2 i hi; omega))) ?_)
               rintro _ _ _ _ ⟨rfl, rfl, rfl⟩
               show XL _ _ _ _ _ _ _ (intsH 2 x19 ((joinF ar rs ((a)) ((b)) n).1) :: stepsD 2 77 x20 ((joinF ar rs ((a)) ((b)) n).2.1) :: cellsH b8 [x21, x22] 41 :: cellsH b7 [x19, x20] 41 :: intsH 2 x17 ar :: pairsD 2 105 x18 rs :: intsH 2 v7 ((a)) :: intsH 2 v8 ((b)) :: intsH 2 x21 ((joinF ar rs ((a)) ((b)) n).2.2.1) :: stepsD 2 77 x22 ((joinF ar rs ((a)) ((b)) n).2.2.2.1) :: intsH 2 x11 m7 :: stepsD 2 77 x12 m8 :: intsH 2 x9 m5 :: stepsD 2 77 x10 m6 :: intsH 2 v4 m4 :: intsH 2 v3 m3 :: intsH 2 x7 m1 :: pairsD 2 105 x8 m2 :: intsH 2 v6 ((b)) :: intsH 2 v5 ((a)) :: cellsH b6 [x11, x12] 41 :: cellsH b5 [x9, x10] 41 :: cellsH b4 [x7, x8] 33 :: cellsH b3 [x5, x6] 41 :: cellsH b2 [x3, x4] 41 :: cellsH b1 [arv, rsv] 27 :: L)
               refine XL.cons (XOp.notD (p := ((joinF ar rs ((a)) ((b)) n).1) = ((joinF ar rs ((a)) ((b)) n).1) ∧ ((joinF ar rs ((a)) ((b)) n).2.1) = ((joinF ar rs ((a)) ((b)) n).2.1)) rfl ?_)
               refine XL.cons (XOp.move (.bool (decide (¬(((joinF ar rs ((a)) ((b)) n).1) = ((joinF ar rs ((a)) ((b)) n).1) ∧ ((joinF ar rs ((a)) ((b)) n).2.1) = ((joinF ar rs ((a)) ((b)) n).2.1))))) rfl ?_)
               refine XL.yes (t := 156) rfl (congrArg Value.bool (decide_eq_false h4)) (XOp.loadN [x21, x22] Try.isAgg41 Try.sizeOf41 rfl rfl (Rd.ownN [_, _] rfl rfl) ?_)
               refine XL.yes (t := 156) rfl (congrArg Value.bool (decide_eq_false h4)) (XOp.loadN [x5, x6] Try.isAgg41 Try.sizeOf41 rfl rfl (Rd.ownN [_, _, _, _, _, _, _, _, _, _, _, _, _, _, _, _, _, _, _, _, _, _, _] rfl rfl) ?_)
               refine XL.yes (t := 156) rfl (congrArg Value.bool (decide_eq_false h4)) (XOp.lend [_, _, _, _, _, _, _, _] _ _ rfl (fun F42 le42 hz33 => ?_))
               refine id (XOp.lend [_, _, _, _, _, _, _, _] _ _ rfl (fun F43 le43 hz34 => ?_))
               have hf33 : IntsF _ x21 ((joinF ar rs ((a)) ((b)) n).2.2.1) := (intsH.fz (xs := (joinF ar rs ((a)) ((b)) n).2.2.1) hz33).mono le43
               have hf34 : StepsF _ x22 ((joinF ar rs ((a)) ((b)) n).2.2.2.1) := stepsD.fz hz34
               refine id (XOp.call (args := [.agg #[x21, x22], .agg #[x5, x6]]) Try.call21 rfl (eqWalk_spec hf33 hf34 ((hr6.mono (FLe.trans le42 le43))) ((hr7.mono (FLe.trans le42 le43))) (hfl := (by first | assumption | rfl | omega | (left; simp; done) | (right; simp; done))) (hal := (by first | assumption | rfl | omega | (left; simp; done) | (right; simp; done))) (hbd := (by first | assumption | exact fun i hi => by have := hne1 i hi; omega | exact fun i hi => by have := hne2 i hi; omega))) ?_)
               rintro _ _ _ _ ⟨rfl, rfl, rfl⟩
               show XL _ _ _ _ _ _ _ (intsH 2 x21 ((joinF ar rs ((a)) ((b)) n).2.2.1) :: stepsD 2 77 x22 ((joinF ar rs ((a)) ((b)) n).2.2.2.1) :: intsH 2 x19 ((joinF ar rs ((a)) ((b)) n).1) :: stepsD 2 77 x20 ((joinF ar rs ((a)) ((b)) n).2.1) :: cellsH b8 [x21, x22] 41 :: cellsH b7 [x19, x20] 41 :: intsH 2 x17 ar :: pairsD 2 105 x18 rs :: intsH 2 v7 ((a)) :: intsH 2 v8 ((b)) :: intsH 2 x11 m7 :: stepsD 2 77 x12 m8 :: intsH 2 x9 m5 :: stepsD 2 77 x10 m6 :: intsH 2 v4 m4 :: intsH 2 v3 m3 :: intsH 2 x7 m1 :: pairsD 2 105 x8 m2 :: intsH 2 v6 ((b)) :: intsH 2 v5 ((a)) :: cellsH b6 [x11, x12] 41 :: cellsH b5 [x9, x10] 41 :: cellsH b4 [x7, x8] 33 :: cellsH b3 [x5, x6] 41 :: cellsH b2 [x3, x4] 41 :: cellsH b1 [arv, rsv] 27 :: L)
               refine XL.yes (t := 156) rfl (congrArg Value.bool (decide_eq_false h4)) (XOp.notD (p := ((joinF ar rs ((a)) ((b)) n).2.2.1) = ((joinF ar rs ((a)) ((b)) n).2.2.1) ∧ ((joinF ar rs ((a)) ((b)) n).2.2.2.1) = ((joinF ar rs ((a)) ((b)) n).2.2.2.1)) rfl ?_)
               refine XL.cons (XOp.pickF (.bool (decide (¬(((joinF ar rs ((a)) ((b)) n).2.2.1) = ((joinF ar rs ((a)) ((b)) n).2.2.1) ∧ ((joinF ar rs ((a)) ((b)) n).2.2.2.1) = ((joinF ar rs ((a)) ((b)) n).2.2.2.1))))) (congrArg Value.bool (decide_eq_false h4)) rfl ?_)
               refine XL.cons (XOp.move (.bool (decide (¬(((joinF ar rs ((a)) ((b)) n).2.2.1) = ((joinF ar rs ((a)) ((b)) n).2.2.1) ∧ ((joinF ar rs ((a)) ((b)) n).2.2.2.1) = ((joinF ar rs ((a)) ((b)) n).2.2.2.1))))) rfl ?_)
               refine XL.yes (t := 162) rfl (congrArg Value.bool (decide_eq_false h5)) (XOp.move (.bool ((joinF ar rs ((a)) ((b)) n).2.2.2.2)) rfl ?_)
               refine XL.yes (t := 162) rfl (congrArg Value.bool (decide_eq_false h5)) (XOp.move (.bool ((joinF ar rs ((a)) ((b)) n).2.2.2.2)) rfl ?_)
               refine XL.yes (t := 162) rfl (congrArg Value.bool (decide_eq_false h5)) (XOp.neB (a := (joinF ar rs ((a)) ((b)) n).2.2.2.2) (b := (joinF ar rs ((a)) ((b)) n).2.2.2.2) Try.runUnderlying4 rfl rfl ?_)
               refine XL.cons (XOp.pickF (.bool (decide (((joinF ar rs ((a)) ((b)) n).2.2.2.2) ≠ ((joinF ar rs ((a)) ((b)) n).2.2.2.2)))) (congrArg Value.bool (decide_eq_false h5)) rfl ?_)
               refine XL.nil ?_
               refine X.condF (congrArg Value.bool (decide_eq_false h6)) ?_
               refine X.skip ?_
               refine X.seq ?_
               refine X.region ?_
               refine XL.cons (XOp.assign (.int .i64 (1)) rfl ?_)
               refine XL.nil ?_
               refine X.seq ?_
               refine X.region ?_
               refine XL.cons (XOp.loadN [x9, x10] Try.isAgg41 Try.sizeOf41 rfl rfl (Rd.ownN [_, _, _, _, _, _, _, _, _, _, _, _, _, _, _, _, _, _, _, _, _] rfl rfl) ?_)
               refine XL.cons (XOp.move (.int .i64 (1)) rfl ?_)
               refine XL.cons (XOp.lend [_, _, _, _, _, _, _, _, _, _, _, _] _ _ rfl (fun F44 le44 hz35 => ?_))
               refine id (XOp.lend [_, _, _, _, _, _, _, _, _, _, _, _] _ _ rfl (fun F45 le45 hz36 => ?_))
               have hf35 : IntsF _ x9 m5 := (intsH.fz (xs := m5) hz35).mono le45
               have hf36 : StepsF _ x10 m6 := stepsD.fz hz36
               refine id (XOp.call (args := [.agg #[x9, x10], .int .i64 (1)]) Try.call25 rfl (heldWalk_spec (z := 1) hf35 hf36 (hzb := (by first | assumption | rfl | omega | (left; simp; done) | (right; simp; done))) (hxl := (by first | assumption | rfl | omega | (left; simp; done) | (right; simp; done)))) ?_)
               rintro _ _ _ _ ⟨rfl, rfl, rfl⟩
               show XL _ _ _ _ _ _ _ (intsH 2 x9 m5 :: stepsD 2 77 x10 m6 :: intsH 2 x21 ((joinF ar rs ((a)) ((b)) n).2.2.1) :: stepsD 2 77 x22 ((joinF ar rs ((a)) ((b)) n).2.2.2.1) :: intsH 2 x19 ((joinF ar rs ((a)) ((b)) n).1) :: stepsD 2 77 x20 ((joinF ar rs ((a)) ((b)) n).2.1) :: cellsH b8 [x21, x22] 41 :: cellsH b7 [x19, x20] 41 :: intsH 2 x17 ar :: pairsD 2 105 x18 rs :: intsH 2 v7 ((a)) :: intsH 2 v8 ((b)) :: intsH 2 x11 m7 :: stepsD 2 77 x12 m8 :: intsH 2 v4 m4 :: intsH 2 v3 m3 :: intsH 2 x7 m1 :: pairsD 2 105 x8 m2 :: intsH 2 v6 ((b)) :: intsH 2 v5 ((a)) :: cellsH b6 [x11, x12] 41 :: cellsH b5 [x9, x10] 41 :: cellsH b4 [x7, x8] 33 :: cellsH b3 [x5, x6] 41 :: cellsH b2 [x3, x4] 41 :: cellsH b1 [arv, rsv] 27 :: L)
               refine XL.cons (XOp.assign (.int .i64 (heldF (m5 ++ m6.flatMap flatStep) 1)) rfl ?_)
               refine XL.nil ?_
               refine X.seq ?_
               refine X.seq ?_
               refine X.region ?_
               refine XL.cons (XOp.move (.int .i64 (heldF (m5 ++ m6.flatMap flatStep) 1)) rfl ?_)
               refine XL.cons (XOp.lss (a := heldF (m5 ++ m6.flatMap flatStep) 1) (b := 0) rfl rfl ?_)
               refine XL.nil ?_
               refine X.condF (congrArg Value.bool (decide_eq_false h11)) ?_
               refine X.skip ?_
               refine X.seq ?_
               refine X.region ?_
               refine XL.cons (XOp.loadN [x11, x12] Try.isAgg41 Try.sizeOf41 rfl rfl (Rd.ownN [_, _, _, _, _, _, _, _, _, _, _, _, _, _, _, _, _, _, _, _] rfl rfl) ?_)
               refine XL.cons (XOp.move (.int .i64 (heldF (m5 ++ m6.flatMap flatStep) 1)) rfl ?_)
               refine XL.cons (XOp.lend [_, _, _, _, _, _, _, _, _, _, _, _] _ _ rfl (fun F46 le46 hz37 => ?_))
               refine id (XOp.lend [_, _, _, _, _, _, _, _, _, _, _, _] _ _ rfl (fun F47 le47 hz38 => ?_))
               have hf37 : IntsF _ x11 m7 := (intsH.fz (xs := m7) hz37).mono le47
               have hf38 : StepsF _ x12 m8 := stepsD.fz hz38
               refine id (XOp.call (args := [.agg #[x11, x12], .int .i64 (heldF (m5 ++ m6.flatMap flatStep) 1)]) Try.call25 rfl (heldWalk_spec (z := heldF (m5 ++ m6.flatMap flatStep) 1) hf37 hf38 (hzb := (by first | assumption | rfl | omega | (left; simp; done) | (right; simp; done))) (hxl := (by first | assumption | rfl | omega | (left; simp; done) | (right; simp; done)))) ?_)
               rintro _ _ _ _ ⟨rfl, rfl, rfl⟩
               show XL _ _ _ _ _ _ _ (intsH 2 x11 m7 :: stepsD 2 77 x12 m8 :: intsH 2 x9 m5 :: stepsD 2 77 x10 m6 :: intsH 2 x21 ((joinF ar rs ((a)) ((b)) n).2.2.1) :: stepsD 2 77 x22 ((joinF ar rs ((a)) ((b)) n).2.2.2.1) :: intsH 2 x19 ((joinF ar rs ((a)) ((b)) n).1) :: stepsD 2 77 x20 ((joinF ar rs ((a)) ((b)) n).2.1) :: cellsH b8 [x21, x22] 41 :: cellsH b7 [x19, x20] 41 :: intsH 2 x17 ar :: pairsD 2 105 x18 rs :: intsH 2 v7 ((a)) :: intsH 2 v8 ((b)) :: intsH 2 v4 m4 :: intsH 2 v3 m3 :: intsH 2 x7 m1 :: pairsD 2 105 x8 m2 :: intsH 2 v6 ((b)) :: intsH 2 v5 ((a)) :: cellsH b6 [x11, x12] 41 :: cellsH b5 [x9, x10] 41 :: cellsH b4 [x7, x8] 33 :: cellsH b3 [x5, x6] 41 :: cellsH b2 [x3, x4] 41 :: cellsH b1 [arv, rsv] 27 :: L)
               refine XL.cons (XOp.assign (.int .i64 (heldF (m7 ++ m8.flatMap flatStep) (heldF (m5 ++ m6.flatMap flatStep) 1))) rfl ?_)
               refine XL.nil ?_
               refine X.seq ?_
               refine X.seq ?_
               refine X.region ?_
               refine XL.cons (XOp.move (.int .i64 (heldF (m7 ++ m8.flatMap flatStep) (heldF (m5 ++ m6.flatMap flatStep) 1))) rfl ?_)
               refine XL.cons (XOp.lss (a := heldF (m7 ++ m8.flatMap flatStep) (heldF (m5 ++ m6.flatMap flatStep) 1)) (b := 0) rfl rfl ?_)
               refine XL.nil ?_
               refine X.condF (congrArg Value.bool (decide_eq_false h12)) ?_
               refine X.skip ?_
               refine X.seq ?_
               refine X.seq ?_
               refine X.region ?_
               refine XL.cons (XOp.move (.int .i64 (heldF (m7 ++ m8.flatMap flatStep) (heldF (m5 ++ m6.flatMap flatStep) 1))) rfl ?_)
               refine XL.cons (XOp.move (.int .i64 ((1 + (((((joinF ar rs ((a)) ((b)) n).1)) ++ (((joinF ar rs ((a)) ((b)) n).2.1).flatMap flatStep)).length : Int)) + (((((joinF ar rs ((a)) ((b)) n).2.2.1)) ++ (((joinF ar rs ((a)) ((b)) n).2.2.2.1).flatMap flatStep)).length : Int))) rfl ?_)
               refine XL.cons (XOp.neq (a := heldF (m7 ++ m8.flatMap flatStep) (heldF (m5 ++ m6.flatMap flatStep) 1)) (b := (1 + (((((joinF ar rs ((a)) ((b)) n).1)) ++ (((joinF ar rs ((a)) ((b)) n).2.1).flatMap flatStep)).length : Int)) + (((((joinF ar rs ((a)) ((b)) n).2.2.1)) ++ (((joinF ar rs ((a)) ((b)) n).2.2.2.1).flatMap flatStep)).length : Int)) rfl rfl ?_)
               refine XL.nil ?_
               refine X.condF (congrArg Value.bool (decide_eq_false h13)) ?_
               refine X.skip ?_
               refine X.seq ?_
               refine X.region ?_
               refine XL.cons (XOp.assign (.bool (true)) rfl ?_)
               refine XL.nil ?_
               refine X.ret (retEnd (L' := L) [.bool (true)] (.bool (true)) (.tmp rfl .nil) rfl (FLe.refl _) (FLe.trans (FLe.trans (FLe.trans (FLe.trans (FLe.trans le2 le3) le4) le5) le6) le19) (Sub.drop (Sub.drop (Sub.drop (Sub.drop (Sub.drop (Sub.drop (Sub.drop (Sub.drop (Sub.drop (Sub.drop (Sub.drop (Sub.drop (Sub.drop (Sub.drop (Sub.drop (Sub.drop (Sub.drop (Sub.drop (Sub.drop (Sub.drop (Sub.drop (Sub.drop (Sub.drop (Sub.drop (Sub.drop (Sub.drop (Sub.refl _))))))))))))))))))))))))))) ?_)
               exact ⟨rfl, rfl, rfl⟩
end Go.Proofs.Ytiaanelimbmniaa
