/-
  Walks, one after the other (part 4).
-/
import Derived.Test.YtnloeeaidknblaaGreatQBL1
import Derived.Test.YtnloeeaidknblaaGreatQBB2
set_option linter.unusedSimpArgs false
set_option linter.unusedVariables false
namespace Go.Proofs.YtnloeeaidknblaaGreat
open Go X M

/- spec.l20End -/
theorem l20End_spec {F : FH} {L : List HP} {fv : Value} {f : List Int} (hf : IntsF F fv f) {nsv : Value} {ns : List MoveT} (hns : MovesF F nsv ns) (hlss : ns.length ≤ 4000000) :
    Does Tryz.prog 162 [.agg #[fv, nsv]] F (L) (fun v F' L' => F = F' ∧ ∃ (a : Value), (a : Value) = v ∧ (IntsF F' a (endM f ns)) ∧ L = L') := by
 refine Does.of_X Tryz.func162 rfl rfl rfl ?_
 refine X.seq (X.region ?_)
 refine XL.cons (XOp.box [fv, nsv] rfl rfl ?_)
 intro b1
 refine XL.as ((.slice none 0 0)) rfl ?_
 refine XL.nil (X.seq (X.seq (X.region ?_)))
 refine XL.cons (XOp.fieldP (b := b1) (1) Tryz.runUnderlying88 rfl Tryz.sizeOf86 (by decide) rfl rfl ?_)
 refine XL.cons (XOp.load1 (v := nsv) Tryz.isAgg86 rfl (Rd.own [] rfl rfl) ?_)
 refine XL.cons (XOp.lenS (v := nsv) (n := (ns).length) Tryz.runUnderlying86 rfl hns.slv ?_)
 refine XL.cons (XOp.eql (a := (ns.length : Int)) (b := 0) rfl rfl ?_)
 refine XL.nil ?_
 refine X.condD (p := ((ns.length : Int) : Int) = 0) rfl (fun h1 => ?_) (fun h1 => ?_)
 ·refine X.seq (X.region ?_)
  refine XL.cons (XOp.fieldP (b := b1) (0) Tryz.runUnderlying88 rfl Tryz.sizeOf22 (by decide) rfl rfl ?_)
  refine XL.cons (XOp.load1 (v := fv) Tryz.isAgg22 rfl (Rd.own [] rfl rfl) ?_)
  refine XL.as (fv) rfl ?_
  refine XL.nil ?_
  refine X.ret (thenQ_ret (retEnd (L' := L) [fv] (fv) (.tmp rfl .nil) rfl rF rF (Sub.drop sR) ?_))
  exact ⟨rfl, _, rfl, by rw [endM, if_pos (by omega)]; exact hf, rfl⟩
 ·refine X.skip (X.seq (X.region ?_))
  refine XL.cons (XOp.fieldP (b := b1) (1) Tryz.runUnderlying88 rfl Tryz.sizeOf86 (by decide) rfl rfl ?_)
  refine XL.cons (XOp.load1 (v := nsv) Tryz.isAgg86 rfl (Rd.own [] rfl rfl) ?_)
  refine XL.cons (XOp.fieldP (b := b1) (1) Tryz.runUnderlying88 rfl Tryz.sizeOf86 (by decide) rfl rfl ?_)
  refine XL.cons (XOp.load1 (v := nsv) Tryz.isAgg86 rfl (Rd.own [] rfl rfl) ?_)
  refine XL.cons (XOp.lenS (v := nsv) (n := (ns).length) Tryz.runUnderlying86 rfl hns.slv ?_)
  refine XL.cons (XOp.subR (a := (ns.length : Int)) (b := 1) (((((ns).length) - 1 : Nat) : Int)) rfl rfl (by omega) (by omega) ?_)
  refine XL.cons (XOp.indexS (v := nsv) (i := ((((ns).length) - 1 : Nat) : Int)) (n := (ns).length) (((ns).length) - 1) Tryz.runUnderlying86 Tryz.sizeOf195 rfl rfl rfl hns.slv (by omega) rfl ?_)
  refine XL.cons (XOp.fieldE (v := nsv) ((((ns).length) - 1) * 4 + 3) Tryz.runUnderlying195 rfl Tryz.sizeOf22 (by decide) rfl rfl ?_)
  obtain ⟨a1, ha1, hrg1, hq1⟩ := hns.rd (i := ((ns).length) - 1) (by omega)
  refine XL.cons (XOp.load1 (v := a1) Tryz.isAgg22 rfl (hrg1 _ 3 _ rfl) ?_)
  refine XL.as (a1) rfl ?_
  refine XL.nil ?_
  refine X.ret (retEnd (L' := L) [a1] (a1) (.tmp rfl .nil) rfl rF rF (Sub.drop sR) ?_)
  exact ⟨rfl, _, rfl, by rw [endM, if_neg (by omega)]; exact ha1, rfl⟩

/- spec.l20CopyMove -/
theorem l20CopyMove_spec {F : FH} {L : List HP} {i : Int} {j : Int} {k : Bool} {tv : Value} {t : List Int} (ht : IntsF F tv t) (hlt : t.length ≤ 4000000) :
    Does Tryz.prog 161 [.agg #[.int .i64 (i), .int .i64 (j), .bool (k), tv]] F (L) (fun v F' L' => ∃ (c : Value), (.agg #[.int .i64 (i), .int .i64 (j), .bool (k), c] : Value) = v ∧ (IntsF F' c t) ∧ L = L') := by
 refine Does.of_X Tryz.func161 rfl rfl rfl ?_
 refine X.seq (X.region ?_)
 refine XL.cons (XOp.box [.int .i64 (i), .int .i64 (j), .bool (k), tv] rfl rfl ?_)
 intro b1
 refine XL.cons (XOp.alloc [.int .i64 (0), .int .i64 (0), .bool (false), (.slice none 0 0)] Tryz.zeroValue195 rfl ?_)
 intro b2
 refine XL.nil (X.seq (X.region ?_))
 refine XL.cons (XOp.fieldP (b := b1) (3) Tryz.runUnderlying195 rfl Tryz.sizeOf22 (by decide) rfl rfl ?_)
 refine XL.cons (XOp.load1 (v := tv) Tryz.isAgg22 rfl (Rd.own [_] rfl rfl) ?_)
 refine XL.cons (XOp.frzF <| XOp.call (args := [tv]) Tryz.call67 rfl (l1Copy_spec ht (hlt := (by first | assumption | rfl | omega | simp))) ?_)
 rintro v1 _ _ _ ⟨rfl, hs1, rfl⟩
 refine ⟨_, _, rfl, fun F1 le1 hz1 => ?_⟩
 replace ht := ht.mono le1
 have hf1 : IntsF F1 v1 ((t)) := intsH.fz (xs := (t)) hz1.fz
 refine XL.cons (XOp.fieldP (b := b1) (3) Tryz.runUnderlying195 rfl Tryz.sizeOf22 (by decide) rfl rfl ?_)
 refine XL.cons (XOp.store1 (v := v1) [_] _ [.int .i64 (i), .int .i64 (j), .bool (k), v1] Tryz.sizeOf22 rfl rfl (one_sl (IntsF.isSl hf1)) rfl rfl rfl ?_)
 refine XL.nil (X.seq (X.region ?_))
 refine XL.cons (XOp.loadN [.int .i64 (i), .int .i64 (j), .bool (k), v1] Tryz.isAgg195 Tryz.sizeOf195 rfl rfl (Rd.ownN [_] rfl rfl) ?_)
 refine XL.cons (XOp.storeN (vs := [.int .i64 (i), .int .i64 (j), .bool (k), v1]) [] _ [.int .i64 (i), .int .i64 (j), .bool (k), v1] Tryz.sizeOf195 rfl rfl rfl (ones_cons rfl (ones_cons rfl (ones_cons rfl (ones_cons (one_sl (IntsF.isSl hf1)) ones_nil)))) rfl rfl rfl ?_)
 refine XL.nil ?_
 refine X.ret (retEnd (L' := L) [.agg #[.int .i64 (i), .int .i64 (j), .bool (k), v1]] (.agg #[.int .i64 (i), .int .i64 (j), .bool (k), v1]) (.cell rfl (loadNV [.int .i64 (i), .int .i64 (j), .bool (k), v1] Tryz.isAgg195 Tryz.sizeOf195 rfl (Rd.ownN [] rfl rfl)) .nil) rfl le1 rF (Sub.drop (Sub.drop sR)) ?_)
 exact ⟨_, rfl, hf1, rfl⟩

/- spec.l20Walk -/
set_option maxRecDepth 20000 in
theorem l20Walk_spec {F : FH} {L : List HP} {fv : Value} {f : List Int} (hf : IntsF F fv f) {xsv : Value} {xs : List StepT} (hxs : StepsF F xsv xs) (hlf : f.length ≤ 4000000) (hlx : xs.length ≤ 60) (hxb : ∀ i, i < xs.length → (xs.getD i (0, 0, [])).2.2.length ≤ 60) :
    Does Tryz.prog 101 [.agg #[fv, xsv]] F (L) (fun v F' L' => ∃ (a : Value), ∃ (b : Value), (.agg #[a, b] : Value) = v ∧ (IntsF F' a (f)) ∧ (MovesF F' b (chainL xs)) ∧ L = L') := by
 refine Does.of_X Tryz.func101 rfl rfl rfl ?_
 refine X.seq (X.region ?_)
 refine XL.cons (XOp.box [fv, xsv] rfl rfl ?_)
 intro b1
 refine XL.cons (XOp.alloc [(.slice none 0 0), (.slice none 0 0)] Tryz.zeroValue88 rfl ?_)
 intro b2
 refine XL.nil (X.seq (X.region ?_))
 refine XL.cons (XOp.fieldP (b := b1) (0) Tryz.runUnderlying45 rfl Tryz.sizeOf22 (by decide) rfl rfl ?_)
 refine XL.cons (XOp.load1 (v := fv) Tryz.isAgg22 rfl (Rd.own [_] rfl rfl) ?_)
 refine XL.cons (XOp.frzF <| XOp.call (args := [fv]) Tryz.call67 rfl (l1Copy_spec hf (hlt := (by first | assumption | rfl | omega | simp))) ?_)
 rintro v1 _ _ _ ⟨rfl, hs1, rfl⟩
 refine ⟨_, _, rfl, fun F1 le1 hz1 => ?_⟩
 replace hf := hf.mono le1
 replace hxs := hxs.mono le1
 have hf1 : IntsF F1 v1 ((f)) := intsH.fz (xs := (f)) hz1.fz
 refine XL.cons (XOp.build [v1, (.slice none 0 0)] [(.slice none 0 0), (.slice none 0 0)] [(0, 1), (1, 1)] [(0, [v1])] Tryz.runUnderlying88 Tryz.zeroValue88 rfl (.cons rfl Tryz.sizeOf22 (.cons rfl Tryz.sizeOf86 PlacesAre.nil)) rfl (.cons (cells_one (IntsF.isSl hf1)) CellsAre.nil) ?_)
 refine XL.cons (XOp.alloc [(.slice none 0 0), (.slice none 0 0)] Tryz.zeroValue88 rfl ?_)
 intro b3
 refine XL.cons (XOp.storeN (vs := [v1, (.slice none 0 0)]) [] _ [v1, (.slice none 0 0)] Tryz.sizeOf88 rfl rfl rfl (ones_cons (one_sl (IntsF.isSl hf1)) (ones_cons rfl ones_nil)) rfl rfl rfl ?_)
 refine XL.nil (X.seq (X.seq (X.region ?_)))
 refine XL.as (.int .i64 (0)) rfl ?_
 refine XL.nil (X.block ?_)
 refine X.loop (α := Nat × Value × List MoveT × List Value × Nat × FH) (fun xQ => [(1, ptr b1 0), (2, ptr b2 0), (3, ptr b3 0), (4, .int .i64 (((xQ.1 : Nat) : Int)))]) (fun xQ => slH 195 4 xQ.2.1 xQ.2.2.2.2.1 xQ.2.2.2.1 :: cellsH b3 [v1, xQ.2.1] 88 :: cellsH b2 [(.slice none 0 0), (.slice none 0 0)] 88 :: cellsH b1 [fv, xsv] 45 :: L) (fun xQ F' => xQ.2.2.2.2.2 = F' ∧ F1 ≤ xQ.2.2.2.2.2 ∧ (xQ.1 ≤ xs.length) ∧ (IsSl xQ.2.1) ∧ (MovesC xQ.2.2.2.2.2 xQ.2.2.2.1 xQ.2.2.1) ∧ (xQ.2.2.2.2.1 = xQ.2.2.1.length) ∧ (xQ.2.2.1 = chainL (xs.take xQ.1))) (fun xQ => xs.length - xQ.1) (0, (.slice none 0 0), [], [], 0, F1) ⟨rfl, rfl, rfl, rfl, trivial⟩ (Sub.trans (Sub.addNil 195 4 _ _) (Sub.cons (Sub.cons (Sub.cons (Sub.cons sR))))) ⟨rfl, FLe.refl _, (by (try dsimp only) <;> omega), (⟨_, _, _, rfl⟩), (CO.nil), (rfl), (rfl)⟩ ?_
 rintro ⟨k, sv, ms, cs, m, G1⟩ rE _ _ ⟨rfl, leG, hk, hsv, hC, hm, hms⟩
 show X _ _ _ _ (envs [(1, ptr b1 0), (2, ptr b2 0), (3, ptr b3 0), (4, .int .i64 ((k : Int)))] rE) _ (slH 195 4 sv m cs :: cellsH b3 [v1, sv] 88 :: cellsH b2 [(.slice none 0 0), (.slice none 0 0)] 88 :: cellsH b1 [fv, xsv] 45 :: L)
 replace leG : F1 ≤ G1 := leG
 dsimp only at hk hsv hC hm hms
 have hxk := hxb k
 have hml : ms.length = k := by rw [hms, chainL_len, List.length_take]; omega
 have leG1 := leG
 replace hf := hf.mono leG1
 replace hxs := hxs.mono leG1
 replace hf1 := hf1.mono leG1
 refine X.seq (X.seq (X.region ?_))
 refine XL.mv (.int .i64 ((k : Int))) rfl ?_
 refine XL.cons (XOp.fieldP (b := b1) (1) Tryz.runUnderlying45 rfl Tryz.sizeOf43 (by decide) rfl rfl ?_)
 refine XL.cons (XOp.load1 (v := xsv) Tryz.isAgg43 rfl (Rd.own [_, _, _] rfl rfl) ?_)
 refine XL.cons (XOp.lenS (v := xsv) (n := (xs).length) Tryz.runUnderlying43 rfl hxs.slv ?_)
 refine XL.cons (XOp.lss (a := (k : Int)) (b := (xs.length : Int)) rfl rfl ?_)
 refine XL.nil ?_
 refine X.condD (p := (k : Int) < (xs.length : Int)) rfl (fun h1 => ?_) (fun h1 => ?_)
 ·refine X.skip (X.seq (X.block (X.seq (X.region ?_))))
  refine XL.cons (XOp.fieldP (b := b1) (1) Tryz.runUnderlying45 rfl Tryz.sizeOf43 (by decide) rfl rfl ?_)
  refine XL.cons (XOp.load1 (v := xsv) Tryz.isAgg43 rfl (Rd.own [_, _, _] rfl rfl) ?_)
  refine XL.mv (.int .i64 ((k : Int))) rfl ?_
  refine XL.cons (XOp.indexS (v := xsv) (i := (k : Int)) (n := (xs).length) k Tryz.runUnderlying43 Tryz.sizeOf158 rfl rfl rfl hxs.slv (by omega) rfl ?_)
  obtain ⟨a1, ha1, hr1, hr2, hr3⟩ := hxs.rd (i := k) (by omega)
  refine XL.cons (XOp.loadN [.int .i64 ((xs.getD k (0, 0, [])).1), .int .i64 ((xs.getD k (0, 0, [])).2.1), a1] Tryz.isAgg158 Tryz.sizeOf158 rfl rfl (Rd.three (hr1 _) (hr2 _) (hr3 _)) ?_)
  refine XL.cons (XOp.alloc [.int .i64 (0), .int .i64 (0), (.slice none 0 0)] Tryz.zeroValue158 rfl ?_)
  intro b4
  refine XL.cons (XOp.storeN (vs := [.int .i64 ((xs.getD k (0, 0, [])).1), .int .i64 ((xs.getD k (0, 0, [])).2.1), a1]) [] _ [.int .i64 ((xs.getD k (0, 0, [])).1), .int .i64 ((xs.getD k (0, 0, [])).2.1), a1] Tryz.sizeOf158 rfl rfl rfl (ones_cons rfl (ones_cons rfl (ones_cons (one_sl (IntsF.isSl ha1)) ones_nil))) rfl rfl rfl ?_)
  refine XL.nil ?_
  refine X.drawG [cellsH b4 [.int .i64 ((xs.getD k (0, 0, [])).1), .int .i64 ((xs.getD k (0, 0, [])).2.1), a1] 158, slH 195 4 sv m cs, cellsH b3 [v1, sv] 88, cellsH b2 [(.slice none 0 0), (.slice none 0 0)] 88, cellsH b1 [fv, xsv] 45] L 11 [[], [], [], [], [], [], [], [], [], [8], [8]] [[], [0], [], [2], [], [4], [], [6], [7], [3, 5, 8], [8, 9]] [[], [], [], [], [], [], [], [], [], [], []] (phiG [fun FF us v => v = ptr b3 1, fun FF us v => v = sv, fun FF us v => v = ptr b4 1, fun FF us v => v = (.int .i64 ((xs.getD k (0, 0, [])).2.1) : Value), fun FF us v => v = ptr b4 0, fun FF us v => v = (.int .i64 ((xs.getD k (0, 0, [])).1) : Value), fun FF us v => v = ptr b4 2, fun FF us v => v = a1, fun FF us v => ((v) : Value) = v ∧ (IntsF FF (v) (((xs.getD k (0, 0, [])).2.2))), fun FF us v => v = (.agg #[.int .i64 ((xs.getD k (0, 0, [])).2.1), .int .i64 ((xs.getD k (0, 0, [])).1), .bool (false), ((us.getD 0 undef))] : Value), fun FF us v => ∃ b, v = .slice (some ⟨b, 0, none⟩) 1 1]) (ownL [fun us v => [], fun us v => [], fun us v => [], fun us v => [], fun us v => [], fun us v => [], fun us v => [], fun us v => [], fun us v => [], fun us v => [], fun us v => [slH 195 4 v 1 [.int .i64 ((xs.getD k (0, 0, [])).2.1), .int .i64 ((xs.getD k (0, 0, [])).1), .bool (false), ((us.getD 0 undef))]]]) mixed rfl rfl (by kernel_rfl) (by kernel_rfl) (MonoG.get (MonoG.cons (fun le h => h) (MonoG.cons (fun le h => h) (MonoG.cons (fun le h => h) (MonoG.cons (fun le h => h) (MonoG.cons (fun le h => h) (MonoG.cons (fun le h => h) (MonoG.cons (fun le h => h) (MonoG.cons (fun le h => h) (MonoG.cons (fun le h => ⟨h.1, h.2.mono le⟩) (MonoG.cons (fun le h => h) (MonoG.cons (fun le h => h) MonoG.nil)))))))))))) ?_ ?_
  ·refine stepsG.cons (fun vals Fs R leFs hpZ => ?_) ?_
   ·refine XG.op (XOp.fieldP (b := b3) (1) Tryz.runUnderlying88 rfl Tryz.sizeOf86 (by decide) rfl rfl ?_)
    exact ⟨rfl, rfl⟩
   refine stepsG.cons (fun vals Fs R leFs hpZ => ?_) ?_
   ·replace hf := hf.mono leFs
    replace hxs := hxs.mono leFs
    replace hf1 := hf1.mono leFs
    replace hC := hC.mono leFs
    replace ha1 := ha1.mono leFs
    replace hr1 := Rd.monoA hr1 leFs
    replace hr2 := Rd.monoA hr2 leFs
    replace hr3 := Rd.monoA hr3 leFs
    rw [eS (l := [(0, ptr b3 1)]) ⟨(hpZ 0 (by decide)), trivial⟩]
    refine XG.op (XOp.load1 (v := sv) Tryz.isAgg86 rfl (Rd.own [_, _] rfl rfl) ?_)
    exact ⟨rfl, rfl⟩
   refine stepsG.cons (fun vals Fs R leFs hpZ => ?_) ?_
   ·refine XG.op (XOp.fieldP (b := b4) (1) Tryz.runUnderlying158 rfl Tryz.sizeOf2 (by decide) rfl rfl ?_)
    exact ⟨rfl, rfl⟩
   refine stepsG.cons (fun vals Fs R leFs hpZ => ?_) ?_
   ·replace hf := hf.mono leFs
    replace hxs := hxs.mono leFs
    replace hf1 := hf1.mono leFs
    replace hC := hC.mono leFs
    replace ha1 := ha1.mono leFs
    replace hr1 := Rd.monoA hr1 leFs
    replace hr2 := Rd.monoA hr2 leFs
    replace hr3 := Rd.monoA hr3 leFs
    rw [eS (l := [(2, ptr b4 1)]) ⟨(hpZ 2 (by decide)), trivial⟩]
    refine XG.op (XOp.load1 (v := .int .i64 ((xs.getD k (0, 0, [])).2.1)) Tryz.isAgg2 rfl (Rd.own [] rfl rfl) ?_)
    exact ⟨rfl, rfl⟩
   refine stepsG.cons (fun vals Fs R leFs hpZ => ?_) ?_
   ·refine XG.op (XOp.fieldP (b := b4) (0) Tryz.runUnderlying158 rfl Tryz.sizeOf2 (by decide) rfl rfl ?_)
    exact ⟨rfl, rfl⟩
   refine stepsG.cons (fun vals Fs R leFs hpZ => ?_) ?_
   ·replace hf := hf.mono leFs
    replace hxs := hxs.mono leFs
    replace hf1 := hf1.mono leFs
    replace hC := hC.mono leFs
    replace ha1 := ha1.mono leFs
    replace hr1 := Rd.monoA hr1 leFs
    replace hr2 := Rd.monoA hr2 leFs
    replace hr3 := Rd.monoA hr3 leFs
    rw [eS (l := [(4, ptr b4 0)]) ⟨(hpZ 4 (by decide)), trivial⟩]
    refine XG.op (XOp.load1 (v := .int .i64 ((xs.getD k (0, 0, [])).1)) Tryz.isAgg2 rfl (Rd.own [] rfl rfl) ?_)
    exact ⟨rfl, rfl⟩
   refine stepsG.cons (fun vals Fs R leFs hpZ => ?_) ?_
   ·refine XG.op (XOp.fieldP (b := b4) (2) Tryz.runUnderlying158 rfl Tryz.sizeOf22 (by decide) rfl rfl ?_)
    exact ⟨rfl, rfl⟩
   refine stepsG.cons (fun vals Fs R leFs hpZ => ?_) ?_
   ·replace hf := hf.mono leFs
    replace hxs := hxs.mono leFs
    replace hf1 := hf1.mono leFs
    replace hC := hC.mono leFs
    replace ha1 := ha1.mono leFs
    replace hr1 := Rd.monoA hr1 leFs
    replace hr2 := Rd.monoA hr2 leFs
    replace hr3 := Rd.monoA hr3 leFs
    rw [eS (l := [(6, ptr b4 2)]) ⟨(hpZ 6 (by decide)), trivial⟩]
    refine XG.op (XOp.load1 (v := a1) Tryz.isAgg22 rfl (Rd.own [] rfl rfl) ?_)
    exact ⟨rfl, rfl⟩
   refine stepsG.cons (fun vals Fs R leFs hpZ => ?_) ?_
   ·replace hf := hf.mono leFs
    replace hxs := hxs.mono leFs
    replace hf1 := hf1.mono leFs
    replace hC := hC.mono leFs
    replace ha1 := ha1.mono leFs
    replace hr1 := Rd.monoA hr1 leFs
    replace hr2 := Rd.monoA hr2 leFs
    replace hr3 := Rd.monoA hr3 leFs
    rw [eS (l := [(7, a1)]) ⟨(hpZ 7 (by decide)), trivial⟩]
    refine XG.op (XOp.frzF <| XOp.call (args := [a1]) Tryz.call67 rfl (l1Copy_spec ha1 (hlt := (by first | assumption | rfl | omega | simp))) ?_)
    rintro v4 _ _ _ ⟨rfl, hs3, rfl⟩
    refine ⟨_, _, rfl, fun F2 le2 hz2 => ?_⟩
    replace hf := hf.mono le2
    replace hxs := hxs.mono le2
    replace hf1 := hf1.mono le2
    replace hC := hC.mono le2
    replace ha1 := ha1.mono le2
    replace hr1 := Rd.monoA hr1 le2
    replace hr2 := Rd.monoA hr2 le2
    replace hr3 := Rd.monoA hr3 le2
    have hf2 : IntsF F2 v4 ((((xs.getD k (0, 0, [])).2.2))) := intsH.fz (xs := (((xs.getD k (0, 0, [])).2.2))) hz2.fz
    exact ⟨⟨rfl, hf2⟩, rfl⟩
   refine stepsG.cons (fun vals Fs R leFs hpZ => ?_) ?_
   ·obtain ⟨e8, f8_1ha⟩ := hpZ 8 (by decide)
    replace hf := hf.mono leFs
    replace hxs := hxs.mono leFs
    replace hf1 := hf1.mono leFs
    replace hC := hC.mono leFs
    replace ha1 := ha1.mono leFs
    replace hr1 := Rd.monoA hr1 leFs
    replace hr2 := Rd.monoA hr2 leFs
    replace hr3 := Rd.monoA hr3 leFs
    rw [eS (l := [(3, (.int .i64 ((xs.getD k (0, 0, [])).2.1) : Value)), (5, (.int .i64 ((xs.getD k (0, 0, [])).1) : Value)), (8, ((vals 8)))]) ⟨(hpZ 3 (by decide)), (hpZ 5 (by decide)), (e8).symm, trivial⟩]
    refine XG.op (XOp.build [.int .i64 ((xs.getD k (0, 0, [])).2.1), .int .i64 ((xs.getD k (0, 0, [])).1), .bool (false), ((vals 8))] [.int .i64 (0), .int .i64 (0), .bool (false), (.slice none 0 0)] [(0, 1), (1, 1), (2, 1), (3, 1)] [(0, [.int .i64 ((xs.getD k (0, 0, [])).2.1)]), (1, [.int .i64 ((xs.getD k (0, 0, [])).1)]), (3, [((vals 8))])] Tryz.runUnderlying195 Tryz.zeroValue195 rfl (.cons rfl Tryz.sizeOf2 (.cons rfl Tryz.sizeOf2 (.cons rfl Tryz.sizeOf4 (.cons rfl Tryz.sizeOf22 PlacesAre.nil)))) rfl (.cons rfl (.cons rfl (.cons (cells_one (IntsF.isSl f8_1ha)) CellsAre.nil))) ?_)
    exact ⟨rfl, rfl⟩
   refine stepsG.cons (fun vals Fs R leFs hpZ => ?_) ?_
   ·obtain ⟨e8, f8_1ha⟩ := hpZ 8 (by decide)
    have e9 : vals 9 = (.agg #[.int .i64 ((xs.getD k (0, 0, [])).2.1), .int .i64 ((xs.getD k (0, 0, [])).1), .bool (false), ((vals 8))] : Value) := hpZ 9 (by decide)
    replace hf := hf.mono leFs
    replace hxs := hxs.mono leFs
    replace hf1 := hf1.mono leFs
    replace hC := hC.mono leFs
    replace ha1 := ha1.mono leFs
    replace hr1 := Rd.monoA hr1 leFs
    replace hr2 := Rd.monoA hr2 leFs
    replace hr3 := Rd.monoA hr3 leFs
    rw [eS (l := [(8, ((vals 8))), (9, (.agg #[.int .i64 ((xs.getD k (0, 0, [])).2.1), .int .i64 ((xs.getD k (0, 0, [])).1), .bool (false), ((vals 8))] : Value))]) ⟨(e8).symm, e9, trivial⟩]
    refine XG.op (XOp.buildSlice (s := 4) [.int .i64 ((xs.getD k (0, 0, [])).2.1), .int .i64 ((xs.getD k (0, 0, [])).1), .bool (false), ((vals 8))] [.int .i64 (0), .int .i64 (0), .bool (false), (.slice none 0 0)] [(0, [.int .i64 ((xs.getD k (0, 0, [])).2.1), .int .i64 ((xs.getD k (0, 0, [])).1), .bool (false), ((vals 8))])] Tryz.runUnderlying86 Tryz.sizeOf195 Tryz.zeroValue195 rfl (by decide) rfl (.cons rfl CellsAre.nil) rfl ?_)
    intro v5 hv2
    exact ⟨hv2, rfl⟩
   exact stepsG.nil
  ·intro vals F3 le3 hphi
   obtain ⟨e8, f8_1ha⟩ := hphi 8 (by decide)
   have e9 : vals 9 = (.agg #[.int .i64 ((xs.getD k (0, 0, [])).2.1), .int .i64 ((xs.getD k (0, 0, [])).1), .bool (false), ((vals 8))] : Value) := hphi 9 (by decide)
   have f10 : ∃ b, (vals 10) = .slice (some ⟨b, 0, none⟩) 1 1 := hphi 10 (by decide)
   generalize hu1 : ((vals 8)) = u1 at e8 f8_1ha e9 f10
   generalize hu10 : vals 10 = u2 at e8 f8_1ha e9 f10
   rw [eS (l := [(0, ptr b3 1), (1, sv), (2, ptr b4 1), (3, (.int .i64 ((xs.getD k (0, 0, [])).2.1) : Value)), (4, ptr b4 0), (5, (.int .i64 ((xs.getD k (0, 0, [])).1) : Value)), (6, ptr b4 2), (7, a1), (8, u1), (9, (.agg #[.int .i64 ((xs.getD k (0, 0, [])).2.1), .int .i64 ((xs.getD k (0, 0, [])).1), .bool (false), u1] : Value)), (10, u2)]) ⟨(hphi 0 (by decide)), (hphi 1 (by decide)), (hphi 2 (by decide)), (hphi 3 (by decide)), (hphi 4 (by decide)), (hphi 5 (by decide)), (hphi 6 (by decide)), (hphi 7 (by decide)), hu1, e9, hu10, trivial⟩]
   replace hf := hf.mono le3
   replace hxs := hxs.mono le3
   replace hf1 := hf1.mono le3
   replace hC := hC.mono le3
   replace ha1 := ha1.mono le3
   replace hr1 := Rd.monoA hr1 le3
   replace hr2 := Rd.monoA hr2 le3
   replace hr3 := Rd.monoA hr3 le3
   show XL _ _ _ _ _ _ _ (slH 195 4 u2 1 [.int .i64 ((xs.getD k (0, 0, [])).2.1), .int .i64 ((xs.getD k (0, 0, [])).1), .bool (false), u1] :: cellsH b4 [.int .i64 ((xs.getD k (0, 0, [])).1), .int .i64 ((xs.getD k (0, 0, [])).2.1), a1] 158 :: slH 195 4 sv m cs :: cellsH b3 [v1, sv] 88 :: cellsH b2 [(.slice none 0 0), (.slice none 0 0)] 88 :: cellsH b1 [fv, xsv] 45 :: L)
   refine XL.cons (XOp.append (m := 1) (bytes := 48) (cs := cs) [_, _] _ [.int .i64 ((xs.getD k (0, 0, [])).2.1), .int .i64 ((xs.getD k (0, 0, [])).1), .bool (false), u1] Tryz.runUnderlying86 Tryz.typeInfo195 rfl rfl rfl rfl rfl rfl rfl (SlV.own [] rfl) rfl (Rd.lit [] rfl) (ones_cons rfl (ones_cons rfl (ones_cons rfl (ones_cons (one_sl (IntsF.isSl f8_1ha)) ones_nil)))) (by (try simp only [List.length_append, List.length_nil, List.length_cons, List.length_singleton]); omega) (by (try simp only [List.length_append, List.length_nil, List.length_cons, List.length_singleton]); omega) ?_)
   intro v6 hs4 hn1 hm1
   have hc1 := MovesC.snoc hC (y0 := (xs.getD k (0, 0, [])).2.1) (y1 := (xs.getD k (0, 0, [])).1) (y2 := false) (y3 := (((xs.getD k (0, 0, [])).2.2))) f8_1ha
   refine XL.cons (XOp.fieldP (b := b3) (1) Tryz.runUnderlying88 rfl Tryz.sizeOf86 (by decide) rfl rfl ?_)
   refine XL.cons (XOp.store1 (v := v6) [_, _, _] _ [v1, v6] Tryz.sizeOf86 rfl rfl (one_sl hs4) rfl rfl rfl ?_)
   refine XL.nil (X.region ?_)
   refine XL.mv (.int .i64 ((k : Int))) rfl ?_
   refine XL.cons (XOp.addR (a := (k : Int)) (b := 1) (((k + 1 : Nat) : Int)) rfl rfl (by omega) (by omega) ?_)
   refine XL.as (.int .i64 (((k + 1 : Nat) : Int))) rfl ?_
   refine XL.nil ?_
   exact ⟨(k + 1, v6, ms ++ [((xs.getD k (0, 0, [])).2.1, (xs.getD k (0, 0, [])).1, false, (((xs.getD k (0, 0, [])).2.2)))], cs ++ [.int .i64 ((xs.getD k (0, 0, [])).2.1), .int .i64 ((xs.getD k (0, 0, [])).1), .bool (false), u1], (m) + 1, F3), _, (FLe.trans leG1 le3), rF, ⟨rfl, rfl, rfl, rfl, trivial⟩, (Sub.drop (Sub.drop (Sub.cons (Sub.cons (Sub.cons (Sub.cons sR)))))), ⟨rfl, (FLe.trans leG1 le3), (by (try dsimp only) <;> omega), (hs4), (hc1), (by (try dsimp only); rw [List.length_append]; simp only [List.length_singleton]; omega), (by (try dsimp only); rw [chainL_succ (by omega), ← hms]; rfl)⟩, (by omega)⟩
 ·refine X.exit (thenQ_exit (thenQ_exit (blockQ_exit ?_)))
  refine X.seq (X.region ?_)
  refine XL.cons (XOp.loadN [v1, sv] Tryz.isAgg88 Tryz.sizeOf88 rfl rfl (Rd.ownN [_] rfl rfl) ?_)
  refine XL.cons (XOp.storeN (vs := [v1, sv]) [_, _] _ [v1, sv] Tryz.sizeOf88 rfl rfl rfl (ones_cons (one_sl (IntsF.isSl hf1)) (ones_cons (one_sl hsv) ones_nil)) rfl rfl rfl ?_)
  refine XL.nil ?_
  refine X.freezeF [] _ _ rfl (fun F4 le4 hz3 => ?_)
  replace hf := hf.mono le4
  replace hxs := hxs.mono le4
  replace hf1 := hf1.mono le4
  replace hC := hC.mono le4
  have hf3 : MovesF F4 sv ms := CO.fz hC (by first | rfl | simp | omega) hz3.fz
  refine X.ret (retEnd (L' := L) [.agg #[v1, sv]] (.agg #[v1, sv]) (.cell rfl (loadNV [v1, sv] Tryz.isAgg88 Tryz.sizeOf88 rfl (Rd.ownN [_] rfl rfl)) .nil) rfl (FLe.trans (FLe.trans le1 leG1) le4) rF (Sub.drop (Sub.drop (Sub.drop sR))) ?_)
  have e9 : ms = chainL xs := by rw [hms, show k = xs.length from by omega, List.take_length]
  rw [← e9]
  exact ⟨_, _, rfl, hf1, hf3, rfl⟩

/- spec.l20Turn -/
set_option maxRecDepth 20000 in
theorem l20Turn_spec {F : FH} {L : List HP} {fv : Value} {f : List Int} (hf : IntsF F fv f) {nsv : Value} {ns : List MoveT} (hns : MovesF F nsv ns) (hlf : f.length ≤ 60) (hln : ns.length ≤ 60) (hnb : ∀ i, i < ns.length → (ns.getD i (0, 0, false, [])).2.2.2.length ≤ 60) :
    Does Tryz.prog 102 [.agg #[fv, nsv]] F (L) (fun v F' L' => ∃ (a : Value), ∃ (b : Value), (.agg #[a, b] : Value) = v ∧ (IntsF F' a (endM f ns)) ∧ (MovesF F' b (turnL f ns)) ∧ L = L') := by
 refine Does.of_X Tryz.func102 rfl rfl rfl ?_
 have hel : (endM f ns).length ≤ 60 := by unfold endM; split <;> first | exact hlf | exact hnb _ (by omega)
 refine X.seq (X.region ?_)
 refine XL.cons (XOp.box [fv, nsv] rfl rfl ?_)
 intro b1
 refine XL.cons (XOp.alloc [(.slice none 0 0), (.slice none 0 0)] Tryz.zeroValue88 rfl ?_)
 intro b2
 refine XL.nil (X.seq (X.region ?_))
 refine XL.cons (XOp.loadN [fv, nsv] Tryz.isAgg88 Tryz.sizeOf88 rfl rfl (Rd.ownN [_] rfl rfl) ?_)
 refine XL.cons (XOp.call (args := [.agg #[fv, nsv]]) Tryz.call162 rfl (l20End_spec hf hns (hlss := (by first | assumption | rfl | omega | simp))) ?_)
 rintro _ _ _ _ ⟨rfl, x1, rfl, hr1, rfl⟩
 refine XL.cons (XOp.frzF <| XOp.call (args := [x1]) Tryz.call67 rfl (l1Copy_spec hr1 (hlt := (by first | assumption | rfl | omega | simp))) ?_)
 rintro v1 _ _ _ ⟨rfl, hs1, rfl⟩
 refine ⟨_, _, rfl, fun F2 le2 hz1 => ?_⟩
 replace hf := hf.mono le2
 replace hns := hns.mono le2
 replace hr1 := hr1.mono le2
 have hf1 : IntsF F2 v1 (((endM f ns))) := intsH.fz (xs := ((endM f ns))) hz1.fz
 refine XL.cons (XOp.build [v1, (.slice none 0 0)] [(.slice none 0 0), (.slice none 0 0)] [(0, 1), (1, 1)] [(0, [v1])] Tryz.runUnderlying88 Tryz.zeroValue88 rfl (.cons rfl Tryz.sizeOf22 (.cons rfl Tryz.sizeOf86 PlacesAre.nil)) rfl (.cons (cells_one (IntsF.isSl hf1)) CellsAre.nil) ?_)
 refine XL.cons (XOp.alloc [(.slice none 0 0), (.slice none 0 0)] Tryz.zeroValue88 rfl ?_)
 intro b3
 refine XL.cons (XOp.storeN (vs := [v1, (.slice none 0 0)]) [] _ [v1, (.slice none 0 0)] Tryz.sizeOf88 rfl rfl rfl (ones_cons (one_sl (IntsF.isSl hf1)) (ones_cons rfl ones_nil)) rfl rfl rfl ?_)
 refine XL.nil (X.seq (X.seq (X.region ?_)))
 refine XL.cons (XOp.fieldP (b := b1) (1) Tryz.runUnderlying88 rfl Tryz.sizeOf86 (by decide) rfl rfl ?_)
 refine XL.cons (XOp.load1 (v := nsv) Tryz.isAgg86 rfl (Rd.own [_, _] rfl rfl) ?_)
 refine XL.cons (XOp.lenS (v := nsv) (n := (ns).length) Tryz.runUnderlying86 rfl hns.slv ?_)
 refine XL.cons (XOp.subR (a := (ns.length : Int)) (b := 1) (((ns.length : Int)) - 1) rfl rfl (by omega) (by omega) ?_)
 refine XL.as (.int .i64 (((ns.length : Int)) - 1)) rfl ?_
 refine XL.nil (X.block ?_)
 refine X.loop (α := Nat × Value × List MoveT × List Value × Nat × FH) (fun xQ => [(1, ptr b1 0), (2, ptr b2 0), (3, ptr b3 0), (4, .int .i64 ((xQ.1 : Int) - 1))]) (fun xQ => slH 195 4 xQ.2.1 xQ.2.2.2.2.1 xQ.2.2.2.1 :: cellsH b3 [v1, xQ.2.1] 88 :: cellsH b2 [(.slice none 0 0), (.slice none 0 0)] 88 :: cellsH b1 [fv, nsv] 88 :: L) (fun xQ F' => xQ.2.2.2.2.2 = F' ∧ F2 ≤ xQ.2.2.2.2.2 ∧ (xQ.1 ≤ ns.length) ∧ (IsSl xQ.2.1) ∧ (MovesC xQ.2.2.2.2.2 xQ.2.2.2.1 xQ.2.2.1) ∧ (xQ.2.2.2.2.1 = xQ.2.2.1.length) ∧ (xQ.2.2.1 = turnTo f ns xQ.1)) (fun xQ => xQ.1) (ns.length, (.slice none 0 0), [], [], 0, F2) ⟨rfl, rfl, rfl, (vI (by (try dsimp only) <;> omega)), trivial⟩ (Sub.trans (Sub.addNil 195 4 _ _) (Sub.cons (Sub.cons (Sub.cons (Sub.cons sR))))) ⟨rfl, FLe.refl _, (Nat.le_refl _), (⟨_, _, _, rfl⟩), (CO.nil), (rfl), (turnTo_start.symm)⟩ ?_
 rintro ⟨j, sv, ms, cs, m, G1⟩ rE _ _ ⟨rfl, leG, hj, hsv, hC, hm, hms⟩
 show X _ _ _ _ (envs [(1, ptr b1 0), (2, ptr b2 0), (3, ptr b3 0), (4, .int .i64 ((j : Int) - 1))] rE) _ (slH 195 4 sv m cs :: cellsH b3 [v1, sv] 88 :: cellsH b2 [(.slice none 0 0), (.slice none 0 0)] 88 :: cellsH b1 [fv, nsv] 88 :: L)
 replace leG : F2 ≤ G1 := leG
 dsimp only at hj hsv hC hm hms
 have hj0 := fun (h : 0 < j) => (show ((j : Int) - 1).toNat = j - 1 by omega)
 have hj1 := fun (h : 1 < j) => (show ((j : Int) - 1 - 1).toNat = j - 1 - 1 by omega)
 have hnk := hnb ((j : Int) - 1).toNat
 have hnk2 := hnb ((j : Int) - 1 - 1).toNat
 have hml : ms.length ≤ 60 := by rw [hms]; unfold turnTo; simp; omega
 have leG1 := leG
 replace hf := hf.mono leG1
 replace hns := hns.mono leG1
 replace hr1 := hr1.mono leG1
 replace hf1 := hf1.mono leG1
 refine X.seq (X.seq (X.region ?_))
 refine XL.mv (.int .i64 ((j : Int) - 1)) rfl ?_
 refine XL.cons (XOp.geq (a := (j : Int) - 1) (b := 0) rfl rfl ?_)
 refine XL.nil ?_
 refine X.condD (p := ((j : Int) - 1 : Int) ≥ 0) rfl (fun h1 => ?_) (fun h1 => ?_)
 ·refine X.skip (X.seq (X.block (X.seq (X.region ?_))))
  refine XL.cons (XOp.fieldP (b := b1) (1) Tryz.runUnderlying88 rfl Tryz.sizeOf86 (by decide) rfl rfl ?_)
  refine XL.cons (XOp.load1 (v := nsv) Tryz.isAgg86 rfl (Rd.own [_, _, _] rfl rfl) ?_)
  refine XL.mv (.int .i64 ((j : Int) - 1)) rfl ?_
  refine XL.cons (XOp.indexS (v := nsv) (i := (j : Int) - 1) (n := (ns).length) (((j : Int) - 1).toNat) Tryz.runUnderlying86 Tryz.sizeOf195 rfl rfl (by omega) hns.slv (by omega) rfl ?_)
  obtain ⟨a1, ha1, hrg1, hq1⟩ := hns.rd (i := ((j : Int) - 1).toNat) (by omega)
  refine XL.cons (XOp.loadN [.int .i64 ((ns.getD (((j : Int) - 1).toNat) (0, 0, false, [])).1), .int .i64 ((ns.getD (((j : Int) - 1).toNat) (0, 0, false, [])).2.1), .bool ((ns.getD (((j : Int) - 1).toNat) (0, 0, false, [])).2.2.1), a1] Tryz.isAgg195 Tryz.sizeOf195 rfl rfl (Rd.all (hrg1 _)) ?_)
  refine XL.cons (XOp.alloc [.int .i64 (0), .int .i64 (0), .bool (false), (.slice none 0 0)] Tryz.zeroValue195 rfl ?_)
  intro b4
  refine XL.cons (XOp.storeN (vs := [.int .i64 ((ns.getD (((j : Int) - 1).toNat) (0, 0, false, [])).1), .int .i64 ((ns.getD (((j : Int) - 1).toNat) (0, 0, false, [])).2.1), .bool ((ns.getD (((j : Int) - 1).toNat) (0, 0, false, [])).2.2.1), a1]) [] _ [.int .i64 ((ns.getD (((j : Int) - 1).toNat) (0, 0, false, [])).1), .int .i64 ((ns.getD (((j : Int) - 1).toNat) (0, 0, false, [])).2.1), .bool ((ns.getD (((j : Int) - 1).toNat) (0, 0, false, [])).2.2.1), a1] Tryz.sizeOf195 rfl rfl rfl (ones_cons rfl (ones_cons rfl (ones_cons rfl (ones_cons (one_sl (IntsF.isSl ha1)) ones_nil)))) rfl rfl rfl ?_)
  refine XL.nil (X.seq (X.region ?_))
  refine XL.cons (XOp.fieldP (b := b4) (2) Tryz.runUnderlying195 rfl Tryz.sizeOf4 (by decide) rfl rfl ?_)
  refine XL.cons (XOp.load1 (v := .bool ((ns.getD (((j : Int) - 1).toNat) (0, 0, false, [])).2.2.1)) Tryz.isAgg4 rfl (Rd.own [] rfl rfl) ?_)
  refine XL.cons (XOp.notB (b := (ns.getD (((j : Int) - 1).toNat) (0, 0, false, [])).2.2.1) rfl ?_)
  refine XL.cons (XOp.fieldP (b := b4) (2) Tryz.runUnderlying195 rfl Tryz.sizeOf4 (by decide) rfl rfl ?_)
  refine XL.cons (XOp.store1 (v := .bool (!((ns.getD (((j : Int) - 1).toNat) (0, 0, false, [])).2.2.1))) [] _ [.int .i64 ((ns.getD (((j : Int) - 1).toNat) (0, 0, false, [])).1), .int .i64 ((ns.getD (((j : Int) - 1).toNat) (0, 0, false, [])).2.1), .bool (!((ns.getD (((j : Int) - 1).toNat) (0, 0, false, [])).2.2.1)), a1] Tryz.sizeOf4 rfl rfl rfl rfl rfl rfl ?_)
  refine XL.nil (X.seq (X.region ?_))
  refine XL.cons (XOp.fieldP (b := b1) (0) Tryz.runUnderlying88 rfl Tryz.sizeOf22 (by decide) rfl rfl ?_)
  refine XL.cons (XOp.load1 (v := fv) Tryz.isAgg22 rfl (Rd.own [_, _, _, _] rfl rfl) ?_)
  refine XL.cons (XOp.fieldP (b := b4) (3) Tryz.runUnderlying195 rfl Tryz.sizeOf22 (by decide) rfl rfl ?_)
  refine XL.cons (XOp.store1 (v := fv) [] _ [.int .i64 ((ns.getD (((j : Int) - 1).toNat) (0, 0, false, [])).1), .int .i64 ((ns.getD (((j : Int) - 1).toNat) (0, 0, false, [])).2.1), .bool (!((ns.getD (((j : Int) - 1).toNat) (0, 0, false, [])).2.2.1)), fv] Tryz.sizeOf22 rfl rfl (one_sl (IntsF.isSl hf)) rfl rfl rfl ?_)
  refine XL.nil (X.seq (X.seq (X.region ?_)))
  refine XL.mv (.int .i64 ((j : Int) - 1)) rfl ?_
  refine XL.cons (XOp.gtr (a := (j : Int) - 1) (b := 0) rfl rfl ?_)
  refine XL.nil ?_
  refine X.condD (p := ((j : Int) - 1 : Int) > 0) rfl (fun h2 => ?_) (fun h2 => ?_)
  ·refine X.region ?_
   refine XL.cons (XOp.fieldP (b := b1) (1) Tryz.runUnderlying88 rfl Tryz.sizeOf86 (by decide) rfl rfl ?_)
   refine XL.cons (XOp.load1 (v := nsv) Tryz.isAgg86 rfl (Rd.own [_, _, _, _] rfl rfl) ?_)
   refine XL.mv (.int .i64 ((j : Int) - 1)) rfl ?_
   refine XL.cons (XOp.subR (a := (j : Int) - 1) (b := 1) (((j : Int) - 1) - 1) rfl rfl (by omega) (by omega) ?_)
   refine XL.cons (XOp.indexS (v := nsv) (i := ((j : Int) - 1) - 1) (n := (ns).length) ((((j : Int) - 1) - 1).toNat) Tryz.runUnderlying86 Tryz.sizeOf195 rfl rfl (by omega) hns.slv (by omega) rfl ?_)
   refine XL.cons (XOp.fieldE (v := nsv) (((((j : Int) - 1) - 1).toNat) * 4 + 3) Tryz.runUnderlying195 rfl Tryz.sizeOf22 (by decide) rfl rfl ?_)
   obtain ⟨a2, ha2, hrg2, hq2⟩ := hns.rd (i := (((j : Int) - 1) - 1).toNat) (by omega)
   refine XL.cons (XOp.load1 (v := a2) Tryz.isAgg22 rfl (hrg2 _ 3 _ rfl) ?_)
   refine XL.cons (XOp.fieldP (b := b4) (3) Tryz.runUnderlying195 rfl Tryz.sizeOf22 (by decide) rfl rfl ?_)
   refine XL.cons (XOp.store1 (v := a2) [] _ [.int .i64 ((ns.getD (((j : Int) - 1).toNat) (0, 0, false, [])).1), .int .i64 ((ns.getD (((j : Int) - 1).toNat) (0, 0, false, [])).2.1), .bool (!((ns.getD (((j : Int) - 1).toNat) (0, 0, false, [])).2.2.1)), a2] Tryz.sizeOf22 rfl rfl (one_sl (IntsF.isSl ha2)) rfl rfl rfl ?_)
   refine XL.nil ?_
   refine X.drawG [cellsH b4 [.int .i64 ((ns.getD (((j : Int) - 1).toNat) (0, 0, false, [])).1), .int .i64 ((ns.getD (((j : Int) - 1).toNat) (0, 0, false, [])).2.1), .bool (!((ns.getD (((j : Int) - 1).toNat) (0, 0, false, [])).2.2.1)), a2] 195, slH 195 4 sv m cs, cellsH b3 [v1, sv] 88, cellsH b2 [(.slice none 0 0), (.slice none 0 0)] 88, cellsH b1 [fv, nsv] 88] L 5 [[], [], [], [], [3]] [[], [0], [], [2], [3]] [[], [], [], [], []] (phiG [fun FF us v => v = ptr b3 1, fun FF us v => v = sv, fun FF us v => v = (.agg #[.int .i64 ((ns.getD (((j : Int) - 1).toNat) (0, 0, false, [])).1), .int .i64 ((ns.getD (((j : Int) - 1).toNat) (0, 0, false, [])).2.1), .bool (!((ns.getD (((j : Int) - 1).toNat) (0, 0, false, [])).2.2.1)), a2] : Value), fun FF us v => (.agg #[.int .i64 (((ns.getD (((j : Int) - 1).toNat) (0, 0, false, [])).1)), .int .i64 (((ns.getD (((j : Int) - 1).toNat) (0, 0, false, [])).2.1)), .bool ((!((ns.getD (((j : Int) - 1).toNat) (0, 0, false, [])).2.2.1))), ((aggAt v 3))] : Value) = v ∧ (IntsF FF ((aggAt v 3)) ((ns.getD ((((j : Int) - 1) - 1).toNat) (0, 0, false, [])).2.2.2)), fun FF us v => ∃ b, v = .slice (some ⟨b, 0, none⟩) 1 1]) (ownL [fun us v => [], fun us v => [], fun us v => [], fun us v => [], fun us v => [slH 195 4 v 1 [.int .i64 (((ns.getD (((j : Int) - 1).toNat) (0, 0, false, [])).1)), .int .i64 (((ns.getD (((j : Int) - 1).toNat) (0, 0, false, [])).2.1)), .bool ((!((ns.getD (((j : Int) - 1).toNat) (0, 0, false, [])).2.2.1))), ((aggAt (us.getD 0 undef) 3))]]]) mixed rfl rfl (by kernel_rfl) (by kernel_rfl) (MonoG.get (MonoG.cons (fun le h => h) (MonoG.cons (fun le h => h) (MonoG.cons (fun le h => h) (MonoG.cons (fun le h => ⟨h.1, h.2.mono le⟩) (MonoG.cons (fun le h => h) MonoG.nil)))))) ?_ ?_
   ·refine stepsG.cons (fun vals Fs R leFs hpZ => ?_) ?_
    ·refine XG.op (XOp.fieldP (b := b3) (1) Tryz.runUnderlying88 rfl Tryz.sizeOf86 (by decide) rfl rfl ?_)
     exact ⟨rfl, rfl⟩
    refine stepsG.cons (fun vals Fs R leFs hpZ => ?_) ?_
    ·replace hf := hf.mono leFs
     replace hns := hns.mono leFs
     replace hr1 := hr1.mono leFs
     replace hf1 := hf1.mono leFs
     replace hC := hC.mono leFs
     replace ha1 := ha1.mono leFs
     replace ha2 := ha2.mono leFs
     replace hrg1 := fun L9 j9 u9 h9 => Rd.mono (hrg1 L9 j9 u9 h9) leFs
     replace hrg2 := fun L9 j9 u9 h9 => Rd.mono (hrg2 L9 j9 u9 h9) leFs
     rw [eS (l := [(0, ptr b3 1)]) ⟨(hpZ 0 (by decide)), trivial⟩]
     refine XG.op (XOp.load1 (v := sv) Tryz.isAgg86 rfl (Rd.own [_, _] rfl rfl) ?_)
     exact ⟨rfl, rfl⟩
    refine stepsG.cons (fun vals Fs R leFs hpZ => ?_) ?_
    ·replace hf := hf.mono leFs
     replace hns := hns.mono leFs
     replace hr1 := hr1.mono leFs
     replace hf1 := hf1.mono leFs
     replace hC := hC.mono leFs
     replace ha1 := ha1.mono leFs
     replace ha2 := ha2.mono leFs
     replace hrg1 := fun L9 j9 u9 h9 => Rd.mono (hrg1 L9 j9 u9 h9) leFs
     replace hrg2 := fun L9 j9 u9 h9 => Rd.mono (hrg2 L9 j9 u9 h9) leFs
     refine XG.op (XOp.loadN [.int .i64 ((ns.getD (((j : Int) - 1).toNat) (0, 0, false, [])).1), .int .i64 ((ns.getD (((j : Int) - 1).toNat) (0, 0, false, [])).2.1), .bool (!((ns.getD (((j : Int) - 1).toNat) (0, 0, false, [])).2.2.1)), a2] Tryz.isAgg195 Tryz.sizeOf195 rfl rfl (Rd.ownN [] rfl rfl) ?_)
     exact ⟨rfl, rfl⟩
    refine stepsG.cons (fun vals Fs R leFs hpZ => ?_) ?_
    ·replace hf := hf.mono leFs
     replace hns := hns.mono leFs
     replace hr1 := hr1.mono leFs
     replace hf1 := hf1.mono leFs
     replace hC := hC.mono leFs
     replace ha1 := ha1.mono leFs
     replace ha2 := ha2.mono leFs
     replace hrg1 := fun L9 j9 u9 h9 => Rd.mono (hrg1 L9 j9 u9 h9) leFs
     replace hrg2 := fun L9 j9 u9 h9 => Rd.mono (hrg2 L9 j9 u9 h9) leFs
     rw [eS (l := [(2, (.agg #[.int .i64 ((ns.getD (((j : Int) - 1).toNat) (0, 0, false, [])).1), .int .i64 ((ns.getD (((j : Int) - 1).toNat) (0, 0, false, [])).2.1), .bool (!((ns.getD (((j : Int) - 1).toNat) (0, 0, false, [])).2.2.1)), a2] : Value))]) ⟨(hpZ 2 (by decide)), trivial⟩]
     refine XG.op (XOp.call (args := [.agg #[.int .i64 ((ns.getD (((j : Int) - 1).toNat) (0, 0, false, [])).1), .int .i64 ((ns.getD (((j : Int) - 1).toNat) (0, 0, false, [])).2.1), .bool (!((ns.getD (((j : Int) - 1).toNat) (0, 0, false, [])).2.2.1)), a2]]) Tryz.call161 rfl (l20CopyMove_spec ha2 (hlt := (by first | assumption | rfl | omega | simp))) ?_)
     rintro _ F4 _ le4 ⟨x3, rfl, hr3, rfl⟩
     replace hf := hf.mono le4
     replace hns := hns.mono le4
     replace hr1 := hr1.mono le4
     replace hf1 := hf1.mono le4
     replace hC := hC.mono le4
     replace ha1 := ha1.mono le4
     replace ha2 := ha2.mono le4
     replace hrg1 := fun L9 j9 u9 h9 => Rd.mono (hrg1 L9 j9 u9 h9) le4
     replace hrg2 := fun L9 j9 u9 h9 => Rd.mono (hrg2 L9 j9 u9 h9) le4
     exact ⟨⟨rfl, hr3⟩, rfl⟩
    refine stepsG.cons (fun vals Fs R leFs hpZ => ?_) ?_
    ·obtain ⟨e3, f3_1hr⟩ := hpZ 3 (by decide)
     replace hf := hf.mono leFs
     replace hns := hns.mono leFs
     replace hr1 := hr1.mono leFs
     replace hf1 := hf1.mono leFs
     replace hC := hC.mono leFs
     replace ha1 := ha1.mono leFs
     replace ha2 := ha2.mono leFs
     replace hrg1 := fun L9 j9 u9 h9 => Rd.mono (hrg1 L9 j9 u9 h9) leFs
     replace hrg2 := fun L9 j9 u9 h9 => Rd.mono (hrg2 L9 j9 u9 h9) leFs
     rw [eS (l := [(3, (.agg #[.int .i64 (((ns.getD (((j : Int) - 1).toNat) (0, 0, false, [])).1)), .int .i64 (((ns.getD (((j : Int) - 1).toNat) (0, 0, false, [])).2.1)), .bool ((!((ns.getD (((j : Int) - 1).toNat) (0, 0, false, [])).2.2.1))), ((aggAt (vals 3) 3))] : Value))]) ⟨(e3).symm, trivial⟩]
     refine XG.op (XOp.buildSlice (s := 4) [.int .i64 (((ns.getD (((j : Int) - 1).toNat) (0, 0, false, [])).1)), .int .i64 (((ns.getD (((j : Int) - 1).toNat) (0, 0, false, [])).2.1)), .bool ((!((ns.getD (((j : Int) - 1).toNat) (0, 0, false, [])).2.2.1))), ((aggAt (vals 3) 3))] [.int .i64 (0), .int .i64 (0), .bool (false), (.slice none 0 0)] [(0, [.int .i64 (((ns.getD (((j : Int) - 1).toNat) (0, 0, false, [])).1)), .int .i64 (((ns.getD (((j : Int) - 1).toNat) (0, 0, false, [])).2.1)), .bool ((!((ns.getD (((j : Int) - 1).toNat) (0, 0, false, [])).2.2.1))), ((aggAt (vals 3) 3))])] Tryz.runUnderlying86 Tryz.sizeOf195 Tryz.zeroValue195 rfl (by decide) rfl (.cons rfl CellsAre.nil) rfl ?_)
     intro v3 hv2
     exact ⟨hv2, rfl⟩
    exact stepsG.nil
   ·intro vals F5 le5 hphi
    obtain ⟨e3, f3_1hr⟩ := hphi 3 (by decide)
    have f4 : ∃ b, (vals 4) = .slice (some ⟨b, 0, none⟩) 1 1 := hphi 4 (by decide)
    generalize hu1 : ((aggAt (vals 3) 3)) = u1 at e3 f3_1hr f4
    generalize hu4 : vals 4 = u2 at e3 f3_1hr f4
    rw [eS (l := [(0, ptr b3 1), (1, sv), (2, (.agg #[.int .i64 ((ns.getD (((j : Int) - 1).toNat) (0, 0, false, [])).1), .int .i64 ((ns.getD (((j : Int) - 1).toNat) (0, 0, false, [])).2.1), .bool (!((ns.getD (((j : Int) - 1).toNat) (0, 0, false, [])).2.2.1)), a2] : Value)), (3, (.agg #[.int .i64 (((ns.getD (((j : Int) - 1).toNat) (0, 0, false, [])).1)), .int .i64 (((ns.getD (((j : Int) - 1).toNat) (0, 0, false, [])).2.1)), .bool ((!((ns.getD (((j : Int) - 1).toNat) (0, 0, false, [])).2.2.1))), u1] : Value)), (4, u2)]) ⟨(hphi 0 (by decide)), (hphi 1 (by decide)), (hphi 2 (by decide)), (e3).symm, hu4, trivial⟩]
    replace hf := hf.mono le5
    replace hns := hns.mono le5
    replace hr1 := hr1.mono le5
    replace hf1 := hf1.mono le5
    replace hC := hC.mono le5
    replace ha1 := ha1.mono le5
    replace ha2 := ha2.mono le5
    replace hrg1 := fun L9 j9 u9 h9 => Rd.mono (hrg1 L9 j9 u9 h9) le5
    replace hrg2 := fun L9 j9 u9 h9 => Rd.mono (hrg2 L9 j9 u9 h9) le5
    show XL _ _ _ _ _ _ _ (slH 195 4 u2 1 [.int .i64 (((ns.getD (((j : Int) - 1).toNat) (0, 0, false, [])).1)), .int .i64 (((ns.getD (((j : Int) - 1).toNat) (0, 0, false, [])).2.1)), .bool ((!((ns.getD (((j : Int) - 1).toNat) (0, 0, false, [])).2.2.1))), u1] :: cellsH b4 [.int .i64 ((ns.getD (((j : Int) - 1).toNat) (0, 0, false, [])).1), .int .i64 ((ns.getD (((j : Int) - 1).toNat) (0, 0, false, [])).2.1), .bool (!((ns.getD (((j : Int) - 1).toNat) (0, 0, false, [])).2.2.1)), a2] 195 :: slH 195 4 sv m cs :: cellsH b3 [v1, sv] 88 :: cellsH b2 [(.slice none 0 0), (.slice none 0 0)] 88 :: cellsH b1 [fv, nsv] 88 :: L)
    refine XL.cons (XOp.append (m := 1) (bytes := 48) (cs := cs) [_, _] _ [.int .i64 (((ns.getD (((j : Int) - 1).toNat) (0, 0, false, [])).1)), .int .i64 (((ns.getD (((j : Int) - 1).toNat) (0, 0, false, [])).2.1)), .bool ((!((ns.getD (((j : Int) - 1).toNat) (0, 0, false, [])).2.2.1))), u1] Tryz.runUnderlying86 Tryz.typeInfo195 rfl rfl rfl rfl rfl rfl rfl (SlV.own [] rfl) rfl (Rd.lit [] rfl) (ones_cons rfl (ones_cons rfl (ones_cons rfl (ones_cons (one_sl (IntsF.isSl f3_1hr)) ones_nil)))) (by (try simp only [List.length_append, List.length_nil, List.length_cons, List.length_singleton]); omega) (by (try simp only [List.length_append, List.length_nil, List.length_cons, List.length_singleton]); omega) ?_)
    intro v4 hs2 hn1 hm1
    have hc1 := MovesC.snoc hC (y0 := ((ns.getD (((j : Int) - 1).toNat) (0, 0, false, [])).1)) (y1 := ((ns.getD (((j : Int) - 1).toNat) (0, 0, false, [])).2.1)) (y2 := (!((ns.getD (((j : Int) - 1).toNat) (0, 0, false, [])).2.2.1))) (y3 := ((ns.getD ((((j : Int) - 1) - 1).toNat) (0, 0, false, [])).2.2.2)) f3_1hr
    refine XL.cons (XOp.fieldP (b := b3) (1) Tryz.runUnderlying88 rfl Tryz.sizeOf86 (by decide) rfl rfl ?_)
    refine XL.cons (XOp.store1 (v := v4) [_, _, _] _ [v1, v4] Tryz.sizeOf86 rfl rfl (one_sl hs2) rfl rfl rfl ?_)
    refine XL.nil (X.region ?_)
    refine XL.mv (.int .i64 ((j : Int) - 1)) rfl ?_
    refine XL.cons (XOp.subR (a := (j : Int) - 1) (b := 1) (((j : Int) - 1) - 1) rfl rfl (by omega) (by omega) ?_)
    refine XL.as (.int .i64 (((j : Int) - 1) - 1)) rfl ?_
    refine XL.nil ?_
    exact ⟨(j - 1, v4, ms ++ [(((ns.getD (((j : Int) - 1).toNat) (0, 0, false, [])).1), ((ns.getD (((j : Int) - 1).toNat) (0, 0, false, [])).2.1), (!((ns.getD (((j : Int) - 1).toNat) (0, 0, false, [])).2.2.1)), ((ns.getD ((((j : Int) - 1) - 1).toNat) (0, 0, false, [])).2.2.2))], cs ++ [.int .i64 (((ns.getD (((j : Int) - 1).toNat) (0, 0, false, [])).1)), .int .i64 (((ns.getD (((j : Int) - 1).toNat) (0, 0, false, [])).2.1)), .bool ((!((ns.getD (((j : Int) - 1).toNat) (0, 0, false, [])).2.2.1))), u1], (m) + 1, F5), _, (FLe.trans leG1 le5), rF, ⟨rfl, rfl, rfl, (vI (by (try dsimp only); omega)), trivial⟩, (Sub.drop (Sub.drop (Sub.cons (Sub.cons (Sub.cons (Sub.cons sR)))))), ⟨rfl, (FLe.trans leG1 le5), (by (try dsimp only) <;> omega), (hs2), (hc1), (by (try dsimp only); rw [List.length_append]; simp only [List.length_singleton]; omega), (by (try dsimp only); rw [turnTo_next (by omega) hj, ← hms]; unfold turnAt; first | (rw [if_pos (by omega), hj0 (by omega), hj1 (by omega)]) | (rw [if_neg (by omega), hj0 (by omega)]))⟩, (by (try dsimp only); omega)⟩
  ·refine X.skip ?_
   refine X.drawG [cellsH b4 [.int .i64 ((ns.getD (((j : Int) - 1).toNat) (0, 0, false, [])).1), .int .i64 ((ns.getD (((j : Int) - 1).toNat) (0, 0, false, [])).2.1), .bool (!((ns.getD (((j : Int) - 1).toNat) (0, 0, false, [])).2.2.1)), fv] 195, slH 195 4 sv m cs, cellsH b3 [v1, sv] 88, cellsH b2 [(.slice none 0 0), (.slice none 0 0)] 88, cellsH b1 [fv, nsv] 88] L 5 [[], [], [], [], [3]] [[], [0], [], [2], [3]] [[], [], [], [], []] (phiG [fun FF us v => v = ptr b3 1, fun FF us v => v = sv, fun FF us v => v = (.agg #[.int .i64 ((ns.getD (((j : Int) - 1).toNat) (0, 0, false, [])).1), .int .i64 ((ns.getD (((j : Int) - 1).toNat) (0, 0, false, [])).2.1), .bool (!((ns.getD (((j : Int) - 1).toNat) (0, 0, false, [])).2.2.1)), fv] : Value), fun FF us v => (.agg #[.int .i64 (((ns.getD (((j : Int) - 1).toNat) (0, 0, false, [])).1)), .int .i64 (((ns.getD (((j : Int) - 1).toNat) (0, 0, false, [])).2.1)), .bool ((!((ns.getD (((j : Int) - 1).toNat) (0, 0, false, [])).2.2.1))), ((aggAt v 3))] : Value) = v ∧ (IntsF FF ((aggAt v 3)) f), fun FF us v => ∃ b, v = .slice (some ⟨b, 0, none⟩) 1 1]) (ownL [fun us v => [], fun us v => [], fun us v => [], fun us v => [], fun us v => [slH 195 4 v 1 [.int .i64 (((ns.getD (((j : Int) - 1).toNat) (0, 0, false, [])).1)), .int .i64 (((ns.getD (((j : Int) - 1).toNat) (0, 0, false, [])).2.1)), .bool ((!((ns.getD (((j : Int) - 1).toNat) (0, 0, false, [])).2.2.1))), ((aggAt (us.getD 0 undef) 3))]]]) mixed rfl rfl (by kernel_rfl) (by kernel_rfl) (MonoG.get (MonoG.cons (fun le h => h) (MonoG.cons (fun le h => h) (MonoG.cons (fun le h => h) (MonoG.cons (fun le h => ⟨h.1, h.2.mono le⟩) (MonoG.cons (fun le h => h) MonoG.nil)))))) ?_ ?_
   ·refine stepsG.cons (fun vals Fs R leFs hpZ => ?_) ?_
    ·refine XG.op (XOp.fieldP (b := b3) (1) Tryz.runUnderlying88 rfl Tryz.sizeOf86 (by decide) rfl rfl ?_)
     exact ⟨rfl, rfl⟩
    refine stepsG.cons (fun vals Fs R leFs hpZ => ?_) ?_
    ·replace hf := hf.mono leFs
     replace hns := hns.mono leFs
     replace hr1 := hr1.mono leFs
     replace hf1 := hf1.mono leFs
     replace hC := hC.mono leFs
     replace ha1 := ha1.mono leFs
     replace hrg1 := fun L9 j9 u9 h9 => Rd.mono (hrg1 L9 j9 u9 h9) leFs
     rw [eS (l := [(0, ptr b3 1)]) ⟨(hpZ 0 (by decide)), trivial⟩]
     refine XG.op (XOp.load1 (v := sv) Tryz.isAgg86 rfl (Rd.own [_, _] rfl rfl) ?_)
     exact ⟨rfl, rfl⟩
    refine stepsG.cons (fun vals Fs R leFs hpZ => ?_) ?_
    ·replace hf := hf.mono leFs
     replace hns := hns.mono leFs
     replace hr1 := hr1.mono leFs
     replace hf1 := hf1.mono leFs
     replace hC := hC.mono leFs
     replace ha1 := ha1.mono leFs
     replace hrg1 := fun L9 j9 u9 h9 => Rd.mono (hrg1 L9 j9 u9 h9) leFs
     refine XG.op (XOp.loadN [.int .i64 ((ns.getD (((j : Int) - 1).toNat) (0, 0, false, [])).1), .int .i64 ((ns.getD (((j : Int) - 1).toNat) (0, 0, false, [])).2.1), .bool (!((ns.getD (((j : Int) - 1).toNat) (0, 0, false, [])).2.2.1)), fv] Tryz.isAgg195 Tryz.sizeOf195 rfl rfl (Rd.ownN [] rfl rfl) ?_)
     exact ⟨rfl, rfl⟩
    refine stepsG.cons (fun vals Fs R leFs hpZ => ?_) ?_
    ·replace hf := hf.mono leFs
     replace hns := hns.mono leFs
     replace hr1 := hr1.mono leFs
     replace hf1 := hf1.mono leFs
     replace hC := hC.mono leFs
     replace ha1 := ha1.mono leFs
     replace hrg1 := fun L9 j9 u9 h9 => Rd.mono (hrg1 L9 j9 u9 h9) leFs
     rw [eS (l := [(2, (.agg #[.int .i64 ((ns.getD (((j : Int) - 1).toNat) (0, 0, false, [])).1), .int .i64 ((ns.getD (((j : Int) - 1).toNat) (0, 0, false, [])).2.1), .bool (!((ns.getD (((j : Int) - 1).toNat) (0, 0, false, [])).2.2.1)), fv] : Value))]) ⟨(hpZ 2 (by decide)), trivial⟩]
     refine XG.op (XOp.call (args := [.agg #[.int .i64 ((ns.getD (((j : Int) - 1).toNat) (0, 0, false, [])).1), .int .i64 ((ns.getD (((j : Int) - 1).toNat) (0, 0, false, [])).2.1), .bool (!((ns.getD (((j : Int) - 1).toNat) (0, 0, false, [])).2.2.1)), fv]]) Tryz.call161 rfl (l20CopyMove_spec hf (hlt := (by first | assumption | rfl | omega | simp))) ?_)
     rintro _ F7 _ le7 ⟨x5, rfl, hr5, rfl⟩
     replace hf := hf.mono le7
     replace hns := hns.mono le7
     replace hr1 := hr1.mono le7
     replace hf1 := hf1.mono le7
     replace hC := hC.mono le7
     replace ha1 := ha1.mono le7
     replace hrg1 := fun L9 j9 u9 h9 => Rd.mono (hrg1 L9 j9 u9 h9) le7
     exact ⟨⟨rfl, hr5⟩, rfl⟩
    refine stepsG.cons (fun vals Fs R leFs hpZ => ?_) ?_
    ·obtain ⟨e3, f3_2hr⟩ := hpZ 3 (by decide)
     replace hf := hf.mono leFs
     replace hns := hns.mono leFs
     replace hr1 := hr1.mono leFs
     replace hf1 := hf1.mono leFs
     replace hC := hC.mono leFs
     replace ha1 := ha1.mono leFs
     replace hrg1 := fun L9 j9 u9 h9 => Rd.mono (hrg1 L9 j9 u9 h9) leFs
     rw [eS (l := [(3, (.agg #[.int .i64 (((ns.getD (((j : Int) - 1).toNat) (0, 0, false, [])).1)), .int .i64 (((ns.getD (((j : Int) - 1).toNat) (0, 0, false, [])).2.1)), .bool ((!((ns.getD (((j : Int) - 1).toNat) (0, 0, false, [])).2.2.1))), ((aggAt (vals 3) 3))] : Value))]) ⟨(e3).symm, trivial⟩]
     refine XG.op (XOp.buildSlice (s := 4) [.int .i64 (((ns.getD (((j : Int) - 1).toNat) (0, 0, false, [])).1)), .int .i64 (((ns.getD (((j : Int) - 1).toNat) (0, 0, false, [])).2.1)), .bool ((!((ns.getD (((j : Int) - 1).toNat) (0, 0, false, [])).2.2.1))), ((aggAt (vals 3) 3))] [.int .i64 (0), .int .i64 (0), .bool (false), (.slice none 0 0)] [(0, [.int .i64 (((ns.getD (((j : Int) - 1).toNat) (0, 0, false, [])).1)), .int .i64 (((ns.getD (((j : Int) - 1).toNat) (0, 0, false, [])).2.1)), .bool ((!((ns.getD (((j : Int) - 1).toNat) (0, 0, false, [])).2.2.1))), ((aggAt (vals 3) 3))])] Tryz.runUnderlying86 Tryz.sizeOf195 Tryz.zeroValue195 rfl (by decide) rfl (.cons rfl CellsAre.nil) rfl ?_)
     intro v6 hv4
     exact ⟨hv4, rfl⟩
    exact stepsG.nil
   ·intro vals F8 le8 hphi
    obtain ⟨e3, f3_2hr⟩ := hphi 3 (by decide)
    have f4 : ∃ b, (vals 4) = .slice (some ⟨b, 0, none⟩) 1 1 := hphi 4 (by decide)
    generalize hu2 : ((aggAt (vals 3) 3)) = u3 at e3 f3_2hr f4
    generalize hu4 : vals 4 = u4 at e3 f3_2hr f4
    rw [eS (l := [(0, ptr b3 1), (1, sv), (2, (.agg #[.int .i64 ((ns.getD (((j : Int) - 1).toNat) (0, 0, false, [])).1), .int .i64 ((ns.getD (((j : Int) - 1).toNat) (0, 0, false, [])).2.1), .bool (!((ns.getD (((j : Int) - 1).toNat) (0, 0, false, [])).2.2.1)), fv] : Value)), (3, (.agg #[.int .i64 (((ns.getD (((j : Int) - 1).toNat) (0, 0, false, [])).1)), .int .i64 (((ns.getD (((j : Int) - 1).toNat) (0, 0, false, [])).2.1)), .bool ((!((ns.getD (((j : Int) - 1).toNat) (0, 0, false, [])).2.2.1))), u3] : Value)), (4, u4)]) ⟨(hphi 0 (by decide)), (hphi 1 (by decide)), (hphi 2 (by decide)), (e3).symm, hu4, trivial⟩]
    replace hf := hf.mono le8
    replace hns := hns.mono le8
    replace hr1 := hr1.mono le8
    replace hf1 := hf1.mono le8
    replace hC := hC.mono le8
    replace ha1 := ha1.mono le8
    replace hrg1 := fun L9 j9 u9 h9 => Rd.mono (hrg1 L9 j9 u9 h9) le8
    show XL _ _ _ _ _ _ _ (slH 195 4 u4 1 [.int .i64 (((ns.getD (((j : Int) - 1).toNat) (0, 0, false, [])).1)), .int .i64 (((ns.getD (((j : Int) - 1).toNat) (0, 0, false, [])).2.1)), .bool ((!((ns.getD (((j : Int) - 1).toNat) (0, 0, false, [])).2.2.1))), u3] :: cellsH b4 [.int .i64 ((ns.getD (((j : Int) - 1).toNat) (0, 0, false, [])).1), .int .i64 ((ns.getD (((j : Int) - 1).toNat) (0, 0, false, [])).2.1), .bool (!((ns.getD (((j : Int) - 1).toNat) (0, 0, false, [])).2.2.1)), fv] 195 :: slH 195 4 sv m cs :: cellsH b3 [v1, sv] 88 :: cellsH b2 [(.slice none 0 0), (.slice none 0 0)] 88 :: cellsH b1 [fv, nsv] 88 :: L)
    refine XL.cons (XOp.append (m := 1) (bytes := 48) (cs := cs) [_, _] _ [.int .i64 (((ns.getD (((j : Int) - 1).toNat) (0, 0, false, [])).1)), .int .i64 (((ns.getD (((j : Int) - 1).toNat) (0, 0, false, [])).2.1)), .bool ((!((ns.getD (((j : Int) - 1).toNat) (0, 0, false, [])).2.2.1))), u3] Tryz.runUnderlying86 Tryz.typeInfo195 rfl rfl rfl rfl rfl rfl rfl (SlV.own [] rfl) rfl (Rd.lit [] rfl) (ones_cons rfl (ones_cons rfl (ones_cons rfl (ones_cons (one_sl (IntsF.isSl f3_2hr)) ones_nil)))) (by (try simp only [List.length_append, List.length_nil, List.length_cons, List.length_singleton]); omega) (by (try simp only [List.length_append, List.length_nil, List.length_cons, List.length_singleton]); omega) ?_)
    intro v7 hs3 hn2 hm2
    have hc2 := MovesC.snoc hC (y0 := ((ns.getD (((j : Int) - 1).toNat) (0, 0, false, [])).1)) (y1 := ((ns.getD (((j : Int) - 1).toNat) (0, 0, false, [])).2.1)) (y2 := (!((ns.getD (((j : Int) - 1).toNat) (0, 0, false, [])).2.2.1))) (y3 := f) f3_2hr
    refine XL.cons (XOp.fieldP (b := b3) (1) Tryz.runUnderlying88 rfl Tryz.sizeOf86 (by decide) rfl rfl ?_)
    refine XL.cons (XOp.store1 (v := v7) [_, _, _] _ [v1, v7] Tryz.sizeOf86 rfl rfl (one_sl hs3) rfl rfl rfl ?_)
    refine XL.nil (X.region ?_)
    refine XL.mv (.int .i64 ((j : Int) - 1)) rfl ?_
    refine XL.cons (XOp.subR (a := (j : Int) - 1) (b := 1) (((j : Int) - 1) - 1) rfl rfl (by omega) (by omega) ?_)
    refine XL.as (.int .i64 (((j : Int) - 1) - 1)) rfl ?_
    refine XL.nil ?_
    exact ⟨(j - 1, v7, ms ++ [(((ns.getD (((j : Int) - 1).toNat) (0, 0, false, [])).1), ((ns.getD (((j : Int) - 1).toNat) (0, 0, false, [])).2.1), (!((ns.getD (((j : Int) - 1).toNat) (0, 0, false, [])).2.2.1)), f)], cs ++ [.int .i64 (((ns.getD (((j : Int) - 1).toNat) (0, 0, false, [])).1)), .int .i64 (((ns.getD (((j : Int) - 1).toNat) (0, 0, false, [])).2.1)), .bool ((!((ns.getD (((j : Int) - 1).toNat) (0, 0, false, [])).2.2.1))), u3], (m) + 1, F8), _, (FLe.trans leG1 le8), rF, ⟨rfl, rfl, rfl, (vI (by (try dsimp only); omega)), trivial⟩, (Sub.drop (Sub.drop (Sub.cons (Sub.cons (Sub.cons (Sub.cons sR)))))), ⟨rfl, (FLe.trans leG1 le8), (by (try dsimp only) <;> omega), (hs3), (hc2), (by (try dsimp only); rw [List.length_append]; simp only [List.length_singleton]; omega), (by (try dsimp only); rw [turnTo_next (by omega) hj, ← hms]; unfold turnAt; first | (rw [if_pos (by omega), hj0 (by omega), hj1 (by omega)]) | (rw [if_neg (by omega), hj0 (by omega)]))⟩, (by (try dsimp only); omega)⟩
 ·refine X.exit (thenQ_exit (thenQ_exit (blockQ_exit ?_)))
  refine X.seq (X.region ?_)
  refine XL.cons (XOp.loadN [v1, sv] Tryz.isAgg88 Tryz.sizeOf88 rfl rfl (Rd.ownN [_] rfl rfl) ?_)
  refine XL.cons (XOp.storeN (vs := [v1, sv]) [_, _] _ [v1, sv] Tryz.sizeOf88 rfl rfl rfl (ones_cons (one_sl (IntsF.isSl hf1)) (ones_cons (one_sl hsv) ones_nil)) rfl rfl rfl ?_)
  refine XL.nil ?_
  refine X.freezeF [] _ _ rfl (fun F9 le9 hz2 => ?_)
  replace hf := hf.mono le9
  replace hns := hns.mono le9
  replace hr1 := hr1.mono le9
  replace hf1 := hf1.mono le9
  replace hC := hC.mono le9
  have hf2 : MovesF F9 sv ms := CO.fz hC (by first | rfl | simp | omega) hz2.fz
  refine X.ret (retEnd (L' := L) [.agg #[v1, sv]] (.agg #[v1, sv]) (.cell rfl (loadNV [v1, sv] Tryz.isAgg88 Tryz.sizeOf88 rfl (Rd.ownN [_] rfl rfl)) .nil) rfl (FLe.trans (FLe.trans le2 leG1) le9) rF (Sub.drop (Sub.drop (Sub.drop sR))) ?_)
  have e9 : turnL f ns = ms := by rw [hms, show j = 0 from by omega]; rfl
  rw [e9]
  exact ⟨_, _, rfl, hf1, hf2, rfl⟩

/- spec.l20Join -/
set_option maxRecDepth 20000 in
theorem l20Join_spec {F : FH} {L : List HP} {fv : Value} {f : List Int} (hf : IntsF F fv f) {nsv : Value} {ns : List MoveT} (hns : MovesF F nsv ns) {gv : Value} {g : List Int} (hg : IntsF F gv g) {ksv : Value} {ks : List MoveT} (hks : MovesF F ksv ks) (hlf : f.length ≤ 60) (hln : ns.length ≤ 60) (hlk : ks.length ≤ 60) (hnb : ∀ i, i < ns.length → (ns.getD i (0, 0, false, [])).2.2.2.length ≤ 60) (hkb : ∀ i, i < ks.length → (ks.getD i (0, 0, false, [])).2.2.2.length ≤ 60) :
    Does Tryz.prog 100 [.agg #[fv, nsv], .agg #[gv, ksv]] F (L) (fun v F' L' => ∃ (a : Value), ∃ (b : Value), (.tuple #[.agg #[a, b], .bool ((joinC f ns ks).2.2)] : Value) = v ∧ (IntsF F' a (joinC f ns ks).1) ∧ (MovesF F' b (joinC f ns ks).2.1) ∧ L = L') := by
 refine Does.of_X Tryz.func100 rfl rfl rfl ?_
 refine X.seq (X.region ?_)
 refine XL.cons (XOp.box [fv, nsv] rfl rfl ?_)
 intro b1
 refine XL.cons (XOp.box [gv, ksv] rfl rfl ?_)
 intro b2
 refine XL.cons (XOp.alloc [(.slice none 0 0), (.slice none 0 0)] Tryz.zeroValue88 rfl ?_)
 intro b3
 refine XL.as (.bool (false)) rfl ?_
 refine XL.nil (X.seq (X.seq (X.region ?_)))
 refine XL.cons (XOp.fieldP (b := b1) (1) Tryz.runUnderlying88 rfl Tryz.sizeOf86 (by decide) rfl rfl ?_)
 refine XL.cons (XOp.load1 (v := nsv) Tryz.isAgg86 rfl (Rd.own [_, _] rfl rfl) ?_)
 refine XL.cons (XOp.lenS (v := nsv) (n := (ns).length) Tryz.runUnderlying86 rfl hns.slv ?_)
 refine XL.cons (XOp.fieldP (b := b2) (1) Tryz.runUnderlying88 rfl Tryz.sizeOf86 (by decide) rfl rfl ?_)
 refine XL.cons (XOp.load1 (v := ksv) Tryz.isAgg86 rfl (Rd.own [_] rfl rfl) ?_)
 refine XL.cons (XOp.lenS (v := ksv) (n := (ks).length) Tryz.runUnderlying86 rfl hks.slv ?_)
 refine XL.cons (XOp.addR (a := (ns.length : Int)) (b := (ks.length : Int)) (((((ns).length) + ((ks).length) : Nat) : Int)) rfl rfl (by omega) (by omega) ?_)
 refine XL.cons (XOp.gtr (a := ((((ns).length) + ((ks).length) : Nat) : Int)) (b := 60) rfl rfl ?_)
 refine XL.nil ?_
 refine X.condD (p := (((((ns).length) + ((ks).length) : Nat) : Int) : Int) > 60) rfl (fun h1 => ?_) (fun h1 => ?_)
 ·refine X.seq (X.region ?_)
  refine XL.cons (XOp.build [(.slice none 0 0), (.slice none 0 0)] [(.slice none 0 0), (.slice none 0 0)] [(0, 1), (1, 1)] [] Tryz.runUnderlying88 Tryz.zeroValue88 rfl (.cons rfl Tryz.sizeOf22 (.cons rfl Tryz.sizeOf86 PlacesAre.nil)) rfl CellsAre.nil ?_)
  refine XL.cons (XOp.storeN (vs := [(.slice none 0 0), (.slice none 0 0)]) [] _ [(.slice none 0 0), (.slice none 0 0)] Tryz.sizeOf88 rfl rfl rfl (ones_cons rfl (ones_cons rfl ones_nil)) rfl rfl rfl ?_)
  refine XL.as (.bool (false)) rfl ?_
  refine XL.nil ?_
  refine X.ret (thenQ_ret (retEnd (L' := L) [.agg #[(.slice none 0 0), (.slice none 0 0)], .bool (false)] (.tuple #[.agg #[(.slice none 0 0), (.slice none 0 0)], .bool (false)]) (.cell rfl (loadNV [(.slice none 0 0), (.slice none 0 0)] Tryz.isAgg88 Tryz.sizeOf88 rfl (Rd.ownN [] rfl rfl)) (.tmp rfl .nil)) rfl rF rF (Sub.drop (Sub.drop (Sub.drop sR))) ?_))
  have e : joinC f ns ks = ([], [], false) := joinC_no (by omega)
  exact ⟨_, _, by rw [e], by rw [e]; exact IntsF.nilV, by rw [e]; exact SlOf.nilV, rfl⟩
 ·refine X.skip (X.seq (X.region ?_))
  refine XL.cons (XOp.fieldP (b := b1) (0) Tryz.runUnderlying88 rfl Tryz.sizeOf22 (by decide) rfl rfl ?_)
  refine XL.cons (XOp.load1 (v := fv) Tryz.isAgg22 rfl (Rd.own [_, _] rfl rfl) ?_)
  refine XL.cons (XOp.frzF <| XOp.call (args := [fv]) Tryz.call67 rfl (l1Copy_spec hf (hlt := (by first | assumption | rfl | omega | simp))) ?_)
  rintro v1 _ _ _ ⟨rfl, hs1, rfl⟩
  refine ⟨_, _, rfl, fun F1 le1 hz1 => ?_⟩
  replace hf := hf.mono le1
  replace hns := hns.mono le1
  replace hg := hg.mono le1
  replace hks := hks.mono le1
  have hf1 : IntsF F1 v1 ((f)) := intsH.fz (xs := (f)) hz1.fz
  refine XL.cons (XOp.build [v1, (.slice none 0 0)] [(.slice none 0 0), (.slice none 0 0)] [(0, 1), (1, 1)] [(0, [v1])] Tryz.runUnderlying88 Tryz.zeroValue88 rfl (.cons rfl Tryz.sizeOf22 (.cons rfl Tryz.sizeOf86 PlacesAre.nil)) rfl (.cons (cells_one (IntsF.isSl hf1)) CellsAre.nil) ?_)
  refine XL.cons (XOp.alloc [(.slice none 0 0), (.slice none 0 0)] Tryz.zeroValue88 rfl ?_)
  intro b4
  refine XL.cons (XOp.storeN (vs := [v1, (.slice none 0 0)]) [] _ [v1, (.slice none 0 0)] Tryz.sizeOf88 rfl rfl rfl (ones_cons (one_sl (IntsF.isSl hf1)) (ones_cons rfl ones_nil)) rfl rfl rfl ?_)
  refine XL.nil (X.seq (X.seq (X.region ?_)))
  refine XL.as (.int .i64 (0)) rfl ?_
  refine XL.nil (X.block ?_)
  refine X.loop (α := Nat × Value × List MoveT × List Value × Nat × FH) (fun xQ => [(2, ptr b1 0), (3, ptr b2 0), (4, ptr b3 0), (6, ptr b4 0), (7, .int .i64 (((xQ.1 : Nat) : Int)))]) (fun xQ => slH 195 4 xQ.2.1 xQ.2.2.2.2.1 xQ.2.2.2.1 :: cellsH b4 [v1, xQ.2.1] 88 :: cellsH b3 [(.slice none 0 0), (.slice none 0 0)] 88 :: cellsH b2 [gv, ksv] 88 :: cellsH b1 [fv, nsv] 88 :: L) (fun xQ F' => xQ.2.2.2.2.2 = F' ∧ F1 ≤ xQ.2.2.2.2.2 ∧ (xQ.1 ≤ ns.length) ∧ (IsSl xQ.2.1) ∧ (MovesC xQ.2.2.2.2.2 xQ.2.2.2.1 xQ.2.2.1) ∧ (xQ.2.2.2.2.1 = xQ.2.2.1.length) ∧ (xQ.2.2.1 = ns.take xQ.1)) (fun xQ => ns.length - xQ.1) (0, (.slice none 0 0), [], [], 0, F1) ⟨rfl, rfl, rfl, rfl, rfl, trivial⟩ (Sub.trans (Sub.addNil 195 4 _ _) (Sub.cons (Sub.cons (Sub.cons (Sub.cons (Sub.cons sR)))))) ⟨rfl, FLe.refl _, (by (try dsimp only) <;> omega), (⟨_, _, _, rfl⟩), (CO.nil), (rfl), (rfl)⟩ ?_
  rintro ⟨k, sv, ms, cs, m, G1⟩ rE _ _ ⟨rfl, leG, hk, hsv, hC, hm, hms⟩
  show X _ _ _ _ (envs [(2, ptr b1 0), (3, ptr b2 0), (4, ptr b3 0), (6, ptr b4 0), (7, .int .i64 ((k : Int)))] rE) _ (slH 195 4 sv m cs :: cellsH b4 [v1, sv] 88 :: cellsH b3 [(.slice none 0 0), (.slice none 0 0)] 88 :: cellsH b2 [gv, ksv] 88 :: cellsH b1 [fv, nsv] 88 :: L)
  replace leG : F1 ≤ G1 := leG
  dsimp only at hk hsv hC hm hms
  have hxk := hnb k
  have hml : ms.length = k := by rw [hms, List.length_take]; omega
  have leG1 := leG
  replace hf := hf.mono leG1
  replace hns := hns.mono leG1
  replace hg := hg.mono leG1
  replace hks := hks.mono leG1
  replace hf1 := hf1.mono leG1
  refine X.seq (X.seq (X.region ?_))
  refine XL.mv (.int .i64 ((k : Int))) rfl ?_
  refine XL.cons (XOp.fieldP (b := b1) (1) Tryz.runUnderlying88 rfl Tryz.sizeOf86 (by decide) rfl rfl ?_)
  refine XL.cons (XOp.load1 (v := nsv) Tryz.isAgg86 rfl (Rd.own [_, _, _, _] rfl rfl) ?_)
  refine XL.cons (XOp.lenS (v := nsv) (n := (ns).length) Tryz.runUnderlying86 rfl hns.slv ?_)
  refine XL.cons (XOp.lss (a := (k : Int)) (b := (ns.length : Int)) rfl rfl ?_)
  refine XL.nil ?_
  refine X.condD (p := (k : Int) < (ns.length : Int)) rfl (fun h2 => ?_) (fun h2 => ?_)
  ·refine X.skip (X.seq (X.block ?_))
   obtain ⟨a1, ha1, hrg1, hq1⟩ := hns.rd (i := k) (by omega)
   refine X.drawG [slH 195 4 sv m cs, cellsH b4 [v1, sv] 88, cellsH b3 [(.slice none 0 0), (.slice none 0 0)] 88, cellsH b2 [gv, ksv] 88, cellsH b1 [fv, nsv] 88] L 9 [[], [], [], [], [], [], [], [], [7]] [[], [0], [], [2], [], [3, 4], [5], [6], [7]] [[], [], [], [], [], [], [], [], []] (phiG [fun FF us v => v = ptr b4 1, fun FF us v => v = sv, fun FF us v => v = ptr b1 1, fun FF us v => v = nsv, fun FF us v => v = (.int .i64 ((k : Int)) : Value), fun FF us v => v = (.pointer (some (elemA nsv (k * 4))) : Value), fun FF us v => v = (.agg #[.int .i64 ((ns.getD k (0, 0, false, [])).1), .int .i64 ((ns.getD k (0, 0, false, [])).2.1), .bool ((ns.getD k (0, 0, false, [])).2.2.1), a1] : Value), fun FF us v => (.agg #[.int .i64 (((ns.getD k (0, 0, false, [])).1)), .int .i64 (((ns.getD k (0, 0, false, [])).2.1)), .bool (((ns.getD k (0, 0, false, [])).2.2.1)), ((aggAt v 3))] : Value) = v ∧ (IntsF FF ((aggAt v 3)) ((ns.getD k (0, 0, false, [])).2.2.2)), fun FF us v => ∃ b, v = .slice (some ⟨b, 0, none⟩) 1 1]) (ownL [fun us v => [], fun us v => [], fun us v => [], fun us v => [], fun us v => [], fun us v => [], fun us v => [], fun us v => [], fun us v => [slH 195 4 v 1 [.int .i64 (((ns.getD k (0, 0, false, [])).1)), .int .i64 (((ns.getD k (0, 0, false, [])).2.1)), .bool (((ns.getD k (0, 0, false, [])).2.2.1)), ((aggAt (us.getD 0 undef) 3))]]]) mixed rfl rfl (by kernel_rfl) (by kernel_rfl) (MonoG.get (MonoG.cons (fun le h => h) (MonoG.cons (fun le h => h) (MonoG.cons (fun le h => h) (MonoG.cons (fun le h => h) (MonoG.cons (fun le h => h) (MonoG.cons (fun le h => h) (MonoG.cons (fun le h => h) (MonoG.cons (fun le h => ⟨h.1, h.2.mono le⟩) (MonoG.cons (fun le h => h) MonoG.nil)))))))))) ?_ ?_
   ·refine stepsG.cons (fun vals Fs R leFs hpZ => ?_) ?_
    ·refine XG.op (XOp.fieldP (b := b4) (1) Tryz.runUnderlying88 rfl Tryz.sizeOf86 (by decide) rfl rfl ?_)
     exact ⟨rfl, rfl⟩
    refine stepsG.cons (fun vals Fs R leFs hpZ => ?_) ?_
    ·replace hf := hf.mono leFs
     replace hns := hns.mono leFs
     replace hg := hg.mono leFs
     replace hks := hks.mono leFs
     replace hf1 := hf1.mono leFs
     replace hC := hC.mono leFs
     replace ha1 := ha1.mono leFs
     replace hrg1 := fun L9 j9 u9 h9 => Rd.mono (hrg1 L9 j9 u9 h9) leFs
     rw [eS (l := [(0, ptr b4 1)]) ⟨(hpZ 0 (by decide)), trivial⟩]
     refine XG.op (XOp.load1 (v := sv) Tryz.isAgg86 rfl (Rd.own [_] rfl rfl) ?_)
     exact ⟨rfl, rfl⟩
    refine stepsG.cons (fun vals Fs R leFs hpZ => ?_) ?_
    ·refine XG.op (XOp.fieldP (b := b1) (1) Tryz.runUnderlying88 rfl Tryz.sizeOf86 (by decide) rfl rfl ?_)
     exact ⟨rfl, rfl⟩
    refine stepsG.cons (fun vals Fs R leFs hpZ => ?_) ?_
    ·replace hf := hf.mono leFs
     replace hns := hns.mono leFs
     replace hg := hg.mono leFs
     replace hks := hks.mono leFs
     replace hf1 := hf1.mono leFs
     replace hC := hC.mono leFs
     replace ha1 := ha1.mono leFs
     replace hrg1 := fun L9 j9 u9 h9 => Rd.mono (hrg1 L9 j9 u9 h9) leFs
     rw [eS (l := [(2, ptr b1 1)]) ⟨(hpZ 2 (by decide)), trivial⟩]
     refine XG.op (XOp.load1 (v := nsv) Tryz.isAgg86 rfl (Rd.own [_, _, _, _] rfl rfl) ?_)
     exact ⟨rfl, rfl⟩
    refine stepsG.cons (fun vals Fs R leFs hpZ => ?_) ?_
    ·refine XG.op (XOp.move (.int .i64 ((k : Int))) rfl ?_)
     exact ⟨rfl, rfl⟩
    refine stepsG.cons (fun vals Fs R leFs hpZ => ?_) ?_
    ·replace hf := hf.mono leFs
     replace hns := hns.mono leFs
     replace hg := hg.mono leFs
     replace hks := hks.mono leFs
     replace hf1 := hf1.mono leFs
     replace hC := hC.mono leFs
     replace ha1 := ha1.mono leFs
     replace hrg1 := fun L9 j9 u9 h9 => Rd.mono (hrg1 L9 j9 u9 h9) leFs
     rw [eS (l := [(3, nsv), (4, (.int .i64 ((k : Int)) : Value))]) ⟨(hpZ 3 (by decide)), (hpZ 4 (by decide)), trivial⟩]
     refine XG.op (XOp.indexS (v := nsv) (i := (k : Int)) (n := (ns).length) k Tryz.runUnderlying86 Tryz.sizeOf195 rfl rfl rfl hns.slv (by omega) rfl ?_)
     exact ⟨rfl, rfl⟩
    refine stepsG.cons (fun vals Fs R leFs hpZ => ?_) ?_
    ·replace hf := hf.mono leFs
     replace hns := hns.mono leFs
     replace hg := hg.mono leFs
     replace hks := hks.mono leFs
     replace hf1 := hf1.mono leFs
     replace hC := hC.mono leFs
     replace ha1 := ha1.mono leFs
     replace hrg1 := fun L9 j9 u9 h9 => Rd.mono (hrg1 L9 j9 u9 h9) leFs
     rw [eS (l := [(5, (.pointer (some (elemA nsv (k * 4))) : Value))]) ⟨(hpZ 5 (by decide)), trivial⟩]
     refine XG.op (XOp.loadN [.int .i64 ((ns.getD k (0, 0, false, [])).1), .int .i64 ((ns.getD k (0, 0, false, [])).2.1), .bool ((ns.getD k (0, 0, false, [])).2.2.1), a1] Tryz.isAgg195 Tryz.sizeOf195 rfl rfl (Rd.all (hrg1 _)) ?_)
     exact ⟨rfl, rfl⟩
    refine stepsG.cons (fun vals Fs R leFs hpZ => ?_) ?_
    ·replace hf := hf.mono leFs
     replace hns := hns.mono leFs
     replace hg := hg.mono leFs
     replace hks := hks.mono leFs
     replace hf1 := hf1.mono leFs
     replace hC := hC.mono leFs
     replace ha1 := ha1.mono leFs
     replace hrg1 := fun L9 j9 u9 h9 => Rd.mono (hrg1 L9 j9 u9 h9) leFs
     rw [eS (l := [(6, (.agg #[.int .i64 ((ns.getD k (0, 0, false, [])).1), .int .i64 ((ns.getD k (0, 0, false, [])).2.1), .bool ((ns.getD k (0, 0, false, [])).2.2.1), a1] : Value))]) ⟨(hpZ 6 (by decide)), trivial⟩]
     refine XG.op (XOp.call (args := [.agg #[.int .i64 ((ns.getD k (0, 0, false, [])).1), .int .i64 ((ns.getD k (0, 0, false, [])).2.1), .bool ((ns.getD k (0, 0, false, [])).2.2.1), a1]]) Tryz.call161 rfl (l20CopyMove_spec ha1 (hlt := (by first | assumption | rfl | omega | simp))) ?_)
     rintro _ F3 _ le3 ⟨x2, rfl, hr2, rfl⟩
     replace hf := hf.mono le3
     replace hns := hns.mono le3
     replace hg := hg.mono le3
     replace hks := hks.mono le3
     replace hf1 := hf1.mono le3
     replace hC := hC.mono le3
     replace ha1 := ha1.mono le3
     replace hrg1 := fun L9 j9 u9 h9 => Rd.mono (hrg1 L9 j9 u9 h9) le3
     exact ⟨⟨rfl, hr2⟩, rfl⟩
    refine stepsG.cons (fun vals Fs R leFs hpZ => ?_) ?_
    ·obtain ⟨e7, f7_1hr⟩ := hpZ 7 (by decide)
     replace hf := hf.mono leFs
     replace hns := hns.mono leFs
     replace hg := hg.mono leFs
     replace hks := hks.mono leFs
     replace hf1 := hf1.mono leFs
     replace hC := hC.mono leFs
     replace ha1 := ha1.mono leFs
     replace hrg1 := fun L9 j9 u9 h9 => Rd.mono (hrg1 L9 j9 u9 h9) leFs
     rw [eS (l := [(7, (.agg #[.int .i64 (((ns.getD k (0, 0, false, [])).1)), .int .i64 (((ns.getD k (0, 0, false, [])).2.1)), .bool (((ns.getD k (0, 0, false, [])).2.2.1)), ((aggAt (vals 7) 3))] : Value))]) ⟨(e7).symm, trivial⟩]
     refine XG.op (XOp.buildSlice (s := 4) [.int .i64 (((ns.getD k (0, 0, false, [])).1)), .int .i64 (((ns.getD k (0, 0, false, [])).2.1)), .bool (((ns.getD k (0, 0, false, [])).2.2.1)), ((aggAt (vals 7) 3))] [.int .i64 (0), .int .i64 (0), .bool (false), (.slice none 0 0)] [(0, [.int .i64 (((ns.getD k (0, 0, false, [])).1)), .int .i64 (((ns.getD k (0, 0, false, [])).2.1)), .bool (((ns.getD k (0, 0, false, [])).2.2.1)), ((aggAt (vals 7) 3))])] Tryz.runUnderlying86 Tryz.sizeOf195 Tryz.zeroValue195 rfl (by decide) rfl (.cons rfl CellsAre.nil) rfl ?_)
     intro v3 hv2
     exact ⟨hv2, rfl⟩
    exact stepsG.nil
   ·intro vals F4 le4 hphi
    obtain ⟨e7, f7_1hr⟩ := hphi 7 (by decide)
    have f8 : ∃ b, (vals 8) = .slice (some ⟨b, 0, none⟩) 1 1 := hphi 8 (by decide)
    generalize hu1 : ((aggAt (vals 7) 3)) = u1 at e7 f7_1hr f8
    generalize hu8 : vals 8 = u2 at e7 f7_1hr f8
    rw [eS (l := [(0, ptr b4 1), (1, sv), (2, ptr b1 1), (3, nsv), (4, (.int .i64 ((k : Int)) : Value)), (5, (.pointer (some (elemA nsv (k * 4))) : Value)), (6, (.agg #[.int .i64 ((ns.getD k (0, 0, false, [])).1), .int .i64 ((ns.getD k (0, 0, false, [])).2.1), .bool ((ns.getD k (0, 0, false, [])).2.2.1), a1] : Value)), (7, (.agg #[.int .i64 (((ns.getD k (0, 0, false, [])).1)), .int .i64 (((ns.getD k (0, 0, false, [])).2.1)), .bool (((ns.getD k (0, 0, false, [])).2.2.1)), u1] : Value)), (8, u2)]) ⟨(hphi 0 (by decide)), (hphi 1 (by decide)), (hphi 2 (by decide)), (hphi 3 (by decide)), (hphi 4 (by decide)), (hphi 5 (by decide)), (hphi 6 (by decide)), (e7).symm, hu8, trivial⟩]
    replace hf := hf.mono le4
    replace hns := hns.mono le4
    replace hg := hg.mono le4
    replace hks := hks.mono le4
    replace hf1 := hf1.mono le4
    replace hC := hC.mono le4
    replace ha1 := ha1.mono le4
    replace hrg1 := fun L9 j9 u9 h9 => Rd.mono (hrg1 L9 j9 u9 h9) le4
    show XL _ _ _ _ _ _ _ (slH 195 4 u2 1 [.int .i64 (((ns.getD k (0, 0, false, [])).1)), .int .i64 (((ns.getD k (0, 0, false, [])).2.1)), .bool (((ns.getD k (0, 0, false, [])).2.2.1)), u1] :: slH 195 4 sv m cs :: cellsH b4 [v1, sv] 88 :: cellsH b3 [(.slice none 0 0), (.slice none 0 0)] 88 :: cellsH b2 [gv, ksv] 88 :: cellsH b1 [fv, nsv] 88 :: L)
    refine XL.cons (XOp.append (m := 1) (bytes := 48) (cs := cs) [_] _ [.int .i64 (((ns.getD k (0, 0, false, [])).1)), .int .i64 (((ns.getD k (0, 0, false, [])).2.1)), .bool (((ns.getD k (0, 0, false, [])).2.2.1)), u1] Tryz.runUnderlying86 Tryz.typeInfo195 rfl rfl rfl rfl rfl rfl rfl (SlV.own [] rfl) rfl (Rd.lit [] rfl) (ones_cons rfl (ones_cons rfl (ones_cons rfl (ones_cons (one_sl (IntsF.isSl f7_1hr)) ones_nil)))) (by (try simp only [List.length_append, List.length_nil, List.length_cons, List.length_singleton]); omega) (by (try simp only [List.length_append, List.length_nil, List.length_cons, List.length_singleton]); omega) ?_)
    intro v4 hs2 hn1 hm1
    have hc1 := MovesC.snoc hC (y0 := ((ns.getD k (0, 0, false, [])).1)) (y1 := ((ns.getD k (0, 0, false, [])).2.1)) (y2 := ((ns.getD k (0, 0, false, [])).2.2.1)) (y3 := ((ns.getD k (0, 0, false, [])).2.2.2)) f7_1hr
    refine XL.cons (XOp.fieldP (b := b4) (1) Tryz.runUnderlying88 rfl Tryz.sizeOf86 (by decide) rfl rfl ?_)
    refine XL.cons (XOp.store1 (v := v4) [_, _] _ [v1, v4] Tryz.sizeOf86 rfl rfl (one_sl hs2) rfl rfl rfl ?_)
    refine XL.nil (X.region ?_)
    refine XL.mv (.int .i64 ((k : Int))) rfl ?_
    refine XL.cons (XOp.addR (a := (k : Int)) (b := 1) (((k + 1 : Nat) : Int)) rfl rfl (by omega) (by omega) ?_)
    refine XL.as (.int .i64 (((k + 1 : Nat) : Int))) rfl ?_
    refine XL.nil ?_
    exact ⟨(k + 1, v4, ms ++ [(((ns.getD k (0, 0, false, [])).1), ((ns.getD k (0, 0, false, [])).2.1), ((ns.getD k (0, 0, false, [])).2.2.1), ((ns.getD k (0, 0, false, [])).2.2.2))], cs ++ [.int .i64 (((ns.getD k (0, 0, false, [])).1)), .int .i64 (((ns.getD k (0, 0, false, [])).2.1)), .bool (((ns.getD k (0, 0, false, [])).2.2.1)), u1], (m) + 1, F4), _, (FLe.trans leG1 le4), rF, ⟨rfl, rfl, rfl, rfl, rfl, trivial⟩, (Sub.drop (Sub.cons (Sub.cons (Sub.cons (Sub.cons (Sub.cons sR)))))), ⟨rfl, (FLe.trans leG1 le4), (by (try dsimp only) <;> omega), (hs2), (hc1), (by (try dsimp only); rw [List.length_append]; simp only [List.length_singleton]; omega), (by (try dsimp only); rw [take_succ_getD (0, 0, false, []) (by omega), ← hms])⟩, (by omega)⟩
  ·refine X.exit (thenQ_exit (thenQ_exit (blockQ_exit ?_)))
   refine X.seq (X.seq (X.region ?_))
   refine XL.as (.int .i64 (0)) rfl ?_
   refine XL.nil (X.block ?_)
   refine X.loop (α := Nat × Value × List MoveT × List Value × Nat × FH) (fun xQ => [(3, ptr b2 0), (4, ptr b3 0), (6, ptr b4 0), (8, .int .i64 (((xQ.1 : Nat) : Int)))]) (fun xQ => slH 195 4 xQ.2.1 xQ.2.2.2.2.1 xQ.2.2.2.1 :: cellsH b4 [v1, xQ.2.1] 88 :: cellsH b3 [(.slice none 0 0), (.slice none 0 0)] 88 :: cellsH b2 [gv, ksv] 88 :: cellsH b1 [fv, nsv] 88 :: L) (fun xQ F' => xQ.2.2.2.2.2 = F' ∧ G1 ≤ xQ.2.2.2.2.2 ∧ (xQ.1 ≤ ks.length) ∧ (IsSl xQ.2.1) ∧ (MovesC xQ.2.2.2.2.2 xQ.2.2.2.1 xQ.2.2.1) ∧ (xQ.2.2.2.2.1 = xQ.2.2.1.length) ∧ (xQ.2.2.1 = ns ++ ks.take xQ.1)) (fun xQ => ks.length - xQ.1) (0, sv, ms, cs, m, G1) ⟨rfl, rfl, rfl, rfl, trivial⟩ (Sub.cons (Sub.cons (Sub.cons (Sub.cons (Sub.cons sR))))) ⟨rfl, FLe.refl _, (by (try dsimp only) <;> omega), (hsv), (hC), (hm), (by (try dsimp only); rw [hms, List.take_of_length_le (by omega)]; simp)⟩ ?_
   rintro ⟨q, sv, ms, cs, m, G2⟩ rE _ _ ⟨rfl, leG, hq, hsvj, hCj, hmj, hmsj⟩
   show X _ _ _ _ (envs [(3, ptr b2 0), (4, ptr b3 0), (6, ptr b4 0), (8, .int .i64 ((q : Int)))] rE) _ (slH 195 4 sv m cs :: cellsH b4 [v1, sv] 88 :: cellsH b3 [(.slice none 0 0), (.slice none 0 0)] 88 :: cellsH b2 [gv, ksv] 88 :: cellsH b1 [fv, nsv] 88 :: L)
   replace leG : G1 ≤ G2 := leG
   dsimp only at hq hsvj hCj hmj hmsj
   have hyk := hkb q
   have hmlj : ms.length = ns.length + q := by rw [hmsj, List.length_append, List.length_take]; omega
   have leG2 := leG
   replace hf := hf.mono leG2
   replace hns := hns.mono leG2
   replace hg := hg.mono leG2
   replace hks := hks.mono leG2
   replace hf1 := hf1.mono leG2
   replace hC := hC.mono leG2
   refine X.seq (X.seq (X.region ?_))
   refine XL.mv (.int .i64 ((q : Int))) rfl ?_
   refine XL.cons (XOp.fieldP (b := b2) (1) Tryz.runUnderlying88 rfl Tryz.sizeOf86 (by decide) rfl rfl ?_)
   refine XL.cons (XOp.load1 (v := ksv) Tryz.isAgg86 rfl (Rd.own [_, _, _] rfl rfl) ?_)
   refine XL.cons (XOp.lenS (v := ksv) (n := (ks).length) Tryz.runUnderlying86 rfl hks.slv ?_)
   refine XL.cons (XOp.lss (a := (q : Int)) (b := (ks.length : Int)) rfl rfl ?_)
   refine XL.nil ?_
   refine X.condD (p := (q : Int) < (ks.length : Int)) rfl (fun h3 => ?_) (fun h3 => ?_)
   ·refine X.skip (X.seq (X.block ?_))
    obtain ⟨a2, ha2, hrg2, hq2⟩ := hks.rd (i := q) (by omega)
    refine X.drawG [slH 195 4 sv m cs, cellsH b4 [v1, sv] 88, cellsH b3 [(.slice none 0 0), (.slice none 0 0)] 88, cellsH b2 [gv, ksv] 88, cellsH b1 [fv, nsv] 88] L 9 [[], [], [], [], [], [], [], [], [7]] [[], [0], [], [2], [], [3, 4], [5], [6], [7]] [[], [], [], [], [], [], [], [], []] (phiG [fun FF us v => v = ptr b4 1, fun FF us v => v = sv, fun FF us v => v = ptr b2 1, fun FF us v => v = ksv, fun FF us v => v = (.int .i64 ((q : Int)) : Value), fun FF us v => v = (.pointer (some (elemA ksv (q * 4))) : Value), fun FF us v => v = (.agg #[.int .i64 ((ks.getD q (0, 0, false, [])).1), .int .i64 ((ks.getD q (0, 0, false, [])).2.1), .bool ((ks.getD q (0, 0, false, [])).2.2.1), a2] : Value), fun FF us v => (.agg #[.int .i64 (((ks.getD q (0, 0, false, [])).1)), .int .i64 (((ks.getD q (0, 0, false, [])).2.1)), .bool (((ks.getD q (0, 0, false, [])).2.2.1)), ((aggAt v 3))] : Value) = v ∧ (IntsF FF ((aggAt v 3)) ((ks.getD q (0, 0, false, [])).2.2.2)), fun FF us v => ∃ b, v = .slice (some ⟨b, 0, none⟩) 1 1]) (ownL [fun us v => [], fun us v => [], fun us v => [], fun us v => [], fun us v => [], fun us v => [], fun us v => [], fun us v => [], fun us v => [slH 195 4 v 1 [.int .i64 (((ks.getD q (0, 0, false, [])).1)), .int .i64 (((ks.getD q (0, 0, false, [])).2.1)), .bool (((ks.getD q (0, 0, false, [])).2.2.1)), ((aggAt (us.getD 0 undef) 3))]]]) mixed rfl rfl (by kernel_rfl) (by kernel_rfl) (MonoG.get (MonoG.cons (fun le h => h) (MonoG.cons (fun le h => h) (MonoG.cons (fun le h => h) (MonoG.cons (fun le h => h) (MonoG.cons (fun le h => h) (MonoG.cons (fun le h => h) (MonoG.cons (fun le h => h) (MonoG.cons (fun le h => ⟨h.1, h.2.mono le⟩) (MonoG.cons (fun le h => h) MonoG.nil)))))))))) ?_ ?_
    ·refine stepsG.cons (fun vals Fs R leFs hpZ => ?_) ?_
     ·refine XG.op (XOp.fieldP (b := b4) (1) Tryz.runUnderlying88 rfl Tryz.sizeOf86 (by decide) rfl rfl ?_)
      exact ⟨rfl, rfl⟩
     refine stepsG.cons (fun vals Fs R leFs hpZ => ?_) ?_
     ·replace hf := hf.mono leFs
      replace hns := hns.mono leFs
      replace hg := hg.mono leFs
      replace hks := hks.mono leFs
      replace hf1 := hf1.mono leFs
      replace hC := hC.mono leFs
      replace hCj := hCj.mono leFs
      replace ha2 := ha2.mono leFs
      replace hrg2 := fun L9 j9 u9 h9 => Rd.mono (hrg2 L9 j9 u9 h9) leFs
      rw [eS (l := [(0, ptr b4 1)]) ⟨(hpZ 0 (by decide)), trivial⟩]
      refine XG.op (XOp.load1 (v := sv) Tryz.isAgg86 rfl (Rd.own [_] rfl rfl) ?_)
      exact ⟨rfl, rfl⟩
     refine stepsG.cons (fun vals Fs R leFs hpZ => ?_) ?_
     ·refine XG.op (XOp.fieldP (b := b2) (1) Tryz.runUnderlying88 rfl Tryz.sizeOf86 (by decide) rfl rfl ?_)
      exact ⟨rfl, rfl⟩
     refine stepsG.cons (fun vals Fs R leFs hpZ => ?_) ?_
     ·replace hf := hf.mono leFs
      replace hns := hns.mono leFs
      replace hg := hg.mono leFs
      replace hks := hks.mono leFs
      replace hf1 := hf1.mono leFs
      replace hC := hC.mono leFs
      replace hCj := hCj.mono leFs
      replace ha2 := ha2.mono leFs
      replace hrg2 := fun L9 j9 u9 h9 => Rd.mono (hrg2 L9 j9 u9 h9) leFs
      rw [eS (l := [(2, ptr b2 1)]) ⟨(hpZ 2 (by decide)), trivial⟩]
      refine XG.op (XOp.load1 (v := ksv) Tryz.isAgg86 rfl (Rd.own [_, _, _] rfl rfl) ?_)
      exact ⟨rfl, rfl⟩
     refine stepsG.cons (fun vals Fs R leFs hpZ => ?_) ?_
     ·refine XG.op (XOp.move (.int .i64 ((q : Int))) rfl ?_)
      exact ⟨rfl, rfl⟩
     refine stepsG.cons (fun vals Fs R leFs hpZ => ?_) ?_
     ·replace hf := hf.mono leFs
      replace hns := hns.mono leFs
      replace hg := hg.mono leFs
      replace hks := hks.mono leFs
      replace hf1 := hf1.mono leFs
      replace hC := hC.mono leFs
      replace hCj := hCj.mono leFs
      replace ha2 := ha2.mono leFs
      replace hrg2 := fun L9 j9 u9 h9 => Rd.mono (hrg2 L9 j9 u9 h9) leFs
      rw [eS (l := [(3, ksv), (4, (.int .i64 ((q : Int)) : Value))]) ⟨(hpZ 3 (by decide)), (hpZ 4 (by decide)), trivial⟩]
      refine XG.op (XOp.indexS (v := ksv) (i := (q : Int)) (n := (ks).length) q Tryz.runUnderlying86 Tryz.sizeOf195 rfl rfl rfl hks.slv (by omega) rfl ?_)
      exact ⟨rfl, rfl⟩
     refine stepsG.cons (fun vals Fs R leFs hpZ => ?_) ?_
     ·replace hf := hf.mono leFs
      replace hns := hns.mono leFs
      replace hg := hg.mono leFs
      replace hks := hks.mono leFs
      replace hf1 := hf1.mono leFs
      replace hC := hC.mono leFs
      replace hCj := hCj.mono leFs
      replace ha2 := ha2.mono leFs
      replace hrg2 := fun L9 j9 u9 h9 => Rd.mono (hrg2 L9 j9 u9 h9) leFs
      rw [eS (l := [(5, (.pointer (some (elemA ksv (q * 4))) : Value))]) ⟨(hpZ 5 (by decide)), trivial⟩]
      refine XG.op (XOp.loadN [.int .i64 ((ks.getD q (0, 0, false, [])).1), .int .i64 ((ks.getD q (0, 0, false, [])).2.1), .bool ((ks.getD q (0, 0, false, [])).2.2.1), a2] Tryz.isAgg195 Tryz.sizeOf195 rfl rfl (Rd.all (hrg2 _)) ?_)
      exact ⟨rfl, rfl⟩
     refine stepsG.cons (fun vals Fs R leFs hpZ => ?_) ?_
     ·replace hf := hf.mono leFs
      replace hns := hns.mono leFs
      replace hg := hg.mono leFs
      replace hks := hks.mono leFs
      replace hf1 := hf1.mono leFs
      replace hC := hC.mono leFs
      replace hCj := hCj.mono leFs
      replace ha2 := ha2.mono leFs
      replace hrg2 := fun L9 j9 u9 h9 => Rd.mono (hrg2 L9 j9 u9 h9) leFs
      rw [eS (l := [(6, (.agg #[.int .i64 ((ks.getD q (0, 0, false, [])).1), .int .i64 ((ks.getD q (0, 0, false, [])).2.1), .bool ((ks.getD q (0, 0, false, [])).2.2.1), a2] : Value))]) ⟨(hpZ 6 (by decide)), trivial⟩]
      refine XG.op (XOp.call (args := [.agg #[.int .i64 ((ks.getD q (0, 0, false, [])).1), .int .i64 ((ks.getD q (0, 0, false, [])).2.1), .bool ((ks.getD q (0, 0, false, [])).2.2.1), a2]]) Tryz.call161 rfl (l20CopyMove_spec ha2 (hlt := (by first | assumption | rfl | omega | simp))) ?_)
      rintro _ F6 _ le6 ⟨x4, rfl, hr4, rfl⟩
      replace hf := hf.mono le6
      replace hns := hns.mono le6
      replace hg := hg.mono le6
      replace hks := hks.mono le6
      replace hf1 := hf1.mono le6
      replace hC := hC.mono le6
      replace hCj := hCj.mono le6
      replace ha2 := ha2.mono le6
      replace hrg2 := fun L9 j9 u9 h9 => Rd.mono (hrg2 L9 j9 u9 h9) le6
      exact ⟨⟨rfl, hr4⟩, rfl⟩
     refine stepsG.cons (fun vals Fs R leFs hpZ => ?_) ?_
     ·obtain ⟨e7, f7_2hr⟩ := hpZ 7 (by decide)
      replace hf := hf.mono leFs
      replace hns := hns.mono leFs
      replace hg := hg.mono leFs
      replace hks := hks.mono leFs
      replace hf1 := hf1.mono leFs
      replace hC := hC.mono leFs
      replace hCj := hCj.mono leFs
      replace ha2 := ha2.mono leFs
      replace hrg2 := fun L9 j9 u9 h9 => Rd.mono (hrg2 L9 j9 u9 h9) leFs
      rw [eS (l := [(7, (.agg #[.int .i64 (((ks.getD q (0, 0, false, [])).1)), .int .i64 (((ks.getD q (0, 0, false, [])).2.1)), .bool (((ks.getD q (0, 0, false, [])).2.2.1)), ((aggAt (vals 7) 3))] : Value))]) ⟨(e7).symm, trivial⟩]
      refine XG.op (XOp.buildSlice (s := 4) [.int .i64 (((ks.getD q (0, 0, false, [])).1)), .int .i64 (((ks.getD q (0, 0, false, [])).2.1)), .bool (((ks.getD q (0, 0, false, [])).2.2.1)), ((aggAt (vals 7) 3))] [.int .i64 (0), .int .i64 (0), .bool (false), (.slice none 0 0)] [(0, [.int .i64 (((ks.getD q (0, 0, false, [])).1)), .int .i64 (((ks.getD q (0, 0, false, [])).2.1)), .bool (((ks.getD q (0, 0, false, [])).2.2.1)), ((aggAt (vals 7) 3))])] Tryz.runUnderlying86 Tryz.sizeOf195 Tryz.zeroValue195 rfl (by decide) rfl (.cons rfl CellsAre.nil) rfl ?_)
      intro v6 hv4
      exact ⟨hv4, rfl⟩
     exact stepsG.nil
    ·intro vals F7 le7 hphi
     obtain ⟨e7, f7_2hr⟩ := hphi 7 (by decide)
     have f8 : ∃ b, (vals 8) = .slice (some ⟨b, 0, none⟩) 1 1 := hphi 8 (by decide)
     generalize hu2 : ((aggAt (vals 7) 3)) = u3 at e7 f7_2hr f8
     generalize hu8 : vals 8 = u4 at e7 f7_2hr f8
     rw [eS (l := [(0, ptr b4 1), (1, sv), (2, ptr b2 1), (3, ksv), (4, (.int .i64 ((q : Int)) : Value)), (5, (.pointer (some (elemA ksv (q * 4))) : Value)), (6, (.agg #[.int .i64 ((ks.getD q (0, 0, false, [])).1), .int .i64 ((ks.getD q (0, 0, false, [])).2.1), .bool ((ks.getD q (0, 0, false, [])).2.2.1), a2] : Value)), (7, (.agg #[.int .i64 (((ks.getD q (0, 0, false, [])).1)), .int .i64 (((ks.getD q (0, 0, false, [])).2.1)), .bool (((ks.getD q (0, 0, false, [])).2.2.1)), u3] : Value)), (8, u4)]) ⟨(hphi 0 (by decide)), (hphi 1 (by decide)), (hphi 2 (by decide)), (hphi 3 (by decide)), (hphi 4 (by decide)), (hphi 5 (by decide)), (hphi 6 (by decide)), (e7).symm, hu8, trivial⟩]
     replace hf := hf.mono le7
     replace hns := hns.mono le7
     replace hg := hg.mono le7
     replace hks := hks.mono le7
     replace hf1 := hf1.mono le7
     replace hC := hC.mono le7
     replace hCj := hCj.mono le7
     replace ha2 := ha2.mono le7
     replace hrg2 := fun L9 j9 u9 h9 => Rd.mono (hrg2 L9 j9 u9 h9) le7
     show XL _ _ _ _ _ _ _ (slH 195 4 u4 1 [.int .i64 (((ks.getD q (0, 0, false, [])).1)), .int .i64 (((ks.getD q (0, 0, false, [])).2.1)), .bool (((ks.getD q (0, 0, false, [])).2.2.1)), u3] :: slH 195 4 sv m cs :: cellsH b4 [v1, sv] 88 :: cellsH b3 [(.slice none 0 0), (.slice none 0 0)] 88 :: cellsH b2 [gv, ksv] 88 :: cellsH b1 [fv, nsv] 88 :: L)
     refine XL.cons (XOp.append (m := 1) (bytes := 48) (cs := cs) [_] _ [.int .i64 (((ks.getD q (0, 0, false, [])).1)), .int .i64 (((ks.getD q (0, 0, false, [])).2.1)), .bool (((ks.getD q (0, 0, false, [])).2.2.1)), u3] Tryz.runUnderlying86 Tryz.typeInfo195 rfl rfl rfl rfl rfl rfl rfl (SlV.own [] rfl) rfl (Rd.lit [] rfl) (ones_cons rfl (ones_cons rfl (ones_cons rfl (ones_cons (one_sl (IntsF.isSl f7_2hr)) ones_nil)))) (by (try simp only [List.length_append, List.length_nil, List.length_cons, List.length_singleton]); omega) (by (try simp only [List.length_append, List.length_nil, List.length_cons, List.length_singleton]); omega) ?_)
     intro v7 hs3 hn2 hm2
     have hc2 := MovesC.snoc hCj (y0 := ((ks.getD q (0, 0, false, [])).1)) (y1 := ((ks.getD q (0, 0, false, [])).2.1)) (y2 := ((ks.getD q (0, 0, false, [])).2.2.1)) (y3 := ((ks.getD q (0, 0, false, [])).2.2.2)) f7_2hr
     refine XL.cons (XOp.fieldP (b := b4) (1) Tryz.runUnderlying88 rfl Tryz.sizeOf86 (by decide) rfl rfl ?_)
     refine XL.cons (XOp.store1 (v := v7) [_, _] _ [v1, v7] Tryz.sizeOf86 rfl rfl (one_sl hs3) rfl rfl rfl ?_)
     refine XL.nil (X.region ?_)
     refine XL.mv (.int .i64 ((q : Int))) rfl ?_
     refine XL.cons (XOp.addR (a := (q : Int)) (b := 1) (((q + 1 : Nat) : Int)) rfl rfl (by omega) (by omega) ?_)
     refine XL.as (.int .i64 (((q + 1 : Nat) : Int))) rfl ?_
     refine XL.nil ?_
     exact ⟨(q + 1, v7, ms ++ [(((ks.getD q (0, 0, false, [])).1), ((ks.getD q (0, 0, false, [])).2.1), ((ks.getD q (0, 0, false, [])).2.2.1), ((ks.getD q (0, 0, false, [])).2.2.2))], cs ++ [.int .i64 (((ks.getD q (0, 0, false, [])).1)), .int .i64 (((ks.getD q (0, 0, false, [])).2.1)), .bool (((ks.getD q (0, 0, false, [])).2.2.1)), u3], (m) + 1, F7), _, (FLe.trans leG2 le7), rF, ⟨rfl, rfl, rfl, rfl, trivial⟩, (Sub.drop (Sub.cons (Sub.cons (Sub.cons (Sub.cons (Sub.cons sR)))))), ⟨rfl, (FLe.trans leG2 le7), (by (try dsimp only) <;> omega), (hs3), (hc2), (by (try dsimp only); rw [List.length_append]; simp only [List.length_singleton]; omega), (by (try dsimp only); rw [take_succ_getD (0, 0, false, []) (by omega), ← List.append_assoc, ← hmsj])⟩, (by omega)⟩
   ·refine X.exit (thenQ_exit (thenQ_exit (blockQ_exit ?_)))
    refine X.seq (X.region ?_)
    refine XL.cons (XOp.loadN [v1, sv] Tryz.isAgg88 Tryz.sizeOf88 rfl rfl (Rd.ownN [_] rfl rfl) ?_)
    refine XL.cons (XOp.storeN (vs := [v1, sv]) [_, _] _ [v1, sv] Tryz.sizeOf88 rfl rfl rfl (ones_cons (one_sl (IntsF.isSl hf1)) (ones_cons (one_sl hsvj) ones_nil)) rfl rfl rfl ?_)
    refine XL.as (.bool (true)) rfl ?_
    refine XL.nil ?_
    refine X.freezeF [] _ _ rfl (fun F8 le8 hz2 => ?_)
    replace hf := hf.mono le8
    replace hns := hns.mono le8
    replace hg := hg.mono le8
    replace hks := hks.mono le8
    replace hf1 := hf1.mono le8
    replace hC := hC.mono le8
    replace hCj := hCj.mono le8
    have hf2 : MovesF F8 sv ms := CO.fz hCj (by first | rfl | simp | omega) hz2.fz
    refine X.ret (retEnd (L' := L) [.agg #[v1, sv], .bool (true)] (.tuple #[.agg #[v1, sv], .bool (true)]) (.cell rfl (loadNV [v1, sv] Tryz.isAgg88 Tryz.sizeOf88 rfl (Rd.ownN [_] rfl rfl)) (.tmp rfl .nil)) rfl (FLe.trans (FLe.trans (FLe.trans le1 leG1) leG2) le8) rF (Sub.drop (Sub.drop (Sub.drop (Sub.drop sR)))) ?_)
    have e9 : ms = ns ++ ks := by rw [hmsj, List.take_of_length_le (by omega)]
    have e : joinC f ns ks = (f, ms, true) := by rw [e9]; exact joinC_yes (by omega)
    exact ⟨_, _, by rw [e], by rw [e]; exact hf1, by rw [e]; exact hf2, rfl⟩

/- impl.ChainOfJoin -/
set_option maxHeartbeats 1000000 in
set_option maxRecDepth 20000 in
theorem ChainOfJoin_spec {F : FH} {L : List HP} {arv : Value} {ar : List Int} (har : IntsF F arv ar) {rsv : Value} {rs : List (List Int × List Int)} (hrs : PairsF F rsv rs) {fv : Value} {f : List Int} (hf : IntsF F fv f) {xsv : Value} {xs : List StepT} (hxs : StepsF F xsv xs) {gv : Value} {g : List Int} (hg : IntsF F gv g) {ysv : Value} {ys : List StepT} (hys : StepsF F ysv ys) (hlf : f.length ≤ 4000000) (hsb : ∀ i, i < xs.length → (xs.getD i (0, 0, [])).2.2.length ≤ 4000000) (hlg : g.length ≤ 4000000) (hyb : ∀ i, i < ys.length → (ys.getD i (0, 0, [])).2.2.length ≤ 4000000) :
    Does Tryz.prog 41 [.agg #[arv, rsv], .agg #[fv, xsv], .agg #[gv, ysv]] F (L) (fun v F' L' => ∃ (a : Value), ∃ (b : Value), (.tuple #[.agg #[a, b], .bool ((chainJF ar rs f xs g ys).2.2)] : Value) = v ∧ (IntsF F' a (chainJF ar rs f xs g ys).1) ∧ (MovesF F' b (chainJF ar rs f xs g ys).2.1) ∧ (Fresh F F' (star [intsH 2 a (chainJF ar rs f xs g ys).1, movesD 2 195 b (chainJF ar rs f xs g ys).2.1])) ∧ L = L') := by
 refine Does.of_X Tryz.func41 rfl rfl rfl ?_
 refine X.seq (X.region ?_)
 refine XL.cons (XOp.box [arv, rsv] rfl rfl ?_)
 intro b1
 refine XL.cons (XOp.box [fv, xsv] rfl rfl ?_)
 intro b2
 refine XL.cons (XOp.box [gv, ysv] rfl rfl ?_)
 intro b3
 refine XL.cons (XOp.alloc [(.slice none 0 0), (.slice none 0 0)] Tryz.zeroValue88 rfl ?_)
 intro b4
 refine XL.as (.bool (false)) rfl ?_
 refine XL.nil (X.seq (X.seq (X.region ?_)))
 refine XL.cons (XOp.loadN [arv, rsv] Tryz.isAgg39 Tryz.sizeOf39 rfl rfl (Rd.ownN [_, _, _] rfl rfl) ?_)
 refine XL.cons (XOp.loadN [fv, xsv] Tryz.isAgg45 Tryz.sizeOf45 rfl rfl (Rd.ownN [_, _] rfl rfl) ?_)
 refine XL.cons (XOp.call (args := [.agg #[arv, rsv], .agg #[fv, xsv]]) Tryz.call57 rfl (WalkOk_spec har hrs hf hxs (hlf := (by first | assumption | rfl | omega | simp)) (hsb := (by first | assumption | rfl | omega | simp))) ?_)
 rintro _ _ _ _ ⟨rfl, rfl, rfl⟩
 refine XL.cons (XOp.notB (b := walkOkL ar rs f xs) rfl ?_)
 refine XL.mv (.bool (!(walkOkL ar rs f xs))) rfl ?_
 by_cases h1 : (!(walkOkL ar rs f xs)) = true
 ·have hw1 : walkOkL ar rs f xs = false := by simpa using h1
  refine XL.no (t := 12) rfl (vB h1) ?_
  refine XL.no (t := 12) rfl (vB h1) ?_
  refine XL.no (t := 12) rfl (vB h1) ?_
  refine XL.no (t := 12) rfl (vB h1) ?_
  refine XL.cons (XOp.pickT (.bool (true)) (vB h1) rfl ?_)
  refine XL.nil ?_
  refine X.condT rfl ?_
  refine X.seq (X.region ?_)
  refine XL.cons (XOp.build [(.slice none 0 0), (.slice none 0 0)] [(.slice none 0 0), (.slice none 0 0)] [(0, 1), (1, 1)] [] Tryz.runUnderlying88 Tryz.zeroValue88 rfl (.cons rfl Tryz.sizeOf22 (.cons rfl Tryz.sizeOf86 PlacesAre.nil)) rfl CellsAre.nil ?_)
  refine XL.cons (XOp.storeN (vs := [(.slice none 0 0), (.slice none 0 0)]) [] _ [(.slice none 0 0), (.slice none 0 0)] Tryz.sizeOf88 rfl rfl rfl (ones_cons rfl (ones_cons rfl ones_nil)) rfl rfl rfl ?_)
  refine XL.as (.bool (false)) rfl ?_
  refine XL.nil ?_
  refine X.ret (thenQ_ret (retEnd (L' := L) [.agg #[(.slice none 0 0), (.slice none 0 0)], .bool (false)] (.tuple #[.agg #[(.slice none 0 0), (.slice none 0 0)], .bool (false)]) (.cell rfl (loadNV [(.slice none 0 0), (.slice none 0 0)] Tryz.isAgg88 Tryz.sizeOf88 rfl (Rd.ownN [] rfl rfl)) (.tmp rfl .nil)) rfl rF rF (Sub.drop (Sub.drop (Sub.drop (Sub.drop sR)))) ?_))
  have e : chainJF ar rs f xs g ys = ([], [], false) := chainJF_no (by simp_all)
  exact ⟨_, _, by rw [e], by rw [e]; exact IntsF.nilV, by rw [e]; exact SlOf.nilV, by rw [e]; exact Fresh.empty nilChain, rfl⟩
 ·rw [Bool.not_eq_true] at h1
  have hw1 : walkOkL ar rs f xs = true := by simpa using h1
  have hwb1 := walkOk_bound hw1
  have hwc1 := hwb1.1
  have hwd1 := hwb1.2.1
  have hcl1 : (chainL xs).length = xs.length := chainL_len
  have hcb1 := mem_getD_le (chain_mem hwb1.2.2)
  refine XL.yes (t := 12) rfl (vB h1) (XOp.loadN [arv, rsv] Tryz.isAgg39 Tryz.sizeOf39 rfl rfl (Rd.ownN [_, _, _] rfl rfl) ?_)
  refine XL.yes (t := 12) rfl (vB h1) (XOp.loadN [gv, ysv] Tryz.isAgg45 Tryz.sizeOf45 rfl rfl (Rd.ownN [_] rfl rfl) ?_)
  refine XL.yes (t := 12) rfl (vB h1) (XOp.call (args := [.agg #[arv, rsv], .agg #[gv, ysv]]) Tryz.call57 rfl (WalkOk_spec har hrs hg hys (hlf := (by first | assumption | rfl | omega | simp)) (hsb := (by first | assumption | rfl | omega | simp))) ?_)
  rintro _ _ _ _ ⟨rfl, rfl, rfl⟩
  refine XL.yes (t := 12) rfl (vB h1) (XOp.notB (b := walkOkL ar rs g ys) rfl ?_)
  refine XL.cons (XOp.pickF (.bool (!(walkOkL ar rs g ys))) (vB h1) rfl ?_)
  refine XL.nil ?_
  refine X.cond (t := !(walkOkL ar rs g ys)) rfl (fun h2 => ?_) (fun h2 => ?_)
  ·have hw2 : walkOkL ar rs g ys = false := by simpa using h2
   refine X.seq (X.region ?_)
   refine XL.cons (XOp.build [(.slice none 0 0), (.slice none 0 0)] [(.slice none 0 0), (.slice none 0 0)] [(0, 1), (1, 1)] [] Tryz.runUnderlying88 Tryz.zeroValue88 rfl (.cons rfl Tryz.sizeOf22 (.cons rfl Tryz.sizeOf86 PlacesAre.nil)) rfl CellsAre.nil ?_)
   refine XL.cons (XOp.storeN (vs := [(.slice none 0 0), (.slice none 0 0)]) [] _ [(.slice none 0 0), (.slice none 0 0)] Tryz.sizeOf88 rfl rfl rfl (ones_cons rfl (ones_cons rfl ones_nil)) rfl rfl rfl ?_)
   refine XL.as (.bool (false)) rfl ?_
   refine XL.nil ?_
   refine X.ret (thenQ_ret (retEnd (L' := L) [.agg #[(.slice none 0 0), (.slice none 0 0)], .bool (false)] (.tuple #[.agg #[(.slice none 0 0), (.slice none 0 0)], .bool (false)]) (.cell rfl (loadNV [(.slice none 0 0), (.slice none 0 0)] Tryz.isAgg88 Tryz.sizeOf88 rfl (Rd.ownN [] rfl rfl)) (.tmp rfl .nil)) rfl rF rF (Sub.drop (Sub.drop (Sub.drop (Sub.drop sR)))) ?_))
   have e : chainJF ar rs f xs g ys = ([], [], false) := chainJF_no (by simp_all)
   exact ⟨_, _, by rw [e], by rw [e]; exact IntsF.nilV, by rw [e]; exact SlOf.nilV, by rw [e]; exact Fresh.empty nilChain, rfl⟩
  ·have hw2 : walkOkL ar rs g ys = true := by simpa using h2
   have hwb2 := walkOk_bound hw2
   have hwc2 := hwb2.1
   have hwd2 := hwb2.2.1
   have hcl2 : (chainL ys).length = ys.length := chainL_len
   have hcb2 := mem_getD_le (chain_mem hwb2.2.2)
   have htl9 : (turnL g (chainL ys)).length = (chainL ys).length := turnL_len
   have htb9 := mem_getD_le (turn_mem hwb2.1 (chain_mem hwb2.2.2))
   have hen9 : (endM g (chainL ys)).length ≤ 60 := by unfold endM; split <;> first | exact hwb2.1 | exact hcb2 _ (by omega)
   have het1 : endT ar rs f xs = endL f xs := by rw [endT, if_pos hw1]
   have het2 : endT ar rs g ys = endL g ys := by rw [endT, if_pos hw2]
   have hel1 := termOk_len (right_iff.1 (walkOk_end hw1)).2
   have hel2 := termOk_len (right_iff.1 (walkOk_end hw2)).2
   refine X.skip (X.seq ?_)
   refine X.drawG [cellsH b4 [(.slice none 0 0), (.slice none 0 0)] 88, cellsH b3 [gv, ysv] 45, cellsH b2 [fv, xsv] 45, cellsH b1 [arv, rsv] 39] L 8 [[], [], [], [], [], [], [5], []] [[], [0], [], [2], [3], [1, 4], [5], [5]] [[], [], [], [], [], [], [], []] (phiG [fun FF us v => v = (.agg #[fv, xsv] : Value), fun FF us v => (.agg #[((aggAt v 0)), ((aggAt v 1))] : Value) = v ∧ (IntsF FF ((aggAt v 0)) f) ∧ (MovesF FF ((aggAt v 1)) (chainL xs)) ∧ (FreshsF F FF (star [intsH 2 ((aggAt v 0)) f, movesD 2 195 ((aggAt v 1)) (chainL xs)])), fun FF us v => v = (.agg #[gv, ysv] : Value), fun FF us v => (.agg #[((aggAt v 0)), ((aggAt v 1))] : Value) = v ∧ (IntsF FF ((aggAt v 0)) g) ∧ (MovesF FF ((aggAt v 1)) (chainL ys)) ∧ (FreshsF F FF (star [intsH 2 ((aggAt v 0)) g, movesD 2 195 ((aggAt v 1)) (chainL ys)])), fun FF us v => (.agg #[((aggAt v 0)), ((aggAt v 1))] : Value) = v ∧ (IntsF FF ((aggAt v 0)) (endM g (chainL ys))) ∧ (MovesF FF ((aggAt v 1)) (turnL g (chainL ys))) ∧ (FreshsF F FF (star [intsH 2 ((aggAt v 0)) (endM g (chainL ys)), movesD 2 195 ((aggAt v 1)) (turnL g (chainL ys))])), fun FF us v => (.tuple #[.agg #[((aggAt (tupAt v 0) 0)), ((aggAt (tupAt v 0) 1))], .bool ((joinG f (chainL xs) (endM g (chainL ys)) (turnL g (chainL ys))).2.2)] : Value) = v ∧ (IntsF FF ((aggAt (tupAt v 0) 0)) (joinG f (chainL xs) (endM g (chainL ys)) (turnL g (chainL ys))).1) ∧ (MovesF FF ((aggAt (tupAt v 0) 1)) (joinG f (chainL xs) (endM g (chainL ys)) (turnL g (chainL ys))).2.1) ∧ (FreshsF F FF (star [intsH 2 ((aggAt (tupAt v 0) 0)) (joinG f (chainL xs) (endM g (chainL ys)) (turnL g (chainL ys))).1, movesD 2 195 ((aggAt (tupAt v 0) 1)) (joinG f (chainL xs) (endM g (chainL ys)) (turnL g (chainL ys))).2.1])), fun FF us v => v = (.agg #[((aggAt (tupAt (us.getD 0 undef) 0) 0)), ((aggAt (tupAt (us.getD 0 undef) 0) 1))] : Value), fun FF us v => v = (.bool ((joinG f (chainL xs) (endM g (chainL ys)) (turnL g (chainL ys))).2.2) : Value)]) (ownL [fun us v => [], fun us v => [], fun us v => [], fun us v => [], fun us v => [], fun us v => [], fun us v => [], fun us v => []]) mixed rfl rfl (by kernel_rfl) (by kernel_rfl) (MonoG.get (MonoG.cons (fun le h => h) (MonoG.cons (fun le h => ⟨h.1, h.2.1.mono le, h.2.2.1.mono le, h.2.2.2.mono le⟩) (MonoG.cons (fun le h => h) (MonoG.cons (fun le h => ⟨h.1, h.2.1.mono le, h.2.2.1.mono le, h.2.2.2.mono le⟩) (MonoG.cons (fun le h => ⟨h.1, h.2.1.mono le, h.2.2.1.mono le, h.2.2.2.mono le⟩) (MonoG.cons (fun le h => ⟨h.1, h.2.1.mono le, h.2.2.1.mono le, h.2.2.2.mono le⟩) (MonoG.cons (fun le h => h) (MonoG.cons (fun le h => h) MonoG.nil))))))))) ?_ ?_
   ·refine stepsG.cons (fun vals Fs R leFs hpZ => ?_) ?_
    ·replace har := har.mono leFs
     replace hrs := hrs.mono leFs
     replace hf := hf.mono leFs
     replace hxs := hxs.mono leFs
     replace hg := hg.mono leFs
     replace hys := hys.mono leFs
     refine XG.op (XOp.loadN [fv, xsv] Tryz.isAgg45 Tryz.sizeOf45 rfl rfl (Rd.ownN [_, _] rfl rfl) ?_)
     exact ⟨rfl, rfl⟩
    refine stepsG.cons (fun vals Fs R leFs hpZ => ?_) ?_
    ·replace har := har.mono leFs
     replace hrs := hrs.mono leFs
     replace hf := hf.mono leFs
     replace hxs := hxs.mono leFs
     replace hg := hg.mono leFs
     replace hys := hys.mono leFs
     rw [eS (l := [(0, (.agg #[fv, xsv] : Value))]) ⟨(hpZ 0 (by decide)), trivial⟩]
     refine XG.op (XOp.call (args := [.agg #[fv, xsv]]) Tryz.call104 rfl (chainOfWalk_spec hf hxs (hlf := (by first | assumption | rfl | omega | simp)) (hlx := (by first | assumption | rfl | omega | simp)) (hxb := (hwb1.2.2))) ?_)
     rintro _ F5 _ le5 ⟨x9, x10, rfl, hr13, hr14, hr15, rfl⟩
     replace har := har.mono le5
     replace hrs := hrs.mono le5
     replace hf := hf.mono le5
     replace hxs := hxs.mono le5
     replace hg := hg.mono le5
     replace hys := hys.mono le5
     exact ⟨⟨rfl, hr13, hr14, (hr15.base leFs)⟩, rfl⟩
    refine stepsG.cons (fun vals Fs R leFs hpZ => ?_) ?_
    ·replace har := har.mono leFs
     replace hrs := hrs.mono leFs
     replace hf := hf.mono leFs
     replace hxs := hxs.mono leFs
     replace hg := hg.mono leFs
     replace hys := hys.mono leFs
     refine XG.op (XOp.loadN [gv, ysv] Tryz.isAgg45 Tryz.sizeOf45 rfl rfl (Rd.ownN [_] rfl rfl) ?_)
     exact ⟨rfl, rfl⟩
    refine stepsG.cons (fun vals Fs R leFs hpZ => ?_) ?_
    ·replace har := har.mono leFs
     replace hrs := hrs.mono leFs
     replace hf := hf.mono leFs
     replace hxs := hxs.mono leFs
     replace hg := hg.mono leFs
     replace hys := hys.mono leFs
     rw [eS (l := [(2, (.agg #[gv, ysv] : Value))]) ⟨(hpZ 2 (by decide)), trivial⟩]
     refine XG.op (XOp.call (args := [.agg #[gv, ysv]]) Tryz.call104 rfl (chainOfWalk_spec hg hys (hlf := (by first | assumption | rfl | omega | simp)) (hlx := (by first | assumption | rfl | omega | simp)) (hxb := (hwb2.2.2))) ?_)
     rintro _ F6 _ le6 ⟨x11, x12, rfl, hr16, hr17, hr18, rfl⟩
     replace har := har.mono le6
     replace hrs := hrs.mono le6
     replace hf := hf.mono le6
     replace hxs := hxs.mono le6
     replace hg := hg.mono le6
     replace hys := hys.mono le6
     exact ⟨⟨rfl, hr16, hr17, (hr18.base leFs)⟩, rfl⟩
    refine stepsG.cons (fun vals Fs R leFs hpZ => ?_) ?_
    ·obtain ⟨e3, f3_1hr1, f3_1hr2, f3_1hz⟩ := hpZ 3 (by decide)
     replace har := har.mono leFs
     replace hrs := hrs.mono leFs
     replace hf := hf.mono leFs
     replace hxs := hxs.mono leFs
     replace hg := hg.mono leFs
     replace hys := hys.mono leFs
     rw [eS (l := [(3, (.agg #[((aggAt (vals 3) 0)), ((aggAt (vals 3) 1))] : Value))]) ⟨(e3).symm, trivial⟩]
     refine XG.op (XOp.call (args := [.agg #[((aggAt (vals 3) 0)), ((aggAt (vals 3) 1))]]) Tryz.call105 rfl (turned_spec f3_1hr1 f3_1hr2 (hlf := (hwc2)) (hln := (by omega)) (hnb := (hcb2))) ?_)
     rintro _ F7 _ le7 ⟨x13, x14, rfl, hr19, hr20, hr21, rfl⟩
     replace har := har.mono le7
     replace hrs := hrs.mono le7
     replace hf := hf.mono le7
     replace hxs := hxs.mono le7
     replace hg := hg.mono le7
     replace hys := hys.mono le7
     replace f3_1hr1 := f3_1hr1.mono le7
     replace f3_1hr2 := f3_1hr2.mono le7
     replace f3_1hz := f3_1hz.mono le7
     exact ⟨⟨rfl, hr19, hr20, (hr21.base leFs)⟩, rfl⟩
    refine stepsG.cons (fun vals Fs R leFs hpZ => ?_) ?_
    ·obtain ⟨e1, f1_1hr1, f1_1hr2, f1_1hz⟩ := hpZ 1 (by decide)
     obtain ⟨e4, f4_1hr1, f4_1hr2, f4_1hz⟩ := hpZ 4 (by decide)
     replace har := har.mono leFs
     replace hrs := hrs.mono leFs
     replace hf := hf.mono leFs
     replace hxs := hxs.mono leFs
     replace hg := hg.mono leFs
     replace hys := hys.mono leFs
     rw [eS (l := [(1, (.agg #[((aggAt (vals 1) 0)), ((aggAt (vals 1) 1))] : Value)), (4, (.agg #[((aggAt (vals 4) 0)), ((aggAt (vals 4) 1))] : Value))]) ⟨(e1).symm, (e4).symm, trivial⟩]
     refine XG.op (XOp.call (args := [.agg #[((aggAt (vals 1) 0)), ((aggAt (vals 1) 1))], .agg #[((aggAt (vals 4) 0)), ((aggAt (vals 4) 1))]]) Tryz.call103 rfl (joinChains_spec f1_1hr1 f1_1hr2 f4_1hr1 f4_1hr2 (hlf := (hwc1)) (hln := (by omega)) (hlk := (by omega)) (hnb := (hcb1)) (hkb := (htb9)) (hgl := (hen9))) ?_)
     rintro _ F8 _ le8 ⟨x15, x16, rfl, hr22, hr23, hr24, rfl⟩
     replace har := har.mono le8
     replace hrs := hrs.mono le8
     replace hf := hf.mono le8
     replace hxs := hxs.mono le8
     replace hg := hg.mono le8
     replace hys := hys.mono le8
     replace f1_1hr1 := f1_1hr1.mono le8
     replace f1_1hr2 := f1_1hr2.mono le8
     replace f1_1hz := f1_1hz.mono le8
     replace f4_1hr1 := f4_1hr1.mono le8
     replace f4_1hr2 := f4_1hr2.mono le8
     replace f4_1hz := f4_1hz.mono le8
     exact ⟨⟨rfl, hr22, hr23, (hr24.base leFs)⟩, rfl⟩
    refine stepsG.cons (fun vals Fs R leFs hpZ => ?_) ?_
    ·obtain ⟨e5, f5_1hr1, f5_1hr2, f5_1hz⟩ := hpZ 5 (by decide)
     rw [eS (l := [(5, (.tuple #[.agg #[((aggAt (tupAt (vals 5) 0) 0)), ((aggAt (tupAt (vals 5) 0) 1))], .bool ((joinG f (chainL xs) (endM g (chainL ys)) (turnL g (chainL ys))).2.2)] : Value))]) ⟨(e5).symm, trivial⟩]
     refine XG.op (XOp.extract (.agg #[((aggAt (tupAt (vals 5) 0) 0)), ((aggAt (tupAt (vals 5) 0) 1))]) rfl rfl ?_)
     exact ⟨rfl, rfl⟩
    refine stepsG.cons (fun vals Fs R leFs hpZ => ?_) ?_
    ·obtain ⟨e5, f5_1hr1, f5_1hr2, f5_1hz⟩ := hpZ 5 (by decide)
     rw [eS (l := [(5, (.tuple #[.agg #[((aggAt (tupAt (vals 5) 0) 0)), ((aggAt (tupAt (vals 5) 0) 1))], .bool ((joinG f (chainL xs) (endM g (chainL ys)) (turnL g (chainL ys))).2.2)] : Value))]) ⟨(e5).symm, trivial⟩]
     refine XG.op (XOp.extract (.bool ((joinG f (chainL xs) (endM g (chainL ys)) (turnL g (chainL ys))).2.2)) rfl rfl ?_)
     exact ⟨rfl, rfl⟩
    exact stepsG.nil
   ·intro vals F9 le9 hphi
    obtain ⟨e1, f1_1hr1, f1_1hr2, f1_1hz⟩ := hphi 1 (by decide)
    obtain ⟨e3, f3_1hr1, f3_1hr2, f3_1hz⟩ := hphi 3 (by decide)
    obtain ⟨e4, f4_1hr1, f4_1hr2, f4_1hz⟩ := hphi 4 (by decide)
    obtain ⟨e5, f5_1hr1, f5_1hr2, f5_1hz⟩ := hphi 5 (by decide)
    have e6 : vals 6 = (.agg #[((aggAt (tupAt (vals 5) 0) 0)), ((aggAt (tupAt (vals 5) 0) 1))] : Value) := hphi 6 (by decide)
    generalize hu1 : ((aggAt (vals 1) 0)) = u1 at e1 f1_1hr1 f1_1hr2 f1_1hz e3 f3_1hr1 f3_1hr2 f3_1hz e4 f4_1hr1 f4_1hr2 f4_1hz e5 f5_1hr1 f5_1hr2 f5_1hz e6
    generalize hu2 : ((aggAt (vals 1) 1)) = u2 at e1 f1_1hr1 f1_1hr2 f1_1hz e3 f3_1hr1 f3_1hr2 f3_1hz e4 f4_1hr1 f4_1hr2 f4_1hz e5 f5_1hr1 f5_1hr2 f5_1hz e6
    generalize hu3 : ((aggAt (vals 3) 0)) = u3 at e1 f1_1hr1 f1_1hr2 f1_1hz e3 f3_1hr1 f3_1hr2 f3_1hz e4 f4_1hr1 f4_1hr2 f4_1hz e5 f5_1hr1 f5_1hr2 f5_1hz e6
    generalize hu4 : ((aggAt (vals 3) 1)) = u4 at e1 f1_1hr1 f1_1hr2 f1_1hz e3 f3_1hr1 f3_1hr2 f3_1hz e4 f4_1hr1 f4_1hr2 f4_1hz e5 f5_1hr1 f5_1hr2 f5_1hz e6
    generalize hu5 : ((aggAt (vals 4) 0)) = u5 at e1 f1_1hr1 f1_1hr2 f1_1hz e3 f3_1hr1 f3_1hr2 f3_1hz e4 f4_1hr1 f4_1hr2 f4_1hz e5 f5_1hr1 f5_1hr2 f5_1hz e6
    generalize hu6 : ((aggAt (vals 4) 1)) = u6 at e1 f1_1hr1 f1_1hr2 f1_1hz e3 f3_1hr1 f3_1hr2 f3_1hz e4 f4_1hr1 f4_1hr2 f4_1hz e5 f5_1hr1 f5_1hr2 f5_1hz e6
    generalize hu7 : ((aggAt (tupAt (vals 5) 0) 0)) = u7 at e1 f1_1hr1 f1_1hr2 f1_1hz e3 f3_1hr1 f3_1hr2 f3_1hz e4 f4_1hr1 f4_1hr2 f4_1hz e5 f5_1hr1 f5_1hr2 f5_1hz e6
    generalize hu8 : ((aggAt (tupAt (vals 5) 0) 1)) = u8 at e1 f1_1hr1 f1_1hr2 f1_1hz e3 f3_1hr1 f3_1hr2 f3_1hz e4 f4_1hr1 f4_1hr2 f4_1hz e5 f5_1hr1 f5_1hr2 f5_1hz e6
    rw [eS (l := [(0, (.agg #[fv, xsv] : Value)), (1, (.agg #[u1, u2] : Value)), (2, (.agg #[gv, ysv] : Value)), (3, (.agg #[u3, u4] : Value)), (4, (.agg #[u5, u6] : Value)), (5, (.tuple #[.agg #[u7, u8], .bool ((joinG f (chainL xs) (endM g (chainL ys)) (turnL g (chainL ys))).2.2)] : Value)), (6, (.agg #[u7, u8] : Value)), (7, (.bool ((joinG f (chainL xs) (endM g (chainL ys)) (turnL g (chainL ys))).2.2) : Value))]) ⟨(hphi 0 (by decide)), (e1).symm, (hphi 2 (by decide)), (e3).symm, (e4).symm, (e5).symm, e6, (hphi 7 (by decide)), trivial⟩]
    replace har := har.mono le9
    replace hrs := hrs.mono le9
    replace hf := hf.mono le9
    replace hxs := hxs.mono le9
    replace hg := hg.mono le9
    replace hys := hys.mono le9
    show XL _ _ _ _ _ _ _ (cellsH b4 [(.slice none 0 0), (.slice none 0 0)] 88 :: cellsH b3 [gv, ysv] 45 :: cellsH b2 [fv, xsv] 45 :: cellsH b1 [arv, rsv] 39 :: L)
    refine XL.cons (XOp.storeN (vs := [u7, u8]) [] _ [u7, u8] Tryz.sizeOf88 rfl rfl rfl (ones_cons (one_sl (IntsF.isSl f5_1hr1)) (ones_cons (one_sl (MovesF.isSl f5_1hr2)) ones_nil)) rfl rfl rfl ?_)
    refine XL.as (.bool ((joinG f (chainL xs) (endM g (chainL ys)) (turnL g (chainL ys))).2.2)) rfl ?_
    refine XL.nil ?_
    refine X.ret (retEnd (L' := L) [.agg #[u7, u8], .bool ((joinG f (chainL xs) (endM g (chainL ys)) (turnL g (chainL ys))).2.2)] (.tuple #[.agg #[u7, u8], .bool ((joinG f (chainL xs) (endM g (chainL ys)) (turnL g (chainL ys))).2.2)]) (.cell rfl (loadNV [u7, u8] Tryz.isAgg88 Tryz.sizeOf88 rfl (Rd.ownN [] rfl rfl)) (.tmp rfl .nil)) rfl le9 rF (Sub.drop (Sub.drop (Sub.drop (Sub.drop sR)))) ?_)
    have e := joinG_chain hw1 hw2
    rw [← e]
    exact ⟨_, _, rfl, f5_1hr1, f5_1hr2, f5_1hz, rfl⟩

/- spec.ChainOfJoin -/
set_option maxHeartbeats 1000000 in
set_option maxRecDepth 20000 in
theorem sChainOfJoin_spec {F : FH} {L : List HP} {arv : Value} {ar : List Int} (har : IntsF F arv ar) {rsv : Value} {rs : List (List Int × List Int)} (hrs : PairsF F rsv rs) {fv : Value} {f : List Int} (hf : IntsF F fv f) {xsv : Value} {xs : List StepT} (hxs : StepsF F xsv xs) {gv : Value} {g : List Int} (hg : IntsF F gv g) {ysv : Value} {ys : List StepT} (hys : StepsF F ysv ys) (hla : ar.length ≤ 4000000) (hlr : rs.length ≤ 4000000) (hrb : ∀ i, i < rs.length → (rs.getD i ([], [])).1.length ≤ 4000000 ∧ (rs.getD i ([], [])).2.length ≤ 4000000) (hlf : f.length ≤ 4000000) (hlss : xs.length ≤ 4000000) (hsb : ∀ i, i < xs.length → (xs.getD i (0, 0, [])).2.2.length ≤ 4000000) (hlg : g.length ≤ 4000000) (hlys : ys.length ≤ 4000000) (hyb : ∀ i, i < ys.length → (ys.getD i (0, 0, [])).2.2.length ≤ 4000000) :
    Does Tryz.prog 40 [.agg #[arv, rsv], .agg #[fv, xsv], .agg #[gv, ysv]] F (L) (fun v F' L' => ∃ (a : Value), ∃ (b : Value), (.tuple #[.agg #[a, b], .bool ((chainJF ar rs f xs g ys).2.2)] : Value) = v ∧ (IntsF F' a (chainJF ar rs f xs g ys).1) ∧ (MovesF F' b (chainJF ar rs f xs g ys).2.1) ∧ L = L') := by
 refine Does.of_X Tryz.func40 rfl rfl rfl ?_
 refine X.seq (X.region ?_)
 refine XL.cons (XOp.box [arv, rsv] rfl rfl ?_)
 intro b1
 refine XL.cons (XOp.box [fv, xsv] rfl rfl ?_)
 intro b2
 refine XL.cons (XOp.box [gv, ysv] rfl rfl ?_)
 intro b3
 refine XL.cons (XOp.alloc [(.slice none 0 0), (.slice none 0 0)] Tryz.zeroValue88 rfl ?_)
 intro b4
 refine XL.as (.bool (false)) rfl ?_
 refine XL.nil (X.seq (X.seq ?_))
 by_cases h1 : (!(walkOkL ar rs f xs)) = true
 ·have hw1 : walkOkL ar rs f xs = false := by simpa using h1
  refine X.draw [cellsH b4 [(.slice none 0 0), (.slice none 0 0)] 88, cellsH b3 [gv, ysv] 45, cellsH b2 [fv, xsv] 45, cellsH b1 [arv, rsv] 39] L 16 [[], [], [], [], [], [], [], [], [], [], [], [], [], [], [], []] [[], [], [0, 1], [2], [3], [4], [4], [4, 5, 6], [4, 7], [4, 8], [9], [10], [10], [10, 11, 12], [10], [10]] (phiL [fun us v => v = (.agg #[arv, rsv] : Value), fun us v => v = (.agg #[fv, xsv] : Value), fun us v => v = (.bool (walkOkL ar rs f xs) : Value), fun us v => v = (.bool (!(walkOkL ar rs f xs)) : Value), fun us v => v = (.bool (!(walkOkL ar rs f xs)) : Value), fun us v => v = undef, fun us v => v = undef, fun us v => v = undef, fun us v => v = undef, fun us v => v = (.bool (true) : Value), fun us v => v = (.bool (true) : Value), fun us v => v = undef, fun us v => v = undef, fun us v => v = undef, fun us v => v = undef, fun us v => v = undef]) (ownL [fun us v => [], fun us v => [], fun us v => [], fun us v => [], fun us v => [], fun us v => [], fun us v => [], fun us v => [], fun us v => [], fun us v => [], fun us v => [], fun us v => [], fun us v => [], fun us v => [], fun us v => [], fun us v => []]) mixed rfl rfl (by kernel_rfl) ?_ ?_
  ·refine stepsP.cons (fun vals R hpZ => ?_) ?_
   ·refine XG.op (XOp.loadN [arv, rsv] Tryz.isAgg39 Tryz.sizeOf39 rfl rfl (Rd.ownN [_, _, _] rfl rfl) ?_)
    exact ⟨rfl, rfl, rfl⟩
   refine stepsP.cons (fun vals R hpZ => ?_) ?_
   ·refine XG.op (XOp.loadN [fv, xsv] Tryz.isAgg45 Tryz.sizeOf45 rfl rfl (Rd.ownN [_, _] rfl rfl) ?_)
    exact ⟨rfl, rfl, rfl⟩
   refine stepsP.cons (fun vals R hpZ => ?_) ?_
   ·rw [eS (l := [(0, (.agg #[arv, rsv] : Value)), (1, (.agg #[fv, xsv] : Value))]) ⟨hpZ 0 (by decide), hpZ 1 (by decide), trivial⟩]
    refine XG.op (XOp.call (args := [.agg #[arv, rsv], .agg #[fv, xsv]]) Tryz.call51 rfl (sWalkOk_spec har hrs hf hxs (hla := (by first | assumption | rfl | omega | simp)) (hlr := (by first | assumption | rfl | omega | simp)) (hrb := (by first | assumption | rfl | omega | simp)) (hlf := (by first | assumption | rfl | omega | simp)) (hlss := (by first | assumption | rfl | omega | simp)) (hsb := (by first | assumption | rfl | omega | simp))) ?_)
    rintro _ _ _ _ ⟨rfl, rfl, rfl⟩
    exact ⟨rfl, rfl, rfl⟩
   refine stepsP.cons (fun vals R hpZ => ?_) ?_
   ·rw [eS (l := [(2, (.bool (walkOkL ar rs f xs) : Value))]) ⟨hpZ 2 (by decide), trivial⟩]
    refine XG.op (XOp.notB (b := walkOkL ar rs f xs) rfl ?_)
    exact ⟨rfl, rfl, rfl⟩
   refine stepsP.cons (fun vals R hpZ => ?_) ?_
   ·rw [eS (l := [(3, (.bool (!(walkOkL ar rs f xs)) : Value))]) ⟨hpZ 3 (by decide), trivial⟩]
    refine XG.op (XOp.move (.bool (!(walkOkL ar rs f xs))) rfl ?_)
    exact ⟨rfl, rfl, rfl⟩
   refine stepsP.cons (fun vals R hpZ => ?_) ?_
   ·rw [eS (l := [(4, (.bool (!(walkOkL ar rs f xs)) : Value))]) ⟨hpZ 4 (by decide), trivial⟩]
    exact XG.no (t := 12) rfl (vB h1) ⟨rfl, rfl, rfl⟩
   refine stepsP.cons (fun vals R hpZ => ?_) ?_
   ·rw [eS (l := [(4, (.bool (!(walkOkL ar rs f xs)) : Value))]) ⟨hpZ 4 (by decide), trivial⟩]
    exact XG.no (t := 12) rfl (vB h1) ⟨rfl, rfl, rfl⟩
   refine stepsP.cons (fun vals R hpZ => ?_) ?_
   ·rw [eS (l := [(4, (.bool (!(walkOkL ar rs f xs)) : Value)), (5, undef), (6, undef)]) ⟨hpZ 4 (by decide), hpZ 5 (by decide), hpZ 6 (by decide), trivial⟩]
    exact XG.no (t := 12) rfl (vB h1) ⟨rfl, rfl, rfl⟩
   refine stepsP.cons (fun vals R hpZ => ?_) ?_
   ·rw [eS (l := [(4, (.bool (!(walkOkL ar rs f xs)) : Value)), (7, undef)]) ⟨hpZ 4 (by decide), hpZ 7 (by decide), trivial⟩]
    exact XG.no (t := 12) rfl (vB h1) ⟨rfl, rfl, rfl⟩
   refine stepsP.cons (fun vals R hpZ => ?_) ?_
   ·rw [eS (l := [(4, (.bool (!(walkOkL ar rs f xs)) : Value)), (8, undef)]) ⟨hpZ 4 (by decide), hpZ 8 (by decide), trivial⟩]
    refine XG.op (XOp.pickT (.bool (true)) (vB h1) rfl ?_)
    exact ⟨rfl, rfl, rfl⟩
   refine stepsP.cons (fun vals R hpZ => ?_) ?_
   ·rw [eS (l := [(9, (.bool (true) : Value))]) ⟨hpZ 9 (by decide), trivial⟩]
    refine XG.op (XOp.move (.bool (true)) rfl ?_)
    exact ⟨rfl, rfl, rfl⟩
   refine stepsP.cons (fun vals R hpZ => ?_) ?_
   ·rw [eS (l := [(10, (.bool (true) : Value))]) ⟨hpZ 10 (by decide), trivial⟩]
    exact XG.no (t := 18) rfl rfl ⟨rfl, rfl, rfl⟩
   refine stepsP.cons (fun vals R hpZ => ?_) ?_
   ·rw [eS (l := [(10, (.bool (true) : Value))]) ⟨hpZ 10 (by decide), trivial⟩]
    exact XG.no (t := 18) rfl rfl ⟨rfl, rfl, rfl⟩
   refine stepsP.cons (fun vals R hpZ => ?_) ?_
   ·rw [eS (l := [(10, (.bool (true) : Value)), (11, undef), (12, undef)]) ⟨hpZ 10 (by decide), hpZ 11 (by decide), hpZ 12 (by decide), trivial⟩]
    exact XG.no (t := 18) rfl rfl ⟨rfl, rfl, rfl⟩
   refine stepsP.cons (fun vals R hpZ => ?_) ?_
   ·rw [eS (l := [(10, (.bool (true) : Value))]) ⟨hpZ 10 (by decide), trivial⟩]
    exact XG.no (t := 18) rfl rfl ⟨rfl, rfl, rfl⟩
   refine stepsP.cons (fun vals R hpZ => ?_) ?_
   ·rw [eS (l := [(10, (.bool (true) : Value))]) ⟨hpZ 10 (by decide), trivial⟩]
    exact XG.no (t := 18) rfl rfl ⟨rfl, rfl, rfl⟩
   exact stepsP.nil
  ·intro vals hphi
   rw [eS (l := [(0, (.agg #[arv, rsv] : Value)), (1, (.agg #[fv, xsv] : Value)), (2, (.bool (walkOkL ar rs f xs) : Value)), (3, (.bool (!(walkOkL ar rs f xs)) : Value)), (4, (.bool (!(walkOkL ar rs f xs)) : Value)), (5, undef), (6, undef), (7, undef), (8, undef), (9, (.bool (true) : Value)), (10, (.bool (true) : Value)), (11, undef), (12, undef), (13, undef), (14, undef), (15, undef)]) ⟨(hphi 0 (by decide)), (hphi 1 (by decide)), (hphi 2 (by decide)), (hphi 3 (by decide)), (hphi 4 (by decide)), (hphi 5 (by decide)), (hphi 6 (by decide)), (hphi 7 (by decide)), (hphi 8 (by decide)), (hphi 9 (by decide)), (hphi 10 (by decide)), (hphi 11 (by decide)), (hphi 12 (by decide)), (hphi 13 (by decide)), (hphi 14 (by decide)), (hphi 15 (by decide)), trivial⟩]
   show XL _ _ _ _ _ _ _ (cellsH b4 [(.slice none 0 0), (.slice none 0 0)] 88 :: cellsH b3 [gv, ysv] 45 :: cellsH b2 [fv, xsv] 45 :: cellsH b1 [arv, rsv] 39 :: L)
   refine XL.no (t := 18) rfl rfl ?_
   refine XL.no (t := 18) rfl rfl ?_
   refine XL.no (t := 18) rfl rfl ?_
   refine XL.cons (XOp.pickT (.bool (true)) rfl rfl ?_)
   refine XL.nil ?_
   refine X.condT rfl ?_
   refine X.seq (X.region ?_)
   refine XL.cons (XOp.build [(.slice none 0 0), (.slice none 0 0)] [(.slice none 0 0), (.slice none 0 0)] [(0, 1), (1, 1)] [] Tryz.runUnderlying88 Tryz.zeroValue88 rfl (.cons rfl Tryz.sizeOf22 (.cons rfl Tryz.sizeOf86 PlacesAre.nil)) rfl CellsAre.nil ?_)
   refine XL.cons (XOp.storeN (vs := [(.slice none 0 0), (.slice none 0 0)]) [] _ [(.slice none 0 0), (.slice none 0 0)] Tryz.sizeOf88 rfl rfl rfl (ones_cons rfl (ones_cons rfl ones_nil)) rfl rfl rfl ?_)
   refine XL.as (.bool (false)) rfl ?_
   refine XL.nil ?_
   refine X.ret (thenQ_ret (retEnd (L' := L) [.agg #[(.slice none 0 0), (.slice none 0 0)], .bool (false)] (.tuple #[.agg #[(.slice none 0 0), (.slice none 0 0)], .bool (false)]) (.cell rfl (loadNV [(.slice none 0 0), (.slice none 0 0)] Tryz.isAgg88 Tryz.sizeOf88 rfl (Rd.ownN [] rfl rfl)) (.tmp rfl .nil)) rfl rF rF (Sub.drop (Sub.drop (Sub.drop (Sub.drop sR)))) ?_))
   have e : chainJF ar rs f xs g ys = ([], [], false) := chainJF_no (by simp_all)
   exact ⟨_, _, by rw [e], by rw [e]; exact IntsF.nilV, by rw [e]; exact SlOf.nilV, rfl⟩
 ·rw [Bool.not_eq_true] at h1
  have hw1 : walkOkL ar rs f xs = true := by simpa using h1
  have hwb1 := walkOk_bound hw1
  have hwc1 := hwb1.1
  have hwd1 := hwb1.2.1
  have hcl1 : (chainL xs).length = xs.length := chainL_len
  have hcb1 := mem_getD_le (chain_mem hwb1.2.2)
  by_cases h2 : (!(walkOkL ar rs g ys)) = true
  ·have hw2 : walkOkL ar rs g ys = false := by simpa using h2
   refine X.draw [cellsH b4 [(.slice none 0 0), (.slice none 0 0)] 88, cellsH b3 [gv, ysv] 45, cellsH b2 [fv, xsv] 45, cellsH b1 [arv, rsv] 39] L 16 [[], [], [], [], [], [], [], [], [], [], [], [], [], [], [], []] [[], [], [0, 1], [2], [3], [4], [4], [4, 5, 6], [4, 7], [4, 8], [9], [10], [10], [10, 11, 12], [10], [10]] (phiL [fun us v => v = (.agg #[arv, rsv] : Value), fun us v => v = (.agg #[fv, xsv] : Value), fun us v => v = (.bool (walkOkL ar rs f xs) : Value), fun us v => v = (.bool (!(walkOkL ar rs f xs)) : Value), fun us v => v = (.bool (!(walkOkL ar rs f xs)) : Value), fun us v => v = (.agg #[arv, rsv] : Value), fun us v => v = (.agg #[gv, ysv] : Value), fun us v => v = (.bool (walkOkL ar rs g ys) : Value), fun us v => v = (.bool (!(walkOkL ar rs g ys)) : Value), fun us v => v = (.bool (!(walkOkL ar rs g ys)) : Value), fun us v => v = (.bool (!(walkOkL ar rs g ys)) : Value), fun us v => v = undef, fun us v => v = undef, fun us v => v = undef, fun us v => v = undef, fun us v => v = undef]) (ownL [fun us v => [], fun us v => [], fun us v => [], fun us v => [], fun us v => [], fun us v => [], fun us v => [], fun us v => [], fun us v => [], fun us v => [], fun us v => [], fun us v => [], fun us v => [], fun us v => [], fun us v => [], fun us v => []]) mixed rfl rfl (by kernel_rfl) ?_ ?_
   ·refine stepsP.cons (fun vals R hpZ => ?_) ?_
    ·refine XG.op (XOp.loadN [arv, rsv] Tryz.isAgg39 Tryz.sizeOf39 rfl rfl (Rd.ownN [_, _, _] rfl rfl) ?_)
     exact ⟨rfl, rfl, rfl⟩
    refine stepsP.cons (fun vals R hpZ => ?_) ?_
    ·refine XG.op (XOp.loadN [fv, xsv] Tryz.isAgg45 Tryz.sizeOf45 rfl rfl (Rd.ownN [_, _] rfl rfl) ?_)
     exact ⟨rfl, rfl, rfl⟩
    refine stepsP.cons (fun vals R hpZ => ?_) ?_
    ·rw [eS (l := [(0, (.agg #[arv, rsv] : Value)), (1, (.agg #[fv, xsv] : Value))]) ⟨hpZ 0 (by decide), hpZ 1 (by decide), trivial⟩]
     refine XG.op (XOp.call (args := [.agg #[arv, rsv], .agg #[fv, xsv]]) Tryz.call51 rfl (sWalkOk_spec har hrs hf hxs (hla := (by first | assumption | rfl | omega | simp)) (hlr := (by first | assumption | rfl | omega | simp)) (hrb := (by first | assumption | rfl | omega | simp)) (hlf := (by first | assumption | rfl | omega | simp)) (hlss := (by first | assumption | rfl | omega | simp)) (hsb := (by first | assumption | rfl | omega | simp))) ?_)
     rintro _ _ _ _ ⟨rfl, rfl, rfl⟩
     exact ⟨rfl, rfl, rfl⟩
    refine stepsP.cons (fun vals R hpZ => ?_) ?_
    ·rw [eS (l := [(2, (.bool (walkOkL ar rs f xs) : Value))]) ⟨hpZ 2 (by decide), trivial⟩]
     refine XG.op (XOp.notB (b := walkOkL ar rs f xs) rfl ?_)
     exact ⟨rfl, rfl, rfl⟩
    refine stepsP.cons (fun vals R hpZ => ?_) ?_
    ·rw [eS (l := [(3, (.bool (!(walkOkL ar rs f xs)) : Value))]) ⟨hpZ 3 (by decide), trivial⟩]
     refine XG.op (XOp.move (.bool (!(walkOkL ar rs f xs))) rfl ?_)
     exact ⟨rfl, rfl, rfl⟩
    refine stepsP.cons (fun vals R hpZ => ?_) ?_
    ·rw [eS (l := [(4, (.bool (!(walkOkL ar rs f xs)) : Value))]) ⟨hpZ 4 (by decide), trivial⟩]
     refine XG.yes (t := 12) rfl (vB h1) (XOp.loadN [arv, rsv] Tryz.isAgg39 Tryz.sizeOf39 rfl rfl (Rd.ownN [_, _, _] rfl rfl) ?_)
     exact ⟨rfl, rfl, rfl⟩
    refine stepsP.cons (fun vals R hpZ => ?_) ?_
    ·rw [eS (l := [(4, (.bool (!(walkOkL ar rs f xs)) : Value))]) ⟨hpZ 4 (by decide), trivial⟩]
     refine XG.yes (t := 12) rfl (vB h1) (XOp.loadN [gv, ysv] Tryz.isAgg45 Tryz.sizeOf45 rfl rfl (Rd.ownN [_] rfl rfl) ?_)
     exact ⟨rfl, rfl, rfl⟩
    refine stepsP.cons (fun vals R hpZ => ?_) ?_
    ·rw [eS (l := [(4, (.bool (!(walkOkL ar rs f xs)) : Value)), (5, (.agg #[arv, rsv] : Value)), (6, (.agg #[gv, ysv] : Value))]) ⟨hpZ 4 (by decide), hpZ 5 (by decide), hpZ 6 (by decide), trivial⟩]
     refine XG.yes (t := 12) rfl (vB h1) (XOp.call (args := [.agg #[arv, rsv], .agg #[gv, ysv]]) Tryz.call51 rfl (sWalkOk_spec har hrs hg hys (hla := (by first | assumption | rfl | omega | simp)) (hlr := (by first | assumption | rfl | omega | simp)) (hrb := (by first | assumption | rfl | omega | simp)) (hlf := (by first | assumption | rfl | omega | simp)) (hlss := (by first | assumption | rfl | omega | simp)) (hsb := (by first | assumption | rfl | omega | simp))) ?_)
     rintro _ _ _ _ ⟨rfl, rfl, rfl⟩
     exact ⟨rfl, rfl, rfl⟩
    refine stepsP.cons (fun vals R hpZ => ?_) ?_
    ·rw [eS (l := [(4, (.bool (!(walkOkL ar rs f xs)) : Value)), (7, (.bool (walkOkL ar rs g ys) : Value))]) ⟨hpZ 4 (by decide), hpZ 7 (by decide), trivial⟩]
     refine XG.yes (t := 12) rfl (vB h1) (XOp.notB (b := walkOkL ar rs g ys) rfl ?_)
     exact ⟨rfl, rfl, rfl⟩
    refine stepsP.cons (fun vals R hpZ => ?_) ?_
    ·rw [eS (l := [(4, (.bool (!(walkOkL ar rs f xs)) : Value)), (8, (.bool (!(walkOkL ar rs g ys)) : Value))]) ⟨hpZ 4 (by decide), hpZ 8 (by decide), trivial⟩]
     refine XG.op (XOp.pickF (.bool (!(walkOkL ar rs g ys))) (vB h1) rfl ?_)
     exact ⟨rfl, rfl, rfl⟩
    refine stepsP.cons (fun vals R hpZ => ?_) ?_
    ·rw [eS (l := [(9, (.bool (!(walkOkL ar rs g ys)) : Value))]) ⟨hpZ 9 (by decide), trivial⟩]
     refine XG.op (XOp.move (.bool (!(walkOkL ar rs g ys))) rfl ?_)
     exact ⟨rfl, rfl, rfl⟩
    refine stepsP.cons (fun vals R hpZ => ?_) ?_
    ·rw [eS (l := [(10, (.bool (!(walkOkL ar rs g ys)) : Value))]) ⟨hpZ 10 (by decide), trivial⟩]
     exact XG.no (t := 18) rfl (vB h2) ⟨rfl, rfl, rfl⟩
    refine stepsP.cons (fun vals R hpZ => ?_) ?_
    ·rw [eS (l := [(10, (.bool (!(walkOkL ar rs g ys)) : Value))]) ⟨hpZ 10 (by decide), trivial⟩]
     exact XG.no (t := 18) rfl (vB h2) ⟨rfl, rfl, rfl⟩
    refine stepsP.cons (fun vals R hpZ => ?_) ?_
    ·rw [eS (l := [(10, (.bool (!(walkOkL ar rs g ys)) : Value)), (11, undef), (12, undef)]) ⟨hpZ 10 (by decide), hpZ 11 (by decide), hpZ 12 (by decide), trivial⟩]
     exact XG.no (t := 18) rfl (vB h2) ⟨rfl, rfl, rfl⟩
    refine stepsP.cons (fun vals R hpZ => ?_) ?_
    ·rw [eS (l := [(10, (.bool (!(walkOkL ar rs g ys)) : Value))]) ⟨hpZ 10 (by decide), trivial⟩]
     exact XG.no (t := 18) rfl (vB h2) ⟨rfl, rfl, rfl⟩
    refine stepsP.cons (fun vals R hpZ => ?_) ?_
    ·rw [eS (l := [(10, (.bool (!(walkOkL ar rs g ys)) : Value))]) ⟨hpZ 10 (by decide), trivial⟩]
     exact XG.no (t := 18) rfl (vB h2) ⟨rfl, rfl, rfl⟩
    exact stepsP.nil
   ·intro vals hphi
    rw [eS (l := [(0, (.agg #[arv, rsv] : Value)), (1, (.agg #[fv, xsv] : Value)), (2, (.bool (walkOkL ar rs f xs) : Value)), (3, (.bool (!(walkOkL ar rs f xs)) : Value)), (4, (.bool (!(walkOkL ar rs f xs)) : Value)), (5, (.agg #[arv, rsv] : Value)), (6, (.agg #[gv, ysv] : Value)), (7, (.bool (walkOkL ar rs g ys) : Value)), (8, (.bool (!(walkOkL ar rs g ys)) : Value)), (9, (.bool (!(walkOkL ar rs g ys)) : Value)), (10, (.bool (!(walkOkL ar rs g ys)) : Value)), (11, undef), (12, undef), (13, undef), (14, undef), (15, undef)]) ⟨(hphi 0 (by decide)), (hphi 1 (by decide)), (hphi 2 (by decide)), (hphi 3 (by decide)), (hphi 4 (by decide)), (hphi 5 (by decide)), (hphi 6 (by decide)), (hphi 7 (by decide)), (hphi 8 (by decide)), (hphi 9 (by decide)), (hphi 10 (by decide)), (hphi 11 (by decide)), (hphi 12 (by decide)), (hphi 13 (by decide)), (hphi 14 (by decide)), (hphi 15 (by decide)), trivial⟩]
    show XL _ _ _ _ _ _ _ (cellsH b4 [(.slice none 0 0), (.slice none 0 0)] 88 :: cellsH b3 [gv, ysv] 45 :: cellsH b2 [fv, xsv] 45 :: cellsH b1 [arv, rsv] 39 :: L)
    refine XL.no (t := 18) rfl (vB h2) ?_
    refine XL.no (t := 18) rfl (vB h2) ?_
    refine XL.no (t := 18) rfl (vB h2) ?_
    refine XL.cons (XOp.pickT (.bool (true)) (vB h2) rfl ?_)
    refine XL.nil ?_
    refine X.condT rfl ?_
    refine X.seq (X.region ?_)
    refine XL.cons (XOp.build [(.slice none 0 0), (.slice none 0 0)] [(.slice none 0 0), (.slice none 0 0)] [(0, 1), (1, 1)] [] Tryz.runUnderlying88 Tryz.zeroValue88 rfl (.cons rfl Tryz.sizeOf22 (.cons rfl Tryz.sizeOf86 PlacesAre.nil)) rfl CellsAre.nil ?_)
    refine XL.cons (XOp.storeN (vs := [(.slice none 0 0), (.slice none 0 0)]) [] _ [(.slice none 0 0), (.slice none 0 0)] Tryz.sizeOf88 rfl rfl rfl (ones_cons rfl (ones_cons rfl ones_nil)) rfl rfl rfl ?_)
    refine XL.as (.bool (false)) rfl ?_
    refine XL.nil ?_
    refine X.ret (thenQ_ret (retEnd (L' := L) [.agg #[(.slice none 0 0), (.slice none 0 0)], .bool (false)] (.tuple #[.agg #[(.slice none 0 0), (.slice none 0 0)], .bool (false)]) (.cell rfl (loadNV [(.slice none 0 0), (.slice none 0 0)] Tryz.isAgg88 Tryz.sizeOf88 rfl (Rd.ownN [] rfl rfl)) (.tmp rfl .nil)) rfl rF rF (Sub.drop (Sub.drop (Sub.drop (Sub.drop sR)))) ?_))
    have e : chainJF ar rs f xs g ys = ([], [], false) := chainJF_no (by simp_all)
    exact ⟨_, _, by rw [e], by rw [e]; exact IntsF.nilV, by rw [e]; exact SlOf.nilV, rfl⟩
  ·rw [Bool.not_eq_true] at h2
   have hw2 : walkOkL ar rs g ys = true := by simpa using h2
   have hwb2 := walkOk_bound hw2
   have hwc2 := hwb2.1
   have hwd2 := hwb2.2.1
   have hcl2 : (chainL ys).length = ys.length := chainL_len
   have hcb2 := mem_getD_le (chain_mem hwb2.2.2)
   have htl9 : (turnL g (chainL ys)).length = (chainL ys).length := turnL_len
   have htb9 := mem_getD_le (turn_mem hwb2.1 (chain_mem hwb2.2.2))
   have hen9 : (endM g (chainL ys)).length ≤ 60 := by unfold endM; split <;> first | exact hwb2.1 | exact hcb2 _ (by omega)
   have het1 : endT ar rs f xs = endL f xs := by rw [endT, if_pos hw1]
   have het2 : endT ar rs g ys = endL g ys := by rw [endT, if_pos hw2]
   have hel1 := termOk_len (right_iff.1 (walkOk_end hw1)).2
   have hel2 := termOk_len (right_iff.1 (walkOk_end hw2)).2
   refine X.drawG [cellsH b4 [(.slice none 0 0), (.slice none 0 0)] 88, cellsH b3 [gv, ysv] 45, cellsH b2 [fv, xsv] 45, cellsH b1 [arv, rsv] 39] L 16 [[], [], [], [], [], [], [], [], [], [], [], [], [], [], [], []] [[], [], [0, 1], [2], [3], [4], [4], [4, 5, 6], [4, 7], [4, 8], [9], [10], [10], [10, 11, 12], [10], [10]] [[], [], [], [], [], [], [], [], [], [], [], [], [], [], [], []] (phiG [fun FF us v => v = (.agg #[arv, rsv] : Value), fun FF us v => v = (.agg #[fv, xsv] : Value), fun FF us v => v = (.bool (walkOkL ar rs f xs) : Value), fun FF us v => v = (.bool (!(walkOkL ar rs f xs)) : Value), fun FF us v => v = (.bool (!(walkOkL ar rs f xs)) : Value), fun FF us v => v = (.agg #[arv, rsv] : Value), fun FF us v => v = (.agg #[gv, ysv] : Value), fun FF us v => v = (.bool (walkOkL ar rs g ys) : Value), fun FF us v => v = (.bool (!(walkOkL ar rs g ys)) : Value), fun FF us v => v = (.bool (!(walkOkL ar rs g ys)) : Value), fun FF us v => v = (.bool (!(walkOkL ar rs g ys)) : Value), fun FF us v => v = (.agg #[arv, rsv] : Value), fun FF us v => v = (.agg #[fv, xsv] : Value), fun FF us v => ((v) : Value) = v ∧ (IntsF FF (v) (endT ar rs f xs)), fun FF us v => v = (.agg #[arv, rsv] : Value), fun FF us v => v = (.agg #[gv, ysv] : Value)]) (ownL [fun us v => [], fun us v => [], fun us v => [], fun us v => [], fun us v => [], fun us v => [], fun us v => [], fun us v => [], fun us v => [], fun us v => [], fun us v => [], fun us v => [], fun us v => [], fun us v => [], fun us v => [], fun us v => []]) mixed rfl rfl (by kernel_rfl) (by kernel_rfl) (MonoG.get (MonoG.cons (fun le h => h) (MonoG.cons (fun le h => h) (MonoG.cons (fun le h => h) (MonoG.cons (fun le h => h) (MonoG.cons (fun le h => h) (MonoG.cons (fun le h => h) (MonoG.cons (fun le h => h) (MonoG.cons (fun le h => h) (MonoG.cons (fun le h => h) (MonoG.cons (fun le h => h) (MonoG.cons (fun le h => h) (MonoG.cons (fun le h => h) (MonoG.cons (fun le h => h) (MonoG.cons (fun le h => ⟨h.1, h.2.mono le⟩) (MonoG.cons (fun le h => h) (MonoG.cons (fun le h => h) MonoG.nil))))))))))))))))) ?_ ?_
   ·refine stepsG.cons (fun vals Fs R leFs hpZ => ?_) ?_
    ·replace har := har.mono leFs
     replace hrs := hrs.mono leFs
     replace hf := hf.mono leFs
     replace hxs := hxs.mono leFs
     replace hg := hg.mono leFs
     replace hys := hys.mono leFs
     refine XG.op (XOp.loadN [arv, rsv] Tryz.isAgg39 Tryz.sizeOf39 rfl rfl (Rd.ownN [_, _, _] rfl rfl) ?_)
     exact ⟨rfl, rfl⟩
    refine stepsG.cons (fun vals Fs R leFs hpZ => ?_) ?_
    ·replace har := har.mono leFs
     replace hrs := hrs.mono leFs
     replace hf := hf.mono leFs
     replace hxs := hxs.mono leFs
     replace hg := hg.mono leFs
     replace hys := hys.mono leFs
     refine XG.op (XOp.loadN [fv, xsv] Tryz.isAgg45 Tryz.sizeOf45 rfl rfl (Rd.ownN [_, _] rfl rfl) ?_)
     exact ⟨rfl, rfl⟩
    refine stepsG.cons (fun vals Fs R leFs hpZ => ?_) ?_
    ·replace har := har.mono leFs
     replace hrs := hrs.mono leFs
     replace hf := hf.mono leFs
     replace hxs := hxs.mono leFs
     replace hg := hg.mono leFs
     replace hys := hys.mono leFs
     rw [eS (l := [(0, (.agg #[arv, rsv] : Value)), (1, (.agg #[fv, xsv] : Value))]) ⟨(hpZ 0 (by decide)), (hpZ 1 (by decide)), trivial⟩]
     refine XG.op (XOp.call (args := [.agg #[arv, rsv], .agg #[fv, xsv]]) Tryz.call51 rfl (sWalkOk_spec har hrs hf hxs (hla := (by first | assumption | rfl | omega | simp)) (hlr := (by first | assumption | rfl | omega | simp)) (hrb := (by first | assumption | rfl | omega | simp)) (hlf := (by first | assumption | rfl | omega | simp)) (hlss := (by first | assumption | rfl | omega | simp)) (hsb := (by first | assumption | rfl | omega | simp))) ?_)
     rintro _ _ _ _ ⟨rfl, rfl, rfl⟩
     exact ⟨rfl, rfl⟩
    refine stepsG.cons (fun vals Fs R leFs hpZ => ?_) ?_
    ·rw [eS (l := [(2, (.bool (walkOkL ar rs f xs) : Value))]) ⟨(hpZ 2 (by decide)), trivial⟩]
     refine XG.op (XOp.notB (b := walkOkL ar rs f xs) rfl ?_)
     exact ⟨rfl, rfl⟩
    refine stepsG.cons (fun vals Fs R leFs hpZ => ?_) ?_
    ·rw [eS (l := [(3, (.bool (!(walkOkL ar rs f xs)) : Value))]) ⟨(hpZ 3 (by decide)), trivial⟩]
     refine XG.op (XOp.move (.bool (!(walkOkL ar rs f xs))) rfl ?_)
     exact ⟨rfl, rfl⟩
    refine stepsG.cons (fun vals Fs R leFs hpZ => ?_) ?_
    ·replace har := har.mono leFs
     replace hrs := hrs.mono leFs
     replace hf := hf.mono leFs
     replace hxs := hxs.mono leFs
     replace hg := hg.mono leFs
     replace hys := hys.mono leFs
     rw [eS (l := [(4, (.bool (!(walkOkL ar rs f xs)) : Value))]) ⟨(hpZ 4 (by decide)), trivial⟩]
     refine XG.yes (t := 12) rfl (vB h1) (XOp.loadN [arv, rsv] Tryz.isAgg39 Tryz.sizeOf39 rfl rfl (Rd.ownN [_, _, _] rfl rfl) ?_)
     exact ⟨rfl, rfl⟩
    refine stepsG.cons (fun vals Fs R leFs hpZ => ?_) ?_
    ·replace har := har.mono leFs
     replace hrs := hrs.mono leFs
     replace hf := hf.mono leFs
     replace hxs := hxs.mono leFs
     replace hg := hg.mono leFs
     replace hys := hys.mono leFs
     rw [eS (l := [(4, (.bool (!(walkOkL ar rs f xs)) : Value))]) ⟨(hpZ 4 (by decide)), trivial⟩]
     refine XG.yes (t := 12) rfl (vB h1) (XOp.loadN [gv, ysv] Tryz.isAgg45 Tryz.sizeOf45 rfl rfl (Rd.ownN [_] rfl rfl) ?_)
     exact ⟨rfl, rfl⟩
    refine stepsG.cons (fun vals Fs R leFs hpZ => ?_) ?_
    ·replace har := har.mono leFs
     replace hrs := hrs.mono leFs
     replace hf := hf.mono leFs
     replace hxs := hxs.mono leFs
     replace hg := hg.mono leFs
     replace hys := hys.mono leFs
     rw [eS (l := [(4, (.bool (!(walkOkL ar rs f xs)) : Value)), (5, (.agg #[arv, rsv] : Value)), (6, (.agg #[gv, ysv] : Value))]) ⟨(hpZ 4 (by decide)), (hpZ 5 (by decide)), (hpZ 6 (by decide)), trivial⟩]
     refine XG.yes (t := 12) rfl (vB h1) (XOp.call (args := [.agg #[arv, rsv], .agg #[gv, ysv]]) Tryz.call51 rfl (sWalkOk_spec har hrs hg hys (hla := (by first | assumption | rfl | omega | simp)) (hlr := (by first | assumption | rfl | omega | simp)) (hrb := (by first | assumption | rfl | omega | simp)) (hlf := (by first | assumption | rfl | omega | simp)) (hlss := (by first | assumption | rfl | omega | simp)) (hsb := (by first | assumption | rfl | omega | simp))) ?_)
     rintro _ _ _ _ ⟨rfl, rfl, rfl⟩
     exact ⟨rfl, rfl⟩
    refine stepsG.cons (fun vals Fs R leFs hpZ => ?_) ?_
    ·rw [eS (l := [(4, (.bool (!(walkOkL ar rs f xs)) : Value)), (7, (.bool (walkOkL ar rs g ys) : Value))]) ⟨(hpZ 4 (by decide)), (hpZ 7 (by decide)), trivial⟩]
     refine XG.yes (t := 12) rfl (vB h1) (XOp.notB (b := walkOkL ar rs g ys) rfl ?_)
     exact ⟨rfl, rfl⟩
    refine stepsG.cons (fun vals Fs R leFs hpZ => ?_) ?_
    ·rw [eS (l := [(4, (.bool (!(walkOkL ar rs f xs)) : Value)), (8, (.bool (!(walkOkL ar rs g ys)) : Value))]) ⟨(hpZ 4 (by decide)), (hpZ 8 (by decide)), trivial⟩]
     refine XG.op (XOp.pickF (.bool (!(walkOkL ar rs g ys))) (vB h1) rfl ?_)
     exact ⟨rfl, rfl⟩
    refine stepsG.cons (fun vals Fs R leFs hpZ => ?_) ?_
    ·rw [eS (l := [(9, (.bool (!(walkOkL ar rs g ys)) : Value))]) ⟨(hpZ 9 (by decide)), trivial⟩]
     refine XG.op (XOp.move (.bool (!(walkOkL ar rs g ys))) rfl ?_)
     exact ⟨rfl, rfl⟩
    refine stepsG.cons (fun vals Fs R leFs hpZ => ?_) ?_
    ·replace har := har.mono leFs
     replace hrs := hrs.mono leFs
     replace hf := hf.mono leFs
     replace hxs := hxs.mono leFs
     replace hg := hg.mono leFs
     replace hys := hys.mono leFs
     rw [eS (l := [(10, (.bool (!(walkOkL ar rs g ys)) : Value))]) ⟨(hpZ 10 (by decide)), trivial⟩]
     refine XG.yes (t := 18) rfl (vB h2) (XOp.loadN [arv, rsv] Tryz.isAgg39 Tryz.sizeOf39 rfl rfl (Rd.ownN [_, _, _] rfl rfl) ?_)
     exact ⟨rfl, rfl⟩
    refine stepsG.cons (fun vals Fs R leFs hpZ => ?_) ?_
    ·replace har := har.mono leFs
     replace hrs := hrs.mono leFs
     replace hf := hf.mono leFs
     replace hxs := hxs.mono leFs
     replace hg := hg.mono leFs
     replace hys := hys.mono leFs
     rw [eS (l := [(10, (.bool (!(walkOkL ar rs g ys)) : Value))]) ⟨(hpZ 10 (by decide)), trivial⟩]
     refine XG.yes (t := 18) rfl (vB h2) (XOp.loadN [fv, xsv] Tryz.isAgg45 Tryz.sizeOf45 rfl rfl (Rd.ownN [_, _] rfl rfl) ?_)
     exact ⟨rfl, rfl⟩
    refine stepsG.cons (fun vals Fs R leFs hpZ => ?_) ?_
    ·replace har := har.mono leFs
     replace hrs := hrs.mono leFs
     replace hf := hf.mono leFs
     replace hxs := hxs.mono leFs
     replace hg := hg.mono leFs
     replace hys := hys.mono leFs
     rw [eS (l := [(10, (.bool (!(walkOkL ar rs g ys)) : Value)), (11, (.agg #[arv, rsv] : Value)), (12, (.agg #[fv, xsv] : Value))]) ⟨(hpZ 10 (by decide)), (hpZ 11 (by decide)), (hpZ 12 (by decide)), trivial⟩]
     refine XG.yes (t := 18) rfl (vB h2) (XOp.frzF <| XOp.call (args := [.agg #[arv, rsv], .agg #[fv, xsv]]) Tryz.call99 rfl (sEndTerm_spec har hrs hf hxs (hla := (by first | assumption | rfl | omega | simp)) (hlr := (by first | assumption | rfl | omega | simp)) (hrb := (by first | assumption | rfl | omega | simp)) (hlf := (by first | assumption | rfl | omega | simp)) (hlss := (by first | assumption | rfl | omega | simp)) (hsb := (by first | assumption | rfl | omega | simp))) ?_)
     rintro v2 _ _ _ ⟨rfl, hs2, rfl⟩
     refine ⟨_, _, rfl, fun F1 le1 hz1 => ?_⟩
     replace har := har.mono le1
     replace hrs := hrs.mono le1
     replace hf := hf.mono le1
     replace hxs := hxs.mono le1
     replace hg := hg.mono le1
     replace hys := hys.mono le1
     have hf1 : IntsF F1 v2 ((endT ar rs f xs)) := intsH.fz (xs := (endT ar rs f xs)) hz1.fz
     exact ⟨⟨rfl, hf1⟩, rfl⟩
    refine stepsG.cons (fun vals Fs R leFs hpZ => ?_) ?_
    ·replace har := har.mono leFs
     replace hrs := hrs.mono leFs
     replace hf := hf.mono leFs
     replace hxs := hxs.mono leFs
     replace hg := hg.mono leFs
     replace hys := hys.mono leFs
     rw [eS (l := [(10, (.bool (!(walkOkL ar rs g ys)) : Value))]) ⟨(hpZ 10 (by decide)), trivial⟩]
     refine XG.yes (t := 18) rfl (vB h2) (XOp.loadN [arv, rsv] Tryz.isAgg39 Tryz.sizeOf39 rfl rfl (Rd.ownN [_, _, _] rfl rfl) ?_)
     exact ⟨rfl, rfl⟩
    refine stepsG.cons (fun vals Fs R leFs hpZ => ?_) ?_
    ·replace har := har.mono leFs
     replace hrs := hrs.mono leFs
     replace hf := hf.mono leFs
     replace hxs := hxs.mono leFs
     replace hg := hg.mono leFs
     replace hys := hys.mono leFs
     rw [eS (l := [(10, (.bool (!(walkOkL ar rs g ys)) : Value))]) ⟨(hpZ 10 (by decide)), trivial⟩]
     refine XG.yes (t := 18) rfl (vB h2) (XOp.loadN [gv, ysv] Tryz.isAgg45 Tryz.sizeOf45 rfl rfl (Rd.ownN [_] rfl rfl) ?_)
     exact ⟨rfl, rfl⟩
    exact stepsG.nil
   ·intro vals F2 le2 hphi
    obtain ⟨e13, f13_5ha⟩ := hphi 13 (by decide)
    generalize hu1 : ((vals 13)) = u1 at e13 f13_5ha
    rw [eS (l := [(0, (.agg #[arv, rsv] : Value)), (1, (.agg #[fv, xsv] : Value)), (2, (.bool (walkOkL ar rs f xs) : Value)), (3, (.bool (!(walkOkL ar rs f xs)) : Value)), (4, (.bool (!(walkOkL ar rs f xs)) : Value)), (5, (.agg #[arv, rsv] : Value)), (6, (.agg #[gv, ysv] : Value)), (7, (.bool (walkOkL ar rs g ys) : Value)), (8, (.bool (!(walkOkL ar rs g ys)) : Value)), (9, (.bool (!(walkOkL ar rs g ys)) : Value)), (10, (.bool (!(walkOkL ar rs g ys)) : Value)), (11, (.agg #[arv, rsv] : Value)), (12, (.agg #[fv, xsv] : Value)), (13, u1), (14, (.agg #[arv, rsv] : Value)), (15, (.agg #[gv, ysv] : Value))]) ⟨(hphi 0 (by decide)), (hphi 1 (by decide)), (hphi 2 (by decide)), (hphi 3 (by decide)), (hphi 4 (by decide)), (hphi 5 (by decide)), (hphi 6 (by decide)), (hphi 7 (by decide)), (hphi 8 (by decide)), (hphi 9 (by decide)), (hphi 10 (by decide)), (hphi 11 (by decide)), (hphi 12 (by decide)), hu1, (hphi 14 (by decide)), (hphi 15 (by decide)), trivial⟩]
    replace har := har.mono le2
    replace hrs := hrs.mono le2
    replace hf := hf.mono le2
    replace hxs := hxs.mono le2
    replace hg := hg.mono le2
    replace hys := hys.mono le2
    show XL _ _ _ _ _ _ _ (cellsH b4 [(.slice none 0 0), (.slice none 0 0)] 88 :: cellsH b3 [gv, ysv] 45 :: cellsH b2 [fv, xsv] 45 :: cellsH b1 [arv, rsv] 39 :: L)
    refine XL.yes (t := 18) rfl (vB h2) (XOp.frzF <| XOp.call (args := [.agg #[arv, rsv], .agg #[gv, ysv]]) Tryz.call99 rfl (sEndTerm_spec har hrs hg hys (hla := (by first | assumption | rfl | omega | simp)) (hlr := (by first | assumption | rfl | omega | simp)) (hrb := (by first | assumption | rfl | omega | simp)) (hlf := (by first | assumption | rfl | omega | simp)) (hlss := (by first | assumption | rfl | omega | simp)) (hsb := (by first | assumption | rfl | omega | simp))) ?_)
    rintro v3 _ _ _ ⟨rfl, hs3, rfl⟩
    refine ⟨_, _, rfl, fun F3 le3 hz2 => ?_⟩
    replace har := har.mono le3
    replace hrs := hrs.mono le3
    replace hf := hf.mono le3
    replace hxs := hxs.mono le3
    replace hg := hg.mono le3
    replace hys := hys.mono le3
    replace f13_5ha := f13_5ha.mono le3
    have hf2 : IntsF F3 v3 ((endT ar rs g ys)) := intsH.fz (xs := (endT ar rs g ys)) hz2.fz
    refine XL.yes (t := 18) rfl (vB h2) (XOp.call (args := [u1, v3]) Tryz.call98 rfl (SameTerm_spec f13_5ha hf2 (hbd := (.inl (by rw [het1]; omega)))) ?_)
    rintro _ _ _ _ ⟨rfl, rfl, rfl⟩
    refine XL.yes (t := 18) rfl (vB h2) (XOp.notD (p := ((endT ar rs f xs)) = ((endT ar rs g ys))) rfl ?_)
    refine XL.cons (XOp.pickF (.bool (decide (¬(((endT ar rs f xs)) = ((endT ar rs g ys)))))) (vB h2) rfl ?_)
    refine XL.nil ?_
    refine X.condD (p := ¬(((endT ar rs f xs)) = ((endT ar rs g ys)))) rfl (fun h3 => ?_) (fun h3 => ?_)
    ·have hee : endL f xs ≠ endL g ys := by rw [← het1, ← het2]; simpa using h3
     refine X.seq (X.region ?_)
     refine XL.cons (XOp.build [(.slice none 0 0), (.slice none 0 0)] [(.slice none 0 0), (.slice none 0 0)] [(0, 1), (1, 1)] [] Tryz.runUnderlying88 Tryz.zeroValue88 rfl (.cons rfl Tryz.sizeOf22 (.cons rfl Tryz.sizeOf86 PlacesAre.nil)) rfl CellsAre.nil ?_)
     refine XL.cons (XOp.storeN (vs := [(.slice none 0 0), (.slice none 0 0)]) [] _ [(.slice none 0 0), (.slice none 0 0)] Tryz.sizeOf88 rfl rfl rfl (ones_cons rfl (ones_cons rfl ones_nil)) rfl rfl rfl ?_)
     refine XL.as (.bool (false)) rfl ?_
     refine XL.nil ?_
     refine X.ret (thenQ_ret (retEnd (L' := L) [.agg #[(.slice none 0 0), (.slice none 0 0)], .bool (false)] (.tuple #[.agg #[(.slice none 0 0), (.slice none 0 0)], .bool (false)]) (.cell rfl (loadNV [(.slice none 0 0), (.slice none 0 0)] Tryz.isAgg88 Tryz.sizeOf88 rfl (Rd.ownN [] rfl rfl)) (.tmp rfl .nil)) rfl (FLe.trans le2 le3) rF (Sub.drop (Sub.drop (Sub.drop (Sub.drop sR)))) ?_))
     have e : chainJF ar rs f xs g ys = ([], [], false) := chainJF_no (by simp_all)
     exact ⟨_, _, by rw [e], by rw [e]; exact IntsF.nilV, by rw [e]; exact SlOf.nilV, rfl⟩
    ·have hee : endL f xs = endL g ys := by rw [← het1, ← het2]; simpa using h3
     refine X.skip (X.seq ?_)
     refine X.drawG [cellsH b4 [(.slice none 0 0), (.slice none 0 0)] 88, cellsH b3 [gv, ysv] 45, cellsH b2 [fv, xsv] 45, cellsH b1 [arv, rsv] 39] L 8 [[], [], [], [], [], [], [5], []] [[], [0], [], [2], [3], [1, 4], [5], [5]] [[], [], [], [], [], [], [], []] (phiG [fun FF us v => v = (.agg #[fv, xsv] : Value), fun FF us v => (.agg #[((aggAt v 0)), ((aggAt v 1))] : Value) = v ∧ (IntsF FF ((aggAt v 0)) (f)) ∧ (MovesF FF ((aggAt v 1)) (chainL xs)), fun FF us v => v = (.agg #[gv, ysv] : Value), fun FF us v => (.agg #[((aggAt v 0)), ((aggAt v 1))] : Value) = v ∧ (IntsF FF ((aggAt v 0)) (g)) ∧ (MovesF FF ((aggAt v 1)) (chainL ys)), fun FF us v => (.agg #[((aggAt v 0)), ((aggAt v 1))] : Value) = v ∧ (IntsF FF ((aggAt v 0)) (endM g (chainL ys))) ∧ (MovesF FF ((aggAt v 1)) (turnL g (chainL ys))), fun FF us v => (.tuple #[.agg #[((aggAt (tupAt v 0) 0)), ((aggAt (tupAt v 0) 1))], .bool ((joinC f (chainL xs) (turnL g (chainL ys))).2.2)] : Value) = v ∧ (IntsF FF ((aggAt (tupAt v 0) 0)) (joinC f (chainL xs) (turnL g (chainL ys))).1) ∧ (MovesF FF ((aggAt (tupAt v 0) 1)) (joinC f (chainL xs) (turnL g (chainL ys))).2.1), fun FF us v => v = (.agg #[((aggAt (tupAt (us.getD 0 undef) 0) 0)), ((aggAt (tupAt (us.getD 0 undef) 0) 1))] : Value), fun FF us v => v = (.bool ((joinC f (chainL xs) (turnL g (chainL ys))).2.2) : Value)]) (ownL [fun us v => [], fun us v => [], fun us v => [], fun us v => [], fun us v => [], fun us v => [], fun us v => [], fun us v => []]) mixed rfl rfl (by kernel_rfl) (by kernel_rfl) (MonoG.get (MonoG.cons (fun le h => h) (MonoG.cons (fun le h => ⟨h.1, h.2.1.mono le, h.2.2.mono le⟩) (MonoG.cons (fun le h => h) (MonoG.cons (fun le h => ⟨h.1, h.2.1.mono le, h.2.2.mono le⟩) (MonoG.cons (fun le h => ⟨h.1, h.2.1.mono le, h.2.2.mono le⟩) (MonoG.cons (fun le h => ⟨h.1, h.2.1.mono le, h.2.2.mono le⟩) (MonoG.cons (fun le h => h) (MonoG.cons (fun le h => h) MonoG.nil))))))))) ?_ ?_
     ·refine stepsG.cons (fun vals Fs R leFs hpZ => ?_) ?_
      ·replace har := har.mono leFs
       replace hrs := hrs.mono leFs
       replace hf := hf.mono leFs
       replace hxs := hxs.mono leFs
       replace hg := hg.mono leFs
       replace hys := hys.mono leFs
       replace f13_5ha := f13_5ha.mono leFs
       replace hf2 := hf2.mono leFs
       refine XG.op (XOp.loadN [fv, xsv] Tryz.isAgg45 Tryz.sizeOf45 rfl rfl (Rd.ownN [_, _] rfl rfl) ?_)
       exact ⟨rfl, rfl⟩
      refine stepsG.cons (fun vals Fs R leFs hpZ => ?_) ?_
      ·replace har := har.mono leFs
       replace hrs := hrs.mono leFs
       replace hf := hf.mono leFs
       replace hxs := hxs.mono leFs
       replace hg := hg.mono leFs
       replace hys := hys.mono leFs
       replace f13_5ha := f13_5ha.mono leFs
       replace hf2 := hf2.mono leFs
       rw [eS (l := [(0, (.agg #[fv, xsv] : Value))]) ⟨(hpZ 0 (by decide)), trivial⟩]
       refine XG.op (XOp.call (args := [.agg #[fv, xsv]]) Tryz.call101 rfl (l20Walk_spec hf hxs (hlf := (by first | assumption | rfl | omega | simp)) (hlx := (by first | assumption | rfl | omega | simp)) (hxb := (hwb1.2.2))) ?_)
       rintro _ F8 _ le8 ⟨x9, x10, rfl, hr9, hr10, rfl⟩
       replace har := har.mono le8
       replace hrs := hrs.mono le8
       replace hf := hf.mono le8
       replace hxs := hxs.mono le8
       replace hg := hg.mono le8
       replace hys := hys.mono le8
       replace f13_5ha := f13_5ha.mono le8
       replace hf2 := hf2.mono le8
       exact ⟨⟨rfl, hr9, hr10⟩, rfl⟩
      refine stepsG.cons (fun vals Fs R leFs hpZ => ?_) ?_
      ·replace har := har.mono leFs
       replace hrs := hrs.mono leFs
       replace hf := hf.mono leFs
       replace hxs := hxs.mono leFs
       replace hg := hg.mono leFs
       replace hys := hys.mono leFs
       replace f13_5ha := f13_5ha.mono leFs
       replace hf2 := hf2.mono leFs
       refine XG.op (XOp.loadN [gv, ysv] Tryz.isAgg45 Tryz.sizeOf45 rfl rfl (Rd.ownN [_] rfl rfl) ?_)
       exact ⟨rfl, rfl⟩
      refine stepsG.cons (fun vals Fs R leFs hpZ => ?_) ?_
      ·replace har := har.mono leFs
       replace hrs := hrs.mono leFs
       replace hf := hf.mono leFs
       replace hxs := hxs.mono leFs
       replace hg := hg.mono leFs
       replace hys := hys.mono leFs
       replace f13_5ha := f13_5ha.mono leFs
       replace hf2 := hf2.mono leFs
       rw [eS (l := [(2, (.agg #[gv, ysv] : Value))]) ⟨(hpZ 2 (by decide)), trivial⟩]
       refine XG.op (XOp.call (args := [.agg #[gv, ysv]]) Tryz.call101 rfl (l20Walk_spec hg hys (hlf := (by first | assumption | rfl | omega | simp)) (hlx := (by first | assumption | rfl | omega | simp)) (hxb := (hwb2.2.2))) ?_)
       rintro _ F9 _ le9 ⟨x11, x12, rfl, hr11, hr12, rfl⟩
       replace har := har.mono le9
       replace hrs := hrs.mono le9
       replace hf := hf.mono le9
       replace hxs := hxs.mono le9
       replace hg := hg.mono le9
       replace hys := hys.mono le9
       replace f13_5ha := f13_5ha.mono le9
       replace hf2 := hf2.mono le9
       exact ⟨⟨rfl, hr11, hr12⟩, rfl⟩
      refine stepsG.cons (fun vals Fs R leFs hpZ => ?_) ?_
      ·obtain ⟨e3, f3_6hr1, f3_6hr2⟩ := hpZ 3 (by decide)
       replace har := har.mono leFs
       replace hrs := hrs.mono leFs
       replace hf := hf.mono leFs
       replace hxs := hxs.mono leFs
       replace hg := hg.mono leFs
       replace hys := hys.mono leFs
       replace f13_5ha := f13_5ha.mono leFs
       replace hf2 := hf2.mono leFs
       rw [eS (l := [(3, (.agg #[((aggAt (vals 3) 0)), ((aggAt (vals 3) 1))] : Value))]) ⟨(e3).symm, trivial⟩]
       refine XG.op (XOp.call (args := [.agg #[((aggAt (vals 3) 0)), ((aggAt (vals 3) 1))]]) Tryz.call102 rfl (l20Turn_spec f3_6hr1 f3_6hr2 (hlf := (hwc2)) (hln := (by omega)) (hnb := (hcb2))) ?_)
       rintro _ F10 _ le10 ⟨x13, x14, rfl, hr13, hr14, rfl⟩
       replace har := har.mono le10
       replace hrs := hrs.mono le10
       replace hf := hf.mono le10
       replace hxs := hxs.mono le10
       replace hg := hg.mono le10
       replace hys := hys.mono le10
       replace f13_5ha := f13_5ha.mono le10
       replace hf2 := hf2.mono le10
       replace f3_6hr1 := f3_6hr1.mono le10
       replace f3_6hr2 := f3_6hr2.mono le10
       exact ⟨⟨rfl, hr13, hr14⟩, rfl⟩
      refine stepsG.cons (fun vals Fs R leFs hpZ => ?_) ?_
      ·obtain ⟨e1, f1_6hr1, f1_6hr2⟩ := hpZ 1 (by decide)
       obtain ⟨e4, f4_6hr1, f4_6hr2⟩ := hpZ 4 (by decide)
       replace har := har.mono leFs
       replace hrs := hrs.mono leFs
       replace hf := hf.mono leFs
       replace hxs := hxs.mono leFs
       replace hg := hg.mono leFs
       replace hys := hys.mono leFs
       replace f13_5ha := f13_5ha.mono leFs
       replace hf2 := hf2.mono leFs
       rw [eS (l := [(1, (.agg #[((aggAt (vals 1) 0)), ((aggAt (vals 1) 1))] : Value)), (4, (.agg #[((aggAt (vals 4) 0)), ((aggAt (vals 4) 1))] : Value))]) ⟨(e1).symm, (e4).symm, trivial⟩]
       refine XG.op (XOp.call (args := [.agg #[((aggAt (vals 1) 0)), ((aggAt (vals 1) 1))], .agg #[((aggAt (vals 4) 0)), ((aggAt (vals 4) 1))]]) Tryz.call100 rfl (l20Join_spec f1_6hr1 f1_6hr2 f4_6hr1 f4_6hr2 (hlf := (hwc1)) (hln := (by omega)) (hlk := (by omega)) (hnb := (hcb1)) (hkb := (htb9))) ?_)
       rintro _ F11 _ le11 ⟨x15, x16, rfl, hr15, hr16, rfl⟩
       replace har := har.mono le11
       replace hrs := hrs.mono le11
       replace hf := hf.mono le11
       replace hxs := hxs.mono le11
       replace hg := hg.mono le11
       replace hys := hys.mono le11
       replace f13_5ha := f13_5ha.mono le11
       replace hf2 := hf2.mono le11
       replace f1_6hr1 := f1_6hr1.mono le11
       replace f1_6hr2 := f1_6hr2.mono le11
       replace f4_6hr1 := f4_6hr1.mono le11
       replace f4_6hr2 := f4_6hr2.mono le11
       exact ⟨⟨rfl, hr15, hr16⟩, rfl⟩
      refine stepsG.cons (fun vals Fs R leFs hpZ => ?_) ?_
      ·obtain ⟨e5, f5_6hr1, f5_6hr2⟩ := hpZ 5 (by decide)
       rw [eS (l := [(5, (.tuple #[.agg #[((aggAt (tupAt (vals 5) 0) 0)), ((aggAt (tupAt (vals 5) 0) 1))], .bool ((joinC f (chainL xs) (turnL g (chainL ys))).2.2)] : Value))]) ⟨(e5).symm, trivial⟩]
       refine XG.op (XOp.extract (.agg #[((aggAt (tupAt (vals 5) 0) 0)), ((aggAt (tupAt (vals 5) 0) 1))]) rfl rfl ?_)
       exact ⟨rfl, rfl⟩
      refine stepsG.cons (fun vals Fs R leFs hpZ => ?_) ?_
      ·obtain ⟨e5, f5_6hr1, f5_6hr2⟩ := hpZ 5 (by decide)
       rw [eS (l := [(5, (.tuple #[.agg #[((aggAt (tupAt (vals 5) 0) 0)), ((aggAt (tupAt (vals 5) 0) 1))], .bool ((joinC f (chainL xs) (turnL g (chainL ys))).2.2)] : Value))]) ⟨(e5).symm, trivial⟩]
       refine XG.op (XOp.extract (.bool ((joinC f (chainL xs) (turnL g (chainL ys))).2.2)) rfl rfl ?_)
       exact ⟨rfl, rfl⟩
      exact stepsG.nil
     ·intro vals F12 le12 hphi
      obtain ⟨e1, f1_6hr1, f1_6hr2⟩ := hphi 1 (by decide)
      obtain ⟨e3, f3_6hr1, f3_6hr2⟩ := hphi 3 (by decide)
      obtain ⟨e4, f4_6hr1, f4_6hr2⟩ := hphi 4 (by decide)
      obtain ⟨e5, f5_6hr1, f5_6hr2⟩ := hphi 5 (by decide)
      have e6 : vals 6 = (.agg #[((aggAt (tupAt (vals 5) 0) 0)), ((aggAt (tupAt (vals 5) 0) 1))] : Value) := hphi 6 (by decide)
      generalize hu2 : ((aggAt (vals 1) 0)) = u2 at e1 f1_6hr1 f1_6hr2 e3 f3_6hr1 f3_6hr2 e4 f4_6hr1 f4_6hr2 e5 f5_6hr1 f5_6hr2 e6
      generalize hu3 : ((aggAt (vals 1) 1)) = u3 at e1 f1_6hr1 f1_6hr2 e3 f3_6hr1 f3_6hr2 e4 f4_6hr1 f4_6hr2 e5 f5_6hr1 f5_6hr2 e6
      generalize hu4 : ((aggAt (vals 3) 0)) = u4 at e1 f1_6hr1 f1_6hr2 e3 f3_6hr1 f3_6hr2 e4 f4_6hr1 f4_6hr2 e5 f5_6hr1 f5_6hr2 e6
      generalize hu5 : ((aggAt (vals 3) 1)) = u5 at e1 f1_6hr1 f1_6hr2 e3 f3_6hr1 f3_6hr2 e4 f4_6hr1 f4_6hr2 e5 f5_6hr1 f5_6hr2 e6
      generalize hu6 : ((aggAt (vals 4) 0)) = u6 at e1 f1_6hr1 f1_6hr2 e3 f3_6hr1 f3_6hr2 e4 f4_6hr1 f4_6hr2 e5 f5_6hr1 f5_6hr2 e6
      generalize hu7 : ((aggAt (vals 4) 1)) = u7 at e1 f1_6hr1 f1_6hr2 e3 f3_6hr1 f3_6hr2 e4 f4_6hr1 f4_6hr2 e5 f5_6hr1 f5_6hr2 e6
      generalize hu8 : ((aggAt (tupAt (vals 5) 0) 0)) = u8 at e1 f1_6hr1 f1_6hr2 e3 f3_6hr1 f3_6hr2 e4 f4_6hr1 f4_6hr2 e5 f5_6hr1 f5_6hr2 e6
      generalize hu9 : ((aggAt (tupAt (vals 5) 0) 1)) = u9 at e1 f1_6hr1 f1_6hr2 e3 f3_6hr1 f3_6hr2 e4 f4_6hr1 f4_6hr2 e5 f5_6hr1 f5_6hr2 e6
      rw [eS (l := [(0, (.agg #[fv, xsv] : Value)), (1, (.agg #[u2, u3] : Value)), (2, (.agg #[gv, ysv] : Value)), (3, (.agg #[u4, u5] : Value)), (4, (.agg #[u6, u7] : Value)), (5, (.tuple #[.agg #[u8, u9], .bool ((joinC f (chainL xs) (turnL g (chainL ys))).2.2)] : Value)), (6, (.agg #[u8, u9] : Value)), (7, (.bool ((joinC f (chainL xs) (turnL g (chainL ys))).2.2) : Value))]) ⟨(hphi 0 (by decide)), (e1).symm, (hphi 2 (by decide)), (e3).symm, (e4).symm, (e5).symm, e6, (hphi 7 (by decide)), trivial⟩]
      replace har := har.mono le12
      replace hrs := hrs.mono le12
      replace hf := hf.mono le12
      replace hxs := hxs.mono le12
      replace hg := hg.mono le12
      replace hys := hys.mono le12
      replace f13_5ha := f13_5ha.mono le12
      replace hf2 := hf2.mono le12
      show XL _ _ _ _ _ _ _ (cellsH b4 [(.slice none 0 0), (.slice none 0 0)] 88 :: cellsH b3 [gv, ysv] 45 :: cellsH b2 [fv, xsv] 45 :: cellsH b1 [arv, rsv] 39 :: L)
      refine XL.cons (XOp.storeN (vs := [u8, u9]) [] _ [u8, u9] Tryz.sizeOf88 rfl rfl rfl (ones_cons (one_sl (IntsF.isSl f5_6hr1)) (ones_cons (one_sl (MovesF.isSl f5_6hr2)) ones_nil)) rfl rfl rfl ?_)
      refine XL.as (.bool ((joinC f (chainL xs) (turnL g (chainL ys))).2.2)) rfl ?_
      refine XL.nil ?_
      refine X.ret (retEnd (L' := L) [.agg #[u8, u9], .bool ((joinC f (chainL xs) (turnL g (chainL ys))).2.2)] (.tuple #[.agg #[u8, u9], .bool ((joinC f (chainL xs) (turnL g (chainL ys))).2.2)]) (.cell rfl (loadNV [u8, u9] Tryz.isAgg88 Tryz.sizeOf88 rfl (Rd.ownN [] rfl rfl)) (.tmp rfl .nil)) rfl (FLe.trans (FLe.trans le2 le3) le12) rF (Sub.drop (Sub.drop (Sub.drop (Sub.drop sR)))) ?_)
      have e := chainJF_yes hw1 hw2 hee
      rw [e]
      exact ⟨_, _, rfl, f5_6hr1, f5_6hr2, rfl⟩
end Go.Proofs.YtnloeeaidknblaaGreat
