/-
  Walks, one after the other (part 4).
-/
import Derived.Test.YtiaanelimbmniaaGreatQwL1
import Derived.Test.YtiaanelimbmniaaGreatQwB2
set_option linter.unusedSimpArgs false
set_option linter.unusedVariables false
namespace Go.Proofs.YtiaanelimbmniaaGreat
open Go X M Tryz

/- (*impl.Chain).add -/
theorem chainAdd_spec {F : FH} {L : List HP} {b m : Nat} {fv sv tov : Value} {ms : List MoveT} {cs : List Value} {i j : Int} {k : Bool} {to : List Int} (hto : IntsF F tov to) (hsv : IsSl sv) (hC : MovesC F cs ms) (hm : m = ms.length) (hsb : ms.length ≤ 4000000) (hlt : to.length ≤ 4000000) :
    Does prog 117 [ptr b 0, .agg #[.int .i64 (i), .int .i64 (j), .bool (k), tov]] F (cellsH b [fv, sv] 31 :: slH 146 4 sv m cs :: L) (fun v F' L' => ∃ (sw cw : Value), IsSl sw ∧ IntsF F' cw to ∧ Fresh F F' (intsH 2 cw to) ∧ cellsH b [fv, sw] 31 :: slH 146 4 sw (m + 1) (cs ++ [.int .i64 i, .int .i64 j, .bool k, cw]) :: L = L') := by
 refine Does.of_X func117 rfl rfl rfl ?_
 refine X.seq (X.region ?_)
 refine cX (XOp.box [.int .i64 (i), .int .i64 (j), .bool (k), tov] rfl rfl ?_)
 intro b1
 refine XL.nil (X.seq (X.region ?_))
 refine cX (XOp.fieldP (b := b1) (3) runUnderlying146 rfl sizeOf22 (by decide) rfl rfl ?_)
 refine cX (XOp.load1 (v := tov) isAgg22 rfl (Rd.own [] rfl rfl) ?_)
 refine cX (XOp.frzF <| XOp.call (args := [tov]) call111 rfl (Clone_spec hto (hlt := (by first | assumption | rfl | omega | simp))) ?_)
 rintro v1 _ _ _ ⟨rfl, hs1, rfl⟩
 refine ⟨_, _, rfl, fun F1 le1 hz1 => ?_⟩
 replace hto := hto.mono le1
 replace hC := hC.mono le1
 have hf1 : IntsF F1 v1 ((to)) := intsH.fz (xs := (to)) hz1.fz
 refine cX (XOp.fieldP (b := b1) (3) runUnderlying146 rfl sizeOf22 (by decide) rfl rfl ?_)
 refine cX (XOp.store1 (v := v1) [] _ [.int .i64 (i), .int .i64 (j), .bool (k), v1] sizeOf22 rfl rfl (one_sl (IntsF.isSl hf1)) rfl rfl rfl ?_)
 refine XL.nil ?_
 refine X.weaken (Sub.front (A := [_, _])) ?_
 show X _ _ _ _ _ _ (slH 146 4 sv m cs :: cellsH b1 [.int .i64 (i), .int .i64 (j), .bool (k), v1] 146 :: cellsH b [fv, sv] 31 :: L)
 refine X.drawH [cellsH b1 [.int .i64 (i), .int .i64 (j), .bool (k), v1] 146, cellsH b [fv, sv] 31] L 8 [[], [], [], [], [], [], [], [6]] [[], [], [1], [2], [3], [], [5], [4, 6]] [[], [], [], [], [], [], [], [6]] (phiG [fun FF us v => v = ptr b 0, fun FF us v => v = ptr b 0, fun FF us v => v = ptr b 0, fun FF us v => v = ptr b 1, fun FF us v => v = sv, fun FF us v => v = (.agg #[.int .i64 (i), .int .i64 (j), .bool (k), v1] : Value), fun FF us v => ∃ b, v = .slice (some ⟨b, 0, none⟩) 1 1, fun FF us v => IsSl v]) (ownL [fun us v => [], fun us v => [], fun us v => [], fun us v => [], fun us v => [], fun us v => [], fun us v => [slH 146 4 v 1 [.int .i64 (i), .int .i64 (j), .bool (k), v1]], fun us v => [slH 146 4 (us.getD 0 undef) 1 [.int .i64 (i), .int .i64 (j), .bool (k), v1], slH 146 4 (v) ((m) + 1) (cs ++ [.int .i64 (i), .int .i64 (j), .bool (k), v1])]]) (fun i => ([[], [], [], [], [], [], [], [slH 146 4 sv m cs]] : List (List HP)).getD i []) mixed rfl rfl (by kernel_rfl) (by kernel_rfl) (MonoG.get (MonoG.cons (fun le h => h) (MonoG.cons (fun le h => h) (MonoG.cons (fun le h => h) (MonoG.cons (fun le h => h) (MonoG.cons (fun le h => h) (MonoG.cons (fun le h => h) (MonoG.cons (fun le h => h) (MonoG.cons (fun le h => h) MonoG.nil))))))))) ?_ ?_
 ·refine stepsT.cons (fun vals Fs R leFs hpZ => ?_) ?_
  ·refine XG.op (XOp.move (ptr b 0) rfl ?_)
   exact ⟨rfl, rfl⟩
  refine stepsT.cons (fun vals Fs R leFs hpZ => ?_) ?_
  ·refine XG.op (XOp.move (ptr b 0) rfl ?_)
   exact ⟨rfl, rfl⟩
  refine stepsT.cons (fun vals Fs R leFs hpZ => ?_) ?_
  ·replace hto := hto.mono leFs
   replace hC := hC.mono leFs
   replace hf1 := hf1.mono leFs
   rw [eS (l := [(1, ptr b 0)]) ⟨(hpZ 1 (by decide)), trivial⟩]
   refine XG.op (XOp.nilCheck (a := ⟨b, 0, none⟩) rfl ?_)
   exact ⟨rfl, rfl⟩
  refine stepsT.cons (fun vals Fs R leFs hpZ => ?_) ?_
  ·rw [eS (l := [(2, ptr b 0)]) ⟨(hpZ 2 (by decide)), trivial⟩]
   refine XG.op (XOp.fieldP (b := b) (1) runUnderlying31 rfl sizeOf29 (by decide) rfl rfl ?_)
   exact ⟨rfl, rfl⟩
  refine stepsT.cons (fun vals Fs R leFs hpZ => ?_) ?_
  ·replace hto := hto.mono leFs
   replace hC := hC.mono leFs
   replace hf1 := hf1.mono leFs
   rw [eS (l := [(3, ptr b 1)]) ⟨(hpZ 3 (by decide)), trivial⟩]
   refine XG.op (XOp.load1 (v := sv) isAgg29 rfl (Rd.own [_] rfl rfl) ?_)
   exact ⟨rfl, rfl⟩
  refine stepsT.cons (fun vals Fs R leFs hpZ => ?_) ?_
  ·replace hto := hto.mono leFs
   replace hC := hC.mono leFs
   replace hf1 := hf1.mono leFs
   refine XG.op (XOp.loadN [.int .i64 (i), .int .i64 (j), .bool (k), v1] isAgg146 sizeOf146 rfl rfl (Rd.ownN [] rfl rfl) ?_)
   exact ⟨rfl, rfl⟩
  refine stepsT.cons (fun vals Fs R leFs hpZ => ?_) ?_
  ·replace hto := hto.mono leFs
   replace hC := hC.mono leFs
   replace hf1 := hf1.mono leFs
   rw [eS (l := [(5, (.agg #[.int .i64 (i), .int .i64 (j), .bool (k), v1] : Value))]) ⟨(hpZ 5 (by decide)), trivial⟩]
   refine XG.op (XOp.buildSlice (s := 4) [.int .i64 (i), .int .i64 (j), .bool (k), v1] [.int .i64 (0), .int .i64 (0), .bool (false), (.slice none 0 0)] [(0, [.int .i64 (i), .int .i64 (j), .bool (k), v1])] runUnderlying29 sizeOf146 zeroValue146 rfl (by decide) rfl (.cons rfl CellsAre.nil) rfl ?_)
   intro v4 hv2
   exact ⟨hv2, rfl⟩
  refine stepsT.cons (fun vals Fs R leFs hpZ => ?_) ?_
  ·have f6 : ∃ b, (vals 6) = .slice (some ⟨b, 0, none⟩) 1 1 := hpZ 6 (by decide)
   replace hC := hC.mono leFs
   replace hf1 := hf1.mono leFs
   rw [eS (l := [(4, sv)]) ⟨(hpZ 4 (by decide)), trivial⟩]
   show XG _ _ _ _ _ (slH 146 4 (vals 6) 1 [.int .i64 (i), .int .i64 (j), .bool (k), v1] :: slH 146 4 sv m cs :: ([cellsH b1 [.int .i64 (i), .int .i64 (j), .bool (k), v1] 146, cellsH b [fv, sv] 31] ++ R)) _
   refine XG.op (XOp.append (m := 1) (bytes := 48) (cs := cs) [_] _ [.int .i64 (i), .int .i64 (j), .bool (k), v1] runUnderlying29 typeInfo146 rfl rfl rfl rfl rfl rfl rfl (SlV.own [] rfl) rfl (Rd.lit [] rfl) (ones_cons rfl (ones_cons rfl (ones_cons rfl (ones_cons (one_sl (IntsF.isSl hf1)) ones_nil)))) (by (try simp only [List.length_append, List.length_nil, List.length_cons, List.length_singleton]); omega) (by (try simp only [List.length_append, List.length_nil, List.length_cons, List.length_singleton]); omega) ?_)
   intro v5 hs3 hn2 hm2
   have hc2 := MovesC.snoc hC (y0 := i) (y1 := j) (y2 := k) (y3 := (to)) hf1
   exact ⟨hs3, rfl⟩
  exact stepsT.nil
 ·intro vals F2 le2 hphi
  have f6 : ∃ b, (vals 6) = .slice (some ⟨b, 0, none⟩) 1 1 := hphi 6 (by decide)
  have f7 : IsSl (vals 7) := hphi 7 (by decide)
  generalize hu6 : vals 6 = u1 at f6 f7
  generalize hu7 : vals 7 = u2 at f6 f7
  rw [eS (l := [(0, ptr b 0), (6, u1), (7, u2)]) ⟨(hphi 0 (by decide)), hu6, hu7, trivial⟩]
  replace hC := hC.mono le2
  replace hf1 := hf1.mono le2
  have hc3 := MovesC.snoc hC (y0 := i) (y1 := j) (y2 := k) (y3 := (to)) hf1
  show XL _ _ _ _ _ _ _ (slH 146 4 u1 1 [.int .i64 (i), .int .i64 (j), .bool (k), v1] :: slH 146 4 u2 ((m) + 1) (cs ++ [.int .i64 (i), .int .i64 (j), .bool (k), v1]) :: cellsH b1 [.int .i64 (i), .int .i64 (j), .bool (k), v1] 146 :: cellsH b [fv, sv] 31 :: L)
  skip
  refine cX (XOp.nilCheck (a := ⟨b, 0, none⟩) rfl ?_)
  refine cX (XOp.fieldP (b := b) (1) runUnderlying31 rfl sizeOf29 (by decide) rfl rfl ?_)
  refine cX (XOp.store1 (v := u2) [_, _, _] _ [fv, u2] sizeOf29 rfl rfl (one_sl f7) rfl rfl rfl ?_)
  refine XL.nil ?_
  refine id (retEndN (L' := cellsH b [fv, u2] 31 :: slH 146 4 u2 ((m) + 1) (cs ++ [.int .i64 (i), .int .i64 (j), .bool (k), v1]) :: L) [] (.tuple #[]) (by exact .nil) rfl (FLe.trans le1 le2) rF (Sub.trans (Sub.front (A := [_])) (Sub.trans (Sub.front (A := [_, _, _])) (Sub.cons (Sub.cons (Sub.drop (Sub.drop sR)))))) ?_)
  exact ⟨_, _, f7, hf1, (hz1.mono le2), rfl⟩

/- (impl.Chain).end -/
theorem chainEnd_spec {F : FH} {L : List HP} {fv : Value} {f : List Int} (hf : IntsF F fv f) {nsv : Value} {ns : List MoveT} (hns : MovesF F nsv ns) (hlss : ns.length ≤ 4000000) :
    Does prog 116 [.agg #[fv, nsv]] F (L) (fun v F' L' => F = F' ∧ ∃ (a : Value), (a : Value) = v ∧ (IntsF F' a (endM f ns)) ∧ L = L') := by
 refine Does.of_X func116 rfl rfl rfl ?_
 refine X.seq (X.region ?_)
 refine cX (XOp.box [fv, nsv] rfl rfl ?_)
 intro b1
 refine XL.as ((.slice none 0 0)) rfl ?_
 refine XL.nil (X.seq (X.seq (X.region ?_)))
 refine cX (XOp.fieldP (b := b1) (1) runUnderlying31 rfl sizeOf29 (by decide) rfl rfl ?_)
 refine cX (XOp.load1 (v := nsv) isAgg29 rfl (Rd.own [] rfl rfl) ?_)
 refine cX (XOp.lenS (v := nsv) (n := (ns).length) runUnderlying29 rfl hns.slv ?_)
 refine XL.as (.int .i64 ((ns.length : Int))) rfl ?_
 refine XL.nil (X.seq (X.region ?_))
 refine XL.mv (.int .i64 ((ns.length : Int))) rfl ?_
 refine cX (XOp.gtr (a := (ns.length : Int)) (b := 0) rfl rfl ?_)
 refine XL.nil ?_
 refine X.condD (p := ((ns.length : Int) : Int) > 0) rfl (fun h1 => ?_) (fun h1 => ?_)
 ·refine X.seq (X.region ?_)
  refine cX (XOp.fieldP (b := b1) (1) runUnderlying31 rfl sizeOf29 (by decide) rfl rfl ?_)
  refine cX (XOp.load1 (v := nsv) isAgg29 rfl (Rd.own [] rfl rfl) ?_)
  refine XL.mv (.int .i64 ((ns.length : Int))) rfl ?_
  refine cX (XOp.subR (a := (ns.length : Int)) (b := 1) (((((ns).length) - 1 : Nat) : Int)) rfl rfl (by omega) (by omega) ?_)
  refine cX (XOp.indexS (v := nsv) (i := ((((ns).length) - 1 : Nat) : Int)) (n := (ns).length) (((ns).length) - 1) runUnderlying29 sizeOf146 rfl rfl rfl hns.slv (by omega) rfl ?_)
  refine cX (XOp.fieldE (v := nsv) ((((ns).length) - 1) * 4 + 3) runUnderlying146 rfl sizeOf22 (by decide) rfl rfl ?_)
  obtain ⟨a1, ha1, hrg1, hq1⟩ := hns.rd (i := ((ns).length) - 1) (by omega)
  refine cX (XOp.load1 (v := a1) isAgg22 rfl (hrg1 _ 3 _ rfl) ?_)
  refine XL.as (a1) rfl ?_
  refine XL.nil ?_
  refine X.ret (thenQ_ret (retEnd (L' := L) [a1] (a1) (.tmp rfl .nil) rfl rF rF (Sub.drop sR) ?_))
  exact ⟨rfl, _, rfl, by rw [endM, if_neg (by omega)]; exact ha1, rfl⟩
 ·refine X.skip (X.seq (X.region ?_))
  refine cX (XOp.fieldP (b := b1) (0) runUnderlying31 rfl sizeOf22 (by decide) rfl rfl ?_)
  refine cX (XOp.load1 (v := fv) isAgg22 rfl (Rd.own [] rfl rfl) ?_)
  refine XL.as (fv) rfl ?_
  refine XL.nil ?_
  refine X.ret (retEnd (L' := L) [fv] (fv) (.tmp rfl .nil) rfl rF rF (Sub.drop sR) ?_)
  exact ⟨rfl, _, rfl, by rw [endM, if_pos (by omega)]; exact hf, rfl⟩

/- impl.chainOfWalk -/
set_option maxRecDepth 20000 in
theorem chainOfWalk_spec {F : FH} {L : List HP} {fv : Value} {f : List Int} (hf : IntsF F fv f) {xsv : Value} {xs : List StepT} (hxs : StepsF F xsv xs) (hlf : f.length ≤ 4000000) (hlx : xs.length ≤ 60) (hxb : ∀ i, i < xs.length → (xs.getD i (0, 0, [])).2.2.length ≤ 60) :
    Does prog 53 [.agg #[fv, xsv]] F (L) (fun v F' L' => ∃ (a : Value), ∃ (b : Value), (.agg #[a, b] : Value) = v ∧ (IntsF F' a f) ∧ (MovesF F' b (chainL xs)) ∧ (Fresh F F' (star [intsH 2 a f, movesD 2 146 b (chainL xs)])) ∧ L = L') := by
 refine Does.of_X func53 rfl rfl rfl ?_
 refine X.seq (X.region ?_)
 refine cX (XOp.box [fv, xsv] rfl rfl ?_)
 intro b1
 refine cX (XOp.alloc [(.slice none 0 0), (.slice none 0 0)] zeroValue31 rfl ?_)
 intro b2
 refine XL.nil (X.seq (X.region ?_))
 refine cX (XOp.fieldP (b := b1) (0) runUnderlying57 rfl sizeOf22 (by decide) rfl rfl ?_)
 refine cX (XOp.load1 (v := fv) isAgg22 rfl (Rd.own [_] rfl rfl) ?_)
 refine cX (XOp.frzF <| XOp.call (args := [fv]) call111 rfl (Clone_spec hf (hlt := (by first | assumption | rfl | omega | simp))) ?_)
 rintro v1 _ _ _ ⟨rfl, hs1, rfl⟩
 refine ⟨_, _, rfl, fun F1 le1 hz1 => ?_⟩
 replace hxs := hxs.mono le1
 have hf1 : IntsF F1 v1 ((f)) := intsH.fz (xs := (f)) hz1.fz
 refine cX (XOp.build [v1, (.slice none 0 0)] [(.slice none 0 0), (.slice none 0 0)] [(0, 1), (1, 1)] [(0, [v1])] runUnderlying31 zeroValue31 rfl (.cons rfl sizeOf22 (.cons rfl sizeOf29 PlacesAre.nil)) rfl (.cons (cells_one (IntsF.isSl hf1)) CellsAre.nil) ?_)
 refine cX (XOp.alloc [(.slice none 0 0), (.slice none 0 0)] zeroValue31 rfl ?_)
 intro b3
 refine cX (XOp.storeN (vs := [v1, (.slice none 0 0)]) [] _ [v1, (.slice none 0 0)] sizeOf31 rfl rfl rfl (ones_cons (one_sl (IntsF.isSl hf1)) (ones_cons rfl ones_nil)) rfl rfl rfl ?_)
 refine XL.nil (X.seq (X.seq (X.region ?_)))
 refine cX (XOp.fieldP (b := b1) (1) runUnderlying57 rfl sizeOf55 (by decide) rfl rfl ?_)
 refine cX (XOp.load1 (v := xsv) isAgg55 rfl (Rd.own [_, _] rfl rfl) ?_)
 refine cX (XOp.lenS (v := xsv) (n := (xs).length) runUnderlying55 rfl hxs.slv ?_)
 refine XL.mv (.int .i64 (0)) rfl ?_
 refine XL.nil (X.block ?_)
 refine X.loop (α := Nat × Value × List MoveT × List Value × List HP × Nat × FH) (fun xQ => [(2, ptr b2 0), (3, ptr b3 0), (11, xsv), (12, .int .i64 ((xs.length : Int))), (13, .int .i64 (((xQ.1 : Nat) : Int)))]) (fun xQ => slH 146 4 xQ.2.1 xQ.2.2.2.2.2.1 xQ.2.2.2.1 :: cellsH b3 [v1, xQ.2.1] 31 :: cellsH b2 [(.slice none 0 0), (.slice none 0 0)] 31 :: cellsH b1 [fv, xsv] 57 :: L) (fun xQ F' => xQ.2.2.2.2.2.2 = F' ∧ F1 ≤ xQ.2.2.2.2.2.2 ∧ (xQ.1 ≤ xs.length) ∧ (IsSl xQ.2.1) ∧ (MovesC xQ.2.2.2.2.2.2 xQ.2.2.2.1 xQ.2.2.1) ∧ (xQ.2.2.2.2.2.1 = xQ.2.2.1.length) ∧ (DeepL 4 (MoveO 2) xQ.2.2.2.1 xQ.2.2.1 xQ.2.2.2.2.1) ∧ (Fresh F1 xQ.2.2.2.2.2.2 (star xQ.2.2.2.2.1)) ∧ (xQ.2.2.1 = chainL (xs.take xQ.1))) (fun xQ => xs.length - xQ.1) (0, (.slice none 0 0), [], [], [], 0, F1) ⟨rfl, rfl, rfl, rfl, rfl, trivial⟩ (Sub.trans (Sub.addNil 146 4 _ _) (Sub.cons (Sub.cons (Sub.cons (Sub.cons sR))))) ⟨rfl, FLe.refl _, (by (try dsimp only) <;> omega), (⟨_, _, _, rfl⟩), (CO.nil), (rfl), (DeepL.nil), (Fresh.nilL), (rfl)⟩ ?_
 rintro ⟨k, sv, ms, cs, Ls, m, G1⟩ rE _ _ ⟨rfl, leG, hk, hsv, hC, hm, hD, hZ, hms⟩
 show X _ _ _ _ (envs [(2, ptr b2 0), (3, ptr b3 0), (11, xsv), (12, .int .i64 ((xs.length : Int))), (13, .int .i64 ((k : Int)))] rE) _ (slH 146 4 sv m cs :: cellsH b3 [v1, sv] 31 :: cellsH b2 [(.slice none 0 0), (.slice none 0 0)] 31 :: cellsH b1 [fv, xsv] 57 :: L)
 replace leG : F1 ≤ G1 := leG
 dsimp only at hk hsv hC hm hD hZ hms
 have hxk := hxb k
 have hml : ms.length = k := by rw [hms, chainL_len, List.length_take]; omega
 have leG1 := leG
 replace hxs := hxs.mono leG1
 replace hf1 := hf1.mono leG1
 refine X.seq (X.region ?_)
 refine cX (XOp.lss (a := (k : Int)) (b := (xs.length : Int)) rfl rfl ?_)
 refine XL.nil (X.seq ?_)
 refine X.condD (p := (k : Int) < (xs.length : Int)) rfl (fun h1 => ?_) (fun h1 => ?_)
 ·refine X.skip (X.seq (X.block (X.seq (X.region ?_))))
  refine cX (XOp.indexS (v := xsv) (i := (k : Int)) (n := (xs).length) k runUnderlying55 sizeOf116 rfl rfl rfl hxs.slv (by omega) rfl ?_)
  obtain ⟨a1, ha1, hr1, hr2, hr3⟩ := hxs.rd (i := k) (by omega)
  refine cX (XOp.loadN [.int .i64 ((xs.getD k (0, 0, [])).1), .int .i64 ((xs.getD k (0, 0, [])).2.1), a1] isAgg116 sizeOf116 rfl rfl (Rd.three (hr1 _) (hr2 _) (hr3 _)) ?_)
  refine cX (XOp.alloc [.int .i64 (0), .int .i64 (0), (.slice none 0 0)] zeroValue116 rfl ?_)
  intro b4
  refine cX (XOp.storeN (vs := [.int .i64 ((xs.getD k (0, 0, [])).1), .int .i64 ((xs.getD k (0, 0, [])).2.1), a1]) [] _ [.int .i64 ((xs.getD k (0, 0, [])).1), .int .i64 ((xs.getD k (0, 0, [])).2.1), a1] sizeOf116 rfl rfl rfl (ones_cons rfl (ones_cons rfl (ones_cons (one_sl (IntsF.isSl ha1)) ones_nil))) rfl rfl rfl ?_)
  refine XL.nil (X.region ?_)
  refine cX (XOp.fieldP (b := b4) (1) runUnderlying116 rfl sizeOf2 (by decide) rfl rfl ?_)
  refine cX (XOp.load1 (v := .int .i64 ((xs.getD k (0, 0, [])).2.1)) isAgg2 rfl (Rd.own [] rfl rfl) ?_)
  refine cX (XOp.fieldP (b := b4) (0) runUnderlying116 rfl sizeOf2 (by decide) rfl rfl ?_)
  refine cX (XOp.load1 (v := .int .i64 ((xs.getD k (0, 0, [])).1)) isAgg2 rfl (Rd.own [] rfl rfl) ?_)
  refine cX (XOp.fieldP (b := b4) (2) runUnderlying116 rfl sizeOf22 (by decide) rfl rfl ?_)
  refine cX (XOp.load1 (v := a1) isAgg22 rfl (Rd.own [] rfl rfl) ?_)
  refine cX (XOp.build [.int .i64 ((xs.getD k (0, 0, [])).2.1), .int .i64 ((xs.getD k (0, 0, [])).1), .bool (false), a1] [.int .i64 (0), .int .i64 (0), .bool (false), (.slice none 0 0)] [(0, 1), (1, 1), (2, 1), (3, 1)] [(0, [.int .i64 ((xs.getD k (0, 0, [])).2.1)]), (1, [.int .i64 ((xs.getD k (0, 0, [])).1)]), (3, [a1])] runUnderlying146 zeroValue146 rfl (.cons rfl sizeOf2 (.cons rfl sizeOf2 (.cons rfl sizeOf4 (.cons rfl sizeOf22 PlacesAre.nil)))) rfl (.cons rfl (.cons rfl (.cons (cells_one (IntsF.isSl ha1)) CellsAre.nil))) ?_)
  refine XL.weaken (Sub.front (A := [_])) ?_
  show XL _ _ _ _ _ _ _ (slH 146 4 sv m cs :: cellsH b4 [.int .i64 ((xs.getD k (0, 0, [])).1), .int .i64 ((xs.getD k (0, 0, [])).2.1), a1] 116 :: cellsH b3 [v1, sv] 31 :: cellsH b2 [(.slice none 0 0), (.slice none 0 0)] 31 :: cellsH b1 [fv, xsv] 57 :: L)
  refine XL.weaken (Sub.front (A := [_, _])) ?_
  show XL _ _ _ _ _ _ _ (cellsH b3 [v1, sv] 31 :: slH 146 4 sv m cs :: cellsH b4 [.int .i64 ((xs.getD k (0, 0, [])).1), .int .i64 ((xs.getD k (0, 0, [])).2.1), a1] 116 :: cellsH b2 [(.slice none 0 0), (.slice none 0 0)] 31 :: cellsH b1 [fv, xsv] 57 :: L)
  refine cX (XOp.call (args := [ptr b3 0, .agg #[.int .i64 ((xs.getD k (0, 0, [])).2.1), .int .i64 ((xs.getD k (0, 0, [])).1), .bool (false), a1]]) call117 rfl (chainAdd_spec ha1 hsv hC (by first | rfl | assumption | omega) (by omega) (by omega)) ?_)
  rintro _ F2 _ le2 ⟨sw1, cw1, hs2, hw1, hf2, rfl⟩
  replace hf1 := hf1.mono le2
  replace hC := hC.mono le2
  have hc1 := MovesC.snoc hC (y0 := (xs.getD k (0, 0, [])).2.1) (y1 := (xs.getD k (0, 0, [])).1) (y2 := false) hw1
  show XL _ _ _ _ _ _ _ (cellsH b3 [v1, sw1] 31 :: slH 146 4 sw1 ((m) + 1) ((cs ++ [.int .i64 ((xs.getD k (0, 0, [])).2.1), .int .i64 ((xs.getD k (0, 0, [])).1), .bool (false), cw1])) :: cellsH b4 [.int .i64 ((xs.getD k (0, 0, [])).1), .int .i64 ((xs.getD k (0, 0, [])).2.1), a1] 116 :: cellsH b2 [(.slice none 0 0), (.slice none 0 0)] 31 :: cellsH b1 [fv, xsv] 57 :: L)
  refine XL.nil (X.region ?_)
  refine cX (XOp.addR (a := (k : Int)) (b := 1) (((k + 1 : Nat) : Int)) rfl rfl (by omega) (by omega) ?_)
  refine XL.mv (.int .i64 (((k + 1 : Nat) : Int))) rfl ?_
  refine XL.nil ?_
  exact ⟨(k + 1, sw1, (ms ++ [((xs.getD k (0, 0, [])).2.1, (xs.getD k (0, 0, [])).1, false, (xs.getD k (0, 0, [])).2.2)]), (cs ++ [.int .i64 ((xs.getD k (0, 0, [])).2.1), .int .i64 ((xs.getD k (0, 0, [])).1), .bool (false), cw1]), Ls ++ [intsH 2 cw1 ((xs.getD k (0, 0, [])).2.2)], (m) + 1, F2), _, (FLe.trans leG1 le2), rF, ⟨rfl, rfl, rfl, rfl, rfl, trivial⟩, (Sub.trans (Sub.front (A := [_, _, _, _])) (Sub.trans (Sub.front (A := [_, _, _, _])) (Sub.trans (Sub.front (A := [_, _])) (Sub.trans (Sub.front (A := [_, _, _])) (Sub.cons (Sub.cons (Sub.cons (Sub.cons (Sub.drop sR))))))))), ⟨rfl, (FLe.trans leG1 le2), (by (try dsimp only) <;> omega), (hs2), (hc1), (by (try dsimp only); rw [List.length_append]; simp only [List.length_singleton]; omega), (DeepL.snoc hD rfl ⟨_, rfl, rfl⟩), ((Fresh.app hZ leG1 (Fresh.one hf2) le2)), (by (try dsimp only); rw [chainL_succ (by omega), ← hms]; rfl)⟩, (by omega)⟩
 ·refine X.exit (thenQ_exit (thenQ_exit (blockQ_exit ?_)))
  refine X.seq (X.region ?_)
  refine cX (XOp.loadN [v1, sv] isAgg31 sizeOf31 rfl rfl (Rd.ownN [_] rfl rfl) ?_)
  refine cX (XOp.storeN (vs := [v1, sv]) [_, _] _ [v1, sv] sizeOf31 rfl rfl rfl (ones_cons (one_sl (IntsF.isSl hf1)) (ones_cons (one_sl hsv) ones_nil)) rfl rfl rfl ?_)
  refine XL.nil ?_
  refine X.freezeF [] _ _ rfl (fun F3 le3 hz2 => ?_)
  replace hf1 := hf1.mono le3
  replace hC := hC.mono le3
  have hf3 : MovesF F3 sv ms := CO.fz hC (by first | rfl | simp | omega) hz2.fz
  refine X.ret (retEnd (L' := L) [.agg #[v1, sv]] (.agg #[v1, sv]) (.cell rfl (loadNV [v1, sv] isAgg31 sizeOf31 rfl (Rd.ownN [_] rfl rfl)) .nil) rfl (FLe.trans (FLe.trans le1 leG1) le3) rF (Sub.drop (Sub.drop (Sub.drop sR))) ?_)
  have e9 : ms = chainL xs := by rw [hms, show k = xs.length from by omega, List.take_length]
  rw [← e9]
  exact ⟨_, _, rfl, hf1, hf3, (Fresh.app (Fresh.one hz1) le1 (Fresh.one (Fresh.deep hD hZ leG1 hz2 (by omega) le3)) (FLe.trans leG1 le3)), rfl⟩

/- slices.Backward[[]impl.Move,impl.Move] -/
theorem backwardM_spec {F : FH} {L : List HP} {sv : Value} {s : List MoveT} (hs : MovesF F sv s) :
    Does prog 118 [sv] F (L) (fun v F' L' => ∃ (bt : Nat), (.func (.func 190) #[] #[ptr bt 0] : Value) = v ∧ FzC F' bt [sv] ∧ L = L') := by
 refine Does.of_X func118 rfl rfl rfl ?_
 refine X.seq (X.region ?_)
 refine cX (XOp.box [sv] rfl (cells_one (MovesF.isSl hs)) ?_)
 intro b1
 refine XL.as (.nilFunc) rfl ?_
 refine XL.nil (X.seq (X.region ?_))
 refine cX (XOp.makeFuncL [] [ptr b1 0] rfl rfl ?_)
 refine XL.as (.func (.func 190) #[] #[ptr b1 0]) rfl ?_
 refine XL.nil ?_
 refine X.freeze [] _ _ rfl (fun F1 le1 hz1 => ?_)
 have hf1 : FzC F1 b1 [sv] := Fz.cells hz1
 refine X.ret (retEnd (L' := L) [.func (.func 190) #[] #[ptr b1 0]] (.func (.func 190) #[] #[ptr b1 0]) (.tmp rfl .nil) rfl le1 rF sR ?_)
 exact ⟨_, rfl, hf1, rfl⟩

/- slices.Backward[[]impl.Move,impl.Move]$1 -/
set_option maxRecDepth 20000 in
theorem backItM_spec {F : FH} {L : List HP} {l bt : Nat} {R : Loop} {sv : Value} {ms : List MoveT} (hbt : FzC F bt [sv]) (hs : MovesF F sv ms) (hsl : ms.length ≤ 4000000) {J : Nat → FH → List HP → Prop} (hJ0 : J ms.length F L) (hyes : ∀ (k : Nat) (i : Int) (Fy : FH) (Ly : List HP) (tov : Value), k < ms.length → F ≤ Fy → J (k + 1) Fy Ly → IntsF Fy tov (ms.getD k (0, 0, false, [])).2.2.2 → i = (k : Int) → Yld prog l [.int .i64 i, .agg #[.int .i64 (ms.getD k (0, 0, false, [])).1, .int .i64 (ms.getD k (0, 0, false, [])).2.1, .bool (ms.getD k (0, 0, false, [])).2.2.1, tov]] Fy (objH l (.loop R) :: Ly) (fun v F' L' => .bool true = v ∧ ∃ L2, J k F' L2 ∧ objH l (.loop R) :: L2 = L')) :
    Does prog 190 [(.func (.yield l) #[] #[]), ptr bt 0] F (objH l (.loop R) :: L) (fun v F' L' => ∃ L2, J 0 F' L2 ∧ objH l (.loop R) :: L2 = L') := by
 refine Does.of_X func190 rfl rfl rfl ?_
 refine X.seq (X.region ?_)
 refine cX (XOp.load1 (v := sv) isAgg29 rfl (FzC.rd1 hbt rfl) ?_)
 refine cX (XOp.lenS (v := sv) (n := (ms).length) runUnderlying29 rfl hs.slv ?_)
 refine cX (XOp.subR (a := (ms.length : Int)) (b := 1) (((ms.length : Int)) - 1) rfl rfl (by omega) (by omega) ?_)
 refine XL.as (.int .i64 (((ms.length : Int)) - 1)) rfl ?_
 refine XL.nil (X.block ?_)
 refine X.loop (α := Nat × List HP × FH) (fun xQ => [(0, (.func (.yield l) #[] #[])), (1, ptr bt 0), (3, .int .i64 ((xQ.1 : Int) - 1))]) (fun xQ => objH l (.loop R) :: xQ.2.1) (fun xQ F' => xQ.2.2 = F' ∧ F ≤ xQ.2.2 ∧ (xQ.1 ≤ ms.length) ∧ (J xQ.1 xQ.2.2 xQ.2.1)) (fun xQ => xQ.1) (ms.length, L, F) ⟨rfl, rfl, rfl, trivial⟩ (Sub.cons sR) ⟨rfl, FLe.refl _, (Nat.le_refl _), (hJ0)⟩ ?_
 rintro ⟨j, Lk, G1⟩ rE _ _ ⟨rfl, leG, hj, hJ⟩
 show X _ _ _ _ (envs [(0, (.func (.yield l) #[] #[])), (1, ptr bt 0), (3, .int .i64 ((j : Int) - 1))] rE) _ (objH l (.loop R) :: Lk)
 replace leG : F ≤ G1 := leG
 dsimp only at hj hJ
 have hjl : j - 1 < ms.length ∨ j = 0 := by omega
 have leG1 := leG
 replace hs := hs.mono leG1
 replace hbt := hbt.mono leG1
 refine X.seq (X.seq (X.region ?_))
 refine XL.mv (.int .i64 ((j : Int) - 1)) rfl ?_
 refine cX (XOp.geq (a := (j : Int) - 1) (b := 0) rfl rfl ?_)
 refine XL.nil ?_
 refine X.condD (p := ((j : Int) - 1 : Int) ≥ 0) rfl (fun h1 => ?_) (fun h1 => ?_)
 ·have hj0 : ((j : Int) - 1).toNat = j - 1 := by omega
  have hjk : ((j : Int) - 1) = ((j - 1 : Nat) : Int) := by omega
  refine X.skip (X.seq (X.block (X.seq ?_)))
  refine X.ofI (by kernel_rfl) ?_
  refine XI.region ?_
  refine XIL.cons (XOp.move ((.func (.yield l) #[] #[])) rfl ?_)
  refine XIL.cons (XOp.move (.int .i64 ((j : Int) - 1)) rfl ?_)
  refine XIL.cons (XOp.load1 (v := sv) isAgg29 rfl (FzC.rd1 hbt rfl) ?_)
  refine XIL.cons (XOp.move (.int .i64 ((j : Int) - 1)) rfl ?_)
  refine XIL.cons (XOp.indexS (v := sv) (i := (j : Int) - 1) (n := (ms).length) (((j : Int) - 1).toNat) runUnderlying29 sizeOf146 rfl rfl (by omega) hs.slv (by omega) rfl ?_)
  obtain ⟨a1, ha1, hrg1, hq1⟩ := hs.rd (i := ((j : Int) - 1).toNat) (by omega)
  refine XIL.cons (XOp.loadN [.int .i64 ((ms.getD (((j : Int) - 1).toNat) (0, 0, false, [])).1), .int .i64 ((ms.getD (((j : Int) - 1).toNat) (0, 0, false, [])).2.1), .bool ((ms.getD (((j : Int) - 1).toNat) (0, 0, false, [])).2.2.1), a1] isAgg146 sizeOf146 rfl rfl (Rd.all (hrg1 _)) ?_)
  refine XIL.yield (k := l) (args := [.int .i64 ((j : Int) - 1), .agg #[.int .i64 ((ms.getD (((j : Int) - 1).toNat) (0, 0, false, [])).1), .int .i64 ((ms.getD (((j : Int) - 1).toNat) (0, 0, false, [])).2.1), .bool ((ms.getD (((j : Int) - 1).toNat) (0, 0, false, [])).2.2.1), a1]]) rfl (by rfl) ?_
  refine Yld.weaken (Sub.cons sR) ?_
  have hJ9 : J ((((j : Int) - 1).toNat) + 1) G1 Lk := by rw [show ((j : Int) - 1).toNat + 1 = j from by omega]; exact hJ
  refine (hyes _ _ _ _ _ (by omega) leG1 hJ9 ha1 (by omega)).mono ?_
  rintro _ F1 _ le1 ⟨rfl, Lj1, hJ1, rfl⟩
  rw [hj0] at hJ1
  show XIL _ _ _ _ _ _ _ _ _ (objH l (.loop R) :: Lj1)
  refine XIL.cons (XOp.notB (b := true) rfl ?_)
  refine XIL.nil ?_
  refine X.condF rfl ?_
  refine X.skip (X.region ?_)
  refine XL.mv (.int .i64 ((j : Int) - 1)) rfl ?_
  refine cX (XOp.subR (a := (j : Int) - 1) (b := 1) (((j : Int) - 1) - 1) rfl rfl (by omega) (by omega) ?_)
  refine XL.as (.int .i64 (((j : Int) - 1) - 1)) rfl ?_
  refine XL.nil ?_
  exact ⟨(j - 1, Lj1, F1), _, (FLe.trans leG1 le1), rF, ⟨rfl, rfl, (vI (by (try dsimp only); omega)), trivial⟩, (Sub.cons sR), ⟨rfl, (FLe.trans leG1 le1), (by (try dsimp only) <;> omega), (hJ1)⟩, (by (try dsimp only); omega)⟩
 ·refine X.exit (thenQ_exit (thenQ_exit (blockQ_exit ?_)))
  refine id (retEndN (L' := objH l (.loop R) :: Lk) [] (.tuple #[]) (by exact .nil) rfl leG1 rF (Sub.cons sR) ?_)
  obtain rfl : j = 0 := by omega
  exact ⟨_, hJ, rfl⟩

/- impl.turned -/
set_option maxRecDepth 20000 in
theorem turned_spec {F : FH} {L : List HP} {fv : Value} {f : List Int} (hf : IntsF F fv f) {nsv : Value} {ns : List MoveT} (hns : MovesF F nsv ns) (hlf : f.length ≤ 60) (hln : ns.length ≤ 60) (hnb : ∀ i, i < ns.length → (ns.getD i (0, 0, false, [])).2.2.2.length ≤ 60) :
    Does prog 54 [.agg #[fv, nsv]] F (L) (fun v F' L' => ∃ (a : Value), ∃ (b : Value), (.agg #[a, b] : Value) = v ∧ (IntsF F' a (endM f ns)) ∧ (MovesF F' b (turnL f ns)) ∧ (Fresh F F' (star [intsH 2 a (endM f ns), movesD 2 146 b (turnL f ns)])) ∧ L = L') := by
 refine Does.of_XF func54 rfl (by kernel_rfl) rfl ?_
 have hel : (endM f ns).length ≤ 60 := by unfold endM; split <;> first | exact hlf | exact hnb _ (by omega)
 refine XF.seq ?_
 refine X.region ?_
 refine cX (XOp.box [fv, nsv] rfl rfl ?_)
 intro b1
 refine cX (XOp.alloc [(.slice none 0 0), (.slice none 0 0)] zeroValue31 rfl ?_)
 intro b2
 refine XL.nil ?_
 refine XF.seq ?_
 refine X.region ?_
 refine cX (XOp.loadN [fv, nsv] isAgg31 sizeOf31 rfl rfl (Rd.ownN [_] rfl rfl) ?_)
 refine cX (XOp.call (args := [.agg #[fv, nsv]]) call116 rfl (chainEnd_spec hf hns (hlss := (by first | assumption | rfl | omega | simp))) ?_)
 rintro _ _ _ _ ⟨rfl, x1, rfl, hr1, rfl⟩
 refine cX (XOp.frzF <| XOp.call (args := [x1]) call111 rfl (Clone_spec hr1 (hlt := (by first | assumption | rfl | omega | simp))) ?_)
 rintro v1 _ _ _ ⟨rfl, hs1, rfl⟩
 refine ⟨_, _, rfl, fun F2 le2 hz1 => ?_⟩
 replace hf := hf.mono le2
 replace hns := hns.mono le2
 replace hr1 := hr1.mono le2
 have hf1 : IntsF F2 v1 (((endM f ns))) := intsH.fz (xs := ((endM f ns))) hz1.fz
 refine cX (XOp.build [v1, (.slice none 0 0)] [(.slice none 0 0), (.slice none 0 0)] [(0, 1), (1, 1)] [(0, [v1])] runUnderlying31 zeroValue31 rfl (.cons rfl sizeOf22 (.cons rfl sizeOf29 PlacesAre.nil)) rfl (.cons (cells_one (IntsF.isSl hf1)) CellsAre.nil) ?_)
 refine cX (XOp.alloc [(.slice none 0 0), (.slice none 0 0)] zeroValue31 rfl ?_)
 intro b3
 refine cX (XOp.storeN (vs := [v1, (.slice none 0 0)]) [] _ [v1, (.slice none 0 0)] sizeOf31 rfl rfl rfl (ones_cons (one_sl (IntsF.isSl hf1)) (ones_cons rfl ones_nil)) rfl rfl rfl ?_)
 refine XL.nil ?_
 refine XF.ofR ?_
 refine XR.seq ?_
 refine X.region ?_
 refine XL.freeze [_, _] _ _ rfl (fun F3 le3 hz2 => ?_)
 replace hf := hf.mono le3
 replace hns := hns.mono le3
 replace hr1 := hr1.mono le3
 replace hf1 := hf1.mono le3
 have hf2 : FzC F3 b1 [fv, nsv] := Fz.cells hz2
 skip
 refine cX (XOp.fieldP (b := b1) (1) runUnderlying31 rfl sizeOf29 (by decide) rfl rfl ?_)
 refine cX (XOp.load1 (v := nsv) isAgg29 rfl (FzC.rd1 hf2 rfl) ?_)
 refine cX (XOp.call (args := [nsv]) call118 rfl (backwardM_spec hns) ?_)
 rintro _ F4 _ le4 ⟨x2, rfl, hb1, rfl⟩
 replace hf := hf.mono le4
 replace hns := hns.mono le4
 replace hr1 := hr1.mono le4
 replace hf1 := hf1.mono le4
 replace hf2 := hf2.mono le4
 refine XL.nil ?_
 refine XR.rangeB (gf := 190) (lb := [ptr x2 0]) rfl call190 (fun l D R hRs hRp hRps hRa hRb hRz hRg => ?_)
 have hR0 : ({ R with state := .ready, pending := none } : Loop) = R := by
  cases R
  simp only at hRs hRp
  subst hRs hRp
  rfl
 have hyes : ∀ (k : Nat) (i : Int) (Fy : FH) (Ly : List HP) (tov : Value), k < ns.length → F4 ≤ Fy → (WJM F4 2 146 31 b3 v1 (turnTo f ns) (objH D (.deferred (some [])) :: cellsH b2 [(.slice none 0 0), (.slice none 0 0)] 31 :: L)) (k + 1) Fy Ly → IntsF Fy tov (ns.getD k (0, 0, false, [])).2.2.2 → i = (k : Int) → Yld prog l [.int .i64 i, .agg #[.int .i64 (ns.getD k (0, 0, false, [])).1, .int .i64 (ns.getD k (0, 0, false, [])).2.1, .bool (ns.getD k (0, 0, false, [])).2.2.1, tov]] Fy (objH l (.loop R) :: Ly) (fun v F' L' => .bool true = v ∧ ∃ L2, (WJM F4 2 146 31 b3 v1 (turnTo f ns) (objH D (.deferred (some [])) :: cellsH b2 [(.slice none 0 0), (.slice none 0 0)] 31 :: L)) k F' L2 ∧ objH l (.loop R) :: L2 = L') := by
  intro k i Fy Ly tov hk9 leF hJ hto hi
  obtain ⟨sv8, ms8, cs8, Ls8, m8, hsv8, hC8, hm8, hDp, hZ, hms8, rfl⟩ := hJ
  have hmsl : ms8.length ≤ 60 := by rw [hms8]; unfold turnTo; simp; omega
  have htob := hnb k hk9
  have htob2 := hnb (i - 1).toNat
  have hix : 0 < i → (i - 1).toNat = k - 1 := fun _ => by omega
  have hf := hf.mono leF
  have hns := hns.mono leF
  have hr1 := hr1.mono leF
  have hf1 := hf1.mono leF
  have hf2 := hf2.mono leF
  have hb1 := hb1.mono leF
  refine Yld.of_round hRs hRp hRps hRa hRb hRz hRg rfl (by kernel_rfl) (by kernel_rfl) (by kernel_rfl) ?_
  refine XI.slots [(14, .int .i64 (i)), (15, .agg #[.int .i64 ((ns.getD k (0, 0, false, [])).1), .int .i64 ((ns.getD k (0, 0, false, [])).2.1), .bool ((ns.getD k (0, 0, false, [])).2.2.1), tov]), (3, ptr b3 0), (1, ptr b1 0)] ⟨rfl, rfl, rfl, rfl, trivial⟩ (fun rE => ?_)
  refine XI.seq ?_
  refine XI.region ?_
  refine XIL.cons (XOp.assign (.int .i64 (i)) rfl ?_)
  refine XIL.nil ?_
  refine XI.region ?_
  refine XIL.cons (XOp.alloc [.int .i64 (0), .int .i64 (0), .bool (false), (.slice none 0 0)] zeroValue146 rfl ?_)
  intro b4
  refine XIL.cons (XOp.storeN (vs := [.int .i64 ((ns.getD k (0, 0, false, [])).1), .int .i64 ((ns.getD k (0, 0, false, [])).2.1), .bool ((ns.getD k (0, 0, false, [])).2.2.1), tov]) [] _ [.int .i64 ((ns.getD k (0, 0, false, [])).1), .int .i64 ((ns.getD k (0, 0, false, [])).2.1), .bool ((ns.getD k (0, 0, false, [])).2.2.1), tov] sizeOf146 rfl rfl rfl (ones_cons rfl (ones_cons rfl (ones_cons rfl (ones_cons (one_sl (IntsF.isSl hto)) ones_nil)))) rfl rfl rfl ?_)
  refine XIL.nil ?_
  refine ⟨cellsH b4 [.int .i64 ((ns.getD k (0, 0, false, [])).1), .int .i64 ((ns.getD k (0, 0, false, [])).2.1), .bool ((ns.getD k (0, 0, false, [])).2.2.1), tov] 146 :: cellsH b3 [v1, sv8] 31 :: slH 146 4 sv8 m8 cs8 :: objH D (.deferred (some [])) :: cellsH b2 [(.slice none 0 0), (.slice none 0 0)] 31 :: L, (Sub.trans (Sub.front (A := [_, _, _])) (Sub.trans (Sub.front (A := [_, _, _])) (Sub.trans (Sub.front (A := [_, _])) (Sub.trans (Sub.front (A := [_, _, _])) (Sub.cons (Sub.cons (Sub.cons (Sub.cons sR)))))))), ?_⟩
  refine XI.block ?_
  refine XI.seq ?_
  refine XI.region ?_
  refine XIL.cons (XOp.fieldP (b := b1) (0) runUnderlying31 rfl sizeOf22 (by decide) rfl rfl ?_)
  refine XIL.cons (XOp.load1 (v := fv) isAgg22 rfl (FzC.rd1 hf2 rfl) ?_)
  refine XIL.cons (XOp.assign (fv) rfl ?_)
  refine XIL.nil ?_
  refine XI.seq ?_
  refine XI.seq ?_
  refine XI.region ?_
  refine XIL.cons (XOp.move (.int .i64 (i)) rfl ?_)
  refine XIL.cons (XOp.gtr (a := i) (b := 0) rfl rfl ?_)
  refine XIL.nil ?_
  refine XI.condD (p := (i : Int) > 0) rfl (fun h1 => ?_) (fun h1 => ?_)
  ·refine XI.region ?_
   refine XIL.cons (XOp.fieldP (b := b1) (1) runUnderlying31 rfl sizeOf29 (by decide) rfl rfl ?_)
   refine XIL.cons (XOp.load1 (v := nsv) isAgg29 rfl (FzC.rd1 hf2 rfl) ?_)
   refine XIL.cons (XOp.move (.int .i64 (i)) rfl ?_)
   refine XIL.cons (XOp.subR (a := i) (b := 1) (i - 1) rfl rfl (by omega) (by omega) ?_)
   refine XIL.cons (XOp.indexS (v := nsv) (i := i - 1) (n := (ns).length) ((i - 1).toNat) runUnderlying29 sizeOf146 rfl rfl (by omega) hns.slv (by omega) rfl ?_)
   refine XIL.cons (XOp.fieldE (v := nsv) (((i - 1).toNat) * 4 + 3) runUnderlying146 rfl sizeOf22 (by decide) rfl rfl ?_)
   obtain ⟨a1, ha1, hrg1, hq1⟩ := hns.rd (i := (i - 1).toNat) (by omega)
   refine XIL.cons (XOp.load1 (v := a1) isAgg22 rfl (hrg1 _ 3 _ rfl) ?_)
   refine XIL.cons (XOp.assign (a1) rfl ?_)
   refine XIL.nil ?_
   refine XI.region ?_
   refine XIL.cons (XOp.fieldP (b := b4) (0) runUnderlying146 rfl sizeOf2 (by decide) rfl rfl ?_)
   refine XIL.cons (XOp.load1 (v := .int .i64 ((ns.getD k (0, 0, false, [])).1)) isAgg2 rfl (Rd.own [_] rfl rfl) ?_)
   refine XIL.cons (XOp.fieldP (b := b4) (1) runUnderlying146 rfl sizeOf2 (by decide) rfl rfl ?_)
   refine XIL.cons (XOp.load1 (v := .int .i64 ((ns.getD k (0, 0, false, [])).2.1)) isAgg2 rfl (Rd.own [_] rfl rfl) ?_)
   refine XIL.cons (XOp.fieldP (b := b4) (2) runUnderlying146 rfl sizeOf4 (by decide) rfl rfl ?_)
   refine XIL.cons (XOp.load1 (v := .bool ((ns.getD k (0, 0, false, [])).2.2.1)) isAgg4 rfl (Rd.own [_] rfl rfl) ?_)
   refine XIL.cons (XOp.notB (b := (ns.getD k (0, 0, false, [])).2.2.1) rfl ?_)
   refine XIL.cons (XOp.move (a1) rfl ?_)
   refine XIL.cons (XOp.build [.int .i64 ((ns.getD k (0, 0, false, [])).1), .int .i64 ((ns.getD k (0, 0, false, [])).2.1), .bool (!((ns.getD k (0, 0, false, [])).2.2.1)), a1] [.int .i64 (0), .int .i64 (0), .bool (false), (.slice none 0 0)] [(0, 1), (1, 1), (2, 1), (3, 1)] [(0, [.int .i64 ((ns.getD k (0, 0, false, [])).1)]), (1, [.int .i64 ((ns.getD k (0, 0, false, [])).2.1)]), (2, [.bool (!((ns.getD k (0, 0, false, [])).2.2.1))]), (3, [a1])] runUnderlying146 zeroValue146 rfl (.cons rfl sizeOf2 (.cons rfl sizeOf2 (.cons rfl sizeOf4 (.cons rfl sizeOf22 PlacesAre.nil)))) rfl (.cons rfl (.cons rfl (.cons rfl (.cons (cells_one (IntsF.isSl ha1)) CellsAre.nil)))) ?_)
   refine XIL.weaken (Sub.front (A := [_, _, _])) ?_
   show XIL _ _ _ _ _ _ _ _ _ (slH 146 4 sv8 m8 cs8 :: objH l (.loop { R with state := .busy }) :: cellsH b4 [.int .i64 ((ns.getD k (0, 0, false, [])).1), .int .i64 ((ns.getD k (0, 0, false, [])).2.1), .bool ((ns.getD k (0, 0, false, [])).2.2.1), tov] 146 :: cellsH b3 [v1, sv8] 31 :: objH D (.deferred (some [])) :: cellsH b2 [(.slice none 0 0), (.slice none 0 0)] 31 :: L)
   refine XIL.weaken (Sub.front (A := [_, _, _])) ?_
   show XIL _ _ _ _ _ _ _ _ _ (cellsH b3 [v1, sv8] 31 :: slH 146 4 sv8 m8 cs8 :: objH l (.loop { R with state := .busy }) :: cellsH b4 [.int .i64 ((ns.getD k (0, 0, false, [])).1), .int .i64 ((ns.getD k (0, 0, false, [])).2.1), .bool ((ns.getD k (0, 0, false, [])).2.2.1), tov] 146 :: objH D (.deferred (some [])) :: cellsH b2 [(.slice none 0 0), (.slice none 0 0)] 31 :: L)
   refine XIL.cons (XOp.call (args := [ptr b3 0, .agg #[.int .i64 ((ns.getD k (0, 0, false, [])).1), .int .i64 ((ns.getD k (0, 0, false, [])).2.1), .bool (!((ns.getD k (0, 0, false, [])).2.2.1)), a1]]) call117 rfl (chainAdd_spec ha1 hsv8 hC8 (by first | rfl | assumption | omega) (by omega) (by omega)) ?_)
   rintro _ F5 _ le5 ⟨sw1, cw1, hs2, hw1, hf3, rfl⟩
   replace hC8 := hC8.mono le5
   replace hf := hf.mono le5
   replace hns := hns.mono le5
   replace hf1 := hf1.mono le5
   replace hb1 := hb1.mono le5
   have hc1 := MovesC.snoc hC8 (y0 := (ns.getD k (0, 0, false, [])).1) (y1 := (ns.getD k (0, 0, false, [])).2.1) (y2 := !((ns.getD k (0, 0, false, [])).2.2.1)) hw1
   show XIL _ _ _ _ _ _ _ _ _ (cellsH b3 [v1, sw1] 31 :: slH 146 4 sw1 ((m8) + 1) ((cs8 ++ [.int .i64 ((ns.getD k (0, 0, false, [])).1), .int .i64 ((ns.getD k (0, 0, false, [])).2.1), .bool (!((ns.getD k (0, 0, false, [])).2.2.1)), cw1])) :: objH l (.loop { R with state := .busy }) :: cellsH b4 [.int .i64 ((ns.getD k (0, 0, false, [])).1), .int .i64 ((ns.getD k (0, 0, false, [])).2.1), .bool ((ns.getD k (0, 0, false, [])).2.2.1), tov] 146 :: objH D (.deferred (some [])) :: cellsH b2 [(.slice none 0 0), (.slice none 0 0)] 31 :: L)
   refine XIL.nil ?_
   refine ⟨rfl, ?_⟩
   refine ⟨cellsH b3 [v1, sw1] 31 :: slH 146 4 sw1 ((m8) + 1) ((cs8 ++ [.int .i64 ((ns.getD k (0, 0, false, [])).1), .int .i64 ((ns.getD k (0, 0, false, [])).2.1), .bool (!((ns.getD k (0, 0, false, [])).2.2.1)), cw1])) :: objH D (.deferred (some [])) :: cellsH b2 [(.slice none 0 0), (.slice none 0 0)] 31 :: L, (Sub.trans (Sub.front (A := [_])) (Sub.trans (Sub.front (A := [_])) (Sub.trans (Sub.front (A := [_, _])) (Sub.cons (Sub.cons (Sub.cons (Sub.drop sR))))))), ?_⟩
   rw [hR0]
   exact ⟨rfl, _, ⟨_, _, _, _, _, hs2, hc1, by rw [List.length_append, List.length_singleton]; omega, DeepL.snoc hDp rfl ⟨_, rfl, rfl⟩, (Fresh.app hZ leF (Fresh.one hf3) le5), by have h9 := turnTo_next (f := f) (ms := ns) (j := k + 1) (by omega) (by omega); rw [Nat.add_sub_cancel] at h9; rw [hms8, h9]; unfold turnAt; first | (rw [if_pos (by omega), ← hix (by omega)]) | rw [if_neg (by omega)], rfl⟩, rfl⟩
  ·refine XI.skip ?_
   refine XI.region ?_
   refine XIL.cons (XOp.fieldP (b := b4) (0) runUnderlying146 rfl sizeOf2 (by decide) rfl rfl ?_)
   refine XIL.cons (XOp.load1 (v := .int .i64 ((ns.getD k (0, 0, false, [])).1)) isAgg2 rfl (Rd.own [_] rfl rfl) ?_)
   refine XIL.cons (XOp.fieldP (b := b4) (1) runUnderlying146 rfl sizeOf2 (by decide) rfl rfl ?_)
   refine XIL.cons (XOp.load1 (v := .int .i64 ((ns.getD k (0, 0, false, [])).2.1)) isAgg2 rfl (Rd.own [_] rfl rfl) ?_)
   refine XIL.cons (XOp.fieldP (b := b4) (2) runUnderlying146 rfl sizeOf4 (by decide) rfl rfl ?_)
   refine XIL.cons (XOp.load1 (v := .bool ((ns.getD k (0, 0, false, [])).2.2.1)) isAgg4 rfl (Rd.own [_] rfl rfl) ?_)
   refine XIL.cons (XOp.notB (b := (ns.getD k (0, 0, false, [])).2.2.1) rfl ?_)
   refine XIL.cons (XOp.move (fv) rfl ?_)
   refine XIL.cons (XOp.build [.int .i64 ((ns.getD k (0, 0, false, [])).1), .int .i64 ((ns.getD k (0, 0, false, [])).2.1), .bool (!((ns.getD k (0, 0, false, [])).2.2.1)), fv] [.int .i64 (0), .int .i64 (0), .bool (false), (.slice none 0 0)] [(0, 1), (1, 1), (2, 1), (3, 1)] [(0, [.int .i64 ((ns.getD k (0, 0, false, [])).1)]), (1, [.int .i64 ((ns.getD k (0, 0, false, [])).2.1)]), (2, [.bool (!((ns.getD k (0, 0, false, [])).2.2.1))]), (3, [fv])] runUnderlying146 zeroValue146 rfl (.cons rfl sizeOf2 (.cons rfl sizeOf2 (.cons rfl sizeOf4 (.cons rfl sizeOf22 PlacesAre.nil)))) rfl (.cons rfl (.cons rfl (.cons rfl (.cons (cells_one (IntsF.isSl hf)) CellsAre.nil)))) ?_)
   refine XIL.weaken (Sub.front (A := [_, _, _])) ?_
   show XIL _ _ _ _ _ _ _ _ _ (slH 146 4 sv8 m8 cs8 :: objH l (.loop { R with state := .busy }) :: cellsH b4 [.int .i64 ((ns.getD k (0, 0, false, [])).1), .int .i64 ((ns.getD k (0, 0, false, [])).2.1), .bool ((ns.getD k (0, 0, false, [])).2.2.1), tov] 146 :: cellsH b3 [v1, sv8] 31 :: objH D (.deferred (some [])) :: cellsH b2 [(.slice none 0 0), (.slice none 0 0)] 31 :: L)
   refine XIL.weaken (Sub.front (A := [_, _, _])) ?_
   show XIL _ _ _ _ _ _ _ _ _ (cellsH b3 [v1, sv8] 31 :: slH 146 4 sv8 m8 cs8 :: objH l (.loop { R with state := .busy }) :: cellsH b4 [.int .i64 ((ns.getD k (0, 0, false, [])).1), .int .i64 ((ns.getD k (0, 0, false, [])).2.1), .bool ((ns.getD k (0, 0, false, [])).2.2.1), tov] 146 :: objH D (.deferred (some [])) :: cellsH b2 [(.slice none 0 0), (.slice none 0 0)] 31 :: L)
   refine XIL.cons (XOp.call (args := [ptr b3 0, .agg #[.int .i64 ((ns.getD k (0, 0, false, [])).1), .int .i64 ((ns.getD k (0, 0, false, [])).2.1), .bool (!((ns.getD k (0, 0, false, [])).2.2.1)), fv]]) call117 rfl (chainAdd_spec hf hsv8 hC8 (by first | rfl | assumption | omega) (by omega) (by omega)) ?_)
   rintro _ F6 _ le6 ⟨sw2, cw2, hs3, hw2, hf4, rfl⟩
   replace hC8 := hC8.mono le6
   replace hns := hns.mono le6
   replace hf1 := hf1.mono le6
   replace hb1 := hb1.mono le6
   have hc2 := MovesC.snoc hC8 (y0 := (ns.getD k (0, 0, false, [])).1) (y1 := (ns.getD k (0, 0, false, [])).2.1) (y2 := !((ns.getD k (0, 0, false, [])).2.2.1)) hw2
   show XIL _ _ _ _ _ _ _ _ _ (cellsH b3 [v1, sw2] 31 :: slH 146 4 sw2 ((m8) + 1) ((cs8 ++ [.int .i64 ((ns.getD k (0, 0, false, [])).1), .int .i64 ((ns.getD k (0, 0, false, [])).2.1), .bool (!((ns.getD k (0, 0, false, [])).2.2.1)), cw2])) :: objH l (.loop { R with state := .busy }) :: cellsH b4 [.int .i64 ((ns.getD k (0, 0, false, [])).1), .int .i64 ((ns.getD k (0, 0, false, [])).2.1), .bool ((ns.getD k (0, 0, false, [])).2.2.1), tov] 146 :: objH D (.deferred (some [])) :: cellsH b2 [(.slice none 0 0), (.slice none 0 0)] 31 :: L)
   refine XIL.nil ?_
   refine ⟨rfl, ?_⟩
   refine ⟨cellsH b3 [v1, sw2] 31 :: slH 146 4 sw2 ((m8) + 1) ((cs8 ++ [.int .i64 ((ns.getD k (0, 0, false, [])).1), .int .i64 ((ns.getD k (0, 0, false, [])).2.1), .bool (!((ns.getD k (0, 0, false, [])).2.2.1)), cw2])) :: objH D (.deferred (some [])) :: cellsH b2 [(.slice none 0 0), (.slice none 0 0)] 31 :: L, (Sub.trans (Sub.front (A := [_])) (Sub.trans (Sub.front (A := [_])) (Sub.trans (Sub.front (A := [_, _])) (Sub.cons (Sub.cons (Sub.cons (Sub.drop sR))))))), ?_⟩
   rw [hR0]
   exact ⟨rfl, _, ⟨_, _, _, _, _, hs3, hc2, by rw [List.length_append, List.length_singleton]; omega, DeepL.snoc hDp rfl ⟨_, rfl, rfl⟩, (Fresh.app hZ leF (Fresh.one hf4) le6), by have h9 := turnTo_next (f := f) (ms := ns) (j := k + 1) (by omega) (by omega); rw [Nat.add_sub_cancel] at h9; rw [hms8, h9]; unfold turnAt; first | (rw [if_pos (by omega), ← hix (by omega)]) | rw [if_neg (by omega)], rfl⟩, rfl⟩
 refine (Does.weaken (Sub.trans (Sub.addNil 146 4 none _) (Sub.trans (Sub.front (A := [_, _, _, _])) (Sub.trans (Sub.front (A := [_, _, _])) (Sub.trans (Sub.front (A := [_, _])) (Sub.trans (Sub.front (A := [_, _, _, _])) (Sub.trans (Sub.front (A := [_, _, _, _])) (Sub.cons (Sub.cons (Sub.cons (Sub.cons (Sub.cons sR))))))))))) (backItM_spec (J := (WJM F4 2 146 31 b3 v1 (turnTo f ns) (objH D (.deferred (some [])) :: cellsH b2 [(.slice none 0 0), (.slice none 0 0)] 31 :: L))) hb1 hns (by omega) (WJM.start turnTo_start) hyes)).mono ?_
 rintro _ F9 _ le9 ⟨L9, ⟨sv9, ms9, cs9, Ls9, m9, hsv9, hC9, hm9, hD9, hZ9, hms9, rfl⟩, rfl⟩
 replace hf1 := hf1.mono le9
 refine ⟨R, cellsH b3 [v1, sv9] 31 :: slH 146 4 sv9 m9 cs9 :: cellsH b2 [(.slice none 0 0), (.slice none 0 0)] 31 :: L, by rw [hRs]; simp, hRp, (Sub.trans (Sub.front (A := [_, _, _, _])) (Sub.trans (Sub.front (A := [_, _, _])) (Sub.trans (Sub.front (A := [_, _, _])) (Sub.trans (Sub.front (A := [_, _, _, _])) (Sub.trans (Sub.front (A := [_, _, _, _])) (Sub.cons (Sub.cons (Sub.cons (Sub.cons (Sub.cons sR)))))))))), ?_⟩
 refine XI.seq ?_
 refine XI.region ?_
 refine XIL.cons (XOp.loadN [v1, sv9] isAgg31 sizeOf31 rfl rfl (Rd.ownN [_] rfl rfl) ?_)
 refine XIL.cons (XOp.storeN (vs := [v1, sv9]) [_, _, _] _ [v1, sv9] sizeOf31 rfl rfl rfl (ones_cons (one_sl (IntsF.isSl hf1)) (ones_cons (one_sl hsv9) ones_nil)) rfl rfl rfl ?_)
 refine XIL.nil ?_
 refine XI.freezeF [_, _] _ _ rfl (fun F7 le7 hz3 => ?_)
 replace hf1 := hf1.mono le7
 replace hC9 := hC9.mono le7
 have hf5 : MovesF F7 sv9 ms9 := CO.fz hC9 (by first | rfl | simp | omega) hz3.fz
 refine XI.ret (retEndC (L' := L) (cellsH b3 [v1, sv9] 31 :: cellsH b2 [v1, sv9] 31 :: L) [.agg #[v1, sv9]] (.agg #[v1, sv9]) (.cell rfl (loadNV [v1, sv9] isAgg31 sizeOf31 rfl (Rd.ownN [_, _] rfl rfl)) .nil) rfl (FLe.trans (FLe.trans (FLe.trans (FLe.trans le2 le3) le4) le9) le7) rF (Sub.cons (Sub.cons (Sub.cons sR))) (Sub.drop (Sub.drop sR)) ?_)
 have e9 : turnL f ns = ms9 := hms9.symm
 rw [e9]
 exact ⟨_, _, rfl, hf1, hf5, (Fresh.app ((Fresh.one hz1).mono (FLe.trans le3 le4)) (FLe.trans (FLe.trans le2 le3) le4) (Fresh.one (Fresh.deep hD9 hZ9 le9 hz3 (by omega) le7)) (FLe.trans le9 le7)), rfl⟩

/- impl.joinChains -/
set_option maxRecDepth 20000 in
theorem joinChains_spec {F : FH} {L : List HP} {fv : Value} {f : List Int} (hf : IntsF F fv f) {nsv : Value} {ns : List MoveT} (hns : MovesF F nsv ns) {gv : Value} {g : List Int} (hg : IntsF F gv g) {ksv : Value} {ks : List MoveT} (hks : MovesF F ksv ks) (hlf : f.length ≤ 60) (hln : ns.length ≤ 60) (hlk : ks.length ≤ 60) (hnb : ∀ i, i < ns.length → (ns.getD i (0, 0, false, [])).2.2.2.length ≤ 60) (hkb : ∀ i, i < ks.length → (ks.getD i (0, 0, false, [])).2.2.2.length ≤ 60) (hgl : g.length ≤ 60) :
    Does prog 52 [.agg #[fv, nsv], .agg #[gv, ksv]] F (L) (fun v F' L' => ∃ (a : Value), ∃ (b : Value), (.tuple #[.agg #[a, b], .bool ((joinG f ns g ks).2.2)] : Value) = v ∧ (IntsF F' a (joinG f ns g ks).1) ∧ (MovesF F' b (joinG f ns g ks).2.1) ∧ (Fresh F F' (star [intsH 2 a (joinG f ns g ks).1, movesD 2 146 b (joinG f ns g ks).2.1])) ∧ L = L') := by
 refine Does.of_X func52 rfl rfl rfl ?_
 have hal : (ns ++ ks).length = ns.length + ks.length := List.length_append
 have hab : ∀ i, i < (ns ++ ks).length → ((ns ++ ks).getD i (0, 0, false, [])).2.2.2.length ≤ 60 := fun i hi => by
  rcases Nat.lt_or_ge i ns.length with h | h
  · have := hnb i h; simpa [List.getD, List.getElem?_append_left h] using this
  · have := hkb (i - ns.length) (by omega); simpa [List.getD, List.getElem?_append_right h] using this
 refine X.seq (X.region ?_)
 refine cX (XOp.box [fv, nsv] rfl rfl ?_)
 intro b1
 refine cX (XOp.box [gv, ksv] rfl rfl ?_)
 intro b2
 refine cX (XOp.alloc [(.slice none 0 0), (.slice none 0 0)] zeroValue31 rfl ?_)
 intro b3
 refine XL.as (.bool (false)) rfl ?_
 refine XL.nil (X.seq (X.seq ?_))
 by_cases h1 : ¬((endM f ns) = g)
 ·have hjoin : endM f ns ≠ g := by simpa using h1
  refine X.drawG [cellsH b3 [(.slice none 0 0), (.slice none 0 0)] 31, cellsH b2 [gv, ksv] 31, cellsH b1 [fv, nsv] 31] L 13 [[], [], [], [], [], [], [], [], [], [], [], [], []] [[], [0], [], [2], [1, 3], [4], [5], [6], [6, 7], [6, 8], [6], [6, 10], [6, 11]] [[], [], [], [], [], [], [], [], [], [], [], [], []] (phiG [fun FF us v => v = (.agg #[fv, nsv] : Value), fun FF us v => ((v) : Value) = v ∧ (IntsF FF (v) (endM f ns)), fun FF us v => v = ptr b2 0, fun FF us v => v = gv, fun FF us v => v = (.bool (decide ((endM f ns) = g)) : Value), fun FF us v => v = (.bool (decide (¬((endM f ns) = g))) : Value), fun FF us v => v = (.bool (decide (¬((endM f ns) = g))) : Value), fun FF us v => v = undef, fun FF us v => v = undef, fun FF us v => v = undef, fun FF us v => v = undef, fun FF us v => v = undef, fun FF us v => v = undef]) (ownL [fun us v => [], fun us v => [], fun us v => [], fun us v => [], fun us v => [], fun us v => [], fun us v => [], fun us v => [], fun us v => [], fun us v => [], fun us v => [], fun us v => [], fun us v => []]) mixed rfl rfl (by kernel_rfl) (by kernel_rfl) (MonoG.get (MonoG.cons (fun le h => h) (MonoG.cons (fun le h => ⟨h.1, h.2.mono le⟩) (MonoG.cons (fun le h => h) (MonoG.cons (fun le h => h) (MonoG.cons (fun le h => h) (MonoG.cons (fun le h => h) (MonoG.cons (fun le h => h) (MonoG.cons (fun le h => h) (MonoG.cons (fun le h => h) (MonoG.cons (fun le h => h) (MonoG.cons (fun le h => h) (MonoG.cons (fun le h => h) (MonoG.cons (fun le h => h) MonoG.nil)))))))))))))) ?_ ?_
  ·refine stepsG.cons (fun vals Fs R leFs hpZ => ?_) ?_
   ·replace hf := hf.mono leFs
    replace hns := hns.mono leFs
    replace hg := hg.mono leFs
    replace hks := hks.mono leFs
    refine XG.op (XOp.loadN [fv, nsv] isAgg31 sizeOf31 rfl rfl (Rd.ownN [_, _] rfl rfl) ?_)
    exact ⟨rfl, rfl⟩
   refine stepsG.cons (fun vals Fs R leFs hpZ => ?_) ?_
   ·replace hf := hf.mono leFs
    replace hns := hns.mono leFs
    replace hg := hg.mono leFs
    replace hks := hks.mono leFs
    rw [eS (l := [(0, (.agg #[fv, nsv] : Value))]) ⟨(hpZ 0 (by decide)), trivial⟩]
    refine XG.op (XOp.call (args := [.agg #[fv, nsv]]) call116 rfl (chainEnd_spec hf hns (hlss := (by first | assumption | rfl | omega | simp))) ?_)
    rintro _ _ _ _ ⟨rfl, x3, rfl, hr3, rfl⟩
    exact ⟨⟨rfl, hr3⟩, rfl⟩
   refine stepsG.cons (fun vals Fs R leFs hpZ => ?_) ?_
   ·refine XG.op (XOp.fieldP (b := b2) (0) runUnderlying31 rfl sizeOf22 (by decide) rfl rfl ?_)
    exact ⟨rfl, rfl⟩
   refine stepsG.cons (fun vals Fs R leFs hpZ => ?_) ?_
   ·replace hf := hf.mono leFs
    replace hns := hns.mono leFs
    replace hg := hg.mono leFs
    replace hks := hks.mono leFs
    rw [eS (l := [(2, ptr b2 0)]) ⟨(hpZ 2 (by decide)), trivial⟩]
    refine XG.op (XOp.load1 (v := gv) isAgg22 rfl (Rd.own [_] rfl rfl) ?_)
    exact ⟨rfl, rfl⟩
   refine stepsG.cons (fun vals Fs R leFs hpZ => ?_) ?_
   ·obtain ⟨e1, f1_2hr⟩ := hpZ 1 (by decide)
    replace hf := hf.mono leFs
    replace hns := hns.mono leFs
    replace hg := hg.mono leFs
    replace hks := hks.mono leFs
    rw [eS (l := [(1, ((vals 1))), (3, gv)]) ⟨(e1).symm, (hpZ 3 (by decide)), trivial⟩]
    refine XG.op (XOp.call (args := [((vals 1)), gv]) call115 rfl (Equal_spec f1_2hr hg (hbd := (by first | assumption | rfl | omega | (left; simp; done) | (right; simp; done)))) ?_)
    rintro _ _ _ _ ⟨rfl, rfl, rfl⟩
    exact ⟨rfl, rfl⟩
   refine stepsG.cons (fun vals Fs R leFs hpZ => ?_) ?_
   ·rw [eS (l := [(4, (.bool (decide ((endM f ns) = g)) : Value))]) ⟨(hpZ 4 (by decide)), trivial⟩]
    refine XG.op (XOp.notD (p := (endM f ns) = g) rfl ?_)
    exact ⟨rfl, rfl⟩
   refine stepsG.cons (fun vals Fs R leFs hpZ => ?_) ?_
   ·rw [eS (l := [(5, (.bool (decide (¬((endM f ns) = g))) : Value))]) ⟨(hpZ 5 (by decide)), trivial⟩]
    refine XG.op (XOp.move (.bool (decide (¬((endM f ns) = g)))) rfl ?_)
    exact ⟨rfl, rfl⟩
   refine stepsG.cons (fun vals Fs R leFs hpZ => ?_) ?_
   ·rw [eS (l := [(6, (.bool (decide (¬((endM f ns) = g))) : Value))]) ⟨(hpZ 6 (by decide)), trivial⟩]
    exact XG.no (t := 16) rfl (vT h1) ⟨rfl, rfl⟩
   refine stepsG.cons (fun vals Fs R leFs hpZ => ?_) ?_
   ·replace hf := hf.mono leFs
    replace hns := hns.mono leFs
    replace hg := hg.mono leFs
    replace hks := hks.mono leFs
    rw [eS (l := [(6, (.bool (decide (¬((endM f ns) = g))) : Value)), (7, undef)]) ⟨(hpZ 6 (by decide)), (hpZ 7 (by decide)), trivial⟩]
    exact XG.no (t := 16) rfl (vT h1) ⟨rfl, rfl⟩
   refine stepsG.cons (fun vals Fs R leFs hpZ => ?_) ?_
   ·replace hf := hf.mono leFs
    replace hns := hns.mono leFs
    replace hg := hg.mono leFs
    replace hks := hks.mono leFs
    rw [eS (l := [(6, (.bool (decide (¬((endM f ns) = g))) : Value)), (8, undef)]) ⟨(hpZ 6 (by decide)), (hpZ 8 (by decide)), trivial⟩]
    exact XG.no (t := 16) rfl (vT h1) ⟨rfl, rfl⟩
   refine stepsG.cons (fun vals Fs R leFs hpZ => ?_) ?_
   ·rw [eS (l := [(6, (.bool (decide (¬((endM f ns) = g))) : Value))]) ⟨(hpZ 6 (by decide)), trivial⟩]
    exact XG.no (t := 16) rfl (vT h1) ⟨rfl, rfl⟩
   refine stepsG.cons (fun vals Fs R leFs hpZ => ?_) ?_
   ·replace hf := hf.mono leFs
    replace hns := hns.mono leFs
    replace hg := hg.mono leFs
    replace hks := hks.mono leFs
    rw [eS (l := [(6, (.bool (decide (¬((endM f ns) = g))) : Value)), (10, undef)]) ⟨(hpZ 6 (by decide)), (hpZ 10 (by decide)), trivial⟩]
    exact XG.no (t := 16) rfl (vT h1) ⟨rfl, rfl⟩
   refine stepsG.cons (fun vals Fs R leFs hpZ => ?_) ?_
   ·replace hf := hf.mono leFs
    replace hns := hns.mono leFs
    replace hg := hg.mono leFs
    replace hks := hks.mono leFs
    rw [eS (l := [(6, (.bool (decide (¬((endM f ns) = g))) : Value)), (11, undef)]) ⟨(hpZ 6 (by decide)), (hpZ 11 (by decide)), trivial⟩]
    exact XG.no (t := 16) rfl (vT h1) ⟨rfl, rfl⟩
   exact stepsG.nil
  ·intro vals F4 le4 hphi
   obtain ⟨e1, f1_2hr⟩ := hphi 1 (by decide)
   generalize hu1 : ((vals 1)) = u1 at e1 f1_2hr
   rw [eS (l := [(6, (.bool (decide (¬((endM f ns) = g))) : Value)), (9, undef), (12, undef)]) ⟨(hphi 6 (by decide)), (hphi 9 (by decide)), (hphi 12 (by decide)), trivial⟩]
   replace hf := hf.mono le4
   replace hns := hns.mono le4
   replace hg := hg.mono le4
   replace hks := hks.mono le4
   show XL _ _ _ _ _ _ _ (cellsH b3 [(.slice none 0 0), (.slice none 0 0)] 31 :: cellsH b2 [gv, ksv] 31 :: cellsH b1 [fv, nsv] 31 :: L)
   refine XL.no (t := 16) rfl (vT h1) ?_
   refine XL.no (t := 16) rfl (vT h1) ?_
   refine cX (XOp.pickT (.bool (true)) (vT h1) rfl ?_)
   refine XL.nil ?_
   refine X.condT rfl ?_
   refine X.seq (X.region ?_)
   refine cX (XOp.build [(.slice none 0 0), (.slice none 0 0)] [(.slice none 0 0), (.slice none 0 0)] [(0, 1), (1, 1)] [] runUnderlying31 zeroValue31 rfl (.cons rfl sizeOf22 (.cons rfl sizeOf29 PlacesAre.nil)) rfl CellsAre.nil ?_)
   refine cX (XOp.storeN (vs := [(.slice none 0 0), (.slice none 0 0)]) [] _ [(.slice none 0 0), (.slice none 0 0)] sizeOf31 rfl rfl rfl (ones_cons rfl (ones_cons rfl ones_nil)) rfl rfl rfl ?_)
   refine XL.as (.bool (false)) rfl ?_
   refine XL.nil ?_
   refine X.ret (thenQ_ret (retEnd (L' := L) [.agg #[(.slice none 0 0), (.slice none 0 0)], .bool (false)] (.tuple #[.agg #[(.slice none 0 0), (.slice none 0 0)], .bool (false)]) (.cell rfl (loadNV [(.slice none 0 0), (.slice none 0 0)] isAgg31 sizeOf31 rfl (Rd.ownN [] rfl rfl)) (.tmp rfl .nil)) rfl le4 rF (Sub.drop (Sub.drop (Sub.drop sR))) ?_))
   have e : joinG f ns g ks = ([], [], false) := by first | exact joinG_no hjoin | exact joinG_long (by omega)
   exact ⟨_, _, by rw [e], by rw [e]; exact IntsF.nilV, by rw [e]; exact SlOf.nilV, by rw [e]; exact Fresh.empty nilChain, rfl⟩
 ·have hjoin : endM f ns = g := by simpa using h1
  refine X.drawG [cellsH b3 [(.slice none 0 0), (.slice none 0 0)] 31, cellsH b2 [gv, ksv] 31, cellsH b1 [fv, nsv] 31] L 13 [[], [], [], [], [], [], [], [], [], [], [], [], []] [[], [0], [], [2], [1, 3], [4], [5], [6], [6, 7], [6, 8], [6], [6, 10], [6, 11]] [[], [], [], [], [], [], [], [], [], [], [], [], []] (phiG [fun FF us v => v = (.agg #[fv, nsv] : Value), fun FF us v => ((v) : Value) = v ∧ (IntsF FF (v) (endM f ns)), fun FF us v => v = ptr b2 0, fun FF us v => v = gv, fun FF us v => v = (.bool (decide ((endM f ns) = g)) : Value), fun FF us v => v = (.bool (decide (¬((endM f ns) = g))) : Value), fun FF us v => v = (.bool (decide (¬((endM f ns) = g))) : Value), fun FF us v => v = ptr b1 1, fun FF us v => v = nsv, fun FF us v => v = (.int .i64 ((ns.length : Int)) : Value), fun FF us v => v = ptr b2 1, fun FF us v => v = ksv, fun FF us v => v = (.int .i64 ((ks.length : Int)) : Value)]) (ownL [fun us v => [], fun us v => [], fun us v => [], fun us v => [], fun us v => [], fun us v => [], fun us v => [], fun us v => [], fun us v => [], fun us v => [], fun us v => [], fun us v => [], fun us v => []]) mixed rfl rfl (by kernel_rfl) (by kernel_rfl) (MonoG.get (MonoG.cons (fun le h => h) (MonoG.cons (fun le h => ⟨h.1, h.2.mono le⟩) (MonoG.cons (fun le h => h) (MonoG.cons (fun le h => h) (MonoG.cons (fun le h => h) (MonoG.cons (fun le h => h) (MonoG.cons (fun le h => h) (MonoG.cons (fun le h => h) (MonoG.cons (fun le h => h) (MonoG.cons (fun le h => h) (MonoG.cons (fun le h => h) (MonoG.cons (fun le h => h) (MonoG.cons (fun le h => h) MonoG.nil)))))))))))))) ?_ ?_
  ·refine stepsG.cons (fun vals Fs R leFs hpZ => ?_) ?_
   ·replace hf := hf.mono leFs
    replace hns := hns.mono leFs
    replace hg := hg.mono leFs
    replace hks := hks.mono leFs
    refine XG.op (XOp.loadN [fv, nsv] isAgg31 sizeOf31 rfl rfl (Rd.ownN [_, _] rfl rfl) ?_)
    exact ⟨rfl, rfl⟩
   refine stepsG.cons (fun vals Fs R leFs hpZ => ?_) ?_
   ·replace hf := hf.mono leFs
    replace hns := hns.mono leFs
    replace hg := hg.mono leFs
    replace hks := hks.mono leFs
    rw [eS (l := [(0, (.agg #[fv, nsv] : Value))]) ⟨(hpZ 0 (by decide)), trivial⟩]
    refine XG.op (XOp.call (args := [.agg #[fv, nsv]]) call116 rfl (chainEnd_spec hf hns (hlss := (by first | assumption | rfl | omega | simp))) ?_)
    rintro _ _ _ _ ⟨rfl, x5, rfl, hr5, rfl⟩
    exact ⟨⟨rfl, hr5⟩, rfl⟩
   refine stepsG.cons (fun vals Fs R leFs hpZ => ?_) ?_
   ·refine XG.op (XOp.fieldP (b := b2) (0) runUnderlying31 rfl sizeOf22 (by decide) rfl rfl ?_)
    exact ⟨rfl, rfl⟩
   refine stepsG.cons (fun vals Fs R leFs hpZ => ?_) ?_
   ·replace hf := hf.mono leFs
    replace hns := hns.mono leFs
    replace hg := hg.mono leFs
    replace hks := hks.mono leFs
    rw [eS (l := [(2, ptr b2 0)]) ⟨(hpZ 2 (by decide)), trivial⟩]
    refine XG.op (XOp.load1 (v := gv) isAgg22 rfl (Rd.own [_] rfl rfl) ?_)
    exact ⟨rfl, rfl⟩
   refine stepsG.cons (fun vals Fs R leFs hpZ => ?_) ?_
   ·obtain ⟨e1, f1_3hr⟩ := hpZ 1 (by decide)
    replace hf := hf.mono leFs
    replace hns := hns.mono leFs
    replace hg := hg.mono leFs
    replace hks := hks.mono leFs
    rw [eS (l := [(1, ((vals 1))), (3, gv)]) ⟨(e1).symm, (hpZ 3 (by decide)), trivial⟩]
    refine XG.op (XOp.call (args := [((vals 1)), gv]) call115 rfl (Equal_spec f1_3hr hg (hbd := (by first | assumption | rfl | omega | (left; simp; done) | (right; simp; done)))) ?_)
    rintro _ _ _ _ ⟨rfl, rfl, rfl⟩
    exact ⟨rfl, rfl⟩
   refine stepsG.cons (fun vals Fs R leFs hpZ => ?_) ?_
   ·rw [eS (l := [(4, (.bool (decide ((endM f ns) = g)) : Value))]) ⟨(hpZ 4 (by decide)), trivial⟩]
    refine XG.op (XOp.notD (p := (endM f ns) = g) rfl ?_)
    exact ⟨rfl, rfl⟩
   refine stepsG.cons (fun vals Fs R leFs hpZ => ?_) ?_
   ·rw [eS (l := [(5, (.bool (decide (¬((endM f ns) = g))) : Value))]) ⟨(hpZ 5 (by decide)), trivial⟩]
    refine XG.op (XOp.move (.bool (decide (¬((endM f ns) = g)))) rfl ?_)
    exact ⟨rfl, rfl⟩
   refine stepsG.cons (fun vals Fs R leFs hpZ => ?_) ?_
   ·rw [eS (l := [(6, (.bool (decide (¬((endM f ns) = g))) : Value))]) ⟨(hpZ 6 (by decide)), trivial⟩]
    refine XG.yes (t := 16) rfl (vF h1) (XOp.fieldP (b := b1) (1) runUnderlying31 rfl sizeOf29 (by decide) rfl rfl ?_)
    exact ⟨rfl, rfl⟩
   refine stepsG.cons (fun vals Fs R leFs hpZ => ?_) ?_
   ·replace hf := hf.mono leFs
    replace hns := hns.mono leFs
    replace hks := hks.mono leFs
    rw [eS (l := [(6, (.bool (decide (¬((endM f ns) = g))) : Value)), (7, ptr b1 1)]) ⟨(hpZ 6 (by decide)), (hpZ 7 (by decide)), trivial⟩]
    refine XG.yes (t := 16) rfl (vF h1) (XOp.load1 (v := nsv) isAgg29 rfl (Rd.own [_, _] rfl rfl) ?_)
    exact ⟨rfl, rfl⟩
   refine stepsG.cons (fun vals Fs R leFs hpZ => ?_) ?_
   ·replace hf := hf.mono leFs
    replace hns := hns.mono leFs
    replace hks := hks.mono leFs
    rw [eS (l := [(6, (.bool (decide (¬((endM f ns) = g))) : Value)), (8, nsv)]) ⟨(hpZ 6 (by decide)), (hpZ 8 (by decide)), trivial⟩]
    refine XG.yes (t := 16) rfl (vF h1) (XOp.lenS (v := nsv) (n := (ns).length) runUnderlying29 rfl hns.slv ?_)
    exact ⟨rfl, rfl⟩
   refine stepsG.cons (fun vals Fs R leFs hpZ => ?_) ?_
   ·rw [eS (l := [(6, (.bool (decide (¬((endM f ns) = g))) : Value))]) ⟨(hpZ 6 (by decide)), trivial⟩]
    refine XG.yes (t := 16) rfl (vF h1) (XOp.fieldP (b := b2) (1) runUnderlying31 rfl sizeOf29 (by decide) rfl rfl ?_)
    exact ⟨rfl, rfl⟩
   refine stepsG.cons (fun vals Fs R leFs hpZ => ?_) ?_
   ·replace hf := hf.mono leFs
    replace hns := hns.mono leFs
    replace hks := hks.mono leFs
    rw [eS (l := [(6, (.bool (decide (¬((endM f ns) = g))) : Value)), (10, ptr b2 1)]) ⟨(hpZ 6 (by decide)), (hpZ 10 (by decide)), trivial⟩]
    refine XG.yes (t := 16) rfl (vF h1) (XOp.load1 (v := ksv) isAgg29 rfl (Rd.own [_] rfl rfl) ?_)
    exact ⟨rfl, rfl⟩
   refine stepsG.cons (fun vals Fs R leFs hpZ => ?_) ?_
   ·replace hf := hf.mono leFs
    replace hns := hns.mono leFs
    replace hks := hks.mono leFs
    rw [eS (l := [(6, (.bool (decide (¬((endM f ns) = g))) : Value)), (11, ksv)]) ⟨(hpZ 6 (by decide)), (hpZ 11 (by decide)), trivial⟩]
    refine XG.yes (t := 16) rfl (vF h1) (XOp.lenS (v := ksv) (n := (ks).length) runUnderlying29 rfl hks.slv ?_)
    exact ⟨rfl, rfl⟩
   exact stepsG.nil
  ·intro vals F7 le7 hphi
   obtain ⟨e1, f1_3hr⟩ := hphi 1 (by decide)
   generalize hu2 : ((vals 1)) = u2 at e1 f1_3hr
   rw [eS (l := [(6, (.bool (decide (¬((endM f ns) = g))) : Value)), (9, (.int .i64 ((ns.length : Int)) : Value)), (12, (.int .i64 ((ks.length : Int)) : Value))]) ⟨(hphi 6 (by decide)), (hphi 9 (by decide)), (hphi 12 (by decide)), trivial⟩]
   replace hf := hf.mono le7
   replace hns := hns.mono le7
   replace hks := hks.mono le7
   show XL _ _ _ _ _ _ _ (cellsH b3 [(.slice none 0 0), (.slice none 0 0)] 31 :: cellsH b2 [gv, ksv] 31 :: cellsH b1 [fv, nsv] 31 :: L)
   refine XL.yes (t := 16) rfl (vF h1) (XOp.addR (a := (ns.length : Int)) (b := (ks.length : Int)) (((((ns).length) + ((ks).length) : Nat) : Int)) rfl rfl (by omega) (by omega) ?_)
   refine XL.yes (t := 16) rfl (vF h1) (XOp.gtr (a := ((((ns).length) + ((ks).length) : Nat) : Int)) (b := 60) rfl rfl ?_)
   refine cX (XOp.pickF (.bool (decide ((((((ns).length) + ((ks).length) : Nat) : Int) : Int) > 60))) (vF h1) rfl ?_)
   refine XL.nil ?_
   refine X.condD (p := (((((ns).length) + ((ks).length) : Nat) : Int) : Int) > 60) rfl (fun h2 => ?_) (fun h2 => ?_)
   ·refine X.seq (X.region ?_)
    refine cX (XOp.build [(.slice none 0 0), (.slice none 0 0)] [(.slice none 0 0), (.slice none 0 0)] [(0, 1), (1, 1)] [] runUnderlying31 zeroValue31 rfl (.cons rfl sizeOf22 (.cons rfl sizeOf29 PlacesAre.nil)) rfl CellsAre.nil ?_)
    refine cX (XOp.storeN (vs := [(.slice none 0 0), (.slice none 0 0)]) [] _ [(.slice none 0 0), (.slice none 0 0)] sizeOf31 rfl rfl rfl (ones_cons rfl (ones_cons rfl ones_nil)) rfl rfl rfl ?_)
    refine XL.as (.bool (false)) rfl ?_
    refine XL.nil ?_
    refine X.ret (thenQ_ret (retEnd (L' := L) [.agg #[(.slice none 0 0), (.slice none 0 0)], .bool (false)] (.tuple #[.agg #[(.slice none 0 0), (.slice none 0 0)], .bool (false)]) (.cell rfl (loadNV [(.slice none 0 0), (.slice none 0 0)] isAgg31 sizeOf31 rfl (Rd.ownN [] rfl rfl)) (.tmp rfl .nil)) rfl le7 rF (Sub.drop (Sub.drop (Sub.drop sR))) ?_))
    have e : joinG f ns g ks = ([], [], false) := by first | exact joinG_no hjoin | exact joinG_long (by omega)
    exact ⟨_, _, by rw [e], by rw [e]; exact IntsF.nilV, by rw [e]; exact SlOf.nilV, by rw [e]; exact Fresh.empty nilChain, rfl⟩
   ·refine X.skip (X.seq (X.region ?_))
    refine cX (XOp.fieldP (b := b1) (0) runUnderlying31 rfl sizeOf22 (by decide) rfl rfl ?_)
    refine cX (XOp.load1 (v := fv) isAgg22 rfl (Rd.own [_, _] rfl rfl) ?_)
    refine cX (XOp.frzF <| XOp.call (args := [fv]) call111 rfl (Clone_spec hf (hlt := (by first | assumption | rfl | omega | simp))) ?_)
    rintro v1 _ _ _ ⟨rfl, hs1, rfl⟩
    refine ⟨_, _, rfl, fun F8 le8 hz1 => ?_⟩
    replace hf := hf.mono le8
    replace hns := hns.mono le8
    replace hks := hks.mono le8
    have hf1 : IntsF F8 v1 ((f)) := intsH.fz (xs := (f)) hz1.fz
    refine cX (XOp.build [v1, (.slice none 0 0)] [(.slice none 0 0), (.slice none 0 0)] [(0, 1), (1, 1)] [(0, [v1])] runUnderlying31 zeroValue31 rfl (.cons rfl sizeOf22 (.cons rfl sizeOf29 PlacesAre.nil)) rfl (.cons (cells_one (IntsF.isSl hf1)) CellsAre.nil) ?_)
    refine cX (XOp.alloc [(.slice none 0 0), (.slice none 0 0)] zeroValue31 rfl ?_)
    intro b4
    refine cX (XOp.storeN (vs := [v1, (.slice none 0 0)]) [] _ [v1, (.slice none 0 0)] sizeOf31 rfl rfl rfl (ones_cons (one_sl (IntsF.isSl hf1)) (ones_cons rfl ones_nil)) rfl rfl rfl ?_)
    refine XL.nil (X.seq (X.region ?_))
    refine cX (XOp.fieldP (b := b1) (1) runUnderlying31 rfl sizeOf29 (by decide) rfl rfl ?_)
    refine cX (XOp.load1 (v := nsv) isAgg29 rfl (Rd.own [_, _, _] rfl rfl) ?_)
    refine cX (XOp.lenS (v := nsv) (n := (ns).length) runUnderlying29 rfl hns.slv ?_)
    refine XL.as (.int .i64 ((ns.length : Int))) rfl ?_
    refine XL.nil (X.seq (X.seq ?_))
    refine X.drawG [cellsH b4 [v1, (.slice none 0 0)] 31, cellsH b3 [(.slice none 0 0), (.slice none 0 0)] 31, cellsH b2 [gv, ksv] 31, cellsH b1 [fv, nsv] 31] L 10 [[], [], [], [], [], [], [], [], [], []] [[], [0], [], [], [1, 2, 3], [], [5], [4, 6], [7], []] [[], [], [], [], [], [], [], [], [], []] (phiG [fun FF us v => v = ptr b1 1, fun FF us v => v = nsv, fun FF us v => v = (.int .i64 ((ns.length : Int)) : Value), fun FF us v => v = (.int .i64 ((ns.length : Int)) : Value), fun FF us v => (v : Value) = v ∧ (MovesF FF v ns) ∧ (FullN ((ns).length) v), fun FF us v => v = ptr b2 1, fun FF us v => v = ksv, fun FF us v => (v : Value) = v ∧ (MovesF FF v ((ns ++ ks))), fun FF us v => v = (.int .i64 (((((ns ++ ks)).length : Nat) : Int)) : Value), fun FF us v => v = (.int .i64 (0) : Value)]) (ownL [fun us v => [], fun us v => [], fun us v => [], fun us v => [], fun us v => [], fun us v => [], fun us v => [], fun us v => [], fun us v => [], fun us v => []]) mixed rfl rfl (by kernel_rfl) (by kernel_rfl) (MonoG.get (MonoG.cons (fun le h => h) (MonoG.cons (fun le h => h) (MonoG.cons (fun le h => h) (MonoG.cons (fun le h => h) (MonoG.cons (fun le h => ⟨h.1, h.2.1.mono le, h.2.2⟩) (MonoG.cons (fun le h => h) (MonoG.cons (fun le h => h) (MonoG.cons (fun le h => ⟨h.1, h.2.mono le⟩) (MonoG.cons (fun le h => h) (MonoG.cons (fun le h => h) MonoG.nil))))))))))) ?_ ?_
    ·refine stepsG.cons (fun vals Fs R leFs hpZ => ?_) ?_
     ·refine XG.op (XOp.fieldP (b := b1) (1) runUnderlying31 rfl sizeOf29 (by decide) rfl rfl ?_)
      exact ⟨rfl, rfl⟩
     refine stepsG.cons (fun vals Fs R leFs hpZ => ?_) ?_
     ·replace hf := hf.mono leFs
      replace hns := hns.mono leFs
      replace hks := hks.mono leFs
      replace hf1 := hf1.mono leFs
      rw [eS (l := [(0, ptr b1 1)]) ⟨(hpZ 0 (by decide)), trivial⟩]
      refine XG.op (XOp.load1 (v := nsv) isAgg29 rfl (Rd.own [_, _, _] rfl rfl) ?_)
      exact ⟨rfl, rfl⟩
     refine stepsG.cons (fun vals Fs R leFs hpZ => ?_) ?_
     ·refine XG.op (XOp.move (.int .i64 ((ns.length : Int))) rfl ?_)
      exact ⟨rfl, rfl⟩
     refine stepsG.cons (fun vals Fs R leFs hpZ => ?_) ?_
     ·refine XG.op (XOp.move (.int .i64 ((ns.length : Int))) rfl ?_)
      exact ⟨rfl, rfl⟩
     refine stepsG.cons (fun vals Fs R leFs hpZ => ?_) ?_
     ·replace hf := hf.mono leFs
      replace hns := hns.mono leFs
      replace hks := hks.mono leFs
      replace hf1 := hf1.mono leFs
      rw [eS (l := [(1, nsv), (2, (.int .i64 ((ns.length : Int)) : Value)), (3, (.int .i64 ((ns.length : Int)) : Value))]) ⟨(hpZ 1 (by decide)), (hpZ 2 (by decide)), (hpZ 3 (by decide)), trivial⟩]
      refine XG.op (XOp.slice3 runUnderlying29 sizeOf146 rfl hns rfl rfl ?_)
      intro v4 hv3 hn2
      replace hv3 : MovesF Fs v4 ns := hv3
      exact ⟨⟨rfl, hv3, hn2⟩, rfl⟩
     refine stepsG.cons (fun vals Fs R leFs hpZ => ?_) ?_
     ·refine XG.op (XOp.fieldP (b := b2) (1) runUnderlying31 rfl sizeOf29 (by decide) rfl rfl ?_)
      exact ⟨rfl, rfl⟩
     refine stepsG.cons (fun vals Fs R leFs hpZ => ?_) ?_
     ·replace hf := hf.mono leFs
      replace hks := hks.mono leFs
      replace hf1 := hf1.mono leFs
      rw [eS (l := [(5, ptr b2 1)]) ⟨(hpZ 5 (by decide)), trivial⟩]
      refine XG.op (XOp.load1 (v := ksv) isAgg29 rfl (Rd.own [_, _] rfl rfl) ?_)
      exact ⟨rfl, rfl⟩
     refine stepsG.cons (fun vals Fs R leFs hpZ => ?_) ?_
     ·obtain ⟨e4, f4_4hv, f4_4hn⟩ := hpZ 4 (by decide)
      replace hks := hks.mono leFs
      replace hf1 := hf1.mono leFs
      rw [eS (l := [(4, (vals 4)), (6, ksv)]) ⟨(e4).symm, (hpZ 6 (by decide)), trivial⟩]
      refine XG.op (XOp.appendFull (bytes := 48) (fun _ _ es x le h => MoveF.mono le es x h) runUnderlying29 typeInfo146 rfl rfl rfl rfl rfl rfl f4_4hv f4_4hn hks (by omega) (by omega) ?_)
      intro v5 F10 le10 hv4
      replace hf1 := hf1.mono le10
      replace f4_4hv := f4_4hv.mono le10
      replace hv4 : MovesF F10 v5 (ns ++ ks) := hv4
      exact ⟨⟨rfl, hv4⟩, rfl⟩
     refine stepsG.cons (fun vals Fs R leFs hpZ => ?_) ?_
     ·obtain ⟨e7, f7_4hv⟩ := hpZ 7 (by decide)
      replace hf1 := hf1.mono leFs
      rw [eS (l := [(7, (vals 7))]) ⟨(e7).symm, trivial⟩]
      refine XG.op (XOp.lenS (v := (vals 7)) (n := ((ns ++ ks)).length) runUnderlying29 rfl f7_4hv.slv ?_)
      exact ⟨rfl, rfl⟩
     refine stepsG.cons (fun vals Fs R leFs hpZ => ?_) ?_
     ·refine XG.op (XOp.move (.int .i64 (0)) rfl ?_)
      exact ⟨rfl, rfl⟩
     exact stepsG.nil
    ·intro vals F11 le11 hphi
     obtain ⟨e4, f4_4hv, f4_4hn⟩ := hphi 4 (by decide)
     obtain ⟨e7, f7_4hv⟩ := hphi 7 (by decide)
     generalize hu3 : (vals 4) = u3 at e4 f4_4hv f4_4hn e7 f7_4hv
     generalize hu4 : (vals 7) = u4 at e4 f4_4hv f4_4hn e7 f7_4hv
     rw [eS (l := [(7, u4), (8, (.int .i64 (((((ns ++ ks)).length : Nat) : Int)) : Value)), (9, (.int .i64 (0) : Value))]) ⟨hu4, (hphi 8 (by decide)), (hphi 9 (by decide)), trivial⟩]
     replace hf1 := hf1.mono le11
     show XL _ _ _ _ _ _ _ (cellsH b4 [v1, (.slice none 0 0)] 31 :: cellsH b3 [(.slice none 0 0), (.slice none 0 0)] 31 :: cellsH b2 [gv, ksv] 31 :: cellsH b1 [fv, nsv] 31 :: L)
     refine XL.nil (X.block ?_)
     refine X.loop (α := Nat × Value × List MoveT × List Value × List HP × Nat × FH) (fun xQ => [(4, ptr b3 0), (6, ptr b4 0), (41, u4), (42, .int .i64 (((((ns ++ ks)).length : Nat) : Int))), (43, .int .i64 (((xQ.1 : Nat) : Int)))]) (fun xQ => slH 146 4 xQ.2.1 xQ.2.2.2.2.2.1 xQ.2.2.2.1 :: cellsH b4 [v1, xQ.2.1] 31 :: cellsH b3 [(.slice none 0 0), (.slice none 0 0)] 31 :: cellsH b2 [gv, ksv] 31 :: cellsH b1 [fv, nsv] 31 :: L) (fun xQ F' => xQ.2.2.2.2.2.2 = F' ∧ F11 ≤ xQ.2.2.2.2.2.2 ∧ (xQ.1 ≤ (ns ++ ks).length) ∧ (IsSl xQ.2.1) ∧ (MovesC xQ.2.2.2.2.2.2 xQ.2.2.2.1 xQ.2.2.1) ∧ (xQ.2.2.2.2.2.1 = xQ.2.2.1.length) ∧ (DeepL 4 (MoveO 2) xQ.2.2.2.1 xQ.2.2.1 xQ.2.2.2.2.1) ∧ (Fresh F11 xQ.2.2.2.2.2.2 (star xQ.2.2.2.2.1)) ∧ (xQ.2.2.1 = (ns ++ ks).take xQ.1)) (fun xQ => (ns ++ ks).length - xQ.1) (0, (.slice none 0 0), [], [], [], 0, F11) ⟨rfl, rfl, rfl, rfl, rfl, trivial⟩ (Sub.trans (Sub.addNil 146 4 _ _) (Sub.cons (Sub.cons (Sub.cons (Sub.cons (Sub.cons sR)))))) ⟨rfl, FLe.refl _, (by (try dsimp only) <;> omega), (⟨_, _, _, rfl⟩), (CO.nil), (rfl), (DeepL.nil), (Fresh.nilL), (rfl)⟩ ?_
     rintro ⟨k, sv, ms, cs, Ls, m, G1⟩ rE _ _ ⟨rfl, leG, hk, hsv, hC, hm, hD, hZ, hms⟩
     show X _ _ _ _ (envs [(4, ptr b3 0), (6, ptr b4 0), (41, u4), (42, .int .i64 (((((ns ++ ks)).length : Nat) : Int))), (43, .int .i64 ((k : Int)))] rE) _ (slH 146 4 sv m cs :: cellsH b4 [v1, sv] 31 :: cellsH b3 [(.slice none 0 0), (.slice none 0 0)] 31 :: cellsH b2 [gv, ksv] 31 :: cellsH b1 [fv, nsv] 31 :: L)
     replace leG : F11 ≤ G1 := leG
     dsimp only at hk hsv hC hm hD hZ hms
     have hxk := hab k
     have hml : ms.length = k := by rw [hms, List.length_take]; omega
     have leG1 := leG
     replace hf1 := hf1.mono leG1
     replace f7_4hv := f7_4hv.mono leG1
     refine X.seq (X.region ?_)
     refine cX (XOp.lss (a := (k : Int)) (b := ((((ns ++ ks)).length : Nat) : Int)) rfl rfl ?_)
     refine XL.nil (X.seq ?_)
     refine X.condD (p := (k : Int) < ((((ns ++ ks)).length : Nat) : Int)) rfl (fun h3 => ?_) (fun h3 => ?_)
     ·refine X.skip (X.seq (X.block (X.seq (X.region ?_))))
      refine cX (XOp.indexS (v := u4) (i := (k : Int)) (n := ((ns ++ ks)).length) k runUnderlying29 sizeOf146 rfl rfl rfl f7_4hv.slv (by omega) rfl ?_)
      obtain ⟨a1, ha1, hrg1, hq1⟩ := f7_4hv.rd (i := k) (by omega)
      refine cX (XOp.loadN [.int .i64 ((((ns ++ ks)).getD k (0, 0, false, [])).1), .int .i64 ((((ns ++ ks)).getD k (0, 0, false, [])).2.1), .bool ((((ns ++ ks)).getD k (0, 0, false, [])).2.2.1), a1] isAgg146 sizeOf146 rfl rfl (Rd.all (hrg1 _)) ?_)
      refine cX (XOp.alloc [.int .i64 (0), .int .i64 (0), .bool (false), (.slice none 0 0)] zeroValue146 rfl ?_)
      intro b5
      refine cX (XOp.storeN (vs := [.int .i64 ((((ns ++ ks)).getD k (0, 0, false, [])).1), .int .i64 ((((ns ++ ks)).getD k (0, 0, false, [])).2.1), .bool ((((ns ++ ks)).getD k (0, 0, false, [])).2.2.1), a1]) [] _ [.int .i64 ((((ns ++ ks)).getD k (0, 0, false, [])).1), .int .i64 ((((ns ++ ks)).getD k (0, 0, false, [])).2.1), .bool ((((ns ++ ks)).getD k (0, 0, false, [])).2.2.1), a1] sizeOf146 rfl rfl rfl (ones_cons rfl (ones_cons rfl (ones_cons rfl (ones_cons (one_sl (IntsF.isSl ha1)) ones_nil)))) rfl rfl rfl ?_)
      refine XL.nil (X.region ?_)
      refine cX (XOp.loadN [.int .i64 ((((ns ++ ks)).getD k (0, 0, false, [])).1), .int .i64 ((((ns ++ ks)).getD k (0, 0, false, [])).2.1), .bool ((((ns ++ ks)).getD k (0, 0, false, [])).2.2.1), a1] isAgg146 sizeOf146 rfl rfl (Rd.ownN [] rfl rfl) ?_)
      refine XL.weaken (Sub.front (A := [_])) ?_
      show XL _ _ _ _ _ _ _ (slH 146 4 sv m cs :: cellsH b5 [.int .i64 ((((ns ++ ks)).getD k (0, 0, false, [])).1), .int .i64 ((((ns ++ ks)).getD k (0, 0, false, [])).2.1), .bool ((((ns ++ ks)).getD k (0, 0, false, [])).2.2.1), a1] 146 :: cellsH b4 [v1, sv] 31 :: cellsH b3 [(.slice none 0 0), (.slice none 0 0)] 31 :: cellsH b2 [gv, ksv] 31 :: cellsH b1 [fv, nsv] 31 :: L)
      refine XL.weaken (Sub.front (A := [_, _])) ?_
      show XL _ _ _ _ _ _ _ (cellsH b4 [v1, sv] 31 :: slH 146 4 sv m cs :: cellsH b5 [.int .i64 ((((ns ++ ks)).getD k (0, 0, false, [])).1), .int .i64 ((((ns ++ ks)).getD k (0, 0, false, [])).2.1), .bool ((((ns ++ ks)).getD k (0, 0, false, [])).2.2.1), a1] 146 :: cellsH b3 [(.slice none 0 0), (.slice none 0 0)] 31 :: cellsH b2 [gv, ksv] 31 :: cellsH b1 [fv, nsv] 31 :: L)
      refine cX (XOp.call (args := [ptr b4 0, .agg #[.int .i64 ((((ns ++ ks)).getD k (0, 0, false, [])).1), .int .i64 ((((ns ++ ks)).getD k (0, 0, false, [])).2.1), .bool ((((ns ++ ks)).getD k (0, 0, false, [])).2.2.1), a1]]) call117 rfl (chainAdd_spec ha1 hsv hC (by first | rfl | assumption | omega) (by omega) (by omega)) ?_)
      rintro _ F12 _ le12 ⟨sw1, cw1, hs2, hw1, hf2, rfl⟩
      replace hf1 := hf1.mono le12
      replace hC := hC.mono le12
      have hc1 := MovesC.snoc hC (y0 := (((ns ++ ks)).getD k (0, 0, false, [])).1) (y1 := (((ns ++ ks)).getD k (0, 0, false, [])).2.1) (y2 := (((ns ++ ks)).getD k (0, 0, false, [])).2.2.1) hw1
      show XL _ _ _ _ _ _ _ (cellsH b4 [v1, sw1] 31 :: slH 146 4 sw1 ((m) + 1) ((cs ++ [.int .i64 ((((ns ++ ks)).getD k (0, 0, false, [])).1), .int .i64 ((((ns ++ ks)).getD k (0, 0, false, [])).2.1), .bool ((((ns ++ ks)).getD k (0, 0, false, [])).2.2.1), cw1])) :: cellsH b5 [.int .i64 ((((ns ++ ks)).getD k (0, 0, false, [])).1), .int .i64 ((((ns ++ ks)).getD k (0, 0, false, [])).2.1), .bool ((((ns ++ ks)).getD k (0, 0, false, [])).2.2.1), a1] 146 :: cellsH b3 [(.slice none 0 0), (.slice none 0 0)] 31 :: cellsH b2 [gv, ksv] 31 :: cellsH b1 [fv, nsv] 31 :: L)
      refine XL.nil (X.region ?_)
      refine cX (XOp.addR (a := (k : Int)) (b := 1) (((k + 1 : Nat) : Int)) rfl rfl (by omega) (by omega) ?_)
      refine XL.mv (.int .i64 (((k + 1 : Nat) : Int))) rfl ?_
      refine XL.nil ?_
      exact ⟨(k + 1, sw1, (ms ++ [((((ns ++ ks)).getD k (0, 0, false, [])).1, (((ns ++ ks)).getD k (0, 0, false, [])).2.1, (((ns ++ ks)).getD k (0, 0, false, [])).2.2.1, (((ns ++ ks)).getD k (0, 0, false, [])).2.2.2)]), (cs ++ [.int .i64 ((((ns ++ ks)).getD k (0, 0, false, [])).1), .int .i64 ((((ns ++ ks)).getD k (0, 0, false, [])).2.1), .bool ((((ns ++ ks)).getD k (0, 0, false, [])).2.2.1), cw1]), Ls ++ [intsH 2 cw1 ((((ns ++ ks)).getD k (0, 0, false, [])).2.2.2)], (m) + 1, F12), _, (FLe.trans leG1 le12), rF, ⟨rfl, rfl, rfl, rfl, rfl, trivial⟩, (Sub.trans (Sub.front (A := [_, _, _, _, _])) (Sub.trans (Sub.front (A := [_, _, _, _, _])) (Sub.trans (Sub.front (A := [_, _, _, _, _])) (Sub.trans (Sub.front (A := [_, _, _])) (Sub.trans (Sub.front (A := [_, _, _, _])) (Sub.cons (Sub.cons (Sub.cons (Sub.cons (Sub.cons (Sub.drop sR))))))))))), ⟨rfl, (FLe.trans leG1 le12), (by (try dsimp only) <;> omega), (hs2), (hc1), (by (try dsimp only); rw [List.length_append]; simp only [List.length_singleton]; omega), (DeepL.snoc hD rfl ⟨_, rfl, rfl⟩), ((Fresh.app hZ leG1 (Fresh.one hf2) le12)), (by (try dsimp only); rw [take_succ_getD (0, 0, false, []) (by omega), ← hms])⟩, (by omega)⟩
     ·refine X.exit (thenQ_exit (thenQ_exit (blockQ_exit ?_)))
      refine X.seq (X.region ?_)
      refine cX (XOp.loadN [v1, sv] isAgg31 sizeOf31 rfl rfl (Rd.ownN [_] rfl rfl) ?_)
      refine cX (XOp.storeN (vs := [v1, sv]) [_, _] _ [v1, sv] sizeOf31 rfl rfl rfl (ones_cons (one_sl (IntsF.isSl hf1)) (ones_cons (one_sl hsv) ones_nil)) rfl rfl rfl ?_)
      refine XL.as (.bool (true)) rfl ?_
      refine XL.nil ?_
      refine X.freezeF [] _ _ rfl (fun F13 le13 hz2 => ?_)
      replace hf1 := hf1.mono le13
      replace hC := hC.mono le13
      have hf3 : MovesF F13 sv ms := CO.fz hC (by first | rfl | simp | omega) hz2.fz
      refine X.ret (retEnd (L' := L) [.agg #[v1, sv], .bool (true)] (.tuple #[.agg #[v1, sv], .bool (true)]) (.cell rfl (loadNV [v1, sv] isAgg31 sizeOf31 rfl (Rd.ownN [_] rfl rfl)) (.tmp rfl .nil)) rfl (FLe.trans (FLe.trans (FLe.trans (FLe.trans le7 le8) le11) leG1) le13) rF (Sub.drop (Sub.drop (Sub.drop (Sub.drop sR)))) ?_)
      have e9 : ms = (ns ++ ks) := by rw [hms, List.take_of_length_le (by omega)]
      have e : joinG f ns g ks = (f, ms, true) := by rw [e9]; exact joinG_yes hjoin (by omega)
      exact ⟨_, _, by rw [e], by rw [e]; exact hf1, by rw [e]; exact hf3, by rw [e]; exact (Fresh.app (((Fresh.one hz1).base le7).mono le11) (FLe.trans (FLe.trans le7 le8) le11) (Fresh.one (Fresh.deep hD hZ leG1 hz2 (by omega) le13)) (FLe.trans leG1 le13)), rfl⟩
end Go.Proofs.YtiaanelimbmniaaGreat
set_option linter.unusedSimpArgs false
set_option linter.unusedVariables false
namespace Go.Proofs.YtiaanelimbmniaaGreat
open Go X M Tryz

/- impl.wordOk$1 -/
theorem wordOk1_spec {F : FH} {L : List HP} {tv : Value} {t : List Int} (ht : IntsF F tv t) {arv : Value} {ar : List Int} (har : IntsF F arv ar) {rsv : Value} {rs : List (List Int × List Int)} (hrs : PairsF F rsv rs) {b : Nat} (hzb : FzC F b [arv, rsv]) :
    Does prog 179 [tv, ptr b 0] F (L) (fun v F' L' => (.bool (!(termOk ar t)) : Value) = v ∧ F = F' ∧ L = L') := by
 refine Does.of_X func179 rfl rfl rfl ?_
 refine X.seq (X.region ?_)
 refine XL.as (.bool (false)) rfl ?_
 refine XL.nil (X.seq (X.region ?_))
 refine cX (XOp.fieldP (b := b) (0) runUnderlying37 rfl sizeOf34 (by decide) rfl rfl ?_)
 refine cX (XOp.loadN [arv] isAgg34 sizeOf34 rfl rfl (FzC.rdN (o := 0) hzb rfl) ?_)
 refine XL.mv (tv) rfl ?_
 refine cX (XOp.call (args := [.agg #[arv], tv]) call77 rfl (TermOk_spec har ht) ?_)
 rintro _ _ _ _ ⟨rfl, rfl, rfl⟩
 refine cX (XOp.notB (b := termOk ar t) rfl ?_)
 refine XL.as (.bool (!(termOk ar t))) rfl ?_
 refine XL.nil ?_
 refine X.ret (retEnd (L' := L) [.bool (!(termOk ar t))] (.bool (!(termOk ar t))) (.tmp rfl .nil) rfl rF rF sR ?_)
 exact ⟨rfl, rfl, rfl⟩

/- slices.IndexFunc[[][]int64,[]int64] -/
theorem IndexFuncWord_spec {F : FH} {L : List HP} {tsv : Value} {ts : List (List Int)} (hts : RowsF F tsv ts) {arv : Value} {ar : List Int} (har : IntsF F arv ar) {rsv : Value} {rs : List (List Int × List Int)} (hrs : PairsF F rsv rs) {b : Nat} (hzb : FzC F b [arv, rsv]) (hlt : ts.length ≤ 4000000) :
    Does prog 197 [tsv, .func (.func 179) #[] #[ptr b 0]] F (L) (fun v F' L' => (.int .i64 (badIx ar ts) : Value) = v ∧ F = F' ∧ L = L') := by
 refine Does.of_X func197 rfl rfl rfl ?_
 refine X.seq (X.region ?_)
 refine XL.as (.int .i64 (0)) rfl ?_
 refine XL.nil (X.seq (X.seq (X.region ?_)))
 refine XL.mv (tsv) rfl ?_
 refine cX (XOp.lenS (v := tsv) (n := (ts).length) runUnderlying58 rfl hts.slv ?_)
 refine XL.mv (.int .i64 (0)) rfl ?_
 refine XL.nil (X.block ?_)
 refine X.loop (α := Nat) (fun k => [(0, tsv), (1, .func (.func 179) #[] #[ptr b 0]), (7, .int .i64 ((ts.length : Int))), (8, .int .i64 ((k : Int)))]) (fun k => L) (fun k F' => F = F' ∧ (k ≤ ts.length) ∧ (∀ i, i < k → termOk ar (ts.getD i []) = true)) (fun k => ts.length - k) 0 ⟨rfl, rfl, rfl, rfl, trivial⟩ sR ⟨rfl, (by (try dsimp only) <;> omega), (fun i hi => absurd hi (by omega))⟩ ?_
 rintro k rE _ _ ⟨rfl, hk, hall⟩
 show X _ _ _ _ (envs [(0, tsv), (1, .func (.func 179) #[] #[ptr b 0]), (7, .int .i64 ((ts.length : Int))), (8, .int .i64 ((k : Int)))] rE) _ (L)
 refine X.seq (X.region ?_)
 refine cX (XOp.lss (a := (k : Int)) (b := (ts.length : Int)) rfl rfl ?_)
 refine XL.nil (X.seq ?_)
 refine X.condD (p := (k : Int) < (ts.length : Int)) rfl (fun h1 => ?_) (fun h1 => ?_)
 ·refine X.skip (X.seq (X.block (X.seq (X.region ?_))))
  refine XL.mv (.int .i64 ((k : Int))) rfl ?_
  refine XL.as (.int .i64 ((k : Int))) rfl ?_
  refine XL.nil (X.seq (X.region ?_))
  refine XL.mv (.func (.func 179) #[] #[ptr b 0]) rfl ?_
  refine XL.mv (tsv) rfl ?_
  refine XL.mv (.int .i64 ((k : Int))) rfl ?_
  refine cX (XOp.indexS (v := tsv) (i := (k : Int)) (n := (ts).length) k runUnderlying58 sizeOf22 rfl rfl rfl hts.slv (by omega) (Nat.mul_one _) ?_)
  obtain ⟨a1, ha1, hr1⟩ := hts.rd (i := k) (by omega)
  refine cX (XOp.load1 (v := a1) isAgg22 rfl (hr1 _) ?_)
  refine cX (XOp.callV (first := []) (captured := [ptr b 0]) (args := [a1, ptr b 0]) call179 rfl rfl (wordOk1_spec ha1 har hrs hzb) ?_)
  rintro _ _ _ _ ⟨rfl, rfl, rfl⟩
  refine XL.nil ?_
  refine X.cond (t := !(termOk ar ((ts.getD k [])))) rfl (fun h2 => ?_) (fun h2 => ?_)
  ·refine X.seq (X.region ?_)
   refine XL.mv (.int .i64 ((k : Int))) rfl ?_
   refine XL.as (.int .i64 ((k : Int))) rfl ?_
   refine XL.nil ?_
   refine X.ret (blockQ_ret (thenQ_ret (thenQ_ret (blockQ_ret (thenQ_ret (retEnd (L' := L) [.int .i64 ((k : Int))] (.int .i64 ((k : Int))) (.tmp rfl .nil) rfl rF rF sR ?_))))))
   exact ⟨(vI (badIx_at (by omega) (by simp_all) hall)), rfl, rfl⟩
  ·refine X.skip (X.region ?_)
   refine cX (XOp.addR (a := (k : Int)) (b := 1) (((k + 1 : Nat) : Int)) rfl rfl (by omega) (by omega) ?_)
   refine XL.mv (.int .i64 (((k + 1 : Nat) : Int))) rfl ?_
   refine XL.nil ?_
   exact ⟨k + 1, _, FLe.refl _, rF, ⟨rfl, rfl, rfl, rfl, trivial⟩, sR, ⟨rfl, (by (try dsimp only) <;> omega), (fun i hi => (Nat.lt_or_ge i k).elim (fun h => hall i h) (fun h => by obtain rfl : i = k := (by omega); simp_all))⟩, (by omega)⟩
 ·refine X.exit (thenQ_exit (thenQ_exit (blockQ_exit ?_)))
  refine X.seq (X.region ?_)
  refine XL.as (.int .i64 (-1)) rfl ?_
  refine XL.nil ?_
  refine X.ret (retEnd (L' := L) [.int .i64 (-1)] (.int .i64 (-1)) (.tmp rfl .nil) rfl rF rF sR ?_)
  exact ⟨(vI (badIx_none (fun i hi => hall i (by omega)))), rfl, rfl⟩

/- slices.ContainsFunc[[][]int64,[]int64] -/
theorem ContainsFuncWord_spec {F : FH} {L : List HP} {tsv : Value} {ts : List (List Int)} (hts : RowsF F tsv ts) {arv : Value} {ar : List Int} (har : IntsF F arv ar) {rsv : Value} {rs : List (List Int × List Int)} (hrs : PairsF F rsv rs) {b : Nat} (hzb : FzC F b [arv, rsv]) (hlt : ts.length ≤ 4000000) :
    Does prog 130 [tsv, .func (.func 179) #[] #[ptr b 0]] F (L) (fun v F' L' => (.bool (decide (badIx ar ts ≥ 0)) : Value) = v ∧ F = F' ∧ L = L') := by
 refine Does.of_X func130 rfl rfl rfl ?_
 refine X.seq (X.region ?_)
 refine XL.as (.bool (false)) rfl ?_
 refine XL.nil (X.seq (X.region ?_))
 refine XL.mv (tsv) rfl ?_
 refine XL.mv (.func (.func 179) #[] #[ptr b 0]) rfl ?_
 refine cX (XOp.call (args := [tsv, .func (.func 179) #[] #[ptr b 0]]) call197 rfl (IndexFuncWord_spec hts har hrs hzb (hlt := (by first | assumption | rfl | omega | simp))) ?_)
 rintro _ _ _ _ ⟨rfl, rfl, rfl⟩
 refine cX (XOp.geq (a := badIx ar ts) (b := 0) rfl rfl ?_)
 refine XL.as (.bool (decide ((badIx ar ts : Int) ≥ 0))) rfl ?_
 refine XL.nil ?_
 refine X.ret (retEnd (L' := L) [.bool (decide ((badIx ar ts : Int) ≥ 0))] (.bool (decide ((badIx ar ts : Int) ≥ 0))) (.tmp rfl .nil) rfl rF rF sR ?_)
 exact ⟨rfl, rfl, rfl⟩

/- impl.wordOk -/
theorem wordOk_spec {F : FH} {L : List HP} {arv : Value} {ar : List Int} (har : IntsF F arv ar) {rsv : Value} {rs : List (List Int × List Int)} (hrs : PairsF F rsv rs) {n : Int} {tsv : Value} {ts : List (List Int)} (hts : RowsF F tsv ts) (hlt : ts.length ≤ 4000000) :
    Does prog 109 [.agg #[arv, rsv], .int .i64 (n), tsv] F (L) (fun v F' L' => (.bool (wordOkL ar rs n ts) : Value) = v ∧ F = F' ∧ L = L') := by
 refine Does.of_X func109 rfl rfl rfl ?_
 refine X.seq (X.region ?_)
 refine cX (XOp.box [arv, rsv] rfl rfl ?_)
 intro b1
 refine XL.as (.bool (false)) rfl ?_
 refine XL.nil (X.seq (X.seq (X.region ?_)))
 refine cX (XOp.loadN [arv, rsv] isAgg37 sizeOf37 rfl rfl (Rd.ownN [] rfl rfl) ?_)
 refine cX (XOp.call (args := [.agg #[arv, rsv]]) call76 rfl (SystemOk_spec har hrs) ?_)
 rintro _ _ _ _ ⟨rfl, rfl, rfl⟩
 refine cX (XOp.notB (b := sysOk ar rs) rfl ?_)
 refine XL.mv (.bool (!(sysOk ar rs))) rfl ?_
 by_cases h1 : (!(sysOk ar rs)) = true
 ·refine XL.no (t := 10) rfl (vB h1) ?_
  refine XL.no (t := 10) rfl (vB h1) ?_
  refine cX (XOp.pickT (.bool (true)) (vB h1) rfl ?_)
  refine XL.mv (.bool (true)) rfl ?_
  refine XL.no (t := 14) rfl rfl ?_
  refine XL.no (t := 14) rfl rfl ?_
  refine cX (XOp.pickT (.bool (true)) rfl rfl ?_)
  refine XL.nil ?_
  refine X.condT rfl ?_
  refine X.seq (X.region ?_)
  refine XL.as (.bool (false)) rfl ?_
  refine XL.nil ?_
  refine X.ret (thenQ_ret (retEnd (L' := L) [.bool (false)] (.bool (false)) (.tmp rfl .nil) rfl rF rF (Sub.drop sR) ?_))
  exact ⟨(vB (by unfold wordOkL; simp_all <;> omega)), rfl, rfl⟩
 ·rw [Bool.not_eq_true] at h1
  refine XL.yes (t := 10) rfl (vB h1) (XOp.move (.int .i64 (n)) rfl ?_)
  refine XL.yes (t := 10) rfl (vB h1) (XOp.lss (a := n) (b := 0) rfl rfl ?_)
  refine cX (XOp.pickF (.bool (decide ((n : Int) < 0))) (vB h1) rfl ?_)
  refine XL.mv (.bool (decide ((n : Int) < 0))) rfl ?_
  by_cases h2 : (n : Int) < 0
  ·refine XL.no (t := 14) rfl (vT h2) ?_
   refine XL.no (t := 14) rfl (vT h2) ?_
   refine cX (XOp.pickT (.bool (true)) (vT h2) rfl ?_)
   refine XL.nil ?_
   refine X.condT rfl ?_
   refine X.seq (X.region ?_)
   refine XL.as (.bool (false)) rfl ?_
   refine XL.nil ?_
   refine X.ret (thenQ_ret (retEnd (L' := L) [.bool (false)] (.bool (false)) (.tmp rfl .nil) rfl rF rF (Sub.drop sR) ?_))
   exact ⟨(vB (by unfold wordOkL; simp_all <;> omega)), rfl, rfl⟩
  ·refine XL.yes (t := 14) rfl (vF h2) (XOp.move (.int .i64 (n)) rfl ?_)
   refine XL.yes (t := 14) rfl (vF h2) (XOp.gtr (a := n) (b := 60) rfl rfl ?_)
   refine cX (XOp.pickF (.bool (decide ((n : Int) > 60))) (vF h2) rfl ?_)
   refine XL.nil ?_
   refine X.condD (p := (n : Int) > 60) rfl (fun h3 => ?_) (fun h3 => ?_)
   ·refine X.seq (X.region ?_)
    refine XL.as (.bool (false)) rfl ?_
    refine XL.nil ?_
    refine X.ret (thenQ_ret (retEnd (L' := L) [.bool (false)] (.bool (false)) (.tmp rfl .nil) rfl rF rF (Sub.drop sR) ?_))
    exact ⟨(vB (by unfold wordOkL; simp_all <;> omega)), rfl, rfl⟩
   ·refine X.skip (X.seq (X.region ?_))
    refine XL.mv (tsv) rfl ?_
    refine cX (XOp.makeFuncL [] [ptr b1 0] rfl rfl ?_)
    refine XL.freeze [] _ _ rfl (fun F1 le1 hz1 => ?_)
    replace har := har.mono le1
    replace hrs := hrs.mono le1
    replace hts := hts.mono le1
    have hf1 : FzC F1 b1 [arv, rsv] := Fz.cells hz1
    refine cX (XOp.call (args := [tsv, .func (.func 179) #[] #[ptr b1 0]]) call130 rfl (ContainsFuncWord_spec hts har hrs hf1 (hlt := (by first | assumption | rfl | omega | simp))) ?_)
    rintro _ _ _ _ ⟨rfl, rfl, rfl⟩
    refine cX (XOp.notD (p := badIx ar ts ≥ 0) rfl ?_)
    refine XL.as (.bool (decide (¬(badIx ar ts ≥ 0)))) rfl ?_
    refine XL.nil ?_
    refine X.ret (retEnd (L' := L) [.bool (decide (¬(badIx ar ts ≥ 0)))] (.bool (decide (¬(badIx ar ts ≥ 0)))) (.tmp rfl .nil) rfl rF le1 sR ?_)
    exact ⟨(vB (by unfold wordOkL; have hb := badIx_iff (ar := ar) (ts := ts); cases hA : ts.all (termOk ar) <;> simp_all <;> omega)), rfl, rfl⟩

/- impl.normalOf -/
theorem normalOf_spec {F : FH} {L : List HP} {arv : Value} {ar : List Int} (har : IntsF F arv ar) {rsv : Value} {rs : List (List Int × List Int)} (hrs : PairsF F rsv rs) {tv : Value} {t : List Int} (ht : IntsF F tv t) {n : Nat} (hsys : sysOk ar rs = true) (ho : termOk ar t = true) (hn : n ≤ 60) :
    Does prog 182 [.agg #[arv, rsv], tv, .int .i64 ((n : Int))] F (L) (fun v F' L' => ∃ (a : Value), (.tuple #[a, .bool ((walkGo ar rs 1 n t).2)] : Value) = v ∧ (IntsF F' a (endL t (walkGo ar rs 1 n t).1)) ∧ L = L') := by
 refine Does.of_X func182 rfl rfl rfl ?_
 have hwl := walkGo_len (ar := ar) (rs := rs) (st := 1) n t
 refine X.seq (X.region ?_)
 refine cX (XOp.box [arv, rsv] rfl rfl ?_)
 intro b1
 refine XL.as ((.slice none 0 0)) rfl ?_
 refine XL.as (.bool (false)) rfl ?_
 refine XL.nil (X.seq (X.region ?_))
 refine cX (XOp.loadN [arv, rsv] isAgg37 sizeOf37 rfl rfl (Rd.ownN [] rfl rfl) ?_)
 refine XL.mv (tv) rfl ?_
 refine XL.mv (.int .i64 ((n : Int))) rfl ?_
 refine cX (XOp.call (args := [.agg #[arv, rsv], tv, .int .i64 (1), .int .i64 (n : Int)]) call51 rfl (walkBy_spec (st := 1) (n := n) har hrs ht (hsys := (by first | assumption | rfl | omega | simp)) (ho := (by first | assumption | rfl | omega | simp)) (hst := (by first | assumption | rfl | omega | simp)) (hn := (by first | assumption | rfl | omega | simp))) ?_)
 rintro _ F1 _ le1 ⟨x1, x2, rfl, hr1, hr2, hr3, rfl⟩
 refine XL.mv (.tuple #[.agg #[x1, x2], .bool ((walkGo ar rs 1 n t).2)]) rfl ?_
 refine cX (XOp.extract (.agg #[x1, x2]) rfl rfl ?_)
 refine cX (XOp.extract (.bool ((walkGo ar rs 1 n t).2)) rfl rfl ?_)
 refine cX (XOp.alloc [(.slice none 0 0), (.slice none 0 0)] zeroValue57 rfl ?_)
 intro b2
 refine cX (XOp.storeN (vs := [x1, x2]) [] _ [x1, x2] sizeOf57 rfl rfl rfl (ones_cons (one_sl (IntsF.isSl hr1)) (ones_cons (one_sl (StepsF.isSl hr2)) ones_nil)) rfl rfl rfl ?_)
 refine XL.as (.bool ((walkGo ar rs 1 n t).2)) rfl ?_
 refine XL.nil (X.seq (X.region ?_))
 refine cX (XOp.loadN [x1, x2] isAgg57 sizeOf57 rfl rfl (Rd.ownN [] rfl rfl) ?_)
 refine cX (XOp.call (args := [.agg #[x1, x2]]) call218 rfl (walkEnd_spec hr1 hr2 (hlss := (by first | assumption | rfl | omega | simp))) ?_)
 rintro _ _ _ _ ⟨rfl, x3, rfl, hr4, rfl⟩
 refine XL.mv (.bool ((walkGo ar rs 1 n t).2)) rfl ?_
 refine XL.as (x3) rfl ?_
 refine XL.as (.bool ((walkGo ar rs 1 n t).2)) rfl ?_
 refine XL.nil ?_
 refine X.ret (retEnd (L' := L) [x3, .bool ((walkGo ar rs 1 n t).2)] (.tuple #[x3, .bool ((walkGo ar rs 1 n t).2)]) (.tmp rfl (.tmp rfl .nil)) rfl le1 rF (Sub.drop (Sub.drop sR)) ?_)
 exact ⟨_, rfl, hr4, rfl⟩

/- impl.equalBy$1 -/
theorem equalBy1_spec {F : FH} {L : List HP} {tv : Value} {t : List Int} (ht : IntsF F tv t) {arv : Value} {ar : List Int} (har : IntsF F arv ar) {rsv : Value} {rs : List (List Int × List Int)} (hrs : PairsF F rsv rs) {b : Nat} (hzb : FzC F b [arv, rsv]) {n : Nat} {c : Nat} (hzc : FzC F c [.int .i64 ((n : Int))]) (hsys : sysOk ar rs = true) (ho : termOk ar t = true) (hn : n ≤ 60) :
    Does prog 181 [tv, ptr b 0, ptr c 0] F (L) (fun v F' L' => ∃ (a : Value), (.tuple #[a, .bool ((walkGo ar rs 1 n t).2)] : Value) = v ∧ (IntsF F' a (endL t (walkGo ar rs 1 n t).1)) ∧ L = L') := by
 refine Does.of_X func181 rfl rfl rfl ?_
 refine X.seq (X.region ?_)
 refine XL.as ((.slice none 0 0)) rfl ?_
 refine XL.as (.bool (false)) rfl ?_
 refine XL.nil (X.seq (X.region ?_))
 refine cX (XOp.loadN [arv, rsv] isAgg37 sizeOf37 rfl rfl (FzC.rd hzb rfl) ?_)
 refine XL.mv (tv) rfl ?_
 refine cX (XOp.load1 (v := .int .i64 ((n : Int))) isAgg3 rfl (FzC.rd1 hzc rfl) ?_)
 refine cX (XOp.call (args := [.agg #[arv, rsv], tv, .int .i64 (n : Int)]) call182 rfl (normalOf_spec (n := n) har hrs ht (hsys := (by first | assumption | rfl | omega | simp)) (ho := (by first | assumption | rfl | omega | simp)) (hn := (by first | assumption | rfl | omega | simp))) ?_)
 rintro _ F1 _ le1 ⟨x1, rfl, hr1, rfl⟩
 refine cX (XOp.extract (x1) rfl rfl ?_)
 refine cX (XOp.extract (.bool ((walkGo ar rs 1 n t).2)) rfl rfl ?_)
 refine XL.as (x1) rfl ?_
 refine XL.as (.bool ((walkGo ar rs 1 n t).2)) rfl ?_
 refine XL.nil ?_
 refine X.ret (retEnd (L' := L) [x1, .bool ((walkGo ar rs 1 n t).2)] (.tuple #[x1, .bool ((walkGo ar rs 1 n t).2)]) (.tmp rfl (.tmp rfl .nil)) rfl le1 rF sR ?_)
 exact ⟨_, rfl, hr1, rfl⟩

/- impl.both[[]int64] -/
theorem both_spec {F : FH} {L : List HP} {xv : Value} {x : List Int} (hx : IntsF F xv x) {yv : Value} {y : List Int} (hy : IntsF F yv y) {arv : Value} {ar : List Int} (har : IntsF F arv ar) {rsv : Value} {rs : List (List Int × List Int)} (hrs : PairsF F rsv rs) {b : Nat} (hzb : FzC F b [arv, rsv]) {n : Nat} {c : Nat} (hzc : FzC F c [.int .i64 ((n : Int))]) (hsys : sysOk ar rs = true) (hox : termOk ar x = true) (hoy : termOk ar y = true) (hn : n ≤ 60) :
    Does prog 180 [xv, yv, .func (.func 181) #[] #[ptr b 0, ptr c 0]] F (L) (fun v F' L' => ∃ (a : Value), ∃ (d : Value), (.tuple #[a, d, .bool (((walkGo ar rs 1 n x).2 && (walkGo ar rs 1 n y).2))] : Value) = v ∧ (IntsF F' a (endL x (walkGo ar rs 1 n x).1)) ∧ (IntsF F' d (endL y (walkGo ar rs 1 n y).1)) ∧ L = L') := by
 refine Does.of_X func180 rfl rfl rfl ?_
 refine X.seq (X.region ?_)
 refine XL.as ((.slice none 0 0)) rfl ?_
 refine XL.as ((.slice none 0 0)) rfl ?_
 refine XL.as (.bool (false)) rfl ?_
 refine XL.nil (X.seq (X.region ?_))
 refine XL.mv (.func (.func 181) #[] #[ptr b 0, ptr c 0]) rfl ?_
 refine XL.mv (xv) rfl ?_
 refine cX (XOp.callV (first := []) (captured := [ptr b 0, ptr c 0]) (args := [xv, ptr b 0, ptr c 0]) call181 rfl rfl (equalBy1_spec hx har hrs hzb hzc (hsys := (by first | assumption | rfl | omega | simp)) (ho := (by first | assumption | rfl | omega | simp)) (hn := (by first | assumption | rfl | omega | simp))) ?_)
 rintro _ F1 _ le1 ⟨x1, rfl, hr1, rfl⟩
 replace hy := hy.mono le1
 replace har := har.mono le1
 replace hrs := hrs.mono le1
 replace hzb := hzb.mono le1
 replace hzc := hzc.mono le1
 refine XL.mv (.tuple #[x1, .bool ((walkGo ar rs 1 n x).2)]) rfl ?_
 refine cX (XOp.extract (x1) rfl rfl ?_)
 refine cX (XOp.extract (.bool ((walkGo ar rs 1 n x).2)) rfl rfl ?_)
 refine XL.as (x1) rfl ?_
 refine XL.as (.bool ((walkGo ar rs 1 n x).2)) rfl ?_
 refine XL.nil (X.seq (X.region ?_))
 refine XL.mv (.func (.func 181) #[] #[ptr b 0, ptr c 0]) rfl ?_
 refine XL.mv (yv) rfl ?_
 refine cX (XOp.callV (first := []) (captured := [ptr b 0, ptr c 0]) (args := [yv, ptr b 0, ptr c 0]) call181 rfl rfl (equalBy1_spec hy har hrs hzb hzc (hsys := (by first | assumption | rfl | omega | simp)) (ho := (by first | assumption | rfl | omega | simp)) (hn := (by first | assumption | rfl | omega | simp))) ?_)
 rintro _ F2 _ le2 ⟨x2, rfl, hr2, rfl⟩
 replace hr1 := hr1.mono le2
 refine XL.mv (.tuple #[x2, .bool ((walkGo ar rs 1 n y).2)]) rfl ?_
 refine cX (XOp.extract (x2) rfl rfl ?_)
 refine cX (XOp.extract (.bool ((walkGo ar rs 1 n y).2)) rfl rfl ?_)
 refine XL.as (x2) rfl ?_
 refine XL.as (.bool ((walkGo ar rs 1 n y).2)) rfl ?_
 refine XL.nil (X.seq (X.region ?_))
 refine XL.mv (x1) rfl ?_
 refine XL.mv (x2) rfl ?_
 refine XL.mv (.bool ((walkGo ar rs 1 n x).2)) rfl ?_
 refine XL.mv (.bool ((walkGo ar rs 1 n x).2)) rfl ?_
 by_cases h1 : ((walkGo ar rs 1 n x).2) = true
 ·refine XL.yes (t := 28) rfl (vB h1) (XOp.move (.bool ((walkGo ar rs 1 n y).2)) rfl ?_)
  refine cX (XOp.pickT (.bool ((walkGo ar rs 1 n y).2)) (vB h1) rfl ?_)
  refine XL.as (x1) rfl ?_
  refine XL.as (x2) rfl ?_
  refine XL.as (.bool ((walkGo ar rs 1 n y).2)) rfl ?_
  refine XL.nil ?_
  refine X.ret (retEnd (L' := L) [x1, x2, .bool ((walkGo ar rs 1 n y).2)] (.tuple #[x1, x2, .bool ((walkGo ar rs 1 n y).2)]) (.tmp rfl (.tmp rfl (.tmp rfl .nil))) rfl (FLe.trans le1 le2) rF sR ?_)
  exact ⟨_, _, by first | rfl | (rw [‹(walkGo ar rs 1 n x).2 = _›]; rfl), hr1, hr2, rfl⟩
 ·rw [Bool.not_eq_true] at h1
  refine XL.no (t := 28) rfl (vB h1) ?_
  refine cX (XOp.pickF (.bool (false)) (vB h1) rfl ?_)
  refine XL.as (x1) rfl ?_
  refine XL.as (x2) rfl ?_
  refine XL.as (.bool (false)) rfl ?_
  refine XL.nil ?_
  refine X.ret (retEnd (L' := L) [x1, x2, .bool (false)] (.tuple #[x1, x2, .bool (false)]) (.tmp rfl (.tmp rfl (.tmp rfl .nil))) rfl (FLe.trans le1 le2) rF sR ?_)
  exact ⟨_, _, by first | rfl | (rw [‹(walkGo ar rs 1 n x).2 = _›]; rfl), hr1, hr2, rfl⟩

/- impl.equalBy -/
theorem equalBy_spec {F : FH} {L : List HP} {arv : Value} {ar : List Int} (har : IntsF F arv ar) {rsv : Value} {rs : List (List Int × List Int)} (hrs : PairsF F rsv rs) {av : Value} {a : List Int} (ha : IntsF F av a) {bv : Value} {b : List Int} (hb : IntsF F bv b) {n : Nat} (hsys : sysOk ar rs = true) (hoa : termOk ar a = true) (hob : termOk ar b = true) (hn : n ≤ 60) :
    Does prog 110 [.agg #[arv, rsv], av, bv, .int .i64 ((n : Int))] F (L) (fun v F' L' => (.int .i64 (eqN ar rs a b n) : Value) = v ∧ F = F' ∧ L = L') := by
 refine Does.of_X func110 rfl rfl rfl ?_
 have hwa := walkGo_ok (ar := ar) (rs := rs) (st := 1) n a (right_iff.2 ⟨hsys, hoa⟩)
 have hwb := walkGo_ok (ar := ar) (rs := rs) (st := 1) n b (right_iff.2 ⟨hsys, hob⟩)
 have hla := termOk_len (right_iff.1 hwa.2.1).2
 have hlb := termOk_len (right_iff.1 hwb.2.1).2
 refine X.seq (X.region ?_)
 refine cX (XOp.box [arv, rsv] rfl rfl ?_)
 intro b1
 refine cX (XOp.box [.int .i64 ((n : Int))] rfl rfl ?_)
 intro b2
 refine XL.as (.int .i64 (0)) rfl ?_
 refine XL.nil (X.seq (X.region ?_))
 refine XL.mv (av) rfl ?_
 refine XL.mv (bv) rfl ?_
 refine cX (XOp.makeFuncL [] [ptr b1 0, ptr b2 0] rfl rfl ?_)
 refine XL.freeze [_] _ _ rfl (fun F1 le1 hz1 => ?_)
 replace har := har.mono le1
 replace hrs := hrs.mono le1
 replace ha := ha.mono le1
 replace hb := hb.mono le1
 have hf1 : FzC F1 b1 [arv, rsv] := Fz.cells hz1
 refine XL.freeze [] _ _ rfl (fun F2 le2 hz2 => ?_)
 replace har := har.mono le2
 replace hrs := hrs.mono le2
 replace ha := ha.mono le2
 replace hb := hb.mono le2
 replace hf1 := hf1.mono le2
 have hf2 : FzC F2 b2 [.int .i64 ((n : Int))] := Fz.cells hz2
 refine cX (XOp.call (args := [av, bv, .func (.func 181) #[] #[ptr b1 0, ptr b2 0]]) call180 rfl (both_spec ha hb har hrs hf1 hf2 (hsys := (by first | assumption | rfl | omega | simp)) (hox := (by first | assumption | rfl | omega | simp)) (hoy := (by first | assumption | rfl | omega | simp)) (hn := (by first | assumption | rfl | omega | simp))) ?_)
 rintro _ F3 _ le3 ⟨x1, x2, rfl, hr1, hr2, rfl⟩
 refine XL.mv (.tuple #[x1, x2, .bool (((walkGo ar rs 1 n a).2 && (walkGo ar rs 1 n b).2))]) rfl ?_
 refine cX (XOp.extract (x1) rfl rfl ?_)
 refine cX (XOp.extract (x2) rfl rfl ?_)
 refine cX (XOp.extract (.bool (((walkGo ar rs 1 n a).2 && (walkGo ar rs 1 n b).2))) rfl rfl ?_)
 refine XL.as (x1) rfl ?_
 refine XL.as (x2) rfl ?_
 refine XL.as (.bool (((walkGo ar rs 1 n a).2 && (walkGo ar rs 1 n b).2))) rfl ?_
 refine XL.nil (X.seq (X.block (X.seq (X.region ?_))))
 refine XL.mv (.bool (((walkGo ar rs 1 n a).2 && (walkGo ar rs 1 n b).2))) rfl ?_
 refine cX (XOp.notB (b := ((walkGo ar rs 1 n a).2 && (walkGo ar rs 1 n b).2)) rfl ?_)
 refine XL.as (.bool (!(((walkGo ar rs 1 n a).2 && (walkGo ar rs 1 n b).2)))) rfl ?_
 refine XL.nil ?_
 refine X.cond (t := !(((walkGo ar rs 1 n a).2 && (walkGo ar rs 1 n b).2))) rfl (fun h1 => ?_) (fun h1 => ?_)
 ·refine X.seq (X.region ?_)
  refine XL.as (.int .i64 (-1)) rfl ?_
  refine XL.nil ?_
  refine X.ret (blockQ_ret (thenQ_ret (retEnd (L' := L) [.int .i64 (-1)] (.int .i64 (-1)) (.tmp rfl .nil) rfl rF (FLe.trans (FLe.trans le1 le2) le3) sR ?_)))
  exact ⟨(vI (by rw [eqN, if_neg (fun h => by simp_all)])), rfl, rfl⟩
 ·refine X.seq (X.region ?_)
  refine XL.mv (x1) rfl ?_
  refine XL.mv (x2) rfl ?_
  refine cX (XOp.call (args := [x1, x2]) call115 rfl (Equal_spec hr1 hr2 (hbd := (by first | assumption | rfl | omega | (left; simp; done) | (right; simp; done)))) ?_)
  rintro _ _ _ _ ⟨rfl, rfl, rfl⟩
  refine XL.as (.bool (decide ((endL a (walkGo ar rs 1 n a).1) = (endL b (walkGo ar rs 1 n b).1)))) rfl ?_
  refine XL.nil ?_
  refine X.condD (p := (endL a (walkGo ar rs 1 n a).1) = (endL b (walkGo ar rs 1 n b).1)) rfl (fun h2 => ?_) (fun h2 => ?_)
  ·refine X.seq (X.region ?_)
   refine XL.as (.int .i64 (1)) rfl ?_
   refine XL.nil ?_
   refine X.ret (blockQ_ret (thenQ_ret (retEnd (L' := L) [.int .i64 (1)] (.int .i64 (1)) (.tmp rfl .nil) rfl rF (FLe.trans (FLe.trans le1 le2) le3) sR ?_)))
   exact ⟨(vI (by rw [eqN, if_pos (by simp_all), if_pos (by assumption)])), rfl, rfl⟩
  ·refine X.skip (X.seq (X.region ?_))
   refine XL.as (.int .i64 (0)) rfl ?_
   refine XL.nil ?_
   refine X.ret (retEnd (L' := L) [.int .i64 (0)] (.int .i64 (0)) (.tmp rfl .nil) rfl rF (FLe.trans (FLe.trans le1 le2) le3) sR ?_)
   exact ⟨(vI (by rw [eqN, if_pos (by simp_all), if_neg (by assumption)])), rfl, rfl⟩

/- impl.EqualBy -/
theorem EqualBy_spec {F : FH} {L : List HP} {arv : Value} {ar : List Int} (har : IntsF F arv ar) {rsv : Value} {rs : List (List Int × List Int)} (hrs : PairsF F rsv rs) {av : Value} {a : List Int} (ha : IntsF F av a) {bv : Value} {b : List Int} (hb : IntsF F bv b) {n : Int} :
    Does prog 48 [.agg #[arv, rsv], av, bv, .int .i64 (n)] F (L) (fun v F' L' => (.int .i64 (eqB ar rs a b n) : Value) = v ∧ F = F' ∧ L = L') := by
 refine Does.of_X func48 rfl rfl rfl ?_
 refine X.seq (X.region ?_)
 refine cX (XOp.box [arv, rsv] rfl rfl ?_)
 intro b1
 refine XL.as (.int .i64 (0)) rfl ?_
 refine XL.nil (X.seq (X.seq (X.region ?_)))
 refine cX (XOp.loadN [arv, rsv] isAgg37 sizeOf37 rfl rfl (Rd.ownN [] rfl rfl) ?_)
 refine XL.mv (.int .i64 (n)) rfl ?_
 refine XL.mv (av) rfl ?_
 refine XL.mv (bv) rfl ?_
 refine cX (XOp.buildSlice (s := 1) [av, bv] [(.slice none 0 0)] [(0, [av]), (1, [bv])] runUnderlying58 sizeOf22 zeroValue22 rfl (by decide) rfl (.cons (cells_one (IntsF.isSl ha)) (.cons (cells_one (IntsF.isSl hb)) CellsAre.nil)) rfl ?_)
 intro v1 hv1
 have hc1 : RowsC F [av, bv] ([a, b] : List (List Int)) := (RowsC.snoc (RowsC.snoc (CO.nil : RowsC F [] []) ha) hb)
 refine XL.freezeF [] _ _ rfl (fun F1 le1 hz1 => ?_)
 replace har := har.mono le1
 replace hrs := hrs.mono le1
 replace ha := ha.mono le1
 replace hb := hb.mono le1
 replace hc1 := hc1.mono le1
 have hf1 : RowsF F1 v1 (([a, b] : List (List Int))) := CO.fz hc1 (by first | rfl | simp | omega) hz1.fz
 refine cX (XOp.call (args := [.agg #[arv, rsv], .int .i64 (n), v1]) call109 rfl (wordOk_spec (n := n) har hrs hf1 (hlt := (by first | assumption | rfl | omega | simp))) ?_)
 rintro _ _ _ _ ⟨rfl, rfl, rfl⟩
 refine cX (XOp.notB (b := wordOkL ar rs n (([a, b] : List (List Int)))) rfl ?_)
 refine XL.nil ?_
 refine X.cond (t := !(wordOkL ar rs n (([a, b] : List (List Int))))) rfl (fun h1 => ?_) (fun h1 => ?_)
 ·refine X.seq (X.region ?_)
  refine XL.as (.int .i64 (-1)) rfl ?_
  refine XL.nil ?_
  refine X.ret (thenQ_ret (retEnd (L' := L) [.int .i64 (-1)] (.int .i64 (-1)) (.tmp rfl .nil) rfl rF le1 (Sub.drop sR) ?_))
  exact ⟨(vI (by rw [eqB, if_neg]; intro h; have h1 := right_iff.1 h.1.1; have h2 := right_iff.1 h.1.2; simp_all [wordOkL] <;> omega)), rfl, rfl⟩
 ·have hwo : wordOkL ar rs n [a, b] = true := by simpa using h1
  unfold wordOkL at hwo
  simp only [Bool.and_eq_true, decide_eq_true_eq, List.all_cons, List.all_nil] at hwo
  obtain ⟨⟨hsys, hn0⟩, hoa, hob, _⟩ := hwo
  refine X.skip (X.seq (X.region ?_))
  refine cX (XOp.loadN [arv, rsv] isAgg37 sizeOf37 rfl rfl (Rd.ownN [] rfl rfl) ?_)
  refine XL.mv (av) rfl ?_
  refine XL.mv (bv) rfl ?_
  refine XL.mv (.int .i64 (n)) rfl ?_
  refine cX (XOp.call (args := [.agg #[arv, rsv], av, bv, .int .i64 (((n).toNat : Nat) : Int)]) call110 (by rw [show (((n).toNat : Nat) : Int) = n from by omega]; rfl) (equalBy_spec (n := (n).toNat) har hrs ha hb (hsys := (by first | assumption | rfl | omega | simp)) (hoa := (by first | assumption | rfl | omega | simp)) (hob := (by first | assumption | rfl | omega | simp)) (hn := (by first | assumption | rfl | omega | simp))) ?_)
  rintro _ _ _ _ ⟨rfl, rfl, rfl⟩
  refine XL.as (.int .i64 (eqN ar rs a b ((n).toNat))) rfl ?_
  refine XL.nil ?_
  refine X.ret (retEnd (L' := L) [.int .i64 (eqN ar rs a b ((n).toNat))] (.int .i64 (eqN ar rs a b ((n).toNat))) (.tmp rfl .nil) rfl rF le1 (Sub.drop sR) ?_)
  exact ⟨(vI (by rw [eqB, if_pos ⟨⟨right_iff.2 ⟨hsys, hoa⟩, right_iff.2 ⟨hsys, hob⟩⟩, hn0⟩])), rfl, rfl⟩

/- spec.l22Right -/
theorem l22Right_spec {F : FH} {L : List HP} {arv : Value} {ar : List Int} (har : IntsF F arv ar) {rsv : Value} {rs : List (List Int × List Int)} (hrs : PairsF F rsv rs) {tv : Value} {t : List Int} (ht : IntsF F tv t) {n : Int} (hla : ar.length ≤ 4000000) (hlr : rs.length ≤ 4000000) (hrb : ∀ i, i < rs.length → (rs.getD i ([], [])).1.length ≤ 4000000 ∧ (rs.getD i ([], [])).2.length ≤ 4000000) (hlt : t.length ≤ 4000000) :
    Does prog 93 [.agg #[arv, rsv], tv, .int .i64 (n)] F (L) (fun v F' L' => (.bool ((rightB ar rs t && decide (0 ≤ n ∧ n ≤ 60))) : Value) = v ∧ F = F' ∧ L = L') := by
 refine Does.of_X func93 rfl rfl rfl ?_
 refine X.seq (X.region ?_)
 refine cX (XOp.box [arv, rsv] rfl rfl ?_)
 intro b1
 refine XL.as (.bool (false)) rfl ?_
 refine XL.nil (X.seq (X.region ?_))
 refine cX (XOp.loadN [arv, rsv] isAgg37 sizeOf37 rfl rfl (Rd.ownN [] rfl rfl) ?_)
 refine XL.mv (tv) rfl ?_
 refine cX (XOp.call (args := [.agg #[arv, rsv], tv]) call143 rfl (l7Right_spec har hrs ht (hla := (by first | assumption | rfl | omega | simp)) (hlr := (by first | assumption | rfl | omega | simp)) (hrb := (by first | assumption | rfl | omega | simp)) (hlt := (by first | assumption | rfl | omega | simp))) ?_)
 rintro _ _ _ _ ⟨rfl, rfl, rfl⟩
 refine XL.mv (.bool (rightB ar rs t)) rfl ?_
 by_cases h1 : (rightB ar rs t) = true
 ·refine XL.yes (t := 10) rfl (vB h1) (XOp.move (.int .i64 (n)) rfl ?_)
  refine XL.yes (t := 10) rfl (vB h1) (XOp.call (args := [.int .i64 (n), .int .i64 (0), .int .i64 (60)]) call98 rfl (l1In_spec (n := n) (a := 0) (b := 60)) ?_)
  rintro _ _ _ _ ⟨rfl, rfl, rfl⟩
  refine cX (XOp.pickT (.bool (decide (0 ≤ n ∧ n ≤ 60))) (vB h1) rfl ?_)
  refine XL.as (.bool (decide (0 ≤ n ∧ n ≤ 60))) rfl ?_
  refine XL.nil ?_
  refine X.ret (retEnd (L' := L) [.bool (decide (0 ≤ n ∧ n ≤ 60))] (.bool (decide (0 ≤ n ∧ n ≤ 60))) (.tmp rfl .nil) rfl rF rF (Sub.drop sR) ?_)
  exact ⟨(vB (by simp_all)), rfl, rfl⟩
 ·rw [Bool.not_eq_true] at h1
  refine XL.no (t := 10) rfl (vB h1) ?_
  refine XL.no (t := 10) rfl (vB h1) ?_
  refine cX (XOp.pickF (.bool (false)) (vB h1) rfl ?_)
  refine XL.as (.bool (false)) rfl ?_
  refine XL.nil ?_
  refine X.ret (retEnd (L' := L) [.bool (false)] (.bool (false)) (.tmp rfl .nil) rfl rF rF (Sub.drop sR) ?_)
  exact ⟨(vB (by simp_all)), rfl, rfl⟩

/- spec.l1Flag -/
theorem l1Flag_spec {F : FH} {L : List HP} {q : Bool} :
    Does prog 95 [.bool (q)] F (L) (fun v F' L' => (.int .i64 (if q = true then 1 else 0) : Value) = v ∧ F = F' ∧ L = L') := by
 refine Does.of_X func95 rfl rfl rfl ?_
 refine X.seq (X.region ?_)
 refine XL.as (.int .i64 (0)) rfl ?_
 refine XL.nil (X.seq (X.seq (X.region ?_)))
 refine XL.mv (.bool (q)) rfl ?_
 refine XL.nil ?_
 refine X.cond (t := q) rfl (fun h1 => ?_) (fun h1 => ?_)
 ·refine X.seq (X.region ?_)
  refine XL.as (.int .i64 (1)) rfl ?_
  refine XL.nil ?_
  refine X.ret (thenQ_ret (retEnd (L' := L) [.int .i64 (1)] (.int .i64 (1)) (.tmp rfl .nil) rfl rF rF sR ?_))
  exact ⟨(vI (by rw [if_pos (by assumption)])), rfl, rfl⟩
 ·refine X.skip (X.seq (X.region ?_))
  refine XL.as (.int .i64 (0)) rfl ?_
  refine XL.nil ?_
  refine X.ret (retEnd (L' := L) [.int .i64 (0)] (.int .i64 (0)) (.tmp rfl .nil) rfl rF rF sR ?_)
  exact ⟨(vI (by rw [if_neg (by simp_all)])), rfl, rfl⟩

/- spec.EqualBy -/
theorem sEqualBy_spec {F : FH} {L : List HP} {arv : Value} {ar : List Int} (har : IntsF F arv ar) {rsv : Value} {rs : List (List Int × List Int)} (hrs : PairsF F rsv rs) {av : Value} {a : List Int} (ha : IntsF F av a) {bv : Value} {b : List Int} (hb : IntsF F bv b) {n : Int} (hla : ar.length ≤ 4000000) (hlr : rs.length ≤ 4000000) (hrb : ∀ i, i < rs.length → (rs.getD i ([], [])).1.length ≤ 4000000 ∧ (rs.getD i ([], [])).2.length ≤ 4000000) (hlta : a.length ≤ 4000000) (hltb : b.length ≤ 4000000) :
    Does prog 43 [.agg #[arv, rsv], av, bv, .int .i64 (n)] F (L) (fun v F' L' => (.int .i64 (eqB ar rs a b n) : Value) = v ∧ F = F' ∧ L = L') := by
 refine Does.of_X func43 rfl rfl rfl ?_
 refine X.seq (X.region ?_)
 refine cX (XOp.box [arv, rsv] rfl rfl ?_)
 intro b1
 refine XL.as (.int .i64 (0)) rfl ?_
 refine XL.nil (X.seq (X.seq (X.region ?_)))
 refine cX (XOp.loadN [arv, rsv] isAgg37 sizeOf37 rfl rfl (Rd.ownN [] rfl rfl) ?_)
 refine XL.mv (av) rfl ?_
 refine XL.mv (.int .i64 (n)) rfl ?_
 refine cX (XOp.call (args := [.agg #[arv, rsv], av, .int .i64 (n)]) call93 rfl (l22Right_spec (n := n) har hrs ha (hla := (by first | assumption | rfl | omega | simp)) (hlr := (by first | assumption | rfl | omega | simp)) (hrb := (by first | assumption | rfl | omega | simp)) (hlt := (by first | assumption | rfl | omega | simp))) ?_)
 rintro _ _ _ _ ⟨rfl, rfl, rfl⟩
 refine cX (XOp.notB (b := (rightB ar rs a && decide (0 ≤ n ∧ n ≤ 60))) rfl ?_)
 refine XL.mv (.bool (!((rightB ar rs a && decide (0 ≤ n ∧ n ≤ 60))))) rfl ?_
 by_cases h1 : (!((rightB ar rs a && decide (0 ≤ n ∧ n ≤ 60)))) = true
 ·refine XL.no (t := 18) rfl (vB h1) ?_
  refine XL.no (t := 18) rfl (vB h1) ?_
  refine XL.no (t := 18) rfl (vB h1) ?_
  refine XL.no (t := 18) rfl (vB h1) ?_
  refine XL.no (t := 18) rfl (vB h1) ?_
  refine cX (XOp.pickT (.bool (true)) (vB h1) rfl ?_)
  refine XL.nil ?_
  refine X.condT rfl ?_
  refine X.seq (X.region ?_)
  refine XL.as (.int .i64 (-1)) rfl ?_
  refine XL.nil ?_
  refine X.ret (thenQ_ret (retEnd (L' := L) [.int .i64 (-1)] (.int .i64 (-1)) (.tmp rfl .nil) rfl rF rF (Sub.drop sR) ?_))
  exact ⟨(vI (by rw [eqB, if_neg]; intro h; simp_all <;> omega)), rfl, rfl⟩
 ·rw [Bool.not_eq_true] at h1
  refine XL.yes (t := 18) rfl (vB h1) (XOp.loadN [arv, rsv] isAgg37 sizeOf37 rfl rfl (Rd.ownN [] rfl rfl) ?_)
  refine XL.yes (t := 18) rfl (vB h1) (XOp.move (bv) rfl ?_)
  refine XL.yes (t := 18) rfl (vB h1) (XOp.move (.int .i64 (n)) rfl ?_)
  refine XL.yes (t := 18) rfl (vB h1) (XOp.call (args := [.agg #[arv, rsv], bv, .int .i64 (n)]) call93 rfl (l22Right_spec (n := n) har hrs hb (hla := (by first | assumption | rfl | omega | simp)) (hlr := (by first | assumption | rfl | omega | simp)) (hrb := (by first | assumption | rfl | omega | simp)) (hlt := (by first | assumption | rfl | omega | simp))) ?_)
  rintro _ _ _ _ ⟨rfl, rfl, rfl⟩
  refine XL.yes (t := 18) rfl (vB h1) (XOp.notB (b := (rightB ar rs b && decide (0 ≤ n ∧ n ≤ 60))) rfl ?_)
  refine cX (XOp.pickF (.bool (!((rightB ar rs b && decide (0 ≤ n ∧ n ≤ 60))))) (vB h1) rfl ?_)
  refine XL.nil ?_
  refine X.cond (t := !((rightB ar rs b && decide (0 ≤ n ∧ n ≤ 60)))) rfl (fun h2 => ?_) (fun h2 => ?_)
  ·refine X.seq (X.region ?_)
   refine XL.as (.int .i64 (-1)) rfl ?_
   refine XL.nil ?_
   refine X.ret (thenQ_ret (retEnd (L' := L) [.int .i64 (-1)] (.int .i64 (-1)) (.tmp rfl .nil) rfl rF rF (Sub.drop sR) ?_))
   exact ⟨(vI (by rw [eqB, if_neg]; intro h; simp_all <;> omega)), rfl, rfl⟩
  ·refine X.skip (X.seq (X.region ?_))
   have hra : rightB ar rs a = true := by simp_all
   have hrb2 : rightB ar rs b = true := by simp_all
   have hn0 : 0 ≤ n ∧ n ≤ 60 := by simp_all
   have hea := normB_right (a := a) hra hn0
   have heb := normB_right (a := b) hrb2 hn0
   have hna := normB_len (ar := ar) (rs := rs) (t := a) (st := 1) (n := n)
   have hnb := normB_len (ar := ar) (rs := rs) (t := b) (st := 1) (n := n)
   refine cX (XOp.loadN [arv, rsv] isAgg37 sizeOf37 rfl rfl (Rd.ownN [] rfl rfl) ?_)
   refine XL.mv (av) rfl ?_
   refine XL.mv (.int .i64 (n)) rfl ?_
   refine cX (XOp.call (args := [.agg #[arv, rsv], av, .int .i64 (1), .int .i64 (n)]) call94 rfl (sNormalBy_spec (st := 1) (n := n) har hrs ha (hla := (by first | assumption | rfl | omega | simp)) (hlr := (by first | assumption | rfl | omega | simp)) (hrb := (by first | assumption | rfl | omega | simp)) (hlt := (by first | assumption | rfl | omega | simp))) ?_)
   rintro _ F1 _ le1 ⟨x1, rfl, hr1, rfl⟩
   replace har := har.mono le1
   replace hrs := hrs.mono le1
   replace hb := hb.mono le1
   refine XL.mv (.tuple #[x1, .bool ((normB ar rs a 1 n).2)]) rfl ?_
   refine cX (XOp.extract (x1) rfl rfl ?_)
   refine cX (XOp.extract (.bool ((normB ar rs a 1 n).2)) rfl rfl ?_)
   refine XL.as (x1) rfl ?_
   refine XL.as (.bool ((normB ar rs a 1 n).2)) rfl ?_
   refine XL.nil (X.seq (X.region ?_))
   refine cX (XOp.loadN [arv, rsv] isAgg37 sizeOf37 rfl rfl (Rd.ownN [] rfl rfl) ?_)
   refine XL.mv (bv) rfl ?_
   refine XL.mv (.int .i64 (n)) rfl ?_
   refine cX (XOp.call (args := [.agg #[arv, rsv], bv, .int .i64 (1), .int .i64 (n)]) call94 rfl (sNormalBy_spec (st := 1) (n := n) har hrs hb (hla := (by first | assumption | rfl | omega | simp)) (hlr := (by first | assumption | rfl | omega | simp)) (hrb := (by first | assumption | rfl | omega | simp)) (hlt := (by first | assumption | rfl | omega | simp))) ?_)
   rintro _ F2 _ le2 ⟨x2, rfl, hr2, rfl⟩
   replace hr1 := hr1.mono le2
   refine XL.mv (.tuple #[x2, .bool ((normB ar rs b 1 n).2)]) rfl ?_
   refine cX (XOp.extract (x2) rfl rfl ?_)
   refine cX (XOp.extract (.bool ((normB ar rs b 1 n).2)) rfl rfl ?_)
   refine XL.as (x2) rfl ?_
   refine XL.as (.bool ((normB ar rs b 1 n).2)) rfl ?_
   refine XL.nil (X.seq (X.seq (X.region ?_)))
   refine XL.mv (.bool ((normB ar rs a 1 n).2)) rfl ?_
   refine cX (XOp.notB (b := (normB ar rs a 1 n).2) rfl ?_)
   refine XL.mv (.bool (!((normB ar rs a 1 n).2))) rfl ?_
   by_cases h3 : (!((normB ar rs a 1 n).2)) = true
   ·refine XL.no (t := 41) rfl (vB h3) ?_
    refine XL.no (t := 41) rfl (vB h3) ?_
    refine cX (XOp.pickT (.bool (true)) (vB h3) rfl ?_)
    refine XL.nil ?_
    refine X.condT rfl ?_
    refine X.seq (X.region ?_)
    refine XL.as (.int .i64 (-1)) rfl ?_
    refine XL.nil ?_
    refine X.ret (thenQ_ret (retEnd (L' := L) [.int .i64 (-1)] (.int .i64 (-1)) (.tmp rfl .nil) rfl rF (FLe.trans le1 le2) (Sub.drop sR) ?_))
    exact ⟨(vI (by rw [eqB, if_pos ⟨⟨hra, hrb2⟩, hn0⟩, eqN, if_neg]; intro h; rw [hea, heb, if_pos h.1, if_pos h.2] at *; simp_all)), rfl, rfl⟩
   ·rw [Bool.not_eq_true] at h3
    refine XL.yes (t := 41) rfl (vB h3) (XOp.move (.bool ((normB ar rs b 1 n).2)) rfl ?_)
    refine XL.yes (t := 41) rfl (vB h3) (XOp.notB (b := (normB ar rs b 1 n).2) rfl ?_)
    refine cX (XOp.pickF (.bool (!((normB ar rs b 1 n).2))) (vB h3) rfl ?_)
    refine XL.nil ?_
    refine X.cond (t := !((normB ar rs b 1 n).2)) rfl (fun h4 => ?_) (fun h4 => ?_)
    ·refine X.seq (X.region ?_)
     refine XL.as (.int .i64 (-1)) rfl ?_
     refine XL.nil ?_
     refine X.ret (thenQ_ret (retEnd (L' := L) [.int .i64 (-1)] (.int .i64 (-1)) (.tmp rfl .nil) rfl rF (FLe.trans le1 le2) (Sub.drop sR) ?_))
     exact ⟨(vI (by rw [eqB, if_pos ⟨⟨hra, hrb2⟩, hn0⟩, eqN, if_neg]; intro h; rw [hea, heb, if_pos h.1, if_pos h.2] at *; simp_all)), rfl, rfl⟩
    ·refine X.skip (X.seq (X.region ?_))
     refine XL.mv (x1) rfl ?_
     refine XL.mv (x2) rfl ?_
     refine cX (XOp.call (args := [x1, x2]) call96 rfl (SameTerm_spec hr1 hr2 (hbd := (by first | assumption | rfl | omega | (left; simp; done) | (right; simp; done)))) ?_)
     rintro _ _ _ _ ⟨rfl, rfl, rfl⟩
     refine cX (XOp.call (args := [.bool (decide (((normB ar rs a 1 n).1) = ((normB ar rs b 1 n).1)))]) call95 rfl (l1Flag_spec (q := decide (((normB ar rs a 1 n).1) = ((normB ar rs b 1 n).1)))) ?_)
     rintro _ _ _ _ ⟨rfl, rfl, rfl⟩
     refine XL.as (.int .i64 (if (decide (((normB ar rs a 1 n).1) = ((normB ar rs b 1 n).1))) = true then 1 else 0)) rfl ?_
     refine XL.nil ?_
     refine X.ret (retEnd (L' := L) [.int .i64 (if (decide (((normB ar rs a 1 n).1) = ((normB ar rs b 1 n).1))) = true then 1 else 0)] (.int .i64 (if (decide (((normB ar rs a 1 n).1) = ((normB ar rs b 1 n).1))) = true then 1 else 0)) (.tmp rfl .nil) rfl rF (FLe.trans le1 le2) (Sub.drop sR) ?_)
     exact ⟨(vI (eqFin hra hrb2 hn0 (by simp_all) (by simp_all))), rfl, rfl⟩
end Go.Proofs.YtiaanelimbmniaaGreat
set_option linter.unusedSimpArgs false
set_option linter.unusedVariables false
namespace Go.Proofs.YtiaanelimbmniaaGreat
open Go X M Tryz

/- spec.l20End -/
theorem l20End_spec {F : FH} {L : List HP} {fv : Value} {f : List Int} (hf : IntsF F fv f) {nsv : Value} {ns : List MoveT} (hns : MovesF F nsv ns) (hlss : ns.length ≤ 4000000) :
    Does prog 178 [.agg #[fv, nsv]] F (L) (fun v F' L' => F = F' ∧ ∃ (a : Value), (a : Value) = v ∧ (IntsF F' a (endM f ns)) ∧ L = L') := by
 refine Does.of_X func178 rfl rfl rfl ?_
 refine X.seq (X.region ?_)
 refine cX (XOp.box [fv, nsv] rfl rfl ?_)
 intro b1
 refine XL.as ((.slice none 0 0)) rfl ?_
 refine XL.nil (X.seq (X.seq (X.region ?_)))
 refine cX (XOp.fieldP (b := b1) (1) runUnderlying31 rfl sizeOf29 (by decide) rfl rfl ?_)
 refine cX (XOp.load1 (v := nsv) isAgg29 rfl (Rd.own [] rfl rfl) ?_)
 refine cX (XOp.lenS (v := nsv) (n := (ns).length) runUnderlying29 rfl hns.slv ?_)
 refine cX (XOp.eql (a := (ns.length : Int)) (b := 0) rfl rfl ?_)
 refine XL.nil ?_
 refine X.condD (p := ((ns.length : Int) : Int) = 0) rfl (fun h1 => ?_) (fun h1 => ?_)
 ·refine X.seq (X.region ?_)
  refine cX (XOp.fieldP (b := b1) (0) runUnderlying31 rfl sizeOf22 (by decide) rfl rfl ?_)
  refine cX (XOp.load1 (v := fv) isAgg22 rfl (Rd.own [] rfl rfl) ?_)
  refine XL.as (fv) rfl ?_
  refine XL.nil ?_
  refine X.ret (thenQ_ret (retEnd (L' := L) [fv] (fv) (.tmp rfl .nil) rfl rF rF (Sub.drop sR) ?_))
  exact ⟨rfl, _, rfl, by rw [endM, if_pos (by omega)]; exact hf, rfl⟩
 ·refine X.skip (X.seq (X.region ?_))
  refine cX (XOp.fieldP (b := b1) (1) runUnderlying31 rfl sizeOf29 (by decide) rfl rfl ?_)
  refine cX (XOp.load1 (v := nsv) isAgg29 rfl (Rd.own [] rfl rfl) ?_)
  refine cX (XOp.fieldP (b := b1) (1) runUnderlying31 rfl sizeOf29 (by decide) rfl rfl ?_)
  refine cX (XOp.load1 (v := nsv) isAgg29 rfl (Rd.own [] rfl rfl) ?_)
  refine cX (XOp.lenS (v := nsv) (n := (ns).length) runUnderlying29 rfl hns.slv ?_)
  refine cX (XOp.subR (a := (ns.length : Int)) (b := 1) (((((ns).length) - 1 : Nat) : Int)) rfl rfl (by omega) (by omega) ?_)
  refine cX (XOp.indexS (v := nsv) (i := ((((ns).length) - 1 : Nat) : Int)) (n := (ns).length) (((ns).length) - 1) runUnderlying29 sizeOf146 rfl rfl rfl hns.slv (by omega) rfl ?_)
  refine cX (XOp.fieldE (v := nsv) ((((ns).length) - 1) * 4 + 3) runUnderlying146 rfl sizeOf22 (by decide) rfl rfl ?_)
  obtain ⟨a1, ha1, hrg1, hq1⟩ := hns.rd (i := ((ns).length) - 1) (by omega)
  refine cX (XOp.load1 (v := a1) isAgg22 rfl (hrg1 _ 3 _ rfl) ?_)
  refine XL.as (a1) rfl ?_
  refine XL.nil ?_
  refine X.ret (retEnd (L' := L) [a1] (a1) (.tmp rfl .nil) rfl rF rF (Sub.drop sR) ?_)
  exact ⟨rfl, _, rfl, by rw [endM, if_neg (by omega)]; exact ha1, rfl⟩

/- spec.l20CopyMove -/
theorem l20CopyMove_spec {F : FH} {L : List HP} {i : Int} {j : Int} {k : Bool} {tv : Value} {t : List Int} (ht : IntsF F tv t) (hlt : t.length ≤ 4000000) :
    Does prog 177 [.agg #[.int .i64 (i), .int .i64 (j), .bool (k), tv]] F (L) (fun v F' L' => ∃ (c : Value), (.agg #[.int .i64 (i), .int .i64 (j), .bool (k), c] : Value) = v ∧ (IntsF F' c t) ∧ L = L') := by
 refine Does.of_X func177 rfl rfl rfl ?_
 refine X.seq (X.region ?_)
 refine cX (XOp.box [.int .i64 (i), .int .i64 (j), .bool (k), tv] rfl rfl ?_)
 intro b1
 refine cX (XOp.alloc [.int .i64 (0), .int .i64 (0), .bool (false), (.slice none 0 0)] zeroValue146 rfl ?_)
 intro b2
 refine XL.nil (X.seq (X.region ?_))
 refine cX (XOp.fieldP (b := b1) (3) runUnderlying146 rfl sizeOf22 (by decide) rfl rfl ?_)
 refine cX (XOp.load1 (v := tv) isAgg22 rfl (Rd.own [_] rfl rfl) ?_)
 refine cX (XOp.frzF <| XOp.call (args := [tv]) call99 rfl (l1Copy_spec ht (hlt := (by first | assumption | rfl | omega | simp))) ?_)
 rintro v1 _ _ _ ⟨rfl, hs1, rfl⟩
 refine ⟨_, _, rfl, fun F1 le1 hz1 => ?_⟩
 have hf1 : IntsF F1 v1 ((t)) := intsH.fz (xs := (t)) hz1.fz
 refine cX (XOp.fieldP (b := b1) (3) runUnderlying146 rfl sizeOf22 (by decide) rfl rfl ?_)
 refine cX (XOp.store1 (v := v1) [_] _ [.int .i64 (i), .int .i64 (j), .bool (k), v1] sizeOf22 rfl rfl (one_sl (IntsF.isSl hf1)) rfl rfl rfl ?_)
 refine XL.nil (X.seq (X.region ?_))
 refine cX (XOp.loadN [.int .i64 (i), .int .i64 (j), .bool (k), v1] isAgg146 sizeOf146 rfl rfl (Rd.ownN [_] rfl rfl) ?_)
 refine cX (XOp.storeN (vs := [.int .i64 (i), .int .i64 (j), .bool (k), v1]) [] _ [.int .i64 (i), .int .i64 (j), .bool (k), v1] sizeOf146 rfl rfl rfl (ones_cons rfl (ones_cons rfl (ones_cons rfl (ones_cons (one_sl (IntsF.isSl hf1)) ones_nil)))) rfl rfl rfl ?_)
 refine XL.nil ?_
 refine X.ret (retEnd (L' := L) [.agg #[.int .i64 (i), .int .i64 (j), .bool (k), v1]] (.agg #[.int .i64 (i), .int .i64 (j), .bool (k), v1]) (.cell rfl (loadNV [.int .i64 (i), .int .i64 (j), .bool (k), v1] isAgg146 sizeOf146 rfl (Rd.ownN [] rfl rfl)) .nil) rfl le1 rF (Sub.drop (Sub.drop sR)) ?_)
 exact ⟨_, rfl, hf1, rfl⟩

/- spec.l20Walk -/
set_option maxRecDepth 20000 in
theorem l20Walk_spec {F : FH} {L : List HP} {fv : Value} {f : List Int} (hf : IntsF F fv f) {xsv : Value} {xs : List StepT} (hxs : StepsF F xsv xs) (hlf : f.length ≤ 4000000) (hlx : xs.length ≤ 60) (hxb : ∀ i, i < xs.length → (xs.getD i (0, 0, [])).2.2.length ≤ 60) :
    Does prog 106 [.agg #[fv, xsv]] F (L) (fun v F' L' => ∃ (a : Value), ∃ (b : Value), (.agg #[a, b] : Value) = v ∧ (IntsF F' a (f)) ∧ (MovesF F' b (chainL xs)) ∧ L = L') := by
 refine Does.of_X func106 rfl rfl rfl ?_
 refine X.seq (X.region ?_)
 refine cX (XOp.box [fv, xsv] rfl rfl ?_)
 intro b1
 refine cX (XOp.alloc [(.slice none 0 0), (.slice none 0 0)] zeroValue31 rfl ?_)
 intro b2
 refine XL.nil (X.seq (X.region ?_))
 refine cX (XOp.fieldP (b := b1) (0) runUnderlying57 rfl sizeOf22 (by decide) rfl rfl ?_)
 refine cX (XOp.load1 (v := fv) isAgg22 rfl (Rd.own [_] rfl rfl) ?_)
 refine cX (XOp.frzF <| XOp.call (args := [fv]) call99 rfl (l1Copy_spec hf (hlt := (by first | assumption | rfl | omega | simp))) ?_)
 rintro v1 _ _ _ ⟨rfl, hs1, rfl⟩
 refine ⟨_, _, rfl, fun F1 le1 hz1 => ?_⟩
 replace hf := hf.mono le1
 replace hxs := hxs.mono le1
 have hf1 : IntsF F1 v1 ((f)) := intsH.fz (xs := (f)) hz1.fz
 refine cX (XOp.build [v1, (.slice none 0 0)] [(.slice none 0 0), (.slice none 0 0)] [(0, 1), (1, 1)] [(0, [v1])] runUnderlying31 zeroValue31 rfl (.cons rfl sizeOf22 (.cons rfl sizeOf29 PlacesAre.nil)) rfl (.cons (cells_one (IntsF.isSl hf1)) CellsAre.nil) ?_)
 refine cX (XOp.alloc [(.slice none 0 0), (.slice none 0 0)] zeroValue31 rfl ?_)
 intro b3
 refine cX (XOp.storeN (vs := [v1, (.slice none 0 0)]) [] _ [v1, (.slice none 0 0)] sizeOf31 rfl rfl rfl (ones_cons (one_sl (IntsF.isSl hf1)) (ones_cons rfl ones_nil)) rfl rfl rfl ?_)
 refine XL.nil (X.seq (X.seq (X.region ?_)))
 refine XL.as (.int .i64 (0)) rfl ?_
 refine XL.nil (X.block ?_)
 refine X.loop (α := Nat × Value × List MoveT × List Value × Nat × FH) (fun xQ => [(1, ptr b1 0), (2, ptr b2 0), (3, ptr b3 0), (4, .int .i64 (((xQ.1 : Nat) : Int)))]) (fun xQ => slH 146 4 xQ.2.1 xQ.2.2.2.2.1 xQ.2.2.2.1 :: cellsH b3 [v1, xQ.2.1] 31 :: cellsH b2 [(.slice none 0 0), (.slice none 0 0)] 31 :: cellsH b1 [fv, xsv] 57 :: L) (fun xQ F' => xQ.2.2.2.2.2 = F' ∧ F1 ≤ xQ.2.2.2.2.2 ∧ (xQ.1 ≤ xs.length) ∧ (IsSl xQ.2.1) ∧ (MovesC xQ.2.2.2.2.2 xQ.2.2.2.1 xQ.2.2.1) ∧ (xQ.2.2.2.2.1 = xQ.2.2.1.length) ∧ (xQ.2.2.1 = chainL (xs.take xQ.1))) (fun xQ => xs.length - xQ.1) (0, (.slice none 0 0), [], [], 0, F1) ⟨rfl, rfl, rfl, rfl, trivial⟩ (Sub.trans (Sub.addNil 146 4 _ _) (Sub.cons (Sub.cons (Sub.cons (Sub.cons sR))))) ⟨rfl, FLe.refl _, (by (try dsimp only) <;> omega), (⟨_, _, _, rfl⟩), (CO.nil), (rfl), (rfl)⟩ ?_
 rintro ⟨k, sv, ms, cs, m, G1⟩ rE _ _ ⟨rfl, leG, hk, hsv, hC, hm, hms⟩
 show X _ _ _ _ (envs [(1, ptr b1 0), (2, ptr b2 0), (3, ptr b3 0), (4, .int .i64 ((k : Int)))] rE) _ (slH 146 4 sv m cs :: cellsH b3 [v1, sv] 31 :: cellsH b2 [(.slice none 0 0), (.slice none 0 0)] 31 :: cellsH b1 [fv, xsv] 57 :: L)
 replace leG : F1 ≤ G1 := leG
 dsimp only at hk hsv hC hm hms
 have hxk := hxb k
 have hml : ms.length = k := by rw [hms, chainL_len, List.length_take]; omega
 have leG1 := leG
 replace hf := hf.mono leG1
 replace hxs := hxs.mono leG1
 replace hf1 := hf1.mono leG1
 refine X.seq (X.seq (X.region ?_))
 refine XL.mv (.int .i64 ((k : Int))) rfl ?_
 refine cX (XOp.fieldP (b := b1) (1) runUnderlying57 rfl sizeOf55 (by decide) rfl rfl ?_)
 refine cX (XOp.load1 (v := xsv) isAgg55 rfl (Rd.own [_, _, _] rfl rfl) ?_)
 refine cX (XOp.lenS (v := xsv) (n := (xs).length) runUnderlying55 rfl hxs.slv ?_)
 refine cX (XOp.lss (a := (k : Int)) (b := (xs.length : Int)) rfl rfl ?_)
 refine XL.nil ?_
 refine X.condD (p := (k : Int) < (xs.length : Int)) rfl (fun h1 => ?_) (fun h1 => ?_)
 ·refine X.skip (X.seq (X.block (X.seq (X.region ?_))))
  refine cX (XOp.fieldP (b := b1) (1) runUnderlying57 rfl sizeOf55 (by decide) rfl rfl ?_)
  refine cX (XOp.load1 (v := xsv) isAgg55 rfl (Rd.own [_, _, _] rfl rfl) ?_)
  refine XL.mv (.int .i64 ((k : Int))) rfl ?_
  refine cX (XOp.indexS (v := xsv) (i := (k : Int)) (n := (xs).length) k runUnderlying55 sizeOf116 rfl rfl rfl hxs.slv (by omega) rfl ?_)
  obtain ⟨a1, ha1, hr1, hr2, hr3⟩ := hxs.rd (i := k) (by omega)
  refine cX (XOp.loadN [.int .i64 ((xs.getD k (0, 0, [])).1), .int .i64 ((xs.getD k (0, 0, [])).2.1), a1] isAgg116 sizeOf116 rfl rfl (Rd.three (hr1 _) (hr2 _) (hr3 _)) ?_)
  refine cX (XOp.alloc [.int .i64 (0), .int .i64 (0), (.slice none 0 0)] zeroValue116 rfl ?_)
  intro b4
  refine cX (XOp.storeN (vs := [.int .i64 ((xs.getD k (0, 0, [])).1), .int .i64 ((xs.getD k (0, 0, [])).2.1), a1]) [] _ [.int .i64 ((xs.getD k (0, 0, [])).1), .int .i64 ((xs.getD k (0, 0, [])).2.1), a1] sizeOf116 rfl rfl rfl (ones_cons rfl (ones_cons rfl (ones_cons (one_sl (IntsF.isSl ha1)) ones_nil))) rfl rfl rfl ?_)
  refine XL.nil ?_
  refine X.drawG [cellsH b4 [.int .i64 ((xs.getD k (0, 0, [])).1), .int .i64 ((xs.getD k (0, 0, [])).2.1), a1] 116, slH 146 4 sv m cs, cellsH b3 [v1, sv] 31, cellsH b2 [(.slice none 0 0), (.slice none 0 0)] 31, cellsH b1 [fv, xsv] 57] L 11 [[], [], [], [], [], [], [], [], [], [8], [8]] [[], [0], [], [2], [], [4], [], [6], [7], [3, 5, 8], [8, 9]] [[], [], [], [], [], [], [], [], [], [], []] (phiG [fun FF us v => v = ptr b3 1, fun FF us v => v = sv, fun FF us v => v = ptr b4 1, fun FF us v => v = (.int .i64 ((xs.getD k (0, 0, [])).2.1) : Value), fun FF us v => v = ptr b4 0, fun FF us v => v = (.int .i64 ((xs.getD k (0, 0, [])).1) : Value), fun FF us v => v = ptr b4 2, fun FF us v => v = a1, fun FF us v => ((v) : Value) = v ∧ (IntsF FF (v) (((xs.getD k (0, 0, [])).2.2))), fun FF us v => v = (.agg #[.int .i64 ((xs.getD k (0, 0, [])).2.1), .int .i64 ((xs.getD k (0, 0, [])).1), .bool (false), ((us.getD 0 undef))] : Value), fun FF us v => ∃ b, v = .slice (some ⟨b, 0, none⟩) 1 1]) (ownL [fun us v => [], fun us v => [], fun us v => [], fun us v => [], fun us v => [], fun us v => [], fun us v => [], fun us v => [], fun us v => [], fun us v => [], fun us v => [slH 146 4 v 1 [.int .i64 ((xs.getD k (0, 0, [])).2.1), .int .i64 ((xs.getD k (0, 0, [])).1), .bool (false), ((us.getD 0 undef))]]]) mixed rfl rfl (by kernel_rfl) (by kernel_rfl) (MonoG.get (MonoG.cons (fun le h => h) (MonoG.cons (fun le h => h) (MonoG.cons (fun le h => h) (MonoG.cons (fun le h => h) (MonoG.cons (fun le h => h) (MonoG.cons (fun le h => h) (MonoG.cons (fun le h => h) (MonoG.cons (fun le h => h) (MonoG.cons (fun le h => ⟨h.1, h.2.mono le⟩) (MonoG.cons (fun le h => h) (MonoG.cons (fun le h => h) MonoG.nil)))))))))))) ?_ ?_
  ·refine stepsG.cons (fun vals Fs R leFs hpZ => ?_) ?_
   ·refine XG.op (XOp.fieldP (b := b3) (1) runUnderlying31 rfl sizeOf29 (by decide) rfl rfl ?_)
    exact ⟨rfl, rfl⟩
   refine stepsG.cons (fun vals Fs R leFs hpZ => ?_) ?_
   ·replace hf := hf.mono leFs
    replace hf1 := hf1.mono leFs
    replace hC := hC.mono leFs
    replace ha1 := ha1.mono leFs
    rw [eS (l := [(0, ptr b3 1)]) ⟨(hpZ 0 (by decide)), trivial⟩]
    refine XG.op (XOp.load1 (v := sv) isAgg29 rfl (Rd.own [_, _] rfl rfl) ?_)
    exact ⟨rfl, rfl⟩
   refine stepsG.cons (fun vals Fs R leFs hpZ => ?_) ?_
   ·refine XG.op (XOp.fieldP (b := b4) (1) runUnderlying116 rfl sizeOf2 (by decide) rfl rfl ?_)
    exact ⟨rfl, rfl⟩
   refine stepsG.cons (fun vals Fs R leFs hpZ => ?_) ?_
   ·replace hf := hf.mono leFs
    replace hf1 := hf1.mono leFs
    replace hC := hC.mono leFs
    replace ha1 := ha1.mono leFs
    rw [eS (l := [(2, ptr b4 1)]) ⟨(hpZ 2 (by decide)), trivial⟩]
    refine XG.op (XOp.load1 (v := .int .i64 ((xs.getD k (0, 0, [])).2.1)) isAgg2 rfl (Rd.own [] rfl rfl) ?_)
    exact ⟨rfl, rfl⟩
   refine stepsG.cons (fun vals Fs R leFs hpZ => ?_) ?_
   ·refine XG.op (XOp.fieldP (b := b4) (0) runUnderlying116 rfl sizeOf2 (by decide) rfl rfl ?_)
    exact ⟨rfl, rfl⟩
   refine stepsG.cons (fun vals Fs R leFs hpZ => ?_) ?_
   ·replace hf := hf.mono leFs
    replace hf1 := hf1.mono leFs
    replace hC := hC.mono leFs
    replace ha1 := ha1.mono leFs
    rw [eS (l := [(4, ptr b4 0)]) ⟨(hpZ 4 (by decide)), trivial⟩]
    refine XG.op (XOp.load1 (v := .int .i64 ((xs.getD k (0, 0, [])).1)) isAgg2 rfl (Rd.own [] rfl rfl) ?_)
    exact ⟨rfl, rfl⟩
   refine stepsG.cons (fun vals Fs R leFs hpZ => ?_) ?_
   ·refine XG.op (XOp.fieldP (b := b4) (2) runUnderlying116 rfl sizeOf22 (by decide) rfl rfl ?_)
    exact ⟨rfl, rfl⟩
   refine stepsG.cons (fun vals Fs R leFs hpZ => ?_) ?_
   ·replace hf := hf.mono leFs
    replace hf1 := hf1.mono leFs
    replace hC := hC.mono leFs
    replace ha1 := ha1.mono leFs
    rw [eS (l := [(6, ptr b4 2)]) ⟨(hpZ 6 (by decide)), trivial⟩]
    refine XG.op (XOp.load1 (v := a1) isAgg22 rfl (Rd.own [] rfl rfl) ?_)
    exact ⟨rfl, rfl⟩
   refine stepsG.cons (fun vals Fs R leFs hpZ => ?_) ?_
   ·replace hf := hf.mono leFs
    replace hf1 := hf1.mono leFs
    replace hC := hC.mono leFs
    replace ha1 := ha1.mono leFs
    rw [eS (l := [(7, a1)]) ⟨(hpZ 7 (by decide)), trivial⟩]
    refine XG.op (XOp.frzF <| XOp.call (args := [a1]) call99 rfl (l1Copy_spec ha1 (hlt := (by first | assumption | rfl | omega | simp))) ?_)
    rintro v4 _ _ _ ⟨rfl, hs3, rfl⟩
    refine ⟨_, _, rfl, fun F2 le2 hz2 => ?_⟩
    replace hf1 := hf1.mono le2
    replace hC := hC.mono le2
    have hf2 : IntsF F2 v4 ((((xs.getD k (0, 0, [])).2.2))) := intsH.fz (xs := (((xs.getD k (0, 0, [])).2.2))) hz2.fz
    exact ⟨⟨rfl, hf2⟩, rfl⟩
   refine stepsG.cons (fun vals Fs R leFs hpZ => ?_) ?_
   ·obtain ⟨e8, f8_1ha⟩ := hpZ 8 (by decide)
    replace hf1 := hf1.mono leFs
    replace hC := hC.mono leFs
    rw [eS (l := [(3, (.int .i64 ((xs.getD k (0, 0, [])).2.1) : Value)), (5, (.int .i64 ((xs.getD k (0, 0, [])).1) : Value)), (8, ((vals 8)))]) ⟨(hpZ 3 (by decide)), (hpZ 5 (by decide)), (e8).symm, trivial⟩]
    refine XG.op (XOp.build [.int .i64 ((xs.getD k (0, 0, [])).2.1), .int .i64 ((xs.getD k (0, 0, [])).1), .bool (false), ((vals 8))] [.int .i64 (0), .int .i64 (0), .bool (false), (.slice none 0 0)] [(0, 1), (1, 1), (2, 1), (3, 1)] [(0, [.int .i64 ((xs.getD k (0, 0, [])).2.1)]), (1, [.int .i64 ((xs.getD k (0, 0, [])).1)]), (3, [((vals 8))])] runUnderlying146 zeroValue146 rfl (.cons rfl sizeOf2 (.cons rfl sizeOf2 (.cons rfl sizeOf4 (.cons rfl sizeOf22 PlacesAre.nil)))) rfl (.cons rfl (.cons rfl (.cons (cells_one (IntsF.isSl f8_1ha)) CellsAre.nil))) ?_)
    exact ⟨rfl, rfl⟩
   refine stepsG.cons (fun vals Fs R leFs hpZ => ?_) ?_
   ·obtain ⟨e8, f8_1ha⟩ := hpZ 8 (by decide)
    have e9 : vals 9 = (.agg #[.int .i64 ((xs.getD k (0, 0, [])).2.1), .int .i64 ((xs.getD k (0, 0, [])).1), .bool (false), ((vals 8))] : Value) := hpZ 9 (by decide)
    replace hf1 := hf1.mono leFs
    replace hC := hC.mono leFs
    rw [eS (l := [(8, ((vals 8))), (9, (.agg #[.int .i64 ((xs.getD k (0, 0, [])).2.1), .int .i64 ((xs.getD k (0, 0, [])).1), .bool (false), ((vals 8))] : Value))]) ⟨(e8).symm, e9, trivial⟩]
    refine XG.op (XOp.buildSlice (s := 4) [.int .i64 ((xs.getD k (0, 0, [])).2.1), .int .i64 ((xs.getD k (0, 0, [])).1), .bool (false), ((vals 8))] [.int .i64 (0), .int .i64 (0), .bool (false), (.slice none 0 0)] [(0, [.int .i64 ((xs.getD k (0, 0, [])).2.1), .int .i64 ((xs.getD k (0, 0, [])).1), .bool (false), ((vals 8))])] runUnderlying29 sizeOf146 zeroValue146 rfl (by decide) rfl (.cons rfl CellsAre.nil) rfl ?_)
    intro v5 hv2
    exact ⟨hv2, rfl⟩
   exact stepsG.nil
  ·intro vals F3 le3 hphi
   obtain ⟨e8, f8_1ha⟩ := hphi 8 (by decide)
   have e9 : vals 9 = (.agg #[.int .i64 ((xs.getD k (0, 0, [])).2.1), .int .i64 ((xs.getD k (0, 0, [])).1), .bool (false), ((vals 8))] : Value) := hphi 9 (by decide)
   have f10 : ∃ b, (vals 10) = .slice (some ⟨b, 0, none⟩) 1 1 := hphi 10 (by decide)
   generalize hu1 : ((vals 8)) = u1 at e8 f8_1ha e9 f10
   generalize hu10 : vals 10 = u2 at e8 f8_1ha e9 f10
   rw [eS (l := [(1, sv), (8, u1), (10, u2)]) ⟨(hphi 1 (by decide)), hu1, hu10, trivial⟩]
   replace hf1 := hf1.mono le3
   replace hC := hC.mono le3
   show XL _ _ _ _ _ _ _ (slH 146 4 u2 1 [.int .i64 ((xs.getD k (0, 0, [])).2.1), .int .i64 ((xs.getD k (0, 0, [])).1), .bool (false), u1] :: cellsH b4 [.int .i64 ((xs.getD k (0, 0, [])).1), .int .i64 ((xs.getD k (0, 0, [])).2.1), a1] 116 :: slH 146 4 sv m cs :: cellsH b3 [v1, sv] 31 :: cellsH b2 [(.slice none 0 0), (.slice none 0 0)] 31 :: cellsH b1 [fv, xsv] 57 :: L)
   refine cX (XOp.append (m := 1) (bytes := 48) (cs := cs) [_, _] _ [.int .i64 ((xs.getD k (0, 0, [])).2.1), .int .i64 ((xs.getD k (0, 0, [])).1), .bool (false), u1] runUnderlying29 typeInfo146 rfl rfl rfl rfl rfl rfl rfl (SlV.own [] rfl) rfl (Rd.lit [] rfl) (ones_cons rfl (ones_cons rfl (ones_cons rfl (ones_cons (one_sl (IntsF.isSl f8_1ha)) ones_nil)))) (by (try simp only [List.length_append, List.length_nil, List.length_cons, List.length_singleton]); omega) (by (try simp only [List.length_append, List.length_nil, List.length_cons, List.length_singleton]); omega) ?_)
   intro v6 hs4 hn1 hm1
   have hc1 := MovesC.snoc hC (y0 := (xs.getD k (0, 0, [])).2.1) (y1 := (xs.getD k (0, 0, [])).1) (y2 := false) (y3 := (((xs.getD k (0, 0, [])).2.2))) f8_1ha
   refine cX (XOp.fieldP (b := b3) (1) runUnderlying31 rfl sizeOf29 (by decide) rfl rfl ?_)
   refine cX (XOp.store1 (v := v6) [_, _, _] _ [v1, v6] sizeOf29 rfl rfl (one_sl hs4) rfl rfl rfl ?_)
   refine XL.nil (X.region ?_)
   refine XL.mv (.int .i64 ((k : Int))) rfl ?_
   refine cX (XOp.addR (a := (k : Int)) (b := 1) (((k + 1 : Nat) : Int)) rfl rfl (by omega) (by omega) ?_)
   refine XL.as (.int .i64 (((k + 1 : Nat) : Int))) rfl ?_
   refine XL.nil ?_
   exact ⟨(k + 1, v6, ms ++ [((xs.getD k (0, 0, [])).2.1, (xs.getD k (0, 0, [])).1, false, (((xs.getD k (0, 0, [])).2.2)))], cs ++ [.int .i64 ((xs.getD k (0, 0, [])).2.1), .int .i64 ((xs.getD k (0, 0, [])).1), .bool (false), u1], (m) + 1, F3), _, (FLe.trans leG1 le3), rF, ⟨rfl, rfl, rfl, rfl, trivial⟩, (Sub.drop (Sub.drop (Sub.cons (Sub.cons (Sub.cons (Sub.cons sR)))))), ⟨rfl, (FLe.trans leG1 le3), (by (try dsimp only) <;> omega), (hs4), (hc1), (by (try dsimp only); rw [List.length_append]; simp only [List.length_singleton]; omega), (by (try dsimp only); rw [chainL_succ (by omega), ← hms]; rfl)⟩, (by omega)⟩
 ·refine X.exit (thenQ_exit (thenQ_exit (blockQ_exit ?_)))
  refine X.seq (X.region ?_)
  refine cX (XOp.loadN [v1, sv] isAgg31 sizeOf31 rfl rfl (Rd.ownN [_] rfl rfl) ?_)
  refine cX (XOp.storeN (vs := [v1, sv]) [_, _] _ [v1, sv] sizeOf31 rfl rfl rfl (ones_cons (one_sl (IntsF.isSl hf1)) (ones_cons (one_sl hsv) ones_nil)) rfl rfl rfl ?_)
  refine XL.nil ?_
  refine X.freezeF [] _ _ rfl (fun F4 le4 hz3 => ?_)
  replace hf1 := hf1.mono le4
  replace hC := hC.mono le4
  have hf3 : MovesF F4 sv ms := CO.fz hC (by first | rfl | simp | omega) hz3.fz
  refine X.ret (retEnd (L' := L) [.agg #[v1, sv]] (.agg #[v1, sv]) (.cell rfl (loadNV [v1, sv] isAgg31 sizeOf31 rfl (Rd.ownN [_] rfl rfl)) .nil) rfl (FLe.trans (FLe.trans le1 leG1) le4) rF (Sub.drop (Sub.drop (Sub.drop sR))) ?_)
  have e9 : ms = chainL xs := by rw [hms, show k = xs.length from by omega, List.take_length]
  rw [← e9]
  exact ⟨_, _, rfl, hf1, hf3, rfl⟩

/- spec.l20Turn -/
set_option maxRecDepth 20000 in
theorem l20Turn_spec {F : FH} {L : List HP} {fv : Value} {f : List Int} (hf : IntsF F fv f) {nsv : Value} {ns : List MoveT} (hns : MovesF F nsv ns) (hlf : f.length ≤ 60) (hln : ns.length ≤ 60) (hnb : ∀ i, i < ns.length → (ns.getD i (0, 0, false, [])).2.2.2.length ≤ 60) :
    Does prog 107 [.agg #[fv, nsv]] F (L) (fun v F' L' => ∃ (a : Value), ∃ (b : Value), (.agg #[a, b] : Value) = v ∧ (IntsF F' a (endM f ns)) ∧ (MovesF F' b (turnL f ns)) ∧ L = L') := by
 refine Does.of_X func107 rfl rfl rfl ?_
 have hel : (endM f ns).length ≤ 60 := by unfold endM; split <;> first | exact hlf | exact hnb _ (by omega)
 refine X.seq (X.region ?_)
 refine cX (XOp.box [fv, nsv] rfl rfl ?_)
 intro b1
 refine cX (XOp.alloc [(.slice none 0 0), (.slice none 0 0)] zeroValue31 rfl ?_)
 intro b2
 refine XL.nil (X.seq (X.region ?_))
 refine cX (XOp.loadN [fv, nsv] isAgg31 sizeOf31 rfl rfl (Rd.ownN [_] rfl rfl) ?_)
 refine cX (XOp.call (args := [.agg #[fv, nsv]]) call178 rfl (l20End_spec hf hns (hlss := (by first | assumption | rfl | omega | simp))) ?_)
 rintro _ _ _ _ ⟨rfl, x1, rfl, hr1, rfl⟩
 refine cX (XOp.frzF <| XOp.call (args := [x1]) call99 rfl (l1Copy_spec hr1 (hlt := (by first | assumption | rfl | omega | simp))) ?_)
 rintro v1 _ _ _ ⟨rfl, hs1, rfl⟩
 refine ⟨_, _, rfl, fun F2 le2 hz1 => ?_⟩
 replace hf := hf.mono le2
 replace hns := hns.mono le2
 have hf1 : IntsF F2 v1 (((endM f ns))) := intsH.fz (xs := ((endM f ns))) hz1.fz
 refine cX (XOp.build [v1, (.slice none 0 0)] [(.slice none 0 0), (.slice none 0 0)] [(0, 1), (1, 1)] [(0, [v1])] runUnderlying31 zeroValue31 rfl (.cons rfl sizeOf22 (.cons rfl sizeOf29 PlacesAre.nil)) rfl (.cons (cells_one (IntsF.isSl hf1)) CellsAre.nil) ?_)
 refine cX (XOp.alloc [(.slice none 0 0), (.slice none 0 0)] zeroValue31 rfl ?_)
 intro b3
 refine cX (XOp.storeN (vs := [v1, (.slice none 0 0)]) [] _ [v1, (.slice none 0 0)] sizeOf31 rfl rfl rfl (ones_cons (one_sl (IntsF.isSl hf1)) (ones_cons rfl ones_nil)) rfl rfl rfl ?_)
 refine XL.nil (X.seq (X.seq (X.region ?_)))
 refine cX (XOp.fieldP (b := b1) (1) runUnderlying31 rfl sizeOf29 (by decide) rfl rfl ?_)
 refine cX (XOp.load1 (v := nsv) isAgg29 rfl (Rd.own [_, _] rfl rfl) ?_)
 refine cX (XOp.lenS (v := nsv) (n := (ns).length) runUnderlying29 rfl hns.slv ?_)
 refine cX (XOp.subR (a := (ns.length : Int)) (b := 1) (((ns.length : Int)) - 1) rfl rfl (by omega) (by omega) ?_)
 refine XL.as (.int .i64 (((ns.length : Int)) - 1)) rfl ?_
 refine XL.nil (X.block ?_)
 refine X.loop (α := Nat × Value × List MoveT × List Value × Nat × FH) (fun xQ => [(1, ptr b1 0), (2, ptr b2 0), (3, ptr b3 0), (4, .int .i64 ((xQ.1 : Int) - 1))]) (fun xQ => slH 146 4 xQ.2.1 xQ.2.2.2.2.1 xQ.2.2.2.1 :: cellsH b3 [v1, xQ.2.1] 31 :: cellsH b2 [(.slice none 0 0), (.slice none 0 0)] 31 :: cellsH b1 [fv, nsv] 31 :: L) (fun xQ F' => xQ.2.2.2.2.2 = F' ∧ F2 ≤ xQ.2.2.2.2.2 ∧ (xQ.1 ≤ ns.length) ∧ (IsSl xQ.2.1) ∧ (MovesC xQ.2.2.2.2.2 xQ.2.2.2.1 xQ.2.2.1) ∧ (xQ.2.2.2.2.1 = xQ.2.2.1.length) ∧ (xQ.2.2.1 = turnTo f ns xQ.1)) (fun xQ => xQ.1) (ns.length, (.slice none 0 0), [], [], 0, F2) ⟨rfl, rfl, rfl, (vI (by (try dsimp only) <;> omega)), trivial⟩ (Sub.trans (Sub.addNil 146 4 _ _) (Sub.cons (Sub.cons (Sub.cons (Sub.cons sR))))) ⟨rfl, FLe.refl _, (Nat.le_refl _), (⟨_, _, _, rfl⟩), (CO.nil), (rfl), (turnTo_start.symm)⟩ ?_
 rintro ⟨j, sv, ms, cs, m, G1⟩ rE _ _ ⟨rfl, leG, hj, hsv, hC, hm, hms⟩
 show X _ _ _ _ (envs [(1, ptr b1 0), (2, ptr b2 0), (3, ptr b3 0), (4, .int .i64 ((j : Int) - 1))] rE) _ (slH 146 4 sv m cs :: cellsH b3 [v1, sv] 31 :: cellsH b2 [(.slice none 0 0), (.slice none 0 0)] 31 :: cellsH b1 [fv, nsv] 31 :: L)
 replace leG : F2 ≤ G1 := leG
 dsimp only at hj hsv hC hm hms
 have hj0 := fun (h : 0 < j) => (show ((j : Int) - 1).toNat = j - 1 by omega)
 have hj1 := fun (h : 1 < j) => (show ((j : Int) - 1 - 1).toNat = j - 1 - 1 by omega)
 have hnk := hnb ((j : Int) - 1).toNat
 have hnk2 := hnb ((j : Int) - 1 - 1).toNat
 have hml : ms.length ≤ 60 := by rw [hms]; unfold turnTo; simp; omega
 have leG1 := leG
 replace hf := hf.mono leG1
 replace hns := hns.mono leG1
 replace hf1 := hf1.mono leG1
 refine X.seq (X.seq (X.region ?_))
 refine XL.mv (.int .i64 ((j : Int) - 1)) rfl ?_
 refine cX (XOp.geq (a := (j : Int) - 1) (b := 0) rfl rfl ?_)
 refine XL.nil ?_
 refine X.condD (p := ((j : Int) - 1 : Int) ≥ 0) rfl (fun h1 => ?_) (fun h1 => ?_)
 ·refine X.skip (X.seq (X.block (X.seq (X.region ?_))))
  refine cX (XOp.fieldP (b := b1) (1) runUnderlying31 rfl sizeOf29 (by decide) rfl rfl ?_)
  refine cX (XOp.load1 (v := nsv) isAgg29 rfl (Rd.own [_, _, _] rfl rfl) ?_)
  refine XL.mv (.int .i64 ((j : Int) - 1)) rfl ?_
  refine cX (XOp.indexS (v := nsv) (i := (j : Int) - 1) (n := (ns).length) (((j : Int) - 1).toNat) runUnderlying29 sizeOf146 rfl rfl (by omega) hns.slv (by omega) rfl ?_)
  obtain ⟨a1, ha1, hrg1, hq1⟩ := hns.rd (i := ((j : Int) - 1).toNat) (by omega)
  refine cX (XOp.loadN [.int .i64 ((ns.getD (((j : Int) - 1).toNat) (0, 0, false, [])).1), .int .i64 ((ns.getD (((j : Int) - 1).toNat) (0, 0, false, [])).2.1), .bool ((ns.getD (((j : Int) - 1).toNat) (0, 0, false, [])).2.2.1), a1] isAgg146 sizeOf146 rfl rfl (Rd.all (hrg1 _)) ?_)
  refine cX (XOp.alloc [.int .i64 (0), .int .i64 (0), .bool (false), (.slice none 0 0)] zeroValue146 rfl ?_)
  intro b4
  refine cX (XOp.storeN (vs := [.int .i64 ((ns.getD (((j : Int) - 1).toNat) (0, 0, false, [])).1), .int .i64 ((ns.getD (((j : Int) - 1).toNat) (0, 0, false, [])).2.1), .bool ((ns.getD (((j : Int) - 1).toNat) (0, 0, false, [])).2.2.1), a1]) [] _ [.int .i64 ((ns.getD (((j : Int) - 1).toNat) (0, 0, false, [])).1), .int .i64 ((ns.getD (((j : Int) - 1).toNat) (0, 0, false, [])).2.1), .bool ((ns.getD (((j : Int) - 1).toNat) (0, 0, false, [])).2.2.1), a1] sizeOf146 rfl rfl rfl (ones_cons rfl (ones_cons rfl (ones_cons rfl (ones_cons (one_sl (IntsF.isSl ha1)) ones_nil)))) rfl rfl rfl ?_)
  refine XL.nil (X.seq (X.region ?_))
  refine cX (XOp.fieldP (b := b4) (2) runUnderlying146 rfl sizeOf4 (by decide) rfl rfl ?_)
  refine cX (XOp.load1 (v := .bool ((ns.getD (((j : Int) - 1).toNat) (0, 0, false, [])).2.2.1)) isAgg4 rfl (Rd.own [] rfl rfl) ?_)
  refine cX (XOp.notB (b := (ns.getD (((j : Int) - 1).toNat) (0, 0, false, [])).2.2.1) rfl ?_)
  refine cX (XOp.fieldP (b := b4) (2) runUnderlying146 rfl sizeOf4 (by decide) rfl rfl ?_)
  refine cX (XOp.store1 (v := .bool (!((ns.getD (((j : Int) - 1).toNat) (0, 0, false, [])).2.2.1))) [] _ [.int .i64 ((ns.getD (((j : Int) - 1).toNat) (0, 0, false, [])).1), .int .i64 ((ns.getD (((j : Int) - 1).toNat) (0, 0, false, [])).2.1), .bool (!((ns.getD (((j : Int) - 1).toNat) (0, 0, false, [])).2.2.1)), a1] sizeOf4 rfl rfl rfl rfl rfl rfl ?_)
  refine XL.nil (X.seq (X.region ?_))
  refine cX (XOp.fieldP (b := b1) (0) runUnderlying31 rfl sizeOf22 (by decide) rfl rfl ?_)
  refine cX (XOp.load1 (v := fv) isAgg22 rfl (Rd.own [_, _, _, _] rfl rfl) ?_)
  refine cX (XOp.fieldP (b := b4) (3) runUnderlying146 rfl sizeOf22 (by decide) rfl rfl ?_)
  refine cX (XOp.store1 (v := fv) [] _ [.int .i64 ((ns.getD (((j : Int) - 1).toNat) (0, 0, false, [])).1), .int .i64 ((ns.getD (((j : Int) - 1).toNat) (0, 0, false, [])).2.1), .bool (!((ns.getD (((j : Int) - 1).toNat) (0, 0, false, [])).2.2.1)), fv] sizeOf22 rfl rfl (one_sl (IntsF.isSl hf)) rfl rfl rfl ?_)
  refine XL.nil (X.seq (X.seq (X.region ?_)))
  refine XL.mv (.int .i64 ((j : Int) - 1)) rfl ?_
  refine cX (XOp.gtr (a := (j : Int) - 1) (b := 0) rfl rfl ?_)
  refine XL.nil ?_
  refine X.condD (p := ((j : Int) - 1 : Int) > 0) rfl (fun h2 => ?_) (fun h2 => ?_)
  ·refine X.region ?_
   refine cX (XOp.fieldP (b := b1) (1) runUnderlying31 rfl sizeOf29 (by decide) rfl rfl ?_)
   refine cX (XOp.load1 (v := nsv) isAgg29 rfl (Rd.own [_, _, _, _] rfl rfl) ?_)
   refine XL.mv (.int .i64 ((j : Int) - 1)) rfl ?_
   refine cX (XOp.subR (a := (j : Int) - 1) (b := 1) (((j : Int) - 1) - 1) rfl rfl (by omega) (by omega) ?_)
   refine cX (XOp.indexS (v := nsv) (i := ((j : Int) - 1) - 1) (n := (ns).length) ((((j : Int) - 1) - 1).toNat) runUnderlying29 sizeOf146 rfl rfl (by omega) hns.slv (by omega) rfl ?_)
   refine cX (XOp.fieldE (v := nsv) (((((j : Int) - 1) - 1).toNat) * 4 + 3) runUnderlying146 rfl sizeOf22 (by decide) rfl rfl ?_)
   obtain ⟨a2, ha2, hrg2, hq2⟩ := hns.rd (i := (((j : Int) - 1) - 1).toNat) (by omega)
   refine cX (XOp.load1 (v := a2) isAgg22 rfl (hrg2 _ 3 _ rfl) ?_)
   refine cX (XOp.fieldP (b := b4) (3) runUnderlying146 rfl sizeOf22 (by decide) rfl rfl ?_)
   refine cX (XOp.store1 (v := a2) [] _ [.int .i64 ((ns.getD (((j : Int) - 1).toNat) (0, 0, false, [])).1), .int .i64 ((ns.getD (((j : Int) - 1).toNat) (0, 0, false, [])).2.1), .bool (!((ns.getD (((j : Int) - 1).toNat) (0, 0, false, [])).2.2.1)), a2] sizeOf22 rfl rfl (one_sl (IntsF.isSl ha2)) rfl rfl rfl ?_)
   refine XL.nil ?_
   refine X.drawG [cellsH b4 [.int .i64 ((ns.getD (((j : Int) - 1).toNat) (0, 0, false, [])).1), .int .i64 ((ns.getD (((j : Int) - 1).toNat) (0, 0, false, [])).2.1), .bool (!((ns.getD (((j : Int) - 1).toNat) (0, 0, false, [])).2.2.1)), a2] 146, slH 146 4 sv m cs, cellsH b3 [v1, sv] 31, cellsH b2 [(.slice none 0 0), (.slice none 0 0)] 31, cellsH b1 [fv, nsv] 31] L 5 [[], [], [], [], [3]] [[], [0], [], [2], [3]] [[], [], [], [], []] (phiG [fun FF us v => v = ptr b3 1, fun FF us v => v = sv, fun FF us v => v = (.agg #[.int .i64 ((ns.getD (((j : Int) - 1).toNat) (0, 0, false, [])).1), .int .i64 ((ns.getD (((j : Int) - 1).toNat) (0, 0, false, [])).2.1), .bool (!((ns.getD (((j : Int) - 1).toNat) (0, 0, false, [])).2.2.1)), a2] : Value), fun FF us v => (.agg #[.int .i64 (((ns.getD (((j : Int) - 1).toNat) (0, 0, false, [])).1)), .int .i64 (((ns.getD (((j : Int) - 1).toNat) (0, 0, false, [])).2.1)), .bool ((!((ns.getD (((j : Int) - 1).toNat) (0, 0, false, [])).2.2.1))), ((aggAt v 3))] : Value) = v ∧ (IntsF FF ((aggAt v 3)) ((ns.getD ((((j : Int) - 1) - 1).toNat) (0, 0, false, [])).2.2.2)), fun FF us v => ∃ b, v = .slice (some ⟨b, 0, none⟩) 1 1]) (ownL [fun us v => [], fun us v => [], fun us v => [], fun us v => [], fun us v => [slH 146 4 v 1 [.int .i64 (((ns.getD (((j : Int) - 1).toNat) (0, 0, false, [])).1)), .int .i64 (((ns.getD (((j : Int) - 1).toNat) (0, 0, false, [])).2.1)), .bool ((!((ns.getD (((j : Int) - 1).toNat) (0, 0, false, [])).2.2.1))), ((aggAt (us.getD 0 undef) 3))]]]) mixed rfl rfl (by kernel_rfl) (by kernel_rfl) (MonoG.get (MonoG.cons (fun le h => h) (MonoG.cons (fun le h => h) (MonoG.cons (fun le h => h) (MonoG.cons (fun le h => ⟨h.1, h.2.mono le⟩) (MonoG.cons (fun le h => h) MonoG.nil)))))) ?_ ?_
   ·refine stepsG.cons (fun vals Fs R leFs hpZ => ?_) ?_
    ·refine XG.op (XOp.fieldP (b := b3) (1) runUnderlying31 rfl sizeOf29 (by decide) rfl rfl ?_)
     exact ⟨rfl, rfl⟩
    refine stepsG.cons (fun vals Fs R leFs hpZ => ?_) ?_
    ·replace hf := hf.mono leFs
     replace hf1 := hf1.mono leFs
     replace hC := hC.mono leFs
     replace ha2 := ha2.mono leFs
     rw [eS (l := [(0, ptr b3 1)]) ⟨(hpZ 0 (by decide)), trivial⟩]
     refine XG.op (XOp.load1 (v := sv) isAgg29 rfl (Rd.own [_, _] rfl rfl) ?_)
     exact ⟨rfl, rfl⟩
    refine stepsG.cons (fun vals Fs R leFs hpZ => ?_) ?_
    ·replace hf := hf.mono leFs
     replace hf1 := hf1.mono leFs
     replace hC := hC.mono leFs
     replace ha2 := ha2.mono leFs
     refine XG.op (XOp.loadN [.int .i64 ((ns.getD (((j : Int) - 1).toNat) (0, 0, false, [])).1), .int .i64 ((ns.getD (((j : Int) - 1).toNat) (0, 0, false, [])).2.1), .bool (!((ns.getD (((j : Int) - 1).toNat) (0, 0, false, [])).2.2.1)), a2] isAgg146 sizeOf146 rfl rfl (Rd.ownN [] rfl rfl) ?_)
     exact ⟨rfl, rfl⟩
    refine stepsG.cons (fun vals Fs R leFs hpZ => ?_) ?_
    ·replace hf := hf.mono leFs
     replace hf1 := hf1.mono leFs
     replace hC := hC.mono leFs
     replace ha2 := ha2.mono leFs
     rw [eS (l := [(2, (.agg #[.int .i64 ((ns.getD (((j : Int) - 1).toNat) (0, 0, false, [])).1), .int .i64 ((ns.getD (((j : Int) - 1).toNat) (0, 0, false, [])).2.1), .bool (!((ns.getD (((j : Int) - 1).toNat) (0, 0, false, [])).2.2.1)), a2] : Value))]) ⟨(hpZ 2 (by decide)), trivial⟩]
     refine XG.op (XOp.call (args := [.agg #[.int .i64 ((ns.getD (((j : Int) - 1).toNat) (0, 0, false, [])).1), .int .i64 ((ns.getD (((j : Int) - 1).toNat) (0, 0, false, [])).2.1), .bool (!((ns.getD (((j : Int) - 1).toNat) (0, 0, false, [])).2.2.1)), a2]]) call177 rfl (l20CopyMove_spec ha2 (hlt := (by first | assumption | rfl | omega | simp))) ?_)
     rintro _ F4 _ le4 ⟨x3, rfl, hr3, rfl⟩
     replace hf := hf.mono le4
     replace hf1 := hf1.mono le4
     replace hC := hC.mono le4
     exact ⟨⟨rfl, hr3⟩, rfl⟩
    refine stepsG.cons (fun vals Fs R leFs hpZ => ?_) ?_
    ·obtain ⟨e3, f3_1hr⟩ := hpZ 3 (by decide)
     replace hf := hf.mono leFs
     replace hf1 := hf1.mono leFs
     replace hC := hC.mono leFs
     rw [eS (l := [(3, (.agg #[.int .i64 (((ns.getD (((j : Int) - 1).toNat) (0, 0, false, [])).1)), .int .i64 (((ns.getD (((j : Int) - 1).toNat) (0, 0, false, [])).2.1)), .bool ((!((ns.getD (((j : Int) - 1).toNat) (0, 0, false, [])).2.2.1))), ((aggAt (vals 3) 3))] : Value))]) ⟨(e3).symm, trivial⟩]
     refine XG.op (XOp.buildSlice (s := 4) [.int .i64 (((ns.getD (((j : Int) - 1).toNat) (0, 0, false, [])).1)), .int .i64 (((ns.getD (((j : Int) - 1).toNat) (0, 0, false, [])).2.1)), .bool ((!((ns.getD (((j : Int) - 1).toNat) (0, 0, false, [])).2.2.1))), ((aggAt (vals 3) 3))] [.int .i64 (0), .int .i64 (0), .bool (false), (.slice none 0 0)] [(0, [.int .i64 (((ns.getD (((j : Int) - 1).toNat) (0, 0, false, [])).1)), .int .i64 (((ns.getD (((j : Int) - 1).toNat) (0, 0, false, [])).2.1)), .bool ((!((ns.getD (((j : Int) - 1).toNat) (0, 0, false, [])).2.2.1))), ((aggAt (vals 3) 3))])] runUnderlying29 sizeOf146 zeroValue146 rfl (by decide) rfl (.cons rfl CellsAre.nil) rfl ?_)
     intro v3 hv2
     exact ⟨hv2, rfl⟩
    exact stepsG.nil
   ·intro vals F5 le5 hphi
    obtain ⟨e3, f3_1hr⟩ := hphi 3 (by decide)
    have f4 : ∃ b, (vals 4) = .slice (some ⟨b, 0, none⟩) 1 1 := hphi 4 (by decide)
    generalize hu1 : ((aggAt (vals 3) 3)) = u1 at e3 f3_1hr f4
    generalize hu4 : vals 4 = u2 at e3 f3_1hr f4
    rw [eS (l := [(1, sv), (3, (.agg #[.int .i64 (((ns.getD (((j : Int) - 1).toNat) (0, 0, false, [])).1)), .int .i64 (((ns.getD (((j : Int) - 1).toNat) (0, 0, false, [])).2.1)), .bool ((!((ns.getD (((j : Int) - 1).toNat) (0, 0, false, [])).2.2.1))), u1] : Value)), (4, u2)]) ⟨(hphi 1 (by decide)), (e3).symm, hu4, trivial⟩]
    replace hf := hf.mono le5
    replace hf1 := hf1.mono le5
    replace hC := hC.mono le5
    show XL _ _ _ _ _ _ _ (slH 146 4 u2 1 [.int .i64 (((ns.getD (((j : Int) - 1).toNat) (0, 0, false, [])).1)), .int .i64 (((ns.getD (((j : Int) - 1).toNat) (0, 0, false, [])).2.1)), .bool ((!((ns.getD (((j : Int) - 1).toNat) (0, 0, false, [])).2.2.1))), u1] :: cellsH b4 [.int .i64 ((ns.getD (((j : Int) - 1).toNat) (0, 0, false, [])).1), .int .i64 ((ns.getD (((j : Int) - 1).toNat) (0, 0, false, [])).2.1), .bool (!((ns.getD (((j : Int) - 1).toNat) (0, 0, false, [])).2.2.1)), a2] 146 :: slH 146 4 sv m cs :: cellsH b3 [v1, sv] 31 :: cellsH b2 [(.slice none 0 0), (.slice none 0 0)] 31 :: cellsH b1 [fv, nsv] 31 :: L)
    refine cX (XOp.append (m := 1) (bytes := 48) (cs := cs) [_, _] _ [.int .i64 (((ns.getD (((j : Int) - 1).toNat) (0, 0, false, [])).1)), .int .i64 (((ns.getD (((j : Int) - 1).toNat) (0, 0, false, [])).2.1)), .bool ((!((ns.getD (((j : Int) - 1).toNat) (0, 0, false, [])).2.2.1))), u1] runUnderlying29 typeInfo146 rfl rfl rfl rfl rfl rfl rfl (SlV.own [] rfl) rfl (Rd.lit [] rfl) (ones_cons rfl (ones_cons rfl (ones_cons rfl (ones_cons (one_sl (IntsF.isSl f3_1hr)) ones_nil)))) (by (try simp only [List.length_append, List.length_nil, List.length_cons, List.length_singleton]); omega) (by (try simp only [List.length_append, List.length_nil, List.length_cons, List.length_singleton]); omega) ?_)
    intro v4 hs2 hn1 hm1
    have hc1 := MovesC.snoc hC (y0 := ((ns.getD (((j : Int) - 1).toNat) (0, 0, false, [])).1)) (y1 := ((ns.getD (((j : Int) - 1).toNat) (0, 0, false, [])).2.1)) (y2 := (!((ns.getD (((j : Int) - 1).toNat) (0, 0, false, [])).2.2.1))) (y3 := ((ns.getD ((((j : Int) - 1) - 1).toNat) (0, 0, false, [])).2.2.2)) f3_1hr
    refine cX (XOp.fieldP (b := b3) (1) runUnderlying31 rfl sizeOf29 (by decide) rfl rfl ?_)
    refine cX (XOp.store1 (v := v4) [_, _, _] _ [v1, v4] sizeOf29 rfl rfl (one_sl hs2) rfl rfl rfl ?_)
    refine XL.nil (X.region ?_)
    refine XL.mv (.int .i64 ((j : Int) - 1)) rfl ?_
    refine cX (XOp.subR (a := (j : Int) - 1) (b := 1) (((j : Int) - 1) - 1) rfl rfl (by omega) (by omega) ?_)
    refine XL.as (.int .i64 (((j : Int) - 1) - 1)) rfl ?_
    refine XL.nil ?_
    exact ⟨(j - 1, v4, ms ++ [(((ns.getD (((j : Int) - 1).toNat) (0, 0, false, [])).1), ((ns.getD (((j : Int) - 1).toNat) (0, 0, false, [])).2.1), (!((ns.getD (((j : Int) - 1).toNat) (0, 0, false, [])).2.2.1)), ((ns.getD ((((j : Int) - 1) - 1).toNat) (0, 0, false, [])).2.2.2))], cs ++ [.int .i64 (((ns.getD (((j : Int) - 1).toNat) (0, 0, false, [])).1)), .int .i64 (((ns.getD (((j : Int) - 1).toNat) (0, 0, false, [])).2.1)), .bool ((!((ns.getD (((j : Int) - 1).toNat) (0, 0, false, [])).2.2.1))), u1], (m) + 1, F5), _, (FLe.trans leG1 le5), rF, ⟨rfl, rfl, rfl, (vI (by (try dsimp only); omega)), trivial⟩, (Sub.drop (Sub.drop (Sub.cons (Sub.cons (Sub.cons (Sub.cons sR)))))), ⟨rfl, (FLe.trans leG1 le5), (by (try dsimp only) <;> omega), (hs2), (hc1), (by (try dsimp only); rw [List.length_append]; simp only [List.length_singleton]; omega), (by (try dsimp only); rw [turnTo_next (by omega) hj, ← hms]; unfold turnAt; first | (rw [if_pos (by omega), hj0 (by omega), hj1 (by omega)]) | (rw [if_neg (by omega), hj0 (by omega)]))⟩, (by (try dsimp only); omega)⟩
  ·refine X.skip ?_
   refine X.drawG [cellsH b4 [.int .i64 ((ns.getD (((j : Int) - 1).toNat) (0, 0, false, [])).1), .int .i64 ((ns.getD (((j : Int) - 1).toNat) (0, 0, false, [])).2.1), .bool (!((ns.getD (((j : Int) - 1).toNat) (0, 0, false, [])).2.2.1)), fv] 146, slH 146 4 sv m cs, cellsH b3 [v1, sv] 31, cellsH b2 [(.slice none 0 0), (.slice none 0 0)] 31, cellsH b1 [fv, nsv] 31] L 5 [[], [], [], [], [3]] [[], [0], [], [2], [3]] [[], [], [], [], []] (phiG [fun FF us v => v = ptr b3 1, fun FF us v => v = sv, fun FF us v => v = (.agg #[.int .i64 ((ns.getD (((j : Int) - 1).toNat) (0, 0, false, [])).1), .int .i64 ((ns.getD (((j : Int) - 1).toNat) (0, 0, false, [])).2.1), .bool (!((ns.getD (((j : Int) - 1).toNat) (0, 0, false, [])).2.2.1)), fv] : Value), fun FF us v => (.agg #[.int .i64 (((ns.getD (((j : Int) - 1).toNat) (0, 0, false, [])).1)), .int .i64 (((ns.getD (((j : Int) - 1).toNat) (0, 0, false, [])).2.1)), .bool ((!((ns.getD (((j : Int) - 1).toNat) (0, 0, false, [])).2.2.1))), ((aggAt v 3))] : Value) = v ∧ (IntsF FF ((aggAt v 3)) f), fun FF us v => ∃ b, v = .slice (some ⟨b, 0, none⟩) 1 1]) (ownL [fun us v => [], fun us v => [], fun us v => [], fun us v => [], fun us v => [slH 146 4 v 1 [.int .i64 (((ns.getD (((j : Int) - 1).toNat) (0, 0, false, [])).1)), .int .i64 (((ns.getD (((j : Int) - 1).toNat) (0, 0, false, [])).2.1)), .bool ((!((ns.getD (((j : Int) - 1).toNat) (0, 0, false, [])).2.2.1))), ((aggAt (us.getD 0 undef) 3))]]]) mixed rfl rfl (by kernel_rfl) (by kernel_rfl) (MonoG.get (MonoG.cons (fun le h => h) (MonoG.cons (fun le h => h) (MonoG.cons (fun le h => h) (MonoG.cons (fun le h => ⟨h.1, h.2.mono le⟩) (MonoG.cons (fun le h => h) MonoG.nil)))))) ?_ ?_
   ·refine stepsG.cons (fun vals Fs R leFs hpZ => ?_) ?_
    ·refine XG.op (XOp.fieldP (b := b3) (1) runUnderlying31 rfl sizeOf29 (by decide) rfl rfl ?_)
     exact ⟨rfl, rfl⟩
    refine stepsG.cons (fun vals Fs R leFs hpZ => ?_) ?_
    ·replace hf := hf.mono leFs
     replace hf1 := hf1.mono leFs
     replace hC := hC.mono leFs
     rw [eS (l := [(0, ptr b3 1)]) ⟨(hpZ 0 (by decide)), trivial⟩]
     refine XG.op (XOp.load1 (v := sv) isAgg29 rfl (Rd.own [_, _] rfl rfl) ?_)
     exact ⟨rfl, rfl⟩
    refine stepsG.cons (fun vals Fs R leFs hpZ => ?_) ?_
    ·replace hf := hf.mono leFs
     replace hf1 := hf1.mono leFs
     replace hC := hC.mono leFs
     refine XG.op (XOp.loadN [.int .i64 ((ns.getD (((j : Int) - 1).toNat) (0, 0, false, [])).1), .int .i64 ((ns.getD (((j : Int) - 1).toNat) (0, 0, false, [])).2.1), .bool (!((ns.getD (((j : Int) - 1).toNat) (0, 0, false, [])).2.2.1)), fv] isAgg146 sizeOf146 rfl rfl (Rd.ownN [] rfl rfl) ?_)
     exact ⟨rfl, rfl⟩
    refine stepsG.cons (fun vals Fs R leFs hpZ => ?_) ?_
    ·replace hf := hf.mono leFs
     replace hf1 := hf1.mono leFs
     replace hC := hC.mono leFs
     rw [eS (l := [(2, (.agg #[.int .i64 ((ns.getD (((j : Int) - 1).toNat) (0, 0, false, [])).1), .int .i64 ((ns.getD (((j : Int) - 1).toNat) (0, 0, false, [])).2.1), .bool (!((ns.getD (((j : Int) - 1).toNat) (0, 0, false, [])).2.2.1)), fv] : Value))]) ⟨(hpZ 2 (by decide)), trivial⟩]
     refine XG.op (XOp.call (args := [.agg #[.int .i64 ((ns.getD (((j : Int) - 1).toNat) (0, 0, false, [])).1), .int .i64 ((ns.getD (((j : Int) - 1).toNat) (0, 0, false, [])).2.1), .bool (!((ns.getD (((j : Int) - 1).toNat) (0, 0, false, [])).2.2.1)), fv]]) call177 rfl (l20CopyMove_spec hf (hlt := (by first | assumption | rfl | omega | simp))) ?_)
     rintro _ F7 _ le7 ⟨x5, rfl, hr5, rfl⟩
     replace hf1 := hf1.mono le7
     replace hC := hC.mono le7
     exact ⟨⟨rfl, hr5⟩, rfl⟩
    refine stepsG.cons (fun vals Fs R leFs hpZ => ?_) ?_
    ·obtain ⟨e3, f3_2hr⟩ := hpZ 3 (by decide)
     replace hf1 := hf1.mono leFs
     replace hC := hC.mono leFs
     rw [eS (l := [(3, (.agg #[.int .i64 (((ns.getD (((j : Int) - 1).toNat) (0, 0, false, [])).1)), .int .i64 (((ns.getD (((j : Int) - 1).toNat) (0, 0, false, [])).2.1)), .bool ((!((ns.getD (((j : Int) - 1).toNat) (0, 0, false, [])).2.2.1))), ((aggAt (vals 3) 3))] : Value))]) ⟨(e3).symm, trivial⟩]
     refine XG.op (XOp.buildSlice (s := 4) [.int .i64 (((ns.getD (((j : Int) - 1).toNat) (0, 0, false, [])).1)), .int .i64 (((ns.getD (((j : Int) - 1).toNat) (0, 0, false, [])).2.1)), .bool ((!((ns.getD (((j : Int) - 1).toNat) (0, 0, false, [])).2.2.1))), ((aggAt (vals 3) 3))] [.int .i64 (0), .int .i64 (0), .bool (false), (.slice none 0 0)] [(0, [.int .i64 (((ns.getD (((j : Int) - 1).toNat) (0, 0, false, [])).1)), .int .i64 (((ns.getD (((j : Int) - 1).toNat) (0, 0, false, [])).2.1)), .bool ((!((ns.getD (((j : Int) - 1).toNat) (0, 0, false, [])).2.2.1))), ((aggAt (vals 3) 3))])] runUnderlying29 sizeOf146 zeroValue146 rfl (by decide) rfl (.cons rfl CellsAre.nil) rfl ?_)
     intro v6 hv4
     exact ⟨hv4, rfl⟩
    exact stepsG.nil
   ·intro vals F8 le8 hphi
    obtain ⟨e3, f3_2hr⟩ := hphi 3 (by decide)
    have f4 : ∃ b, (vals 4) = .slice (some ⟨b, 0, none⟩) 1 1 := hphi 4 (by decide)
    generalize hu2 : ((aggAt (vals 3) 3)) = u3 at e3 f3_2hr f4
    generalize hu4 : vals 4 = u4 at e3 f3_2hr f4
    rw [eS (l := [(1, sv), (3, (.agg #[.int .i64 (((ns.getD (((j : Int) - 1).toNat) (0, 0, false, [])).1)), .int .i64 (((ns.getD (((j : Int) - 1).toNat) (0, 0, false, [])).2.1)), .bool ((!((ns.getD (((j : Int) - 1).toNat) (0, 0, false, [])).2.2.1))), u3] : Value)), (4, u4)]) ⟨(hphi 1 (by decide)), (e3).symm, hu4, trivial⟩]
    replace hf1 := hf1.mono le8
    replace hC := hC.mono le8
    show XL _ _ _ _ _ _ _ (slH 146 4 u4 1 [.int .i64 (((ns.getD (((j : Int) - 1).toNat) (0, 0, false, [])).1)), .int .i64 (((ns.getD (((j : Int) - 1).toNat) (0, 0, false, [])).2.1)), .bool ((!((ns.getD (((j : Int) - 1).toNat) (0, 0, false, [])).2.2.1))), u3] :: cellsH b4 [.int .i64 ((ns.getD (((j : Int) - 1).toNat) (0, 0, false, [])).1), .int .i64 ((ns.getD (((j : Int) - 1).toNat) (0, 0, false, [])).2.1), .bool (!((ns.getD (((j : Int) - 1).toNat) (0, 0, false, [])).2.2.1)), fv] 146 :: slH 146 4 sv m cs :: cellsH b3 [v1, sv] 31 :: cellsH b2 [(.slice none 0 0), (.slice none 0 0)] 31 :: cellsH b1 [fv, nsv] 31 :: L)
    refine cX (XOp.append (m := 1) (bytes := 48) (cs := cs) [_, _] _ [.int .i64 (((ns.getD (((j : Int) - 1).toNat) (0, 0, false, [])).1)), .int .i64 (((ns.getD (((j : Int) - 1).toNat) (0, 0, false, [])).2.1)), .bool ((!((ns.getD (((j : Int) - 1).toNat) (0, 0, false, [])).2.2.1))), u3] runUnderlying29 typeInfo146 rfl rfl rfl rfl rfl rfl rfl (SlV.own [] rfl) rfl (Rd.lit [] rfl) (ones_cons rfl (ones_cons rfl (ones_cons rfl (ones_cons (one_sl (IntsF.isSl f3_2hr)) ones_nil)))) (by (try simp only [List.length_append, List.length_nil, List.length_cons, List.length_singleton]); omega) (by (try simp only [List.length_append, List.length_nil, List.length_cons, List.length_singleton]); omega) ?_)
    intro v7 hs3 hn2 hm2
    have hc2 := MovesC.snoc hC (y0 := ((ns.getD (((j : Int) - 1).toNat) (0, 0, false, [])).1)) (y1 := ((ns.getD (((j : Int) - 1).toNat) (0, 0, false, [])).2.1)) (y2 := (!((ns.getD (((j : Int) - 1).toNat) (0, 0, false, [])).2.2.1))) (y3 := f) f3_2hr
    refine cX (XOp.fieldP (b := b3) (1) runUnderlying31 rfl sizeOf29 (by decide) rfl rfl ?_)
    refine cX (XOp.store1 (v := v7) [_, _, _] _ [v1, v7] sizeOf29 rfl rfl (one_sl hs3) rfl rfl rfl ?_)
    refine XL.nil (X.region ?_)
    refine XL.mv (.int .i64 ((j : Int) - 1)) rfl ?_
    refine cX (XOp.subR (a := (j : Int) - 1) (b := 1) (((j : Int) - 1) - 1) rfl rfl (by omega) (by omega) ?_)
    refine XL.as (.int .i64 (((j : Int) - 1) - 1)) rfl ?_
    refine XL.nil ?_
    exact ⟨(j - 1, v7, ms ++ [(((ns.getD (((j : Int) - 1).toNat) (0, 0, false, [])).1), ((ns.getD (((j : Int) - 1).toNat) (0, 0, false, [])).2.1), (!((ns.getD (((j : Int) - 1).toNat) (0, 0, false, [])).2.2.1)), f)], cs ++ [.int .i64 (((ns.getD (((j : Int) - 1).toNat) (0, 0, false, [])).1)), .int .i64 (((ns.getD (((j : Int) - 1).toNat) (0, 0, false, [])).2.1)), .bool ((!((ns.getD (((j : Int) - 1).toNat) (0, 0, false, [])).2.2.1))), u3], (m) + 1, F8), _, (FLe.trans leG1 le8), rF, ⟨rfl, rfl, rfl, (vI (by (try dsimp only); omega)), trivial⟩, (Sub.drop (Sub.drop (Sub.cons (Sub.cons (Sub.cons (Sub.cons sR)))))), ⟨rfl, (FLe.trans leG1 le8), (by (try dsimp only) <;> omega), (hs3), (hc2), (by (try dsimp only); rw [List.length_append]; simp only [List.length_singleton]; omega), (by (try dsimp only); rw [turnTo_next (by omega) hj, ← hms]; unfold turnAt; first | (rw [if_pos (by omega), hj0 (by omega), hj1 (by omega)]) | (rw [if_neg (by omega), hj0 (by omega)]))⟩, (by (try dsimp only); omega)⟩
 ·refine X.exit (thenQ_exit (thenQ_exit (blockQ_exit ?_)))
  refine X.seq (X.region ?_)
  refine cX (XOp.loadN [v1, sv] isAgg31 sizeOf31 rfl rfl (Rd.ownN [_] rfl rfl) ?_)
  refine cX (XOp.storeN (vs := [v1, sv]) [_, _] _ [v1, sv] sizeOf31 rfl rfl rfl (ones_cons (one_sl (IntsF.isSl hf1)) (ones_cons (one_sl hsv) ones_nil)) rfl rfl rfl ?_)
  refine XL.nil ?_
  refine X.freezeF [] _ _ rfl (fun F9 le9 hz2 => ?_)
  replace hf1 := hf1.mono le9
  replace hC := hC.mono le9
  have hf2 : MovesF F9 sv ms := CO.fz hC (by first | rfl | simp | omega) hz2.fz
  refine X.ret (retEnd (L' := L) [.agg #[v1, sv]] (.agg #[v1, sv]) (.cell rfl (loadNV [v1, sv] isAgg31 sizeOf31 rfl (Rd.ownN [_] rfl rfl)) .nil) rfl (FLe.trans (FLe.trans le2 leG1) le9) rF (Sub.drop (Sub.drop (Sub.drop sR))) ?_)
  have e9 : turnL f ns = ms := by rw [hms, show j = 0 from by omega]; rfl
  rw [e9]
  exact ⟨_, _, rfl, hf1, hf2, rfl⟩

/- spec.l20Join -/
set_option maxRecDepth 20000 in
theorem l20Join_spec {F : FH} {L : List HP} {fv : Value} {f : List Int} (hf : IntsF F fv f) {nsv : Value} {ns : List MoveT} (hns : MovesF F nsv ns) {gv : Value} {g : List Int} (hg : IntsF F gv g) {ksv : Value} {ks : List MoveT} (hks : MovesF F ksv ks) (hlf : f.length ≤ 60) (hln : ns.length ≤ 60) (hlk : ks.length ≤ 60) (hnb : ∀ i, i < ns.length → (ns.getD i (0, 0, false, [])).2.2.2.length ≤ 60) (hkb : ∀ i, i < ks.length → (ks.getD i (0, 0, false, [])).2.2.2.length ≤ 60) :
    Does prog 105 [.agg #[fv, nsv], .agg #[gv, ksv]] F (L) (fun v F' L' => ∃ (a : Value), ∃ (b : Value), (.tuple #[.agg #[a, b], .bool ((joinC f ns ks).2.2)] : Value) = v ∧ (IntsF F' a (joinC f ns ks).1) ∧ (MovesF F' b (joinC f ns ks).2.1) ∧ L = L') := by
 refine Does.of_X func105 rfl rfl rfl ?_
 refine X.seq (X.region ?_)
 refine cX (XOp.box [fv, nsv] rfl rfl ?_)
 intro b1
 refine cX (XOp.box [gv, ksv] rfl rfl ?_)
 intro b2
 refine cX (XOp.alloc [(.slice none 0 0), (.slice none 0 0)] zeroValue31 rfl ?_)
 intro b3
 refine XL.as (.bool (false)) rfl ?_
 refine XL.nil (X.seq (X.seq (X.region ?_)))
 refine cX (XOp.fieldP (b := b1) (1) runUnderlying31 rfl sizeOf29 (by decide) rfl rfl ?_)
 refine cX (XOp.load1 (v := nsv) isAgg29 rfl (Rd.own [_, _] rfl rfl) ?_)
 refine cX (XOp.lenS (v := nsv) (n := (ns).length) runUnderlying29 rfl hns.slv ?_)
 refine cX (XOp.fieldP (b := b2) (1) runUnderlying31 rfl sizeOf29 (by decide) rfl rfl ?_)
 refine cX (XOp.load1 (v := ksv) isAgg29 rfl (Rd.own [_] rfl rfl) ?_)
 refine cX (XOp.lenS (v := ksv) (n := (ks).length) runUnderlying29 rfl hks.slv ?_)
 refine cX (XOp.addR (a := (ns.length : Int)) (b := (ks.length : Int)) (((((ns).length) + ((ks).length) : Nat) : Int)) rfl rfl (by omega) (by omega) ?_)
 refine cX (XOp.gtr (a := ((((ns).length) + ((ks).length) : Nat) : Int)) (b := 60) rfl rfl ?_)
 refine XL.nil ?_
 refine X.condD (p := (((((ns).length) + ((ks).length) : Nat) : Int) : Int) > 60) rfl (fun h1 => ?_) (fun h1 => ?_)
 ·refine X.seq (X.region ?_)
  refine cX (XOp.build [(.slice none 0 0), (.slice none 0 0)] [(.slice none 0 0), (.slice none 0 0)] [(0, 1), (1, 1)] [] runUnderlying31 zeroValue31 rfl (.cons rfl sizeOf22 (.cons rfl sizeOf29 PlacesAre.nil)) rfl CellsAre.nil ?_)
  refine cX (XOp.storeN (vs := [(.slice none 0 0), (.slice none 0 0)]) [] _ [(.slice none 0 0), (.slice none 0 0)] sizeOf31 rfl rfl rfl (ones_cons rfl (ones_cons rfl ones_nil)) rfl rfl rfl ?_)
  refine XL.as (.bool (false)) rfl ?_
  refine XL.nil ?_
  refine X.ret (thenQ_ret (retEnd (L' := L) [.agg #[(.slice none 0 0), (.slice none 0 0)], .bool (false)] (.tuple #[.agg #[(.slice none 0 0), (.slice none 0 0)], .bool (false)]) (.cell rfl (loadNV [(.slice none 0 0), (.slice none 0 0)] isAgg31 sizeOf31 rfl (Rd.ownN [] rfl rfl)) (.tmp rfl .nil)) rfl rF rF (Sub.drop (Sub.drop (Sub.drop sR))) ?_))
  have e : joinC f ns ks = ([], [], false) := joinC_no (by omega)
  exact ⟨_, _, by rw [e], by rw [e]; exact IntsF.nilV, by rw [e]; exact SlOf.nilV, rfl⟩
 ·refine X.skip (X.seq (X.region ?_))
  refine cX (XOp.fieldP (b := b1) (0) runUnderlying31 rfl sizeOf22 (by decide) rfl rfl ?_)
  refine cX (XOp.load1 (v := fv) isAgg22 rfl (Rd.own [_, _] rfl rfl) ?_)
  refine cX (XOp.frzF <| XOp.call (args := [fv]) call99 rfl (l1Copy_spec hf (hlt := (by first | assumption | rfl | omega | simp))) ?_)
  rintro v1 _ _ _ ⟨rfl, hs1, rfl⟩
  refine ⟨_, _, rfl, fun F1 le1 hz1 => ?_⟩
  replace hf := hf.mono le1
  replace hns := hns.mono le1
  replace hks := hks.mono le1
  have hf1 : IntsF F1 v1 ((f)) := intsH.fz (xs := (f)) hz1.fz
  refine cX (XOp.build [v1, (.slice none 0 0)] [(.slice none 0 0), (.slice none 0 0)] [(0, 1), (1, 1)] [(0, [v1])] runUnderlying31 zeroValue31 rfl (.cons rfl sizeOf22 (.cons rfl sizeOf29 PlacesAre.nil)) rfl (.cons (cells_one (IntsF.isSl hf1)) CellsAre.nil) ?_)
  refine cX (XOp.alloc [(.slice none 0 0), (.slice none 0 0)] zeroValue31 rfl ?_)
  intro b4
  refine cX (XOp.storeN (vs := [v1, (.slice none 0 0)]) [] _ [v1, (.slice none 0 0)] sizeOf31 rfl rfl rfl (ones_cons (one_sl (IntsF.isSl hf1)) (ones_cons rfl ones_nil)) rfl rfl rfl ?_)
  refine XL.nil (X.seq (X.seq (X.region ?_)))
  refine XL.as (.int .i64 (0)) rfl ?_
  refine XL.nil (X.block ?_)
  refine X.loop (α := Nat × Value × List MoveT × List Value × Nat × FH) (fun xQ => [(2, ptr b1 0), (3, ptr b2 0), (4, ptr b3 0), (6, ptr b4 0), (7, .int .i64 (((xQ.1 : Nat) : Int)))]) (fun xQ => slH 146 4 xQ.2.1 xQ.2.2.2.2.1 xQ.2.2.2.1 :: cellsH b4 [v1, xQ.2.1] 31 :: cellsH b3 [(.slice none 0 0), (.slice none 0 0)] 31 :: cellsH b2 [gv, ksv] 31 :: cellsH b1 [fv, nsv] 31 :: L) (fun xQ F' => xQ.2.2.2.2.2 = F' ∧ F1 ≤ xQ.2.2.2.2.2 ∧ (xQ.1 ≤ ns.length) ∧ (IsSl xQ.2.1) ∧ (MovesC xQ.2.2.2.2.2 xQ.2.2.2.1 xQ.2.2.1) ∧ (xQ.2.2.2.2.1 = xQ.2.2.1.length) ∧ (xQ.2.2.1 = ns.take xQ.1)) (fun xQ => ns.length - xQ.1) (0, (.slice none 0 0), [], [], 0, F1) ⟨rfl, rfl, rfl, rfl, rfl, trivial⟩ (Sub.trans (Sub.addNil 146 4 _ _) (Sub.cons (Sub.cons (Sub.cons (Sub.cons (Sub.cons sR)))))) ⟨rfl, FLe.refl _, (by (try dsimp only) <;> omega), (⟨_, _, _, rfl⟩), (CO.nil), (rfl), (rfl)⟩ ?_
  rintro ⟨k, sv, ms, cs, m, G1⟩ rE _ _ ⟨rfl, leG, hk, hsv, hC, hm, hms⟩
  show X _ _ _ _ (envs [(2, ptr b1 0), (3, ptr b2 0), (4, ptr b3 0), (6, ptr b4 0), (7, .int .i64 ((k : Int)))] rE) _ (slH 146 4 sv m cs :: cellsH b4 [v1, sv] 31 :: cellsH b3 [(.slice none 0 0), (.slice none 0 0)] 31 :: cellsH b2 [gv, ksv] 31 :: cellsH b1 [fv, nsv] 31 :: L)
  replace leG : F1 ≤ G1 := leG
  dsimp only at hk hsv hC hm hms
  have hxk := hnb k
  have hml : ms.length = k := by rw [hms, List.length_take]; omega
  have leG1 := leG
  replace hf := hf.mono leG1
  replace hns := hns.mono leG1
  replace hks := hks.mono leG1
  replace hf1 := hf1.mono leG1
  refine X.seq (X.seq (X.region ?_))
  refine XL.mv (.int .i64 ((k : Int))) rfl ?_
  refine cX (XOp.fieldP (b := b1) (1) runUnderlying31 rfl sizeOf29 (by decide) rfl rfl ?_)
  refine cX (XOp.load1 (v := nsv) isAgg29 rfl (Rd.own [_, _, _, _] rfl rfl) ?_)
  refine cX (XOp.lenS (v := nsv) (n := (ns).length) runUnderlying29 rfl hns.slv ?_)
  refine cX (XOp.lss (a := (k : Int)) (b := (ns.length : Int)) rfl rfl ?_)
  refine XL.nil ?_
  refine X.condD (p := (k : Int) < (ns.length : Int)) rfl (fun h2 => ?_) (fun h2 => ?_)
  ·refine X.skip (X.seq (X.block ?_))
   obtain ⟨a1, ha1, hrg1, hq1⟩ := hns.rd (i := k) (by omega)
   refine X.drawG [slH 146 4 sv m cs, cellsH b4 [v1, sv] 31, cellsH b3 [(.slice none 0 0), (.slice none 0 0)] 31, cellsH b2 [gv, ksv] 31, cellsH b1 [fv, nsv] 31] L 9 [[], [], [], [], [], [], [], [], [7]] [[], [0], [], [2], [], [3, 4], [5], [6], [7]] [[], [], [], [], [], [], [], [], []] (phiG [fun FF us v => v = ptr b4 1, fun FF us v => v = sv, fun FF us v => v = ptr b1 1, fun FF us v => v = nsv, fun FF us v => v = (.int .i64 ((k : Int)) : Value), fun FF us v => v = (.pointer (some (elemA nsv (k * 4))) : Value), fun FF us v => v = (.agg #[.int .i64 ((ns.getD k (0, 0, false, [])).1), .int .i64 ((ns.getD k (0, 0, false, [])).2.1), .bool ((ns.getD k (0, 0, false, [])).2.2.1), a1] : Value), fun FF us v => (.agg #[.int .i64 (((ns.getD k (0, 0, false, [])).1)), .int .i64 (((ns.getD k (0, 0, false, [])).2.1)), .bool (((ns.getD k (0, 0, false, [])).2.2.1)), ((aggAt v 3))] : Value) = v ∧ (IntsF FF ((aggAt v 3)) ((ns.getD k (0, 0, false, [])).2.2.2)), fun FF us v => ∃ b, v = .slice (some ⟨b, 0, none⟩) 1 1]) (ownL [fun us v => [], fun us v => [], fun us v => [], fun us v => [], fun us v => [], fun us v => [], fun us v => [], fun us v => [], fun us v => [slH 146 4 v 1 [.int .i64 (((ns.getD k (0, 0, false, [])).1)), .int .i64 (((ns.getD k (0, 0, false, [])).2.1)), .bool (((ns.getD k (0, 0, false, [])).2.2.1)), ((aggAt (us.getD 0 undef) 3))]]]) mixed rfl rfl (by kernel_rfl) (by kernel_rfl) (MonoG.get (MonoG.cons (fun le h => h) (MonoG.cons (fun le h => h) (MonoG.cons (fun le h => h) (MonoG.cons (fun le h => h) (MonoG.cons (fun le h => h) (MonoG.cons (fun le h => h) (MonoG.cons (fun le h => h) (MonoG.cons (fun le h => ⟨h.1, h.2.mono le⟩) (MonoG.cons (fun le h => h) MonoG.nil)))))))))) ?_ ?_
   ·refine stepsG.cons (fun vals Fs R leFs hpZ => ?_) ?_
    ·refine XG.op (XOp.fieldP (b := b4) (1) runUnderlying31 rfl sizeOf29 (by decide) rfl rfl ?_)
     exact ⟨rfl, rfl⟩
    refine stepsG.cons (fun vals Fs R leFs hpZ => ?_) ?_
    ·replace hf := hf.mono leFs
     replace hns := hns.mono leFs
     replace hks := hks.mono leFs
     replace hf1 := hf1.mono leFs
     replace hC := hC.mono leFs
     replace ha1 := ha1.mono leFs
     replace hrg1 := fun L9 j9 u9 h9 => Rd.mono (hrg1 L9 j9 u9 h9) leFs
     rw [eS (l := [(0, ptr b4 1)]) ⟨(hpZ 0 (by decide)), trivial⟩]
     refine XG.op (XOp.load1 (v := sv) isAgg29 rfl (Rd.own [_] rfl rfl) ?_)
     exact ⟨rfl, rfl⟩
    refine stepsG.cons (fun vals Fs R leFs hpZ => ?_) ?_
    ·refine XG.op (XOp.fieldP (b := b1) (1) runUnderlying31 rfl sizeOf29 (by decide) rfl rfl ?_)
     exact ⟨rfl, rfl⟩
    refine stepsG.cons (fun vals Fs R leFs hpZ => ?_) ?_
    ·replace hf := hf.mono leFs
     replace hns := hns.mono leFs
     replace hks := hks.mono leFs
     replace hf1 := hf1.mono leFs
     replace hC := hC.mono leFs
     replace ha1 := ha1.mono leFs
     replace hrg1 := fun L9 j9 u9 h9 => Rd.mono (hrg1 L9 j9 u9 h9) leFs
     rw [eS (l := [(2, ptr b1 1)]) ⟨(hpZ 2 (by decide)), trivial⟩]
     refine XG.op (XOp.load1 (v := nsv) isAgg29 rfl (Rd.own [_, _, _, _] rfl rfl) ?_)
     exact ⟨rfl, rfl⟩
    refine stepsG.cons (fun vals Fs R leFs hpZ => ?_) ?_
    ·refine XG.op (XOp.move (.int .i64 ((k : Int))) rfl ?_)
     exact ⟨rfl, rfl⟩
    refine stepsG.cons (fun vals Fs R leFs hpZ => ?_) ?_
    ·replace hf := hf.mono leFs
     replace hns := hns.mono leFs
     replace hks := hks.mono leFs
     replace hf1 := hf1.mono leFs
     replace hC := hC.mono leFs
     replace ha1 := ha1.mono leFs
     replace hrg1 := fun L9 j9 u9 h9 => Rd.mono (hrg1 L9 j9 u9 h9) leFs
     rw [eS (l := [(3, nsv), (4, (.int .i64 ((k : Int)) : Value))]) ⟨(hpZ 3 (by decide)), (hpZ 4 (by decide)), trivial⟩]
     refine XG.op (XOp.indexS (v := nsv) (i := (k : Int)) (n := (ns).length) k runUnderlying29 sizeOf146 rfl rfl rfl hns.slv (by omega) rfl ?_)
     exact ⟨rfl, rfl⟩
    refine stepsG.cons (fun vals Fs R leFs hpZ => ?_) ?_
    ·replace hf := hf.mono leFs
     replace hks := hks.mono leFs
     replace hf1 := hf1.mono leFs
     replace hC := hC.mono leFs
     replace ha1 := ha1.mono leFs
     replace hrg1 := fun L9 j9 u9 h9 => Rd.mono (hrg1 L9 j9 u9 h9) leFs
     rw [eS (l := [(5, (.pointer (some (elemA nsv (k * 4))) : Value))]) ⟨(hpZ 5 (by decide)), trivial⟩]
     refine XG.op (XOp.loadN [.int .i64 ((ns.getD k (0, 0, false, [])).1), .int .i64 ((ns.getD k (0, 0, false, [])).2.1), .bool ((ns.getD k (0, 0, false, [])).2.2.1), a1] isAgg146 sizeOf146 rfl rfl (Rd.all (hrg1 _)) ?_)
     exact ⟨rfl, rfl⟩
    refine stepsG.cons (fun vals Fs R leFs hpZ => ?_) ?_
    ·replace hf := hf.mono leFs
     replace hks := hks.mono leFs
     replace hf1 := hf1.mono leFs
     replace hC := hC.mono leFs
     replace ha1 := ha1.mono leFs
     rw [eS (l := [(6, (.agg #[.int .i64 ((ns.getD k (0, 0, false, [])).1), .int .i64 ((ns.getD k (0, 0, false, [])).2.1), .bool ((ns.getD k (0, 0, false, [])).2.2.1), a1] : Value))]) ⟨(hpZ 6 (by decide)), trivial⟩]
     refine XG.op (XOp.call (args := [.agg #[.int .i64 ((ns.getD k (0, 0, false, [])).1), .int .i64 ((ns.getD k (0, 0, false, [])).2.1), .bool ((ns.getD k (0, 0, false, [])).2.2.1), a1]]) call177 rfl (l20CopyMove_spec ha1 (hlt := (by first | assumption | rfl | omega | simp))) ?_)
     rintro _ F3 _ le3 ⟨x2, rfl, hr2, rfl⟩
     replace hf := hf.mono le3
     replace hks := hks.mono le3
     replace hf1 := hf1.mono le3
     replace hC := hC.mono le3
     exact ⟨⟨rfl, hr2⟩, rfl⟩
    refine stepsG.cons (fun vals Fs R leFs hpZ => ?_) ?_
    ·obtain ⟨e7, f7_1hr⟩ := hpZ 7 (by decide)
     replace hf := hf.mono leFs
     replace hks := hks.mono leFs
     replace hf1 := hf1.mono leFs
     replace hC := hC.mono leFs
     rw [eS (l := [(7, (.agg #[.int .i64 (((ns.getD k (0, 0, false, [])).1)), .int .i64 (((ns.getD k (0, 0, false, [])).2.1)), .bool (((ns.getD k (0, 0, false, [])).2.2.1)), ((aggAt (vals 7) 3))] : Value))]) ⟨(e7).symm, trivial⟩]
     refine XG.op (XOp.buildSlice (s := 4) [.int .i64 (((ns.getD k (0, 0, false, [])).1)), .int .i64 (((ns.getD k (0, 0, false, [])).2.1)), .bool (((ns.getD k (0, 0, false, [])).2.2.1)), ((aggAt (vals 7) 3))] [.int .i64 (0), .int .i64 (0), .bool (false), (.slice none 0 0)] [(0, [.int .i64 (((ns.getD k (0, 0, false, [])).1)), .int .i64 (((ns.getD k (0, 0, false, [])).2.1)), .bool (((ns.getD k (0, 0, false, [])).2.2.1)), ((aggAt (vals 7) 3))])] runUnderlying29 sizeOf146 zeroValue146 rfl (by decide) rfl (.cons rfl CellsAre.nil) rfl ?_)
     intro v3 hv2
     exact ⟨hv2, rfl⟩
    exact stepsG.nil
   ·intro vals F4 le4 hphi
    obtain ⟨e7, f7_1hr⟩ := hphi 7 (by decide)
    have f8 : ∃ b, (vals 8) = .slice (some ⟨b, 0, none⟩) 1 1 := hphi 8 (by decide)
    generalize hu1 : ((aggAt (vals 7) 3)) = u1 at e7 f7_1hr f8
    generalize hu8 : vals 8 = u2 at e7 f7_1hr f8
    rw [eS (l := [(1, sv), (7, (.agg #[.int .i64 (((ns.getD k (0, 0, false, [])).1)), .int .i64 (((ns.getD k (0, 0, false, [])).2.1)), .bool (((ns.getD k (0, 0, false, [])).2.2.1)), u1] : Value)), (8, u2)]) ⟨(hphi 1 (by decide)), (e7).symm, hu8, trivial⟩]
    replace hf := hf.mono le4
    replace hks := hks.mono le4
    replace hf1 := hf1.mono le4
    replace hC := hC.mono le4
    show XL _ _ _ _ _ _ _ (slH 146 4 u2 1 [.int .i64 (((ns.getD k (0, 0, false, [])).1)), .int .i64 (((ns.getD k (0, 0, false, [])).2.1)), .bool (((ns.getD k (0, 0, false, [])).2.2.1)), u1] :: slH 146 4 sv m cs :: cellsH b4 [v1, sv] 31 :: cellsH b3 [(.slice none 0 0), (.slice none 0 0)] 31 :: cellsH b2 [gv, ksv] 31 :: cellsH b1 [fv, nsv] 31 :: L)
    refine cX (XOp.append (m := 1) (bytes := 48) (cs := cs) [_] _ [.int .i64 (((ns.getD k (0, 0, false, [])).1)), .int .i64 (((ns.getD k (0, 0, false, [])).2.1)), .bool (((ns.getD k (0, 0, false, [])).2.2.1)), u1] runUnderlying29 typeInfo146 rfl rfl rfl rfl rfl rfl rfl (SlV.own [] rfl) rfl (Rd.lit [] rfl) (ones_cons rfl (ones_cons rfl (ones_cons rfl (ones_cons (one_sl (IntsF.isSl f7_1hr)) ones_nil)))) (by (try simp only [List.length_append, List.length_nil, List.length_cons, List.length_singleton]); omega) (by (try simp only [List.length_append, List.length_nil, List.length_cons, List.length_singleton]); omega) ?_)
    intro v4 hs2 hn1 hm1
    have hc1 := MovesC.snoc hC (y0 := ((ns.getD k (0, 0, false, [])).1)) (y1 := ((ns.getD k (0, 0, false, [])).2.1)) (y2 := ((ns.getD k (0, 0, false, [])).2.2.1)) (y3 := ((ns.getD k (0, 0, false, [])).2.2.2)) f7_1hr
    refine cX (XOp.fieldP (b := b4) (1) runUnderlying31 rfl sizeOf29 (by decide) rfl rfl ?_)
    refine cX (XOp.store1 (v := v4) [_, _] _ [v1, v4] sizeOf29 rfl rfl (one_sl hs2) rfl rfl rfl ?_)
    refine XL.nil (X.region ?_)
    refine XL.mv (.int .i64 ((k : Int))) rfl ?_
    refine cX (XOp.addR (a := (k : Int)) (b := 1) (((k + 1 : Nat) : Int)) rfl rfl (by omega) (by omega) ?_)
    refine XL.as (.int .i64 (((k + 1 : Nat) : Int))) rfl ?_
    refine XL.nil ?_
    exact ⟨(k + 1, v4, ms ++ [(((ns.getD k (0, 0, false, [])).1), ((ns.getD k (0, 0, false, [])).2.1), ((ns.getD k (0, 0, false, [])).2.2.1), ((ns.getD k (0, 0, false, [])).2.2.2))], cs ++ [.int .i64 (((ns.getD k (0, 0, false, [])).1)), .int .i64 (((ns.getD k (0, 0, false, [])).2.1)), .bool (((ns.getD k (0, 0, false, [])).2.2.1)), u1], (m) + 1, F4), _, (FLe.trans leG1 le4), rF, ⟨rfl, rfl, rfl, rfl, rfl, trivial⟩, (Sub.drop (Sub.cons (Sub.cons (Sub.cons (Sub.cons (Sub.cons sR)))))), ⟨rfl, (FLe.trans leG1 le4), (by (try dsimp only) <;> omega), (hs2), (hc1), (by (try dsimp only); rw [List.length_append]; simp only [List.length_singleton]; omega), (by (try dsimp only); rw [take_succ_getD (0, 0, false, []) (by omega), ← hms])⟩, (by omega)⟩
  ·refine X.exit (thenQ_exit (thenQ_exit (blockQ_exit ?_)))
   refine X.seq (X.seq (X.region ?_))
   refine XL.as (.int .i64 (0)) rfl ?_
   refine XL.nil (X.block ?_)
   refine X.loop (α := Nat × Value × List MoveT × List Value × Nat × FH) (fun xQ => [(3, ptr b2 0), (4, ptr b3 0), (6, ptr b4 0), (8, .int .i64 (((xQ.1 : Nat) : Int)))]) (fun xQ => slH 146 4 xQ.2.1 xQ.2.2.2.2.1 xQ.2.2.2.1 :: cellsH b4 [v1, xQ.2.1] 31 :: cellsH b3 [(.slice none 0 0), (.slice none 0 0)] 31 :: cellsH b2 [gv, ksv] 31 :: cellsH b1 [fv, nsv] 31 :: L) (fun xQ F' => xQ.2.2.2.2.2 = F' ∧ G1 ≤ xQ.2.2.2.2.2 ∧ (xQ.1 ≤ ks.length) ∧ (IsSl xQ.2.1) ∧ (MovesC xQ.2.2.2.2.2 xQ.2.2.2.1 xQ.2.2.1) ∧ (xQ.2.2.2.2.1 = xQ.2.2.1.length) ∧ (xQ.2.2.1 = ns ++ ks.take xQ.1)) (fun xQ => ks.length - xQ.1) (0, sv, ms, cs, m, G1) ⟨rfl, rfl, rfl, rfl, trivial⟩ (Sub.cons (Sub.cons (Sub.cons (Sub.cons (Sub.cons sR))))) ⟨rfl, FLe.refl _, (by (try dsimp only) <;> omega), (hsv), (hC), (hm), (by (try dsimp only); rw [hms, List.take_of_length_le (by omega)]; simp)⟩ ?_
   rintro ⟨q, sv, ms, cs, m, G2⟩ rE _ _ ⟨rfl, leG, hq, hsvj, hCj, hmj, hmsj⟩
   show X _ _ _ _ (envs [(3, ptr b2 0), (4, ptr b3 0), (6, ptr b4 0), (8, .int .i64 ((q : Int)))] rE) _ (slH 146 4 sv m cs :: cellsH b4 [v1, sv] 31 :: cellsH b3 [(.slice none 0 0), (.slice none 0 0)] 31 :: cellsH b2 [gv, ksv] 31 :: cellsH b1 [fv, nsv] 31 :: L)
   replace leG : G1 ≤ G2 := leG
   dsimp only at hq hsvj hCj hmj hmsj
   have hyk := hkb q
   have hmlj : ms.length = ns.length + q := by rw [hmsj, List.length_append, List.length_take]; omega
   have leG2 := leG
   replace hf := hf.mono leG2
   replace hks := hks.mono leG2
   replace hf1 := hf1.mono leG2
   refine X.seq (X.seq (X.region ?_))
   refine XL.mv (.int .i64 ((q : Int))) rfl ?_
   refine cX (XOp.fieldP (b := b2) (1) runUnderlying31 rfl sizeOf29 (by decide) rfl rfl ?_)
   refine cX (XOp.load1 (v := ksv) isAgg29 rfl (Rd.own [_, _, _] rfl rfl) ?_)
   refine cX (XOp.lenS (v := ksv) (n := (ks).length) runUnderlying29 rfl hks.slv ?_)
   refine cX (XOp.lss (a := (q : Int)) (b := (ks.length : Int)) rfl rfl ?_)
   refine XL.nil ?_
   refine X.condD (p := (q : Int) < (ks.length : Int)) rfl (fun h3 => ?_) (fun h3 => ?_)
   ·refine X.skip (X.seq (X.block ?_))
    obtain ⟨a2, ha2, hrg2, hq2⟩ := hks.rd (i := q) (by omega)
    refine X.drawG [slH 146 4 sv m cs, cellsH b4 [v1, sv] 31, cellsH b3 [(.slice none 0 0), (.slice none 0 0)] 31, cellsH b2 [gv, ksv] 31, cellsH b1 [fv, nsv] 31] L 9 [[], [], [], [], [], [], [], [], [7]] [[], [0], [], [2], [], [3, 4], [5], [6], [7]] [[], [], [], [], [], [], [], [], []] (phiG [fun FF us v => v = ptr b4 1, fun FF us v => v = sv, fun FF us v => v = ptr b2 1, fun FF us v => v = ksv, fun FF us v => v = (.int .i64 ((q : Int)) : Value), fun FF us v => v = (.pointer (some (elemA ksv (q * 4))) : Value), fun FF us v => v = (.agg #[.int .i64 ((ks.getD q (0, 0, false, [])).1), .int .i64 ((ks.getD q (0, 0, false, [])).2.1), .bool ((ks.getD q (0, 0, false, [])).2.2.1), a2] : Value), fun FF us v => (.agg #[.int .i64 (((ks.getD q (0, 0, false, [])).1)), .int .i64 (((ks.getD q (0, 0, false, [])).2.1)), .bool (((ks.getD q (0, 0, false, [])).2.2.1)), ((aggAt v 3))] : Value) = v ∧ (IntsF FF ((aggAt v 3)) ((ks.getD q (0, 0, false, [])).2.2.2)), fun FF us v => ∃ b, v = .slice (some ⟨b, 0, none⟩) 1 1]) (ownL [fun us v => [], fun us v => [], fun us v => [], fun us v => [], fun us v => [], fun us v => [], fun us v => [], fun us v => [], fun us v => [slH 146 4 v 1 [.int .i64 (((ks.getD q (0, 0, false, [])).1)), .int .i64 (((ks.getD q (0, 0, false, [])).2.1)), .bool (((ks.getD q (0, 0, false, [])).2.2.1)), ((aggAt (us.getD 0 undef) 3))]]]) mixed rfl rfl (by kernel_rfl) (by kernel_rfl) (MonoG.get (MonoG.cons (fun le h => h) (MonoG.cons (fun le h => h) (MonoG.cons (fun le h => h) (MonoG.cons (fun le h => h) (MonoG.cons (fun le h => h) (MonoG.cons (fun le h => h) (MonoG.cons (fun le h => h) (MonoG.cons (fun le h => ⟨h.1, h.2.mono le⟩) (MonoG.cons (fun le h => h) MonoG.nil)))))))))) ?_ ?_
    ·refine stepsG.cons (fun vals Fs R leFs hpZ => ?_) ?_
     ·refine XG.op (XOp.fieldP (b := b4) (1) runUnderlying31 rfl sizeOf29 (by decide) rfl rfl ?_)
      exact ⟨rfl, rfl⟩
     refine stepsG.cons (fun vals Fs R leFs hpZ => ?_) ?_
     ·replace hf := hf.mono leFs
      replace hks := hks.mono leFs
      replace hf1 := hf1.mono leFs
      replace hCj := hCj.mono leFs
      replace ha2 := ha2.mono leFs
      replace hrg2 := fun L9 j9 u9 h9 => Rd.mono (hrg2 L9 j9 u9 h9) leFs
      rw [eS (l := [(0, ptr b4 1)]) ⟨(hpZ 0 (by decide)), trivial⟩]
      refine XG.op (XOp.load1 (v := sv) isAgg29 rfl (Rd.own [_] rfl rfl) ?_)
      exact ⟨rfl, rfl⟩
     refine stepsG.cons (fun vals Fs R leFs hpZ => ?_) ?_
     ·refine XG.op (XOp.fieldP (b := b2) (1) runUnderlying31 rfl sizeOf29 (by decide) rfl rfl ?_)
      exact ⟨rfl, rfl⟩
     refine stepsG.cons (fun vals Fs R leFs hpZ => ?_) ?_
     ·replace hf := hf.mono leFs
      replace hks := hks.mono leFs
      replace hf1 := hf1.mono leFs
      replace hCj := hCj.mono leFs
      replace ha2 := ha2.mono leFs
      replace hrg2 := fun L9 j9 u9 h9 => Rd.mono (hrg2 L9 j9 u9 h9) leFs
      rw [eS (l := [(2, ptr b2 1)]) ⟨(hpZ 2 (by decide)), trivial⟩]
      refine XG.op (XOp.load1 (v := ksv) isAgg29 rfl (Rd.own [_, _, _] rfl rfl) ?_)
      exact ⟨rfl, rfl⟩
     refine stepsG.cons (fun vals Fs R leFs hpZ => ?_) ?_
     ·refine XG.op (XOp.move (.int .i64 ((q : Int))) rfl ?_)
      exact ⟨rfl, rfl⟩
     refine stepsG.cons (fun vals Fs R leFs hpZ => ?_) ?_
     ·replace hf := hf.mono leFs
      replace hks := hks.mono leFs
      replace hf1 := hf1.mono leFs
      replace hCj := hCj.mono leFs
      replace ha2 := ha2.mono leFs
      replace hrg2 := fun L9 j9 u9 h9 => Rd.mono (hrg2 L9 j9 u9 h9) leFs
      rw [eS (l := [(3, ksv), (4, (.int .i64 ((q : Int)) : Value))]) ⟨(hpZ 3 (by decide)), (hpZ 4 (by decide)), trivial⟩]
      refine XG.op (XOp.indexS (v := ksv) (i := (q : Int)) (n := (ks).length) q runUnderlying29 sizeOf146 rfl rfl rfl hks.slv (by omega) rfl ?_)
      exact ⟨rfl, rfl⟩
     refine stepsG.cons (fun vals Fs R leFs hpZ => ?_) ?_
     ·replace hf := hf.mono leFs
      replace hf1 := hf1.mono leFs
      replace hCj := hCj.mono leFs
      replace ha2 := ha2.mono leFs
      replace hrg2 := fun L9 j9 u9 h9 => Rd.mono (hrg2 L9 j9 u9 h9) leFs
      rw [eS (l := [(5, (.pointer (some (elemA ksv (q * 4))) : Value))]) ⟨(hpZ 5 (by decide)), trivial⟩]
      refine XG.op (XOp.loadN [.int .i64 ((ks.getD q (0, 0, false, [])).1), .int .i64 ((ks.getD q (0, 0, false, [])).2.1), .bool ((ks.getD q (0, 0, false, [])).2.2.1), a2] isAgg146 sizeOf146 rfl rfl (Rd.all (hrg2 _)) ?_)
      exact ⟨rfl, rfl⟩
     refine stepsG.cons (fun vals Fs R leFs hpZ => ?_) ?_
     ·replace hf := hf.mono leFs
      replace hf1 := hf1.mono leFs
      replace hCj := hCj.mono leFs
      replace ha2 := ha2.mono leFs
      rw [eS (l := [(6, (.agg #[.int .i64 ((ks.getD q (0, 0, false, [])).1), .int .i64 ((ks.getD q (0, 0, false, [])).2.1), .bool ((ks.getD q (0, 0, false, [])).2.2.1), a2] : Value))]) ⟨(hpZ 6 (by decide)), trivial⟩]
      refine XG.op (XOp.call (args := [.agg #[.int .i64 ((ks.getD q (0, 0, false, [])).1), .int .i64 ((ks.getD q (0, 0, false, [])).2.1), .bool ((ks.getD q (0, 0, false, [])).2.2.1), a2]]) call177 rfl (l20CopyMove_spec ha2 (hlt := (by first | assumption | rfl | omega | simp))) ?_)
      rintro _ F6 _ le6 ⟨x4, rfl, hr4, rfl⟩
      replace hf1 := hf1.mono le6
      replace hCj := hCj.mono le6
      exact ⟨⟨rfl, hr4⟩, rfl⟩
     refine stepsG.cons (fun vals Fs R leFs hpZ => ?_) ?_
     ·obtain ⟨e7, f7_2hr⟩ := hpZ 7 (by decide)
      replace hf1 := hf1.mono leFs
      replace hCj := hCj.mono leFs
      rw [eS (l := [(7, (.agg #[.int .i64 (((ks.getD q (0, 0, false, [])).1)), .int .i64 (((ks.getD q (0, 0, false, [])).2.1)), .bool (((ks.getD q (0, 0, false, [])).2.2.1)), ((aggAt (vals 7) 3))] : Value))]) ⟨(e7).symm, trivial⟩]
      refine XG.op (XOp.buildSlice (s := 4) [.int .i64 (((ks.getD q (0, 0, false, [])).1)), .int .i64 (((ks.getD q (0, 0, false, [])).2.1)), .bool (((ks.getD q (0, 0, false, [])).2.2.1)), ((aggAt (vals 7) 3))] [.int .i64 (0), .int .i64 (0), .bool (false), (.slice none 0 0)] [(0, [.int .i64 (((ks.getD q (0, 0, false, [])).1)), .int .i64 (((ks.getD q (0, 0, false, [])).2.1)), .bool (((ks.getD q (0, 0, false, [])).2.2.1)), ((aggAt (vals 7) 3))])] runUnderlying29 sizeOf146 zeroValue146 rfl (by decide) rfl (.cons rfl CellsAre.nil) rfl ?_)
      intro v6 hv4
      exact ⟨hv4, rfl⟩
     exact stepsG.nil
    ·intro vals F7 le7 hphi
     obtain ⟨e7, f7_2hr⟩ := hphi 7 (by decide)
     have f8 : ∃ b, (vals 8) = .slice (some ⟨b, 0, none⟩) 1 1 := hphi 8 (by decide)
     generalize hu2 : ((aggAt (vals 7) 3)) = u3 at e7 f7_2hr f8
     generalize hu8 : vals 8 = u4 at e7 f7_2hr f8
     rw [eS (l := [(1, sv), (7, (.agg #[.int .i64 (((ks.getD q (0, 0, false, [])).1)), .int .i64 (((ks.getD q (0, 0, false, [])).2.1)), .bool (((ks.getD q (0, 0, false, [])).2.2.1)), u3] : Value)), (8, u4)]) ⟨(hphi 1 (by decide)), (e7).symm, hu8, trivial⟩]
     replace hf1 := hf1.mono le7
     replace hCj := hCj.mono le7
     show XL _ _ _ _ _ _ _ (slH 146 4 u4 1 [.int .i64 (((ks.getD q (0, 0, false, [])).1)), .int .i64 (((ks.getD q (0, 0, false, [])).2.1)), .bool (((ks.getD q (0, 0, false, [])).2.2.1)), u3] :: slH 146 4 sv m cs :: cellsH b4 [v1, sv] 31 :: cellsH b3 [(.slice none 0 0), (.slice none 0 0)] 31 :: cellsH b2 [gv, ksv] 31 :: cellsH b1 [fv, nsv] 31 :: L)
     refine cX (XOp.append (m := 1) (bytes := 48) (cs := cs) [_] _ [.int .i64 (((ks.getD q (0, 0, false, [])).1)), .int .i64 (((ks.getD q (0, 0, false, [])).2.1)), .bool (((ks.getD q (0, 0, false, [])).2.2.1)), u3] runUnderlying29 typeInfo146 rfl rfl rfl rfl rfl rfl rfl (SlV.own [] rfl) rfl (Rd.lit [] rfl) (ones_cons rfl (ones_cons rfl (ones_cons rfl (ones_cons (one_sl (IntsF.isSl f7_2hr)) ones_nil)))) (by (try simp only [List.length_append, List.length_nil, List.length_cons, List.length_singleton]); omega) (by (try simp only [List.length_append, List.length_nil, List.length_cons, List.length_singleton]); omega) ?_)
     intro v7 hs3 hn2 hm2
     have hc2 := MovesC.snoc hCj (y0 := ((ks.getD q (0, 0, false, [])).1)) (y1 := ((ks.getD q (0, 0, false, [])).2.1)) (y2 := ((ks.getD q (0, 0, false, [])).2.2.1)) (y3 := ((ks.getD q (0, 0, false, [])).2.2.2)) f7_2hr
     refine cX (XOp.fieldP (b := b4) (1) runUnderlying31 rfl sizeOf29 (by decide) rfl rfl ?_)
     refine cX (XOp.store1 (v := v7) [_, _] _ [v1, v7] sizeOf29 rfl rfl (one_sl hs3) rfl rfl rfl ?_)
     refine XL.nil (X.region ?_)
     refine XL.mv (.int .i64 ((q : Int))) rfl ?_
     refine cX (XOp.addR (a := (q : Int)) (b := 1) (((q + 1 : Nat) : Int)) rfl rfl (by omega) (by omega) ?_)
     refine XL.as (.int .i64 (((q + 1 : Nat) : Int))) rfl ?_
     refine XL.nil ?_
     exact ⟨(q + 1, v7, ms ++ [(((ks.getD q (0, 0, false, [])).1), ((ks.getD q (0, 0, false, [])).2.1), ((ks.getD q (0, 0, false, [])).2.2.1), ((ks.getD q (0, 0, false, [])).2.2.2))], cs ++ [.int .i64 (((ks.getD q (0, 0, false, [])).1)), .int .i64 (((ks.getD q (0, 0, false, [])).2.1)), .bool (((ks.getD q (0, 0, false, [])).2.2.1)), u3], (m) + 1, F7), _, (FLe.trans leG2 le7), rF, ⟨rfl, rfl, rfl, rfl, trivial⟩, (Sub.drop (Sub.cons (Sub.cons (Sub.cons (Sub.cons (Sub.cons sR)))))), ⟨rfl, (FLe.trans leG2 le7), (by (try dsimp only) <;> omega), (hs3), (hc2), (by (try dsimp only); rw [List.length_append]; simp only [List.length_singleton]; omega), (by (try dsimp only); rw [take_succ_getD (0, 0, false, []) (by omega), ← List.append_assoc, ← hmsj])⟩, (by omega)⟩
   ·refine X.exit (thenQ_exit (thenQ_exit (blockQ_exit ?_)))
    refine X.seq (X.region ?_)
    refine cX (XOp.loadN [v1, sv] isAgg31 sizeOf31 rfl rfl (Rd.ownN [_] rfl rfl) ?_)
    refine cX (XOp.storeN (vs := [v1, sv]) [_, _] _ [v1, sv] sizeOf31 rfl rfl rfl (ones_cons (one_sl (IntsF.isSl hf1)) (ones_cons (one_sl hsvj) ones_nil)) rfl rfl rfl ?_)
    refine XL.as (.bool (true)) rfl ?_
    refine XL.nil ?_
    refine X.freezeF [] _ _ rfl (fun F8 le8 hz2 => ?_)
    replace hf1 := hf1.mono le8
    replace hCj := hCj.mono le8
    have hf2 : MovesF F8 sv ms := CO.fz hCj (by first | rfl | simp | omega) hz2.fz
    refine X.ret (retEnd (L' := L) [.agg #[v1, sv], .bool (true)] (.tuple #[.agg #[v1, sv], .bool (true)]) (.cell rfl (loadNV [v1, sv] isAgg31 sizeOf31 rfl (Rd.ownN [_] rfl rfl)) (.tmp rfl .nil)) rfl (FLe.trans (FLe.trans (FLe.trans le1 leG1) leG2) le8) rF (Sub.drop (Sub.drop (Sub.drop (Sub.drop sR)))) ?_)
    have e9 : ms = ns ++ ks := by rw [hmsj, List.take_of_length_le (by omega)]
    have e : joinC f ns ks = (f, ms, true) := by rw [e9]; exact joinC_yes (by omega)
    exact ⟨_, _, by rw [e], by rw [e]; exact hf1, by rw [e]; exact hf2, rfl⟩

/- spec.ChainOfJoin -/
set_option maxHeartbeats 1000000 in
set_option maxRecDepth 20000 in
theorem sChainOfJoin_spec {F : FH} {L : List HP} {arv : Value} {ar : List Int} (har : IntsF F arv ar) {rsv : Value} {rs : List (List Int × List Int)} (hrs : PairsF F rsv rs) {fv : Value} {f : List Int} (hf : IntsF F fv f) {xsv : Value} {xs : List StepT} (hxs : StepsF F xsv xs) {gv : Value} {g : List Int} (hg : IntsF F gv g) {ysv : Value} {ys : List StepT} (hys : StepsF F ysv ys) (hla : ar.length ≤ 4000000) (hlr : rs.length ≤ 4000000) (hrb : ∀ i, i < rs.length → (rs.getD i ([], [])).1.length ≤ 4000000 ∧ (rs.getD i ([], [])).2.length ≤ 4000000) (hlf : f.length ≤ 4000000) (hlss : xs.length ≤ 4000000) (hsb : ∀ i, i < xs.length → (xs.getD i (0, 0, [])).2.2.length ≤ 4000000) (hlg : g.length ≤ 4000000) (hlys : ys.length ≤ 4000000) (hyb : ∀ i, i < ys.length → (ys.getD i (0, 0, [])).2.2.length ≤ 4000000) :
    Does prog 45 [.agg #[arv, rsv], .agg #[fv, xsv], .agg #[gv, ysv]] F (L) (fun v F' L' => ∃ (a : Value), ∃ (b : Value), (.tuple #[.agg #[a, b], .bool ((chainJF ar rs f xs g ys).2.2)] : Value) = v ∧ (IntsF F' a (chainJF ar rs f xs g ys).1) ∧ (MovesF F' b (chainJF ar rs f xs g ys).2.1) ∧ L = L') := by
 refine Does.of_X func45 rfl rfl rfl ?_
 refine X.seq (X.region ?_)
 refine cX (XOp.box [arv, rsv] rfl rfl ?_)
 intro b1
 refine cX (XOp.box [fv, xsv] rfl rfl ?_)
 intro b2
 refine cX (XOp.box [gv, ysv] rfl rfl ?_)
 intro b3
 refine cX (XOp.alloc [(.slice none 0 0), (.slice none 0 0)] zeroValue31 rfl ?_)
 intro b4
 refine XL.as (.bool (false)) rfl ?_
 refine XL.nil (X.seq (X.seq ?_))
 by_cases h1 : (!(walkOkL ar rs f xs)) = true
 ·have hw1 : walkOkL ar rs f xs = false := by simpa using h1
  refine X.draw [cellsH b4 [(.slice none 0 0), (.slice none 0 0)] 31, cellsH b3 [gv, ysv] 57, cellsH b2 [fv, xsv] 57, cellsH b1 [arv, rsv] 37] L 16 [[], [], [], [], [], [], [], [], [], [], [], [], [], [], [], []] [[], [], [0, 1], [2], [3], [4], [4], [4, 5, 6], [4, 7], [4, 8], [9], [10], [10], [10, 11, 12], [10], [10]] (phiL [fun us v => v = (.agg #[arv, rsv] : Value), fun us v => v = (.agg #[fv, xsv] : Value), fun us v => v = (.bool (walkOkL ar rs f xs) : Value), fun us v => v = (.bool (!(walkOkL ar rs f xs)) : Value), fun us v => v = (.bool (!(walkOkL ar rs f xs)) : Value), fun us v => v = undef, fun us v => v = undef, fun us v => v = undef, fun us v => v = undef, fun us v => v = (.bool (true) : Value), fun us v => v = (.bool (true) : Value), fun us v => v = undef, fun us v => v = undef, fun us v => v = undef, fun us v => v = undef, fun us v => v = undef]) (ownL [fun us v => [], fun us v => [], fun us v => [], fun us v => [], fun us v => [], fun us v => [], fun us v => [], fun us v => [], fun us v => [], fun us v => [], fun us v => [], fun us v => [], fun us v => [], fun us v => [], fun us v => [], fun us v => []]) mixed rfl rfl (by kernel_rfl) ?_ ?_
  ·refine stepsP.cons (fun vals R hpZ => ?_) ?_
   ·refine XG.op (XOp.loadN [arv, rsv] isAgg37 sizeOf37 rfl rfl (Rd.ownN [_, _, _] rfl rfl) ?_)
    exact ⟨rfl, rfl, rfl⟩
   refine stepsP.cons (fun vals R hpZ => ?_) ?_
   ·refine XG.op (XOp.loadN [fv, xsv] isAgg57 sizeOf57 rfl rfl (Rd.ownN [_, _] rfl rfl) ?_)
    exact ⟨rfl, rfl, rfl⟩
   refine stepsP.cons (fun vals R hpZ => ?_) ?_
   ·rw [eS (l := [(0, (.agg #[arv, rsv] : Value)), (1, (.agg #[fv, xsv] : Value))]) ⟨hpZ 0 (by decide), hpZ 1 (by decide), trivial⟩]
    refine XG.op (XOp.call (args := [.agg #[arv, rsv], .agg #[fv, xsv]]) call103 rfl (sWalkOk_spec har hrs hf hxs (hla := (by first | assumption | rfl | omega | simp)) (hlr := (by first | assumption | rfl | omega | simp)) (hrb := (by first | assumption | rfl | omega | simp)) (hlf := (by first | assumption | rfl | omega | simp)) (hlss := (by first | assumption | rfl | omega | simp)) (hsb := (by first | assumption | rfl | omega | simp))) ?_)
    rintro _ _ _ _ ⟨rfl, rfl, rfl⟩
    exact ⟨rfl, rfl, rfl⟩
   refine stepsP.cons (fun vals R hpZ => ?_) ?_
   ·rw [eS (l := [(2, (.bool (walkOkL ar rs f xs) : Value))]) ⟨hpZ 2 (by decide), trivial⟩]
    refine XG.op (XOp.notB (b := walkOkL ar rs f xs) rfl ?_)
    exact ⟨rfl, rfl, rfl⟩
   refine stepsP.cons (fun vals R hpZ => ?_) ?_
   ·rw [eS (l := [(3, (.bool (!(walkOkL ar rs f xs)) : Value))]) ⟨hpZ 3 (by decide), trivial⟩]
    refine XG.op (XOp.move (.bool (!(walkOkL ar rs f xs))) rfl ?_)
    exact ⟨rfl, rfl, rfl⟩
   refine stepsP.cons (fun vals R hpZ => ?_) ?_
   ·rw [eS (l := [(4, (.bool (!(walkOkL ar rs f xs)) : Value))]) ⟨hpZ 4 (by decide), trivial⟩]
    exact XG.no (t := 12) rfl (vB h1) ⟨rfl, rfl, rfl⟩
   refine stepsP.cons (fun vals R hpZ => ?_) ?_
   ·rw [eS (l := [(4, (.bool (!(walkOkL ar rs f xs)) : Value))]) ⟨hpZ 4 (by decide), trivial⟩]
    exact XG.no (t := 12) rfl (vB h1) ⟨rfl, rfl, rfl⟩
   refine stepsP.cons (fun vals R hpZ => ?_) ?_
   ·rw [eS (l := [(4, (.bool (!(walkOkL ar rs f xs)) : Value)), (5, undef), (6, undef)]) ⟨hpZ 4 (by decide), hpZ 5 (by decide), hpZ 6 (by decide), trivial⟩]
    exact XG.no (t := 12) rfl (vB h1) ⟨rfl, rfl, rfl⟩
   refine stepsP.cons (fun vals R hpZ => ?_) ?_
   ·rw [eS (l := [(4, (.bool (!(walkOkL ar rs f xs)) : Value)), (7, undef)]) ⟨hpZ 4 (by decide), hpZ 7 (by decide), trivial⟩]
    exact XG.no (t := 12) rfl (vB h1) ⟨rfl, rfl, rfl⟩
   refine stepsP.cons (fun vals R hpZ => ?_) ?_
   ·rw [eS (l := [(4, (.bool (!(walkOkL ar rs f xs)) : Value)), (8, undef)]) ⟨hpZ 4 (by decide), hpZ 8 (by decide), trivial⟩]
    refine XG.op (XOp.pickT (.bool (true)) (vB h1) rfl ?_)
    exact ⟨rfl, rfl, rfl⟩
   refine stepsP.cons (fun vals R hpZ => ?_) ?_
   ·rw [eS (l := [(9, (.bool (true) : Value))]) ⟨hpZ 9 (by decide), trivial⟩]
    refine XG.op (XOp.move (.bool (true)) rfl ?_)
    exact ⟨rfl, rfl, rfl⟩
   refine stepsP.cons (fun vals R hpZ => ?_) ?_
   ·rw [eS (l := [(10, (.bool (true) : Value))]) ⟨hpZ 10 (by decide), trivial⟩]
    exact XG.no (t := 18) rfl rfl ⟨rfl, rfl, rfl⟩
   refine stepsP.cons (fun vals R hpZ => ?_) ?_
   ·rw [eS (l := [(10, (.bool (true) : Value))]) ⟨hpZ 10 (by decide), trivial⟩]
    exact XG.no (t := 18) rfl rfl ⟨rfl, rfl, rfl⟩
   refine stepsP.cons (fun vals R hpZ => ?_) ?_
   ·rw [eS (l := [(10, (.bool (true) : Value)), (11, undef), (12, undef)]) ⟨hpZ 10 (by decide), hpZ 11 (by decide), hpZ 12 (by decide), trivial⟩]
    exact XG.no (t := 18) rfl rfl ⟨rfl, rfl, rfl⟩
   refine stepsP.cons (fun vals R hpZ => ?_) ?_
   ·rw [eS (l := [(10, (.bool (true) : Value))]) ⟨hpZ 10 (by decide), trivial⟩]
    exact XG.no (t := 18) rfl rfl ⟨rfl, rfl, rfl⟩
   refine stepsP.cons (fun vals R hpZ => ?_) ?_
   ·rw [eS (l := [(10, (.bool (true) : Value))]) ⟨hpZ 10 (by decide), trivial⟩]
    exact XG.no (t := 18) rfl rfl ⟨rfl, rfl, rfl⟩
   exact stepsP.nil
  ·intro vals hphi
   rw [eS (l := [(10, (.bool (true) : Value)), (13, undef), (14, undef), (15, undef)]) ⟨(hphi 10 (by decide)), (hphi 13 (by decide)), (hphi 14 (by decide)), (hphi 15 (by decide)), trivial⟩]
   show XL _ _ _ _ _ _ _ (cellsH b4 [(.slice none 0 0), (.slice none 0 0)] 31 :: cellsH b3 [gv, ysv] 57 :: cellsH b2 [fv, xsv] 57 :: cellsH b1 [arv, rsv] 37 :: L)
   refine XL.no (t := 18) rfl rfl ?_
   refine XL.no (t := 18) rfl rfl ?_
   refine XL.no (t := 18) rfl rfl ?_
   refine cX (XOp.pickT (.bool (true)) rfl rfl ?_)
   refine XL.nil ?_
   refine X.condT rfl ?_
   refine X.seq (X.region ?_)
   refine cX (XOp.build [(.slice none 0 0), (.slice none 0 0)] [(.slice none 0 0), (.slice none 0 0)] [(0, 1), (1, 1)] [] runUnderlying31 zeroValue31 rfl (.cons rfl sizeOf22 (.cons rfl sizeOf29 PlacesAre.nil)) rfl CellsAre.nil ?_)
   refine cX (XOp.storeN (vs := [(.slice none 0 0), (.slice none 0 0)]) [] _ [(.slice none 0 0), (.slice none 0 0)] sizeOf31 rfl rfl rfl (ones_cons rfl (ones_cons rfl ones_nil)) rfl rfl rfl ?_)
   refine XL.as (.bool (false)) rfl ?_
   refine XL.nil ?_
   refine X.ret (thenQ_ret (retEnd (L' := L) [.agg #[(.slice none 0 0), (.slice none 0 0)], .bool (false)] (.tuple #[.agg #[(.slice none 0 0), (.slice none 0 0)], .bool (false)]) (.cell rfl (loadNV [(.slice none 0 0), (.slice none 0 0)] isAgg31 sizeOf31 rfl (Rd.ownN [] rfl rfl)) (.tmp rfl .nil)) rfl rF rF (Sub.drop (Sub.drop (Sub.drop (Sub.drop sR)))) ?_))
   have e : chainJF ar rs f xs g ys = ([], [], false) := chainJF_no (by simp_all)
   exact ⟨_, _, by rw [e], by rw [e]; exact IntsF.nilV, by rw [e]; exact SlOf.nilV, rfl⟩
 ·rw [Bool.not_eq_true] at h1
  have hw1 : walkOkL ar rs f xs = true := by simpa using h1
  have hwb1 := walkOk_bound hw1
  have hwc1 := hwb1.1
  have hwd1 := hwb1.2.1
  have hcl1 : (chainL xs).length = xs.length := chainL_len
  have hcb1 := mem_getD_le (chain_mem hwb1.2.2)
  by_cases h2 : (!(walkOkL ar rs g ys)) = true
  ·have hw2 : walkOkL ar rs g ys = false := by simpa using h2
   refine X.draw [cellsH b4 [(.slice none 0 0), (.slice none 0 0)] 31, cellsH b3 [gv, ysv] 57, cellsH b2 [fv, xsv] 57, cellsH b1 [arv, rsv] 37] L 16 [[], [], [], [], [], [], [], [], [], [], [], [], [], [], [], []] [[], [], [0, 1], [2], [3], [4], [4], [4, 5, 6], [4, 7], [4, 8], [9], [10], [10], [10, 11, 12], [10], [10]] (phiL [fun us v => v = (.agg #[arv, rsv] : Value), fun us v => v = (.agg #[fv, xsv] : Value), fun us v => v = (.bool (walkOkL ar rs f xs) : Value), fun us v => v = (.bool (!(walkOkL ar rs f xs)) : Value), fun us v => v = (.bool (!(walkOkL ar rs f xs)) : Value), fun us v => v = (.agg #[arv, rsv] : Value), fun us v => v = (.agg #[gv, ysv] : Value), fun us v => v = (.bool (walkOkL ar rs g ys) : Value), fun us v => v = (.bool (!(walkOkL ar rs g ys)) : Value), fun us v => v = (.bool (!(walkOkL ar rs g ys)) : Value), fun us v => v = (.bool (!(walkOkL ar rs g ys)) : Value), fun us v => v = undef, fun us v => v = undef, fun us v => v = undef, fun us v => v = undef, fun us v => v = undef]) (ownL [fun us v => [], fun us v => [], fun us v => [], fun us v => [], fun us v => [], fun us v => [], fun us v => [], fun us v => [], fun us v => [], fun us v => [], fun us v => [], fun us v => [], fun us v => [], fun us v => [], fun us v => [], fun us v => []]) mixed rfl rfl (by kernel_rfl) ?_ ?_
   ·refine stepsP.cons (fun vals R hpZ => ?_) ?_
    ·refine XG.op (XOp.loadN [arv, rsv] isAgg37 sizeOf37 rfl rfl (Rd.ownN [_, _, _] rfl rfl) ?_)
     exact ⟨rfl, rfl, rfl⟩
    refine stepsP.cons (fun vals R hpZ => ?_) ?_
    ·refine XG.op (XOp.loadN [fv, xsv] isAgg57 sizeOf57 rfl rfl (Rd.ownN [_, _] rfl rfl) ?_)
     exact ⟨rfl, rfl, rfl⟩
    refine stepsP.cons (fun vals R hpZ => ?_) ?_
    ·rw [eS (l := [(0, (.agg #[arv, rsv] : Value)), (1, (.agg #[fv, xsv] : Value))]) ⟨hpZ 0 (by decide), hpZ 1 (by decide), trivial⟩]
     refine XG.op (XOp.call (args := [.agg #[arv, rsv], .agg #[fv, xsv]]) call103 rfl (sWalkOk_spec har hrs hf hxs (hla := (by first | assumption | rfl | omega | simp)) (hlr := (by first | assumption | rfl | omega | simp)) (hrb := (by first | assumption | rfl | omega | simp)) (hlf := (by first | assumption | rfl | omega | simp)) (hlss := (by first | assumption | rfl | omega | simp)) (hsb := (by first | assumption | rfl | omega | simp))) ?_)
     rintro _ _ _ _ ⟨rfl, rfl, rfl⟩
     exact ⟨rfl, rfl, rfl⟩
    refine stepsP.cons (fun vals R hpZ => ?_) ?_
    ·rw [eS (l := [(2, (.bool (walkOkL ar rs f xs) : Value))]) ⟨hpZ 2 (by decide), trivial⟩]
     refine XG.op (XOp.notB (b := walkOkL ar rs f xs) rfl ?_)
     exact ⟨rfl, rfl, rfl⟩
    refine stepsP.cons (fun vals R hpZ => ?_) ?_
    ·rw [eS (l := [(3, (.bool (!(walkOkL ar rs f xs)) : Value))]) ⟨hpZ 3 (by decide), trivial⟩]
     refine XG.op (XOp.move (.bool (!(walkOkL ar rs f xs))) rfl ?_)
     exact ⟨rfl, rfl, rfl⟩
    refine stepsP.cons (fun vals R hpZ => ?_) ?_
    ·rw [eS (l := [(4, (.bool (!(walkOkL ar rs f xs)) : Value))]) ⟨hpZ 4 (by decide), trivial⟩]
     refine XG.yes (t := 12) rfl (vB h1) (XOp.loadN [arv, rsv] isAgg37 sizeOf37 rfl rfl (Rd.ownN [_, _, _] rfl rfl) ?_)
     exact ⟨rfl, rfl, rfl⟩
    refine stepsP.cons (fun vals R hpZ => ?_) ?_
    ·rw [eS (l := [(4, (.bool (!(walkOkL ar rs f xs)) : Value))]) ⟨hpZ 4 (by decide), trivial⟩]
     refine XG.yes (t := 12) rfl (vB h1) (XOp.loadN [gv, ysv] isAgg57 sizeOf57 rfl rfl (Rd.ownN [_] rfl rfl) ?_)
     exact ⟨rfl, rfl, rfl⟩
    refine stepsP.cons (fun vals R hpZ => ?_) ?_
    ·rw [eS (l := [(4, (.bool (!(walkOkL ar rs f xs)) : Value)), (5, (.agg #[arv, rsv] : Value)), (6, (.agg #[gv, ysv] : Value))]) ⟨hpZ 4 (by decide), hpZ 5 (by decide), hpZ 6 (by decide), trivial⟩]
     refine XG.yes (t := 12) rfl (vB h1) (XOp.call (args := [.agg #[arv, rsv], .agg #[gv, ysv]]) call103 rfl (sWalkOk_spec har hrs hg hys (hla := (by first | assumption | rfl | omega | simp)) (hlr := (by first | assumption | rfl | omega | simp)) (hrb := (by first | assumption | rfl | omega | simp)) (hlf := (by first | assumption | rfl | omega | simp)) (hlss := (by first | assumption | rfl | omega | simp)) (hsb := (by first | assumption | rfl | omega | simp))) ?_)
     rintro _ _ _ _ ⟨rfl, rfl, rfl⟩
     exact ⟨rfl, rfl, rfl⟩
    refine stepsP.cons (fun vals R hpZ => ?_) ?_
    ·rw [eS (l := [(4, (.bool (!(walkOkL ar rs f xs)) : Value)), (7, (.bool (walkOkL ar rs g ys) : Value))]) ⟨hpZ 4 (by decide), hpZ 7 (by decide), trivial⟩]
     refine XG.yes (t := 12) rfl (vB h1) (XOp.notB (b := walkOkL ar rs g ys) rfl ?_)
     exact ⟨rfl, rfl, rfl⟩
    refine stepsP.cons (fun vals R hpZ => ?_) ?_
    ·rw [eS (l := [(4, (.bool (!(walkOkL ar rs f xs)) : Value)), (8, (.bool (!(walkOkL ar rs g ys)) : Value))]) ⟨hpZ 4 (by decide), hpZ 8 (by decide), trivial⟩]
     refine XG.op (XOp.pickF (.bool (!(walkOkL ar rs g ys))) (vB h1) rfl ?_)
     exact ⟨rfl, rfl, rfl⟩
    refine stepsP.cons (fun vals R hpZ => ?_) ?_
    ·rw [eS (l := [(9, (.bool (!(walkOkL ar rs g ys)) : Value))]) ⟨hpZ 9 (by decide), trivial⟩]
     refine XG.op (XOp.move (.bool (!(walkOkL ar rs g ys))) rfl ?_)
     exact ⟨rfl, rfl, rfl⟩
    refine stepsP.cons (fun vals R hpZ => ?_) ?_
    ·rw [eS (l := [(10, (.bool (!(walkOkL ar rs g ys)) : Value))]) ⟨hpZ 10 (by decide), trivial⟩]
     exact XG.no (t := 18) rfl (vB h2) ⟨rfl, rfl, rfl⟩
    refine stepsP.cons (fun vals R hpZ => ?_) ?_
    ·rw [eS (l := [(10, (.bool (!(walkOkL ar rs g ys)) : Value))]) ⟨hpZ 10 (by decide), trivial⟩]
     exact XG.no (t := 18) rfl (vB h2) ⟨rfl, rfl, rfl⟩
    refine stepsP.cons (fun vals R hpZ => ?_) ?_
    ·rw [eS (l := [(10, (.bool (!(walkOkL ar rs g ys)) : Value)), (11, undef), (12, undef)]) ⟨hpZ 10 (by decide), hpZ 11 (by decide), hpZ 12 (by decide), trivial⟩]
     exact XG.no (t := 18) rfl (vB h2) ⟨rfl, rfl, rfl⟩
    refine stepsP.cons (fun vals R hpZ => ?_) ?_
    ·rw [eS (l := [(10, (.bool (!(walkOkL ar rs g ys)) : Value))]) ⟨hpZ 10 (by decide), trivial⟩]
     exact XG.no (t := 18) rfl (vB h2) ⟨rfl, rfl, rfl⟩
    refine stepsP.cons (fun vals R hpZ => ?_) ?_
    ·rw [eS (l := [(10, (.bool (!(walkOkL ar rs g ys)) : Value))]) ⟨hpZ 10 (by decide), trivial⟩]
     exact XG.no (t := 18) rfl (vB h2) ⟨rfl, rfl, rfl⟩
    exact stepsP.nil
   ·intro vals hphi
    rw [eS (l := [(10, (.bool (!(walkOkL ar rs g ys)) : Value)), (13, undef), (14, undef), (15, undef)]) ⟨(hphi 10 (by decide)), (hphi 13 (by decide)), (hphi 14 (by decide)), (hphi 15 (by decide)), trivial⟩]
    show XL _ _ _ _ _ _ _ (cellsH b4 [(.slice none 0 0), (.slice none 0 0)] 31 :: cellsH b3 [gv, ysv] 57 :: cellsH b2 [fv, xsv] 57 :: cellsH b1 [arv, rsv] 37 :: L)
    refine XL.no (t := 18) rfl (vB h2) ?_
    refine XL.no (t := 18) rfl (vB h2) ?_
    refine XL.no (t := 18) rfl (vB h2) ?_
    refine cX (XOp.pickT (.bool (true)) (vB h2) rfl ?_)
    refine XL.nil ?_
    refine X.condT rfl ?_
    refine X.seq (X.region ?_)
    refine cX (XOp.build [(.slice none 0 0), (.slice none 0 0)] [(.slice none 0 0), (.slice none 0 0)] [(0, 1), (1, 1)] [] runUnderlying31 zeroValue31 rfl (.cons rfl sizeOf22 (.cons rfl sizeOf29 PlacesAre.nil)) rfl CellsAre.nil ?_)
    refine cX (XOp.storeN (vs := [(.slice none 0 0), (.slice none 0 0)]) [] _ [(.slice none 0 0), (.slice none 0 0)] sizeOf31 rfl rfl rfl (ones_cons rfl (ones_cons rfl ones_nil)) rfl rfl rfl ?_)
    refine XL.as (.bool (false)) rfl ?_
    refine XL.nil ?_
    refine X.ret (thenQ_ret (retEnd (L' := L) [.agg #[(.slice none 0 0), (.slice none 0 0)], .bool (false)] (.tuple #[.agg #[(.slice none 0 0), (.slice none 0 0)], .bool (false)]) (.cell rfl (loadNV [(.slice none 0 0), (.slice none 0 0)] isAgg31 sizeOf31 rfl (Rd.ownN [] rfl rfl)) (.tmp rfl .nil)) rfl rF rF (Sub.drop (Sub.drop (Sub.drop (Sub.drop sR)))) ?_))
    have e : chainJF ar rs f xs g ys = ([], [], false) := chainJF_no (by simp_all)
    exact ⟨_, _, by rw [e], by rw [e]; exact IntsF.nilV, by rw [e]; exact SlOf.nilV, rfl⟩
  ·rw [Bool.not_eq_true] at h2
   have hw2 : walkOkL ar rs g ys = true := by simpa using h2
   have hwb2 := walkOk_bound hw2
   have hwc2 := hwb2.1
   have hwd2 := hwb2.2.1
   have hcl2 : (chainL ys).length = ys.length := chainL_len
   have hcb2 := mem_getD_le (chain_mem hwb2.2.2)
   have htl9 : (turnL g (chainL ys)).length = (chainL ys).length := turnL_len
   have htb9 := mem_getD_le (turn_mem hwb2.1 (chain_mem hwb2.2.2))
   have hen9 : (endM g (chainL ys)).length ≤ 60 := by unfold endM; split <;> first | exact hwb2.1 | exact hcb2 _ (by omega)
   have het1 : endT ar rs f xs = endL f xs := by rw [endT, if_pos hw1]
   have het2 : endT ar rs g ys = endL g ys := by rw [endT, if_pos hw2]
   have hel1 := termOk_len (right_iff.1 (walkOk_end hw1)).2
   have hel2 := termOk_len (right_iff.1 (walkOk_end hw2)).2
   refine X.drawG [cellsH b4 [(.slice none 0 0), (.slice none 0 0)] 31, cellsH b3 [gv, ysv] 57, cellsH b2 [fv, xsv] 57, cellsH b1 [arv, rsv] 37] L 16 [[], [], [], [], [], [], [], [], [], [], [], [], [], [], [], []] [[], [], [0, 1], [2], [3], [4], [4], [4, 5, 6], [4, 7], [4, 8], [9], [10], [10], [10, 11, 12], [10], [10]] [[], [], [], [], [], [], [], [], [], [], [], [], [], [], [], []] (phiG [fun FF us v => v = (.agg #[arv, rsv] : Value), fun FF us v => v = (.agg #[fv, xsv] : Value), fun FF us v => v = (.bool (walkOkL ar rs f xs) : Value), fun FF us v => v = (.bool (!(walkOkL ar rs f xs)) : Value), fun FF us v => v = (.bool (!(walkOkL ar rs f xs)) : Value), fun FF us v => v = (.agg #[arv, rsv] : Value), fun FF us v => v = (.agg #[gv, ysv] : Value), fun FF us v => v = (.bool (walkOkL ar rs g ys) : Value), fun FF us v => v = (.bool (!(walkOkL ar rs g ys)) : Value), fun FF us v => v = (.bool (!(walkOkL ar rs g ys)) : Value), fun FF us v => v = (.bool (!(walkOkL ar rs g ys)) : Value), fun FF us v => v = (.agg #[arv, rsv] : Value), fun FF us v => v = (.agg #[fv, xsv] : Value), fun FF us v => ((v) : Value) = v ∧ (IntsF FF (v) (endT ar rs f xs)), fun FF us v => v = (.agg #[arv, rsv] : Value), fun FF us v => v = (.agg #[gv, ysv] : Value)]) (ownL [fun us v => [], fun us v => [], fun us v => [], fun us v => [], fun us v => [], fun us v => [], fun us v => [], fun us v => [], fun us v => [], fun us v => [], fun us v => [], fun us v => [], fun us v => [], fun us v => [], fun us v => [], fun us v => []]) mixed rfl rfl (by kernel_rfl) (by kernel_rfl) (MonoG.get (MonoG.cons (fun le h => h) (MonoG.cons (fun le h => h) (MonoG.cons (fun le h => h) (MonoG.cons (fun le h => h) (MonoG.cons (fun le h => h) (MonoG.cons (fun le h => h) (MonoG.cons (fun le h => h) (MonoG.cons (fun le h => h) (MonoG.cons (fun le h => h) (MonoG.cons (fun le h => h) (MonoG.cons (fun le h => h) (MonoG.cons (fun le h => h) (MonoG.cons (fun le h => h) (MonoG.cons (fun le h => ⟨h.1, h.2.mono le⟩) (MonoG.cons (fun le h => h) (MonoG.cons (fun le h => h) MonoG.nil))))))))))))))))) ?_ ?_
   ·refine stepsG.cons (fun vals Fs R leFs hpZ => ?_) ?_
    ·replace har := har.mono leFs
     replace hrs := hrs.mono leFs
     replace hf := hf.mono leFs
     replace hxs := hxs.mono leFs
     replace hg := hg.mono leFs
     replace hys := hys.mono leFs
     refine XG.op (XOp.loadN [arv, rsv] isAgg37 sizeOf37 rfl rfl (Rd.ownN [_, _, _] rfl rfl) ?_)
     exact ⟨rfl, rfl⟩
    refine stepsG.cons (fun vals Fs R leFs hpZ => ?_) ?_
    ·replace har := har.mono leFs
     replace hrs := hrs.mono leFs
     replace hf := hf.mono leFs
     replace hxs := hxs.mono leFs
     replace hg := hg.mono leFs
     replace hys := hys.mono leFs
     refine XG.op (XOp.loadN [fv, xsv] isAgg57 sizeOf57 rfl rfl (Rd.ownN [_, _] rfl rfl) ?_)
     exact ⟨rfl, rfl⟩
    refine stepsG.cons (fun vals Fs R leFs hpZ => ?_) ?_
    ·replace har := har.mono leFs
     replace hrs := hrs.mono leFs
     replace hf := hf.mono leFs
     replace hxs := hxs.mono leFs
     replace hg := hg.mono leFs
     replace hys := hys.mono leFs
     rw [eS (l := [(0, (.agg #[arv, rsv] : Value)), (1, (.agg #[fv, xsv] : Value))]) ⟨(hpZ 0 (by decide)), (hpZ 1 (by decide)), trivial⟩]
     refine XG.op (XOp.call (args := [.agg #[arv, rsv], .agg #[fv, xsv]]) call103 rfl (sWalkOk_spec har hrs hf hxs (hla := (by first | assumption | rfl | omega | simp)) (hlr := (by first | assumption | rfl | omega | simp)) (hrb := (by first | assumption | rfl | omega | simp)) (hlf := (by first | assumption | rfl | omega | simp)) (hlss := (by first | assumption | rfl | omega | simp)) (hsb := (by first | assumption | rfl | omega | simp))) ?_)
     rintro _ _ _ _ ⟨rfl, rfl, rfl⟩
     exact ⟨rfl, rfl⟩
    refine stepsG.cons (fun vals Fs R leFs hpZ => ?_) ?_
    ·rw [eS (l := [(2, (.bool (walkOkL ar rs f xs) : Value))]) ⟨(hpZ 2 (by decide)), trivial⟩]
     refine XG.op (XOp.notB (b := walkOkL ar rs f xs) rfl ?_)
     exact ⟨rfl, rfl⟩
    refine stepsG.cons (fun vals Fs R leFs hpZ => ?_) ?_
    ·rw [eS (l := [(3, (.bool (!(walkOkL ar rs f xs)) : Value))]) ⟨(hpZ 3 (by decide)), trivial⟩]
     refine XG.op (XOp.move (.bool (!(walkOkL ar rs f xs))) rfl ?_)
     exact ⟨rfl, rfl⟩
    refine stepsG.cons (fun vals Fs R leFs hpZ => ?_) ?_
    ·replace har := har.mono leFs
     replace hrs := hrs.mono leFs
     replace hf := hf.mono leFs
     replace hxs := hxs.mono leFs
     replace hg := hg.mono leFs
     replace hys := hys.mono leFs
     rw [eS (l := [(4, (.bool (!(walkOkL ar rs f xs)) : Value))]) ⟨(hpZ 4 (by decide)), trivial⟩]
     refine XG.yes (t := 12) rfl (vB h1) (XOp.loadN [arv, rsv] isAgg37 sizeOf37 rfl rfl (Rd.ownN [_, _, _] rfl rfl) ?_)
     exact ⟨rfl, rfl⟩
    refine stepsG.cons (fun vals Fs R leFs hpZ => ?_) ?_
    ·replace har := har.mono leFs
     replace hrs := hrs.mono leFs
     replace hf := hf.mono leFs
     replace hxs := hxs.mono leFs
     replace hg := hg.mono leFs
     replace hys := hys.mono leFs
     rw [eS (l := [(4, (.bool (!(walkOkL ar rs f xs)) : Value))]) ⟨(hpZ 4 (by decide)), trivial⟩]
     refine XG.yes (t := 12) rfl (vB h1) (XOp.loadN [gv, ysv] isAgg57 sizeOf57 rfl rfl (Rd.ownN [_] rfl rfl) ?_)
     exact ⟨rfl, rfl⟩
    refine stepsG.cons (fun vals Fs R leFs hpZ => ?_) ?_
    ·replace har := har.mono leFs
     replace hrs := hrs.mono leFs
     replace hf := hf.mono leFs
     replace hxs := hxs.mono leFs
     replace hg := hg.mono leFs
     replace hys := hys.mono leFs
     rw [eS (l := [(4, (.bool (!(walkOkL ar rs f xs)) : Value)), (5, (.agg #[arv, rsv] : Value)), (6, (.agg #[gv, ysv] : Value))]) ⟨(hpZ 4 (by decide)), (hpZ 5 (by decide)), (hpZ 6 (by decide)), trivial⟩]
     refine XG.yes (t := 12) rfl (vB h1) (XOp.call (args := [.agg #[arv, rsv], .agg #[gv, ysv]]) call103 rfl (sWalkOk_spec har hrs hg hys (hla := (by first | assumption | rfl | omega | simp)) (hlr := (by first | assumption | rfl | omega | simp)) (hrb := (by first | assumption | rfl | omega | simp)) (hlf := (by first | assumption | rfl | omega | simp)) (hlss := (by first | assumption | rfl | omega | simp)) (hsb := (by first | assumption | rfl | omega | simp))) ?_)
     rintro _ _ _ _ ⟨rfl, rfl, rfl⟩
     exact ⟨rfl, rfl⟩
    refine stepsG.cons (fun vals Fs R leFs hpZ => ?_) ?_
    ·rw [eS (l := [(4, (.bool (!(walkOkL ar rs f xs)) : Value)), (7, (.bool (walkOkL ar rs g ys) : Value))]) ⟨(hpZ 4 (by decide)), (hpZ 7 (by decide)), trivial⟩]
     refine XG.yes (t := 12) rfl (vB h1) (XOp.notB (b := walkOkL ar rs g ys) rfl ?_)
     exact ⟨rfl, rfl⟩
    refine stepsG.cons (fun vals Fs R leFs hpZ => ?_) ?_
    ·rw [eS (l := [(4, (.bool (!(walkOkL ar rs f xs)) : Value)), (8, (.bool (!(walkOkL ar rs g ys)) : Value))]) ⟨(hpZ 4 (by decide)), (hpZ 8 (by decide)), trivial⟩]
     refine XG.op (XOp.pickF (.bool (!(walkOkL ar rs g ys))) (vB h1) rfl ?_)
     exact ⟨rfl, rfl⟩
    refine stepsG.cons (fun vals Fs R leFs hpZ => ?_) ?_
    ·rw [eS (l := [(9, (.bool (!(walkOkL ar rs g ys)) : Value))]) ⟨(hpZ 9 (by decide)), trivial⟩]
     refine XG.op (XOp.move (.bool (!(walkOkL ar rs g ys))) rfl ?_)
     exact ⟨rfl, rfl⟩
    refine stepsG.cons (fun vals Fs R leFs hpZ => ?_) ?_
    ·replace har := har.mono leFs
     replace hrs := hrs.mono leFs
     replace hf := hf.mono leFs
     replace hxs := hxs.mono leFs
     replace hg := hg.mono leFs
     replace hys := hys.mono leFs
     rw [eS (l := [(10, (.bool (!(walkOkL ar rs g ys)) : Value))]) ⟨(hpZ 10 (by decide)), trivial⟩]
     refine XG.yes (t := 18) rfl (vB h2) (XOp.loadN [arv, rsv] isAgg37 sizeOf37 rfl rfl (Rd.ownN [_, _, _] rfl rfl) ?_)
     exact ⟨rfl, rfl⟩
    refine stepsG.cons (fun vals Fs R leFs hpZ => ?_) ?_
    ·replace har := har.mono leFs
     replace hrs := hrs.mono leFs
     replace hf := hf.mono leFs
     replace hxs := hxs.mono leFs
     replace hg := hg.mono leFs
     replace hys := hys.mono leFs
     rw [eS (l := [(10, (.bool (!(walkOkL ar rs g ys)) : Value))]) ⟨(hpZ 10 (by decide)), trivial⟩]
     refine XG.yes (t := 18) rfl (vB h2) (XOp.loadN [fv, xsv] isAgg57 sizeOf57 rfl rfl (Rd.ownN [_, _] rfl rfl) ?_)
     exact ⟨rfl, rfl⟩
    refine stepsG.cons (fun vals Fs R leFs hpZ => ?_) ?_
    ·replace har := har.mono leFs
     replace hrs := hrs.mono leFs
     replace hf := hf.mono leFs
     replace hxs := hxs.mono leFs
     replace hg := hg.mono leFs
     replace hys := hys.mono leFs
     rw [eS (l := [(10, (.bool (!(walkOkL ar rs g ys)) : Value)), (11, (.agg #[arv, rsv] : Value)), (12, (.agg #[fv, xsv] : Value))]) ⟨(hpZ 10 (by decide)), (hpZ 11 (by decide)), (hpZ 12 (by decide)), trivial⟩]
     refine XG.yes (t := 18) rfl (vB h2) (XOp.frzF <| XOp.call (args := [.agg #[arv, rsv], .agg #[fv, xsv]]) call104 rfl (sEndTerm_spec har hrs hf hxs (hla := (by first | assumption | rfl | omega | simp)) (hlr := (by first | assumption | rfl | omega | simp)) (hrb := (by first | assumption | rfl | omega | simp)) (hlf := (by first | assumption | rfl | omega | simp)) (hlss := (by first | assumption | rfl | omega | simp)) (hsb := (by first | assumption | rfl | omega | simp))) ?_)
     rintro v2 _ _ _ ⟨rfl, hs2, rfl⟩
     refine ⟨_, _, rfl, fun F1 le1 hz1 => ?_⟩
     replace har := har.mono le1
     replace hrs := hrs.mono le1
     replace hf := hf.mono le1
     replace hxs := hxs.mono le1
     replace hg := hg.mono le1
     replace hys := hys.mono le1
     have hf1 : IntsF F1 v2 ((endT ar rs f xs)) := intsH.fz (xs := (endT ar rs f xs)) hz1.fz
     exact ⟨⟨rfl, hf1⟩, rfl⟩
    refine stepsG.cons (fun vals Fs R leFs hpZ => ?_) ?_
    ·replace har := har.mono leFs
     replace hrs := hrs.mono leFs
     replace hf := hf.mono leFs
     replace hxs := hxs.mono leFs
     replace hg := hg.mono leFs
     replace hys := hys.mono leFs
     rw [eS (l := [(10, (.bool (!(walkOkL ar rs g ys)) : Value))]) ⟨(hpZ 10 (by decide)), trivial⟩]
     refine XG.yes (t := 18) rfl (vB h2) (XOp.loadN [arv, rsv] isAgg37 sizeOf37 rfl rfl (Rd.ownN [_, _, _] rfl rfl) ?_)
     exact ⟨rfl, rfl⟩
    refine stepsG.cons (fun vals Fs R leFs hpZ => ?_) ?_
    ·replace har := har.mono leFs
     replace hrs := hrs.mono leFs
     replace hf := hf.mono leFs
     replace hxs := hxs.mono leFs
     replace hg := hg.mono leFs
     replace hys := hys.mono leFs
     rw [eS (l := [(10, (.bool (!(walkOkL ar rs g ys)) : Value))]) ⟨(hpZ 10 (by decide)), trivial⟩]
     refine XG.yes (t := 18) rfl (vB h2) (XOp.loadN [gv, ysv] isAgg57 sizeOf57 rfl rfl (Rd.ownN [_] rfl rfl) ?_)
     exact ⟨rfl, rfl⟩
    exact stepsG.nil
   ·intro vals F2 le2 hphi
    obtain ⟨e13, f13_5ha⟩ := hphi 13 (by decide)
    generalize hu1 : ((vals 13)) = u1 at e13 f13_5ha
    rw [eS (l := [(10, (.bool (!(walkOkL ar rs g ys)) : Value)), (13, u1), (14, (.agg #[arv, rsv] : Value)), (15, (.agg #[gv, ysv] : Value))]) ⟨(hphi 10 (by decide)), hu1, (hphi 14 (by decide)), (hphi 15 (by decide)), trivial⟩]
    replace har := har.mono le2
    replace hrs := hrs.mono le2
    replace hf := hf.mono le2
    replace hxs := hxs.mono le2
    replace hg := hg.mono le2
    replace hys := hys.mono le2
    show XL _ _ _ _ _ _ _ (cellsH b4 [(.slice none 0 0), (.slice none 0 0)] 31 :: cellsH b3 [gv, ysv] 57 :: cellsH b2 [fv, xsv] 57 :: cellsH b1 [arv, rsv] 37 :: L)
    refine XL.yes (t := 18) rfl (vB h2) (XOp.frzF <| XOp.call (args := [.agg #[arv, rsv], .agg #[gv, ysv]]) call104 rfl (sEndTerm_spec har hrs hg hys (hla := (by first | assumption | rfl | omega | simp)) (hlr := (by first | assumption | rfl | omega | simp)) (hrb := (by first | assumption | rfl | omega | simp)) (hlf := (by first | assumption | rfl | omega | simp)) (hlss := (by first | assumption | rfl | omega | simp)) (hsb := (by first | assumption | rfl | omega | simp))) ?_)
    rintro v3 _ _ _ ⟨rfl, hs3, rfl⟩
    refine ⟨_, _, rfl, fun F3 le3 hz2 => ?_⟩
    replace har := har.mono le3
    replace hf := hf.mono le3
    replace hxs := hxs.mono le3
    replace hg := hg.mono le3
    replace hys := hys.mono le3
    replace f13_5ha := f13_5ha.mono le3
    have hf2 : IntsF F3 v3 ((endT ar rs g ys)) := intsH.fz (xs := (endT ar rs g ys)) hz2.fz
    refine XL.yes (t := 18) rfl (vB h2) (XOp.call (args := [u1, v3]) call96 rfl (SameTerm_spec f13_5ha hf2 (hbd := (.inl (by rw [het1]; omega)))) ?_)
    rintro _ _ _ _ ⟨rfl, rfl, rfl⟩
    refine XL.yes (t := 18) rfl (vB h2) (XOp.notD (p := ((endT ar rs f xs)) = ((endT ar rs g ys))) rfl ?_)
    refine cX (XOp.pickF (.bool (decide (¬(((endT ar rs f xs)) = ((endT ar rs g ys)))))) (vB h2) rfl ?_)
    refine XL.nil ?_
    refine X.condD (p := ¬(((endT ar rs f xs)) = ((endT ar rs g ys)))) rfl (fun h3 => ?_) (fun h3 => ?_)
    ·have hee : endL f xs ≠ endL g ys := by rw [← het1, ← het2]; simpa using h3
     refine X.seq (X.region ?_)
     refine cX (XOp.build [(.slice none 0 0), (.slice none 0 0)] [(.slice none 0 0), (.slice none 0 0)] [(0, 1), (1, 1)] [] runUnderlying31 zeroValue31 rfl (.cons rfl sizeOf22 (.cons rfl sizeOf29 PlacesAre.nil)) rfl CellsAre.nil ?_)
     refine cX (XOp.storeN (vs := [(.slice none 0 0), (.slice none 0 0)]) [] _ [(.slice none 0 0), (.slice none 0 0)] sizeOf31 rfl rfl rfl (ones_cons rfl (ones_cons rfl ones_nil)) rfl rfl rfl ?_)
     refine XL.as (.bool (false)) rfl ?_
     refine XL.nil ?_
     refine X.ret (thenQ_ret (retEnd (L' := L) [.agg #[(.slice none 0 0), (.slice none 0 0)], .bool (false)] (.tuple #[.agg #[(.slice none 0 0), (.slice none 0 0)], .bool (false)]) (.cell rfl (loadNV [(.slice none 0 0), (.slice none 0 0)] isAgg31 sizeOf31 rfl (Rd.ownN [] rfl rfl)) (.tmp rfl .nil)) rfl (FLe.trans le2 le3) rF (Sub.drop (Sub.drop (Sub.drop (Sub.drop sR)))) ?_))
     have e : chainJF ar rs f xs g ys = ([], [], false) := chainJF_no (by simp_all)
     exact ⟨_, _, by rw [e], by rw [e]; exact IntsF.nilV, by rw [e]; exact SlOf.nilV, rfl⟩
    ·have hee : endL f xs = endL g ys := by rw [← het1, ← het2]; simpa using h3
     refine X.skip (X.seq ?_)
     refine X.drawG [cellsH b4 [(.slice none 0 0), (.slice none 0 0)] 31, cellsH b3 [gv, ysv] 57, cellsH b2 [fv, xsv] 57, cellsH b1 [arv, rsv] 37] L 8 [[], [], [], [], [], [], [5], []] [[], [0], [], [2], [3], [1, 4], [5], [5]] [[], [], [], [], [], [], [], []] (phiG [fun FF us v => v = (.agg #[fv, xsv] : Value), fun FF us v => (.agg #[((aggAt v 0)), ((aggAt v 1))] : Value) = v ∧ (IntsF FF ((aggAt v 0)) (f)) ∧ (MovesF FF ((aggAt v 1)) (chainL xs)), fun FF us v => v = (.agg #[gv, ysv] : Value), fun FF us v => (.agg #[((aggAt v 0)), ((aggAt v 1))] : Value) = v ∧ (IntsF FF ((aggAt v 0)) (g)) ∧ (MovesF FF ((aggAt v 1)) (chainL ys)), fun FF us v => (.agg #[((aggAt v 0)), ((aggAt v 1))] : Value) = v ∧ (IntsF FF ((aggAt v 0)) (endM g (chainL ys))) ∧ (MovesF FF ((aggAt v 1)) (turnL g (chainL ys))), fun FF us v => (.tuple #[.agg #[((aggAt (tupAt v 0) 0)), ((aggAt (tupAt v 0) 1))], .bool ((joinC f (chainL xs) (turnL g (chainL ys))).2.2)] : Value) = v ∧ (IntsF FF ((aggAt (tupAt v 0) 0)) (joinC f (chainL xs) (turnL g (chainL ys))).1) ∧ (MovesF FF ((aggAt (tupAt v 0) 1)) (joinC f (chainL xs) (turnL g (chainL ys))).2.1), fun FF us v => v = (.agg #[((aggAt (tupAt (us.getD 0 undef) 0) 0)), ((aggAt (tupAt (us.getD 0 undef) 0) 1))] : Value), fun FF us v => v = (.bool ((joinC f (chainL xs) (turnL g (chainL ys))).2.2) : Value)]) (ownL [fun us v => [], fun us v => [], fun us v => [], fun us v => [], fun us v => [], fun us v => [], fun us v => [], fun us v => []]) mixed rfl rfl (by kernel_rfl) (by kernel_rfl) (MonoG.get (MonoG.cons (fun le h => h) (MonoG.cons (fun le h => ⟨h.1, h.2.1.mono le, h.2.2.mono le⟩) (MonoG.cons (fun le h => h) (MonoG.cons (fun le h => ⟨h.1, h.2.1.mono le, h.2.2.mono le⟩) (MonoG.cons (fun le h => ⟨h.1, h.2.1.mono le, h.2.2.mono le⟩) (MonoG.cons (fun le h => ⟨h.1, h.2.1.mono le, h.2.2.mono le⟩) (MonoG.cons (fun le h => h) (MonoG.cons (fun le h => h) MonoG.nil))))))))) ?_ ?_
     ·refine stepsG.cons (fun vals Fs R leFs hpZ => ?_) ?_
      ·replace har := har.mono leFs
       replace hf := hf.mono leFs
       replace hxs := hxs.mono leFs
       replace hg := hg.mono leFs
       replace hys := hys.mono leFs
       refine XG.op (XOp.loadN [fv, xsv] isAgg57 sizeOf57 rfl rfl (Rd.ownN [_, _] rfl rfl) ?_)
       exact ⟨rfl, rfl⟩
      refine stepsG.cons (fun vals Fs R leFs hpZ => ?_) ?_
      ·replace har := har.mono leFs
       replace hf := hf.mono leFs
       replace hxs := hxs.mono leFs
       replace hg := hg.mono leFs
       replace hys := hys.mono leFs
       rw [eS (l := [(0, (.agg #[fv, xsv] : Value))]) ⟨(hpZ 0 (by decide)), trivial⟩]
       refine XG.op (XOp.call (args := [.agg #[fv, xsv]]) call106 rfl (l20Walk_spec hf hxs (hlf := (by first | assumption | rfl | omega | simp)) (hlx := (by first | assumption | rfl | omega | simp)) (hxb := (hwb1.2.2))) ?_)
       rintro _ F8 _ le8 ⟨x9, x10, rfl, hr9, hr10, rfl⟩
       replace har := har.mono le8
       replace hg := hg.mono le8
       replace hys := hys.mono le8
       exact ⟨⟨rfl, hr9, hr10⟩, rfl⟩
      refine stepsG.cons (fun vals Fs R leFs hpZ => ?_) ?_
      ·replace har := har.mono leFs
       replace hg := hg.mono leFs
       replace hys := hys.mono leFs
       refine XG.op (XOp.loadN [gv, ysv] isAgg57 sizeOf57 rfl rfl (Rd.ownN [_] rfl rfl) ?_)
       exact ⟨rfl, rfl⟩
      refine stepsG.cons (fun vals Fs R leFs hpZ => ?_) ?_
      ·replace har := har.mono leFs
       replace hg := hg.mono leFs
       replace hys := hys.mono leFs
       rw [eS (l := [(2, (.agg #[gv, ysv] : Value))]) ⟨(hpZ 2 (by decide)), trivial⟩]
       refine XG.op (XOp.call (args := [.agg #[gv, ysv]]) call106 rfl (l20Walk_spec hg hys (hlf := (by first | assumption | rfl | omega | simp)) (hlx := (by first | assumption | rfl | omega | simp)) (hxb := (hwb2.2.2))) ?_)
       rintro _ F9 _ le9 ⟨x11, x12, rfl, hr11, hr12, rfl⟩
       exact ⟨⟨rfl, hr11, hr12⟩, rfl⟩
      refine stepsG.cons (fun vals Fs R leFs hpZ => ?_) ?_
      ·obtain ⟨e3, f3_6hr1, f3_6hr2⟩ := hpZ 3 (by decide)
       rw [eS (l := [(3, (.agg #[((aggAt (vals 3) 0)), ((aggAt (vals 3) 1))] : Value))]) ⟨(e3).symm, trivial⟩]
       refine XG.op (XOp.call (args := [.agg #[((aggAt (vals 3) 0)), ((aggAt (vals 3) 1))]]) call107 rfl (l20Turn_spec f3_6hr1 f3_6hr2 (hlf := (hwc2)) (hln := (by omega)) (hnb := (hcb2))) ?_)
       rintro _ F10 _ le10 ⟨x13, x14, rfl, hr13, hr14, rfl⟩
       replace f3_6hr1 := f3_6hr1.mono le10
       replace f3_6hr2 := f3_6hr2.mono le10
       exact ⟨⟨rfl, hr13, hr14⟩, rfl⟩
      refine stepsG.cons (fun vals Fs R leFs hpZ => ?_) ?_
      ·obtain ⟨e1, f1_6hr1, f1_6hr2⟩ := hpZ 1 (by decide)
       obtain ⟨e4, f4_6hr1, f4_6hr2⟩ := hpZ 4 (by decide)
       rw [eS (l := [(1, (.agg #[((aggAt (vals 1) 0)), ((aggAt (vals 1) 1))] : Value)), (4, (.agg #[((aggAt (vals 4) 0)), ((aggAt (vals 4) 1))] : Value))]) ⟨(e1).symm, (e4).symm, trivial⟩]
       refine XG.op (XOp.call (args := [.agg #[((aggAt (vals 1) 0)), ((aggAt (vals 1) 1))], .agg #[((aggAt (vals 4) 0)), ((aggAt (vals 4) 1))]]) call105 rfl (l20Join_spec f1_6hr1 f1_6hr2 f4_6hr1 f4_6hr2 (hlf := (hwc1)) (hln := (by omega)) (hlk := (by omega)) (hnb := (hcb1)) (hkb := (htb9))) ?_)
       rintro _ F11 _ le11 ⟨x15, x16, rfl, hr15, hr16, rfl⟩
       replace f1_6hr1 := f1_6hr1.mono le11
       replace f1_6hr2 := f1_6hr2.mono le11
       replace f4_6hr1 := f4_6hr1.mono le11
       replace f4_6hr2 := f4_6hr2.mono le11
       exact ⟨⟨rfl, hr15, hr16⟩, rfl⟩
      refine stepsG.cons (fun vals Fs R leFs hpZ => ?_) ?_
      ·obtain ⟨e5, f5_6hr1, f5_6hr2⟩ := hpZ 5 (by decide)
       rw [eS (l := [(5, (.tuple #[.agg #[((aggAt (tupAt (vals 5) 0) 0)), ((aggAt (tupAt (vals 5) 0) 1))], .bool ((joinC f (chainL xs) (turnL g (chainL ys))).2.2)] : Value))]) ⟨(e5).symm, trivial⟩]
       refine XG.op (XOp.extract (.agg #[((aggAt (tupAt (vals 5) 0) 0)), ((aggAt (tupAt (vals 5) 0) 1))]) rfl rfl ?_)
       exact ⟨rfl, rfl⟩
      refine stepsG.cons (fun vals Fs R leFs hpZ => ?_) ?_
      ·obtain ⟨e5, f5_6hr1, f5_6hr2⟩ := hpZ 5 (by decide)
       rw [eS (l := [(5, (.tuple #[.agg #[((aggAt (tupAt (vals 5) 0) 0)), ((aggAt (tupAt (vals 5) 0) 1))], .bool ((joinC f (chainL xs) (turnL g (chainL ys))).2.2)] : Value))]) ⟨(e5).symm, trivial⟩]
       refine XG.op (XOp.extract (.bool ((joinC f (chainL xs) (turnL g (chainL ys))).2.2)) rfl rfl ?_)
       exact ⟨rfl, rfl⟩
      exact stepsG.nil
     ·intro vals F12 le12 hphi
      obtain ⟨e1, f1_6hr1, f1_6hr2⟩ := hphi 1 (by decide)
      obtain ⟨e3, f3_6hr1, f3_6hr2⟩ := hphi 3 (by decide)
      obtain ⟨e4, f4_6hr1, f4_6hr2⟩ := hphi 4 (by decide)
      obtain ⟨e5, f5_6hr1, f5_6hr2⟩ := hphi 5 (by decide)
      have e6 : vals 6 = (.agg #[((aggAt (tupAt (vals 5) 0) 0)), ((aggAt (tupAt (vals 5) 0) 1))] : Value) := hphi 6 (by decide)
      generalize hu2 : ((aggAt (vals 1) 0)) = u2 at e1 f1_6hr1 f1_6hr2 e3 f3_6hr1 f3_6hr2 e4 f4_6hr1 f4_6hr2 e5 f5_6hr1 f5_6hr2 e6
      generalize hu3 : ((aggAt (vals 1) 1)) = u3 at e1 f1_6hr1 f1_6hr2 e3 f3_6hr1 f3_6hr2 e4 f4_6hr1 f4_6hr2 e5 f5_6hr1 f5_6hr2 e6
      generalize hu4 : ((aggAt (vals 3) 0)) = u4 at e1 f1_6hr1 f1_6hr2 e3 f3_6hr1 f3_6hr2 e4 f4_6hr1 f4_6hr2 e5 f5_6hr1 f5_6hr2 e6
      generalize hu5 : ((aggAt (vals 3) 1)) = u5 at e1 f1_6hr1 f1_6hr2 e3 f3_6hr1 f3_6hr2 e4 f4_6hr1 f4_6hr2 e5 f5_6hr1 f5_6hr2 e6
      generalize hu6 : ((aggAt (vals 4) 0)) = u6 at e1 f1_6hr1 f1_6hr2 e3 f3_6hr1 f3_6hr2 e4 f4_6hr1 f4_6hr2 e5 f5_6hr1 f5_6hr2 e6
      generalize hu7 : ((aggAt (vals 4) 1)) = u7 at e1 f1_6hr1 f1_6hr2 e3 f3_6hr1 f3_6hr2 e4 f4_6hr1 f4_6hr2 e5 f5_6hr1 f5_6hr2 e6
      generalize hu8 : ((aggAt (tupAt (vals 5) 0) 0)) = u8 at e1 f1_6hr1 f1_6hr2 e3 f3_6hr1 f3_6hr2 e4 f4_6hr1 f4_6hr2 e5 f5_6hr1 f5_6hr2 e6
      generalize hu9 : ((aggAt (tupAt (vals 5) 0) 1)) = u9 at e1 f1_6hr1 f1_6hr2 e3 f3_6hr1 f3_6hr2 e4 f4_6hr1 f4_6hr2 e5 f5_6hr1 f5_6hr2 e6
      rw [eS (l := [(5, (.tuple #[.agg #[u8, u9], .bool ((joinC f (chainL xs) (turnL g (chainL ys))).2.2)] : Value)), (6, (.agg #[u8, u9] : Value)), (7, (.bool ((joinC f (chainL xs) (turnL g (chainL ys))).2.2) : Value))]) ⟨(e5).symm, e6, (hphi 7 (by decide)), trivial⟩]
      show XL _ _ _ _ _ _ _ (cellsH b4 [(.slice none 0 0), (.slice none 0 0)] 31 :: cellsH b3 [gv, ysv] 57 :: cellsH b2 [fv, xsv] 57 :: cellsH b1 [arv, rsv] 37 :: L)
      refine cX (XOp.storeN (vs := [u8, u9]) [] _ [u8, u9] sizeOf31 rfl rfl rfl (ones_cons (one_sl (IntsF.isSl f5_6hr1)) (ones_cons (one_sl (MovesF.isSl f5_6hr2)) ones_nil)) rfl rfl rfl ?_)
      refine XL.as (.bool ((joinC f (chainL xs) (turnL g (chainL ys))).2.2)) rfl ?_
      refine XL.nil ?_
      refine X.ret (retEnd (L' := L) [.agg #[u8, u9], .bool ((joinC f (chainL xs) (turnL g (chainL ys))).2.2)] (.tuple #[.agg #[u8, u9], .bool ((joinC f (chainL xs) (turnL g (chainL ys))).2.2)]) (.cell rfl (loadNV [u8, u9] isAgg31 sizeOf31 rfl (Rd.ownN [] rfl rfl)) (.tmp rfl .nil)) rfl (FLe.trans (FLe.trans le2 le3) le12) rF (Sub.drop (Sub.drop (Sub.drop (Sub.drop sR)))) ?_)
      have e := chainJF_yes hw1 hw2 hee
      rw [e]
      exact ⟨_, _, rfl, f5_6hr1, f5_6hr2, rfl⟩
end Go.Proofs.YtiaanelimbmniaaGreat
