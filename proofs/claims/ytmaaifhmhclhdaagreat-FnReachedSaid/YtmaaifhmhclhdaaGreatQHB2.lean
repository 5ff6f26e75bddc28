/-
  Walks, one after the other (part 3).
-/
import Derived.Test.YtmaaifhmhclhdaaGreatQHL1
import Derived.Test.YtmaaifhmhclhdaaGreatQHB1
set_option linter.unusedSimpArgs false
set_option linter.unusedVariables false
namespace Go.Proofs.YtmaaifhmhclhdaaGreat
open Go X M Tryz

/- spec.l2Order -/
theorem l2Order_spec {F : FH} {L : List HP}  {tv : Value} {t : List Int} (ht : IntsF F tv t) (hlt : t.length ≤ 4000000) :
    Does prog 203 [tv] F (L) (fun v F' L' => (∃ (a : Value), ∃ (os : List Int), (a : Value) = v ∧ (IntsF F' a os) ∧ (os.length ≤ t.length)) ∧ L = L') := by
 refine Does.of_X func203 rfl rfl rfl (X.seq (X.region (XL.as ((.slice none 0 0)) rfl (XL.nil (X.seq (X.region (cX (XOp.buildSlice (s := 1) [] [.int .i64 (0)] [] runUnderlying24 sizeOf2 zeroValue2 rfl (by decide) rfl CellsAre.nil rfl ?_))))))))
 intro v1 hv1
 refine XL.as (v1) rfl (XL.nil (X.seq (X.seq (X.region (XL.as (.int .i64 (0)) rfl (XL.nil (X.block (X.loop (α := Nat × Value × List Int × FH) (fun xQ => [(0, tv), (3, xQ.2.1), (4, .int .i64 (((xQ.1 : Nat) : Int)))]) (fun xQ => intsH 2 xQ.2.1 xQ.2.2.1 :: L) (fun xQ F' => xQ.2.2.2 = F' ∧ F ≤ xQ.2.2.2 ∧ (IsSl xQ.2.1) ∧ (xQ.1 ≤ t.length) ∧ (xQ.2.2.1.length ≤ xQ.1)) (fun xQ => t.length - xQ.1) (0, v1, [], F) ⟨rfl, rfl, rfl, trivial⟩ (sC sR) ⟨rfl, FLe.refl _, ((isSl_lit hv1)), (Nat.zero_le _), (Nat.le_refl _)⟩ ?_))))))))
 rintro ⟨k, ov, os, G1⟩ rE _ _ ⟨rfl, leG, hov, hk, hok⟩
 show X _ _ _ _ (envs [(0, tv), (3, ov), (4, .int .i64 ((k : Int)))] rE) _ (intsH 2 ov os :: L)
 replace leG : F ≤ G1 := leG
 dsimp only at hov hk hok
 have leG1 := leG
 replace ht := ht.mono leG1
 refine X.seq (X.seq (X.region (XL.mv (.int .i64 ((k : Int))) rfl (XL.mv (tv) rfl (cX (XOp.lenS runUnderlying24 rfl ht.slv (cX (XOp.lss rfl rfl (XL.nil ?_)))))))))
 refine X.condD (p := (k : Int) < (t.length : Int)) rfl (fun h1 => ?_) (fun h1 => ?_)
 ·refine X.skip (X.seq (X.block (X.seq (X.region (XL.mv (tv) rfl (XL.mv (.int .i64 ((k : Int))) rfl (cX (XOp.indexS k runUnderlying24 sizeOf2 rfl rfl rfl ht.slv (by omega) (Nat.mul_one _) (cX (XOp.load1 isAgg2 rfl (ht.rd (by omega)) (cX (XOp.lss rfl rfl (XL.mv (.bool (decide ((t.getD k 0 : Int) < 0))) rfl ?_)))))))))))))
  by_cases h2 : (t.getD k 0 : Int) < 0
  ·refine XL.yes (t := 17) rfl (vT h2) (XOp.move (ov) rfl (XL.yes (t := 17) rfl (vT h2) (XOp.move (tv) rfl (XL.yes (t := 17) rfl (vT h2) (XOp.move (.int .i64 ((k : Int))) rfl (XL.yes (t := 17) rfl (vT h2) (XOp.indexS k runUnderlying24 sizeOf2 rfl rfl rfl ht.slv (by omega) (Nat.mul_one _) (XL.yes (t := 17) rfl (vT h2) (XOp.load1 isAgg2 rfl (ht.rd (by omega)) (XL.yes (t := 17) rfl (vT h2) (XOp.lend [] _ _ rfl (fun F1 le1 hz1 => ?_))))))))))))
   have hf1 : IntsF _ ov os := intsH.fz (xs := os) hz1
   refine id (XOp.call (args := [ov, .int .i64 (t.getD k 0)]) call193 rfl (l1Has_spec (n := t.getD k 0) hf1 (hbd := (by first | assumption | rfl | omega | simp))) ?_)
   rintro _ _ _ _ ⟨rfl, rfl, rfl⟩
   show XL _ _ _ _ _ _ _ (intsH 2 ov os :: L)
   refine XL.yes (t := 17) rfl (vT h2) (XOp.notD rfl (cX (XOp.pickT (.bool (decide (¬((t.getD k 0) ∈ os)))) (vT h2) rfl (XL.nil ?_))))
   refine X.condD (p := ¬((t.getD k 0) ∈ os)) rfl (fun h3 => ?_) (fun h3 => ?_)
   ·refine X.region (XL.mv (ov) rfl (XL.mv (tv) rfl (XL.mv (.int .i64 ((k : Int))) rfl (cX (XOp.indexS k runUnderlying24 sizeOf2 rfl rfl rfl ht.slv (by omega) (Nat.mul_one _) (cX (XOp.load1 isAgg2 rfl (ht.rd (by omega)) (cX (XOp.buildSlice (s := 1) [.int .i64 (t.getD k 0)] [.int .i64 (0)] [(0, [.int .i64 (t.getD k 0)])] runUnderlying24 sizeOf2 zeroValue2 rfl (by decide) rfl (.cons rfl CellsAre.nil) rfl ?_)))))))))
    intro v2 hv2
    refine cX (XOp.append1 (u := t.getD k 0) [_] _ runUnderlying24 typeInfo2 rfl rfl rfl rfl rfl rfl (SlV.own [] rfl) (Rd.sl [] rfl rfl) (by (try simp only [List.length_append, List.length_nil, List.length_cons, List.length_singleton, List.length_take, List.length_drop]); omega) ?_)
    intro v3 hs1 hn1
    refine XL.as (v3) rfl (XL.nil (X.region (XL.mv (.int .i64 ((k : Int))) rfl (cX (XOp.addR (((k + 1 : Nat) : Int)) rfl rfl (by omega) (by omega) (XL.as (.int .i64 (((k + 1 : Nat) : Int))) rfl (XL.nil ?_)))))))
    exact ⟨(k + 1, v3, os ++ [t.getD k 0], G1), _, leG1, rF, ⟨rfl, rfl, rfl, trivial⟩, (sD (sC sR)), ⟨rfl, leG1, (hs1), (by (try dsimp only) <;> omega), (by (try dsimp only); (try rw [List.length_append]); (try simp only [List.length_singleton]); omega)⟩, (by omega)⟩
   refine X.skip (X.region (XL.mv (.int .i64 ((k : Int))) rfl (cX (XOp.addR (((k + 1 : Nat) : Int)) rfl rfl (by omega) (by omega) (XL.as (.int .i64 (((k + 1 : Nat) : Int))) rfl (XL.nil ?_))))))
   exact ⟨(k + 1, ov, os, G1), _, leG1, rF, ⟨rfl, rfl, rfl, trivial⟩, (sC sR), ⟨rfl, leG1, (hov), (by (try dsimp only) <;> omega), (by (try dsimp only); (try rw [List.length_append]); (try simp only [List.length_singleton]); omega)⟩, (by omega)⟩
  refine XL.no (t := 17) rfl (vF h2) (XL.no (t := 17) rfl (vF h2) (XL.no (t := 17) rfl (vF h2) (XL.no (t := 17) rfl (vF h2) (XL.no (t := 17) rfl (vF h2) (XL.no (t := 17) rfl (vF h2) (XL.no (t := 17) rfl (vF h2) (cX (XOp.pickF (.bool (false)) (vF h2) rfl (XL.nil (X.condF rfl ?_))))))))))
  refine X.skip (X.region (XL.mv (.int .i64 ((k : Int))) rfl (cX (XOp.addR (((k + 1 : Nat) : Int)) rfl rfl (by omega) (by omega) (XL.as (.int .i64 (((k + 1 : Nat) : Int))) rfl (XL.nil ?_))))))
  exact ⟨(k + 1, ov, os, G1), _, leG1, rF, ⟨rfl, rfl, rfl, trivial⟩, (sC sR), ⟨rfl, leG1, (hov), (by (try dsimp only) <;> omega), (by (try dsimp only); (try rw [List.length_append]); (try simp only [List.length_singleton]); omega)⟩, (by omega)⟩
 refine X.exit (thenQ_exit (thenQ_exit (blockQ_exit (X.seq (X.region (XL.mv (ov) rfl (XL.as (ov) rfl (XL.nil (X.freezeF [] _ _ rfl (fun F2 le2 hz2 => ?_))))))))))
 have hf2 : IntsF F2 ov os := intsH.fz (xs := os) hz2.fz
 refine X.ret (retEnd (L' := L) [ov] (ov) (.tmp rfl .nil) rfl (FLe.trans leG1 le2) rF sR ?_)
 exact ⟨⟨_, _, rfl, hf2, by omega⟩, rfl⟩

/- spec.l6DrawRule -/
set_option maxHeartbeats 2000000 in
set_option maxRecDepth 20000 in
theorem l6DrawRule_spec {F : FH} {L : List HP} {cb : Nat} {bsv : Value} {bs : List Int} (hbs : BytesF F bsv bs) (hbl : bs.length ≤ 4000000) {arv : Value} {ar : List Int} (har : IntsF F arv ar) (hso : sigOk ar = true) :
    Does prog 184 [ptr cb 0, .agg #[arv]] F (curH .i64 134 cb bsv bs.length :: L) (fun v F' L' => (∃ (a : Value), ∃ (b : Value), (.agg #[a, b] : Value) = v ∧ (SomesF F' a (fun u => u.length ≤ 2000)) ∧ (SomesF F' b (fun w => w.length ≤ 2000))) ∧ curH .i64 134 cb bsv bs.length :: L = L') := by
 refine Does.of_X func184 rfl rfl rfl ?_
 have hsl := sigOk_spec hso
 refine X.seq (X.region (cX (XOp.box [arv] rfl rfl ?_)))
 intro b1
 refine cX (XOp.alloc [(.slice none 0 0), (.slice none 0 0)] zeroValue117 rfl ?_)
 intro b2
 refine XL.nil (X.seq ?_)
 refine X.drawG [cellsH b2 [(.slice none 0 0), (.slice none 0 0)] 117, cellsH b1 [arv] 26, curH .i64 134 cb bsv bs.length] L 5 [[], [], [], [], [3]] [[], [], [], [2], [3]] [[], [], [], [], []] (phiG [fun FF us v => v = ptr cb 0, fun FF us v => v = (.agg #[arv] : Value), fun FF us v => v = ptr cb 0, fun FF us v => (.int .i64 (((intAt v))) : Value) = v ∧ (0 ≤ ((intAt v)) ∧ (((intAt v)) < 2 ∨ ((intAt v)) = 0)), fun FF us v => v = (.int .i64 (2 + (((intAt (us.getD 0 undef))))) : Value)]) (ownL [fun us v => [], fun us v => [], fun us v => [], fun us v => [], fun us v => []]) mixed rfl rfl (by kernel_rfl) (by kernel_rfl) (MonoG.get (mC (fun le h => h) (mC (fun le h => h) (mC (fun le h => h) (mC (fun le h => ⟨h.1, h.2⟩) (mC (fun le h => h) MonoG.nil)))))) ?_ ?_
 ·refine gC (fun vals Fs R leFs hpZ => ?_) ?_
  ·refine XG.op (XOp.move (ptr cb 0) rfl ?_)
   exact ⟨rfl, rfl⟩
  refine gC (fun vals Fs R leFs hpZ => ?_) ?_
  ·replace hbs := hbs.mono leFs
   replace har := har.mono leFs
   refine XG.op (XOp.loadN [arv] isAgg26 sizeOf26 rfl rfl (Rd.ownN [_] rfl rfl) ?_)
   exact ⟨rfl, rfl⟩
  refine gC (fun vals Fs R leFs hpZ => ?_) ?_
  ·refine XG.op (XOp.move (ptr cb 0) rfl ?_)
   exact ⟨rfl, rfl⟩
  refine gC (fun vals Fs R leFs hpZ => ?_) ?_
  ·replace hbs := hbs.mono leFs
   replace har := har.mono leFs
   rw [eS (l := [(2, ptr cb 0)]) ⟨(hpZ 2 (by decide)), trivial⟩]
   refine XG.op (XOp.call (args := [ptr cb 0, .int .i64 (2)]) call122 rfl (Does.at [_, _] (l1Below_spec (n := 2) hbs (by omega) (hn := (by first | assumption | rfl | omega | simp)))) ?_)
   rintro _ _ _ _ ⟨⟨rfl, x2, rfl, hr2⟩, rfl⟩
   exact ⟨⟨rfl, hr2⟩, rfl⟩
  refine gC (fun vals Fs R leFs hpZ => ?_) ?_
  ·obtain ⟨e3, f3_1hx⟩ := hpZ 3 (by decide)
   rw [eS (l := [(3, (.int .i64 (((intAt (vals 3)))) : Value))]) ⟨(e3).symm, trivial⟩]
   refine XG.op (XOp.addR (2 + (((intAt (vals 3))))) rfl rfl (by omega) (by omega) ?_)
   exact ⟨rfl, rfl⟩
  exact stepsG.nil
 intro vals F3 le3 hphi
 obtain ⟨e3, f3_1hx⟩ := hphi 3 (by decide)
 have e4 : vals 4 = (.int .i64 (2 + (((intAt (vals 3))))) : Value) := hphi 4 (by decide)
 generalize hu1 : (intAt (vals 3)) = u1 at e3 f3_1hx e4
 rw [eS (l := [(0, ptr cb 0), (1, (.agg #[arv] : Value)), (3, (.int .i64 ((u1)) : Value)), (4, (.int .i64 (2 + ((u1))) : Value))]) ⟨(hphi 0 (by decide)), (hphi 1 (by decide)), (e3).symm, e4, trivial⟩]
 replace hbs := hbs.mono le3
 replace har := har.mono le3
 show XL _ _ _ _ _ _ _ (cellsH b2 [(.slice none 0 0), (.slice none 0 0)] 117 :: cellsH b1 [arv] 26 :: curH .i64 134 cb bsv bs.length :: L)
 refine cX (XOp.call (args := [ptr cb 0, .agg #[arv], .int .i64 (((2 + ((u1))).toNat : Nat) : Int), .int .i64 (2)]) call174 (by rw [show (((2 + ((u1))).toNat : Nat) : Int) = 2 + ((u1)) from by omega]; rfl) (Does.atO [_, _] (l1DrawTerm_spec ((2 + ((u1))).toNat) (vs := 2) hbs (by omega) har (hso := (by first | assumption | rfl | omega | simp)) (hdp := (by first | assumption | rfl | omega | simp)) (hvs := (by first | assumption | rfl | omega | simp)))) ?_)
 rintro _ F4 _ le4 ⟨x4, ⟨rfl, hsl1⟩, rfl⟩
 replace hbs := hbs.mono le4
 replace har := har.mono le4
 show XL _ _ _ _ _ _ _ (drawnH 2 x4 (fun t => goodT ar t ∧ 1 ≤ t.length ∧ t.length ≤ szT ((2 + ((u1))).toNat)) :: cellsH b2 [(.slice none 0 0), (.slice none 0 0)] 117 :: cellsH b1 [arv] 26 :: curH .i64 134 cb bsv bs.length :: L)
 refine XL.undraw [] rfl (fun t1 hq9 => ?_)
 obtain ⟨q1, q2, q3⟩ := hq9
 show XL _ _ _ _ _ _ _ (intsH 2 x4 t1 :: cellsH b2 [(.slice none 0 0), (.slice none 0 0)] 117 :: cellsH b1 [arv] 26 :: curH .i64 134 cb bsv bs.length :: L)
 have hz9 := szT_le (d := (2 + ((u1))).toNat) (e := 3) (by omega)
 have hz8 : szT 3 = 40 := rfl
 have hz7 : szT 1 = 4 := rfl
 refine XL.as (x4) rfl (XL.nil (X.seq (X.seq (X.region (XL.mv (x4) rfl (cX (XOp.indexS 0 runUnderlying24 sizeOf2 rfl rfl rfl (intsH.slv [] rfl) (by omega) (Nat.mul_one _) (cX (XOp.load1 isAgg2 rfl (intsH.rd [] rfl (by omega)) (cX (XOp.lss rfl rfl (XL.nil ?_))))))))))))
 refine X.condD (p := (t1.getD 0 0 : Int) < 0) rfl (fun h1 => ?_) (fun h1 => ?_)
 ·refine X.seq (X.region (XL.mv (ptr cb 0) rfl (cX (XOp.fieldP (0) runUnderlying26 rfl sizeOf24 (by decide) rfl rfl (cX (XOp.load1 isAgg24 rfl (Rd.own [_, _] rfl rfl) (cX (XOp.lenS runUnderlying24 rfl har.slv (cX (XOp.call (args := [ptr cb 0, .int .i64 ((ar.length : Int))]) call122 rfl (Does.at [_, _, _] (l1Below_spec (n := (ar.length : Int)) hbs (by omega) (hn := (by first | assumption | rfl | omega | simp)))) ?_))))))))))
  rintro _ _ _ _ ⟨⟨rfl, x5, rfl, hr3⟩, rfl⟩
  show XL _ _ _ _ _ _ _ (intsH 2 x4 t1 :: cellsH b2 [(.slice none 0 0), (.slice none 0 0)] 117 :: cellsH b1 [arv] 26 :: curH .i64 134 cb bsv bs.length :: L)
  refine XL.as (.int .i64 (x5)) rfl (XL.nil (X.seq (X.region (XL.mv (.int .i64 (x5)) rfl (cX (XOp.buildSlice (s := 1) [.int .i64 (x5)] [.int .i64 (0)] [(0, [.int .i64 (x5)])] runUnderlying24 sizeOf2 zeroValue2 rfl (by decide) rfl (.cons rfl CellsAre.nil) rfl ?_))))))
  intro v1 hv1
  refine XL.as (v1) rfl (XL.nil (X.seq (X.region ?_)))
  show XL _ _ _ _ _ _ _ (intsH 2 v1 ([x5] : List Int) :: intsH 2 x4 t1 :: cellsH b2 [(.slice none 0 0), (.slice none 0 0)] 117 :: cellsH b1 [arv] 26 :: curH .i64 134 cb bsv bs.length :: L)
  skip
  refine cX (XOp.fieldP (0) runUnderlying26 rfl sizeOf24 (by decide) rfl rfl (cX (XOp.load1 isAgg24 rfl (Rd.own [_, _, _] rfl rfl) (XL.mv (.int .i64 (x5)) rfl (cX (XOp.indexS ((x5).toNat) runUnderlying24 sizeOf2 rfl rfl (by omega) har.slv (by omega) (Nat.mul_one _) (cX (XOp.load1 isAgg2 rfl (har.rd (by omega)) (XL.as (.int .i64 (ar.getD ((x5).toNat) 0)) rfl ?_)))))))))
  have hfr : 0 ≤ x5 ∧ x5 < (ar.length : Int) := by omega
  have hsp := (sigOk_spec hso).2.2 (x5).toNat (by omega)
  obtain ⟨haK, hKe⟩ : ∃ q : Nat, q = (ar.getD ((x5).toNat) 0).toNat := ⟨_, rfl⟩
  have hK3 : haK ≤ 3 := by omega
  have hKa : arity ar x5 = (haK : Int) := by rw [arity, if_neg (by omega)]; omega
  refine XL.nil (X.block (X.loop (α := Nat × Value × List Int × List Int × FH) (fun xQ => [(0, ptr cb 0), (3, ptr b1 0), (4, ptr b2 0), (5, xQ.2.1), (7, .int .i64 (((xQ.1 : Nat) : Int)))]) (fun xQ => intsH 2 xQ.2.1 xQ.2.2.1 :: intsH 2 x4 t1 :: cellsH b2 [(.slice none 0 0), (.slice none 0 0)] 117 :: cellsH b1 [arv] 26 :: curH .i64 134 cb bsv bs.length :: L) (fun xQ F' => xQ.2.2.2.2 = F' ∧ F4 ≤ xQ.2.2.2.2 ∧ (IsSl xQ.2.1) ∧ (xQ.2.2.1 = x5 :: xQ.2.2.2.1) ∧ (xQ.1 + (haK - xQ.1) = haK ∧ xQ.1 ≤ haK) ∧ (goodN ar xQ.2.2.2.1 (haK - xQ.1)) ∧ (xQ.2.2.2.1.length ≤ (haK - xQ.1) * (szT 1))) (fun xQ => xQ.1) ((ar.getD ((x5).toNat) 0).toNat, v1, [x5], [], F4) ⟨rfl, rfl, rfl, rfl, (vI (by omega)), trivial⟩ (sC (sC (sC (sC (sC sR))))) ⟨rfl, FLe.refl _, ((isSl_lit hv1)), (rfl), (by (try dsimp only); omega), (by (try dsimp only); rw [show haK - (ar.getD ((x5).toNat) 0).toNat = 0 from by omega]; exact goodN.nil), (by (try dsimp only); simp)⟩ ?_))
  rintro ⟨n, ov, os, ot, G1⟩ rE _ _ ⟨rfl, leG, hov, hoe, hn3, hgo, hol⟩
  show X _ _ _ _ (envs [(0, ptr cb 0), (3, ptr b1 0), (4, ptr b2 0), (5, ov), (7, .int .i64 ((n : Int)))] rE) _ (intsH 2 ov os :: intsH 2 x4 t1 :: cellsH b2 [(.slice none 0 0), (.slice none 0 0)] 117 :: cellsH b1 [arv] 26 :: curH .i64 134 cb bsv bs.length :: L)
  replace leG : F4 ≤ G1 := leG
  dsimp only at hov hoe hn3 hgo hol
  have hm9 : (haK - n) * (szT 1) ≤ 3 * (szT 1) := Nat.mul_le_mul_right _ (by omega)
  have hool : os.length = ot.length + 1 := by rw [hoe]; rfl
  have leG1 := leG
  replace hbs := hbs.mono leG1
  replace har := har.mono leG1
  refine X.seq (X.seq (X.region (XL.mv (.int .i64 ((n : Int))) rfl (cX (XOp.gtr rfl rfl (XL.nil ?_))))))
  refine X.condD (p := (n : Int) > 0) rfl (fun h2 => ?_) (fun h2 => ?_)
  ·refine X.skip (X.seq (X.block (X.region (XL.mv (ov) rfl (XL.mv (ptr cb 0) rfl (cX (XOp.loadN [arv] isAgg26 sizeOf26 rfl rfl (Rd.ownN [_, _, _] rfl rfl) (cX (XOp.call (args := [ptr cb 0, .agg #[arv], .int .i64 ((1 : Nat) : Int), .int .i64 (2)]) call174 rfl (Does.atO [_, _, _, _] (l1DrawTerm_spec 1 (vs := 2) hbs (by omega) har (hso := (by first | assumption | rfl | omega | simp)) (hdp := (by first | assumption | rfl | omega | simp)) (hvs := (by first | assumption | rfl | omega | simp)))) ?_)))))))))
   rintro _ F6 _ le6 ⟨x7, ⟨rfl, hsl2⟩, rfl⟩
   replace hbs := hbs.mono le6
   replace har := har.mono le6
   show XL _ _ _ _ _ _ _ (drawnH 2 x7 (fun t => goodT ar t ∧ 1 ≤ t.length ∧ t.length ≤ szT 1) :: intsH 2 ov os :: intsH 2 x4 t1 :: cellsH b2 [(.slice none 0 0), (.slice none 0 0)] 117 :: cellsH b1 [arv] 26 :: curH .i64 134 cb bsv bs.length :: L)
   refine XL.undraw [] rfl (fun t2 hq9 => ?_)
   obtain ⟨q4, q5, q6⟩ := hq9
   show XL _ _ _ _ _ _ _ (intsH 2 x7 t2 :: intsH 2 ov os :: intsH 2 x4 t1 :: cellsH b2 [(.slice none 0 0), (.slice none 0 0)] 117 :: cellsH b1 [arv] 26 :: curH .i64 134 cb bsv bs.length :: L)
   refine XL.freezeF [] _ _ rfl (fun F7 le7 hz1 => ?_)
   replace hbs := hbs.mono le7
   replace har := har.mono le7
   have hf1 : IntsF F7 x7 t2 := intsH.fz (xs := t2) hz1.fz
   refine cX (XOp.appendI [] _ runUnderlying24 typeInfo2 rfl rfl rfl rfl rfl rfl hf1 (by (try simp only [List.length_append, List.length_nil, List.length_cons, List.length_singleton, List.length_take, List.length_drop]); omega) ?_)
   intro v2 hs1 hn1 hm1
   refine XL.as (v2) rfl (XL.nil (X.region (XL.mv (.int .i64 ((n : Int))) rfl (cX (XOp.subR (((n - 1 : Nat) : Int)) rfl rfl (by omega) (by omega) (XL.as (.int .i64 (((n - 1 : Nat) : Int))) rfl (XL.nil ?_)))))))
   exact ⟨(n - 1, v2, os ++ t2, (ot ++ t2), F7), _, (FLe.trans (FLe.trans leG1 le6) le7), rF, ⟨rfl, rfl, rfl, rfl, rfl, trivial⟩, (sC (sC (sC (sC (sC sR))))), ⟨rfl, (FLe.trans (FLe.trans leG1 le6) le7), (hs1), (by (try dsimp only); rw [hoe] <;> rfl), (by (try dsimp only); omega), (by (try dsimp only); rw [show haK - (n - 1) = haK - n + 1 from by omega]; exact hgo.snoc q4), (by (try dsimp only); rw [show haK - (n - 1) = haK - n + 1 from by omega, Nat.succ_mul, List.length_append]; omega)⟩, (by (try dsimp only); omega)⟩
  refine X.exit (thenQ_exit (thenQ_exit (blockQ_exit (X.seq ?_))))
  refine X.drawG [intsH 2 ov os, intsH 2 x4 t1, cellsH b2 [(.slice none 0 0), (.slice none 0 0)] 117, cellsH b1 [arv] 26, curH .i64 134 cb bsv bs.length] L 5 [[], [], [], [], [3]] [[], [], [], [2], [3]] [[], [], [], [], []] (phiG [fun FF us v => v = ptr cb 0, fun FF us v => v = (.agg #[arv] : Value), fun FF us v => v = ptr cb 0, fun FF us v => (.int .i64 (((intAt v))) : Value) = v ∧ (0 ≤ ((intAt v)) ∧ (((intAt v)) < 3 ∨ ((intAt v)) = 0)), fun FF us v => v = (.int .i64 (1 + (((intAt (us.getD 0 undef))))) : Value)]) (ownL [fun us v => [], fun us v => [], fun us v => [], fun us v => [], fun us v => []]) mixed rfl rfl (by kernel_rfl) (by kernel_rfl) (MonoG.get (mC (fun le h => h) (mC (fun le h => h) (mC (fun le h => h) (mC (fun le h => ⟨h.1, h.2⟩) (mC (fun le h => h) MonoG.nil)))))) ?_ ?_
  ·refine gC (fun vals Fs R leFs hpZ => ?_) ?_
   ·refine XG.op (XOp.move (ptr cb 0) rfl ?_)
    exact ⟨rfl, rfl⟩
   refine gC (fun vals Fs R leFs hpZ => ?_) ?_
   ·replace hbs := hbs.mono leFs
    replace har := har.mono leFs
    refine XG.op (XOp.loadN [arv] isAgg26 sizeOf26 rfl rfl (Rd.ownN [_, _, _] rfl rfl) ?_)
    exact ⟨rfl, rfl⟩
   refine gC (fun vals Fs R leFs hpZ => ?_) ?_
   ·refine XG.op (XOp.move (ptr cb 0) rfl ?_)
    exact ⟨rfl, rfl⟩
   refine gC (fun vals Fs R leFs hpZ => ?_) ?_
   ·replace hbs := hbs.mono leFs
    replace har := har.mono leFs
    rw [eS (l := [(2, ptr cb 0)]) ⟨(hpZ 2 (by decide)), trivial⟩]
    refine XG.op (XOp.call (args := [ptr cb 0, .int .i64 (3)]) call122 rfl (Does.at [_, _, _, _] (l1Below_spec (n := 3) hbs (by omega) (hn := (by first | assumption | rfl | omega | simp)))) ?_)
    rintro _ _ _ _ ⟨⟨rfl, x9, rfl, hr5⟩, rfl⟩
    exact ⟨⟨rfl, hr5⟩, rfl⟩
   refine gC (fun vals Fs R leFs hpZ => ?_) ?_
   ·obtain ⟨e3, f3_2hx⟩ := hpZ 3 (by decide)
    rw [eS (l := [(3, (.int .i64 (((intAt (vals 3)))) : Value))]) ⟨(e3).symm, trivial⟩]
    refine XG.op (XOp.addR (1 + (((intAt (vals 3))))) rfl rfl (by omega) (by omega) ?_)
    exact ⟨rfl, rfl⟩
   exact stepsG.nil
  intro vals F10 le10 hphi
  obtain ⟨e3, f3_2hx⟩ := hphi 3 (by decide)
  have e4 : vals 4 = (.int .i64 (1 + (((intAt (vals 3))))) : Value) := hphi 4 (by decide)
  generalize hu2 : (intAt (vals 3)) = u2 at e3 f3_2hx e4
  rw [eS (l := [(0, ptr cb 0), (1, (.agg #[arv] : Value)), (3, (.int .i64 ((u2)) : Value)), (4, (.int .i64 (1 + ((u2))) : Value))]) ⟨(hphi 0 (by decide)), (hphi 1 (by decide)), (e3).symm, e4, trivial⟩]
  replace hbs := hbs.mono le10
  replace har := har.mono le10
  show XL _ _ _ _ _ _ _ (intsH 2 ov os :: intsH 2 x4 t1 :: cellsH b2 [(.slice none 0 0), (.slice none 0 0)] 117 :: cellsH b1 [arv] 26 :: curH .i64 134 cb bsv bs.length :: L)
  refine cX (XOp.call (args := [ptr cb 0, .agg #[arv], .int .i64 (((1 + ((u2))).toNat : Nat) : Int), .int .i64 (2)]) call174 (by rw [show (((1 + ((u2))).toNat : Nat) : Int) = 1 + ((u2)) from by omega]; rfl) (Does.atO [_, _, _, _] (l1DrawTerm_spec ((1 + ((u2))).toNat) (vs := 2) hbs (by omega) har (hso := (by first | assumption | rfl | omega | simp)) (hdp := (by first | assumption | rfl | omega | simp)) (hvs := (by first | assumption | rfl | omega | simp)))) ?_)
  rintro _ F11 _ le11 ⟨x11, ⟨rfl, hsl3⟩, rfl⟩
  replace hbs := hbs.mono le11
  replace har := har.mono le11
  show XL _ _ _ _ _ _ _ (drawnH 2 x11 (fun t => goodT ar t ∧ 1 ≤ t.length ∧ t.length ≤ szT ((1 + ((u2))).toNat)) :: intsH 2 ov os :: intsH 2 x4 t1 :: cellsH b2 [(.slice none 0 0), (.slice none 0 0)] 117 :: cellsH b1 [arv] 26 :: curH .i64 134 cb bsv bs.length :: L)
  refine XL.undraw [] rfl (fun t3 hq9 => ?_)
  obtain ⟨q7, q8, q9⟩ := hq9
  show XL _ _ _ _ _ _ _ (intsH 2 x11 t3 :: intsH 2 ov os :: intsH 2 x4 t1 :: cellsH b2 [(.slice none 0 0), (.slice none 0 0)] 117 :: cellsH b1 [arv] 26 :: curH .i64 134 cb bsv bs.length :: L)
  have hoT : goodT ar os := by rw [hoe]; exact goodT.node hfr.1 (by omega) hKa (by have h9 := hgo; rwa [show haK - n = haK from by omega] at h9)
  have hol : termOk ar os = true := goodT.ok hso (by omega) hoT
  refine XL.freezeF [_] _ _ rfl (fun F12 le12 hz2 => ?_)
  replace hbs := hbs.mono le12
  replace har := har.mono le12
  have hf2 : IntsF F12 ov os := intsH.fz (xs := os) hz2.fz
  have hy9 := szT_le (d := (1 + ((u2))).toNat) (e := 3) (by omega)
  refine XL.as (x11) rfl (XL.nil (X.seq (X.seq (X.region (XL.as (.int .i64 (0)) rfl (XL.nil (X.block (X.loop (α := Nat × List Int × FH) (fun xQ => [(3, ptr b1 0), (4, ptr b2 0), (5, ov), (8, x11), (9, .int .i64 (((xQ.1 : Nat) : Int)))]) (fun xQ => intsH 2 x11 xQ.2.1 :: intsH 2 x4 t1 :: cellsH b2 [(.slice none 0 0), (.slice none 0 0)] 117 :: cellsH b1 [arv] 26 :: curH .i64 134 cb bsv bs.length :: L) (fun xQ F' => xQ.2.2 = F' ∧ F12 ≤ xQ.2.2 ∧ (xQ.1 ≤ xQ.2.1.length) ∧ (xQ.2.1.length = t3.length)) (fun xQ => xQ.2.1.length - xQ.1) (0, t3, F12) ⟨rfl, rfl, rfl, rfl, rfl, trivial⟩ (sC (sC (sC (sC (sC sR))))) ⟨rfl, FLe.refl _, (Nat.zero_le _), (rfl)⟩ ?_))))))))
  rintro ⟨k, rr, G2⟩ rE _ _ ⟨rfl, leG, hk, hrl⟩
  show X _ _ _ _ (envs [(3, ptr b1 0), (4, ptr b2 0), (5, ov), (8, x11), (9, .int .i64 ((k : Int)))] rE) _ (intsH 2 x11 rr :: intsH 2 x4 t1 :: cellsH b2 [(.slice none 0 0), (.slice none 0 0)] 117 :: cellsH b1 [arv] 26 :: curH .i64 134 cb bsv bs.length :: L)
  replace leG : F12 ≤ G2 := leG
  dsimp only at hk hrl
  have leG2 := leG
  replace hbs := hbs.mono leG2
  replace har := har.mono leG2
  replace hf2 := hf2.mono leG2
  refine X.seq (X.seq (X.region (XL.mv (.int .i64 ((k : Int))) rfl (XL.mv (x11) rfl (cX (XOp.lenS runUnderlying24 rfl (intsH.slv [] rfl) (cX (XOp.lss rfl rfl (XL.nil ?_)))))))))
  refine X.condD (p := (k : Int) < (rr.length : Int)) rfl (fun h3 => ?_) (fun h3 => ?_)
  ·refine X.skip (X.seq (X.block (X.seq (X.region (XL.mv (x11) rfl (XL.mv (.int .i64 ((k : Int))) rfl (cX (XOp.indexS k runUnderlying24 sizeOf2 rfl rfl rfl (intsH.slv [] rfl) (by omega) (Nat.mul_one _) (cX (XOp.load1 isAgg2 rfl (intsH.rd [] rfl (by omega)) (cX (XOp.lss rfl rfl (XL.mv (.bool (decide ((rr.getD k 0 : Int) < 0))) rfl ?_)))))))))))))
   by_cases h4 : (rr.getD k 0 : Int) < 0
   ·refine XL.yes (t := 59) rfl (vT h4) (XOp.move (ov) rfl (XL.yes (t := 59) rfl (vT h4) (XOp.move (x11) rfl (XL.yes (t := 59) rfl (vT h4) (XOp.move (.int .i64 ((k : Int))) rfl (XL.yes (t := 59) rfl (vT h4) (XOp.indexS k runUnderlying24 sizeOf2 rfl rfl rfl (intsH.slv [] rfl) (by omega) (Nat.mul_one _) (XL.yes (t := 59) rfl (vT h4) (XOp.load1 isAgg2 rfl (intsH.rd [] rfl (by omega)) (XL.yes (t := 59) rfl (vT h4) (XOp.call (args := [ov, .int .i64 (rr.getD k 0)]) call193 rfl (l1Has_spec (n := rr.getD k 0) hf2 (hbd := (by first | assumption | rfl | omega | simp))) ?_)))))))))))
    rintro _ _ _ _ ⟨rfl, rfl, rfl⟩
    refine XL.yes (t := 59) rfl (vT h4) (XOp.notD rfl (cX (XOp.pickT (.bool (decide (¬((rr.getD k 0) ∈ os)))) (vT h4) rfl (XL.nil ?_))))
    refine X.condD (p := ¬((rr.getD k 0) ∈ os)) rfl (fun h5 => ?_) (fun h5 => ?_)
    ·refine X.seq (X.region (XL.mv (ov) rfl (cX (XOp.call (args := [ov]) call203 rfl (l2Order_spec hf2 (hlt := (by first | assumption | rfl | omega | simp))) ?_))))
     rintro _ F13 _ le13 ⟨⟨x12, x13, rfl, hr6, hr7⟩, rfl⟩
     replace hbs := hbs.mono le13
     replace har := har.mono le13
     replace hf2 := hf2.mono le13
     show XL _ _ _ _ _ _ _ (intsH 2 x11 rr :: intsH 2 x4 t1 :: cellsH b2 [(.slice none 0 0), (.slice none 0 0)] 117 :: cellsH b1 [arv] 26 :: curH .i64 134 cb bsv bs.length :: L)
     refine XL.as (x12) rfl (XL.nil (X.seq (X.seq (X.region (XL.mv (x12) rfl (cX (XOp.lenS runUnderlying24 rfl hr6.slv (cX (XOp.eql rfl rfl (XL.nil ?_))))))))))
     refine X.condD (p := ((x13.length : Int) : Int) = 0) rfl (fun h6 => ?_) (fun h6 => ?_)
     ·refine X.seq (X.region (XL.mv (ov) rfl (cX (XOp.loadN [arv] isAgg26 sizeOf26 rfl rfl (Rd.ownN [_, _, _] rfl rfl) (XL.mv (ov) rfl (XL.mv (ov) rfl (cX (XOp.lenS runUnderlying24 rfl hf2.slv (cX (XOp.subR (((((os).length) - 1 : Nat) : Int)) rfl rfl (by omega) (by omega) (cX (XOp.frzF <| XOp.call (args := [.agg #[arv], ov, .int .i64 ((((os).length) - 1 : Nat) : Int)]) call110 rfl (l1Sub_spec (p := ((os).length) - 1) har hf2 (ho := (hol)) (hp := (by first | assumption | rfl | omega | simp))) ?_))))))))))))
      rintro v3 _ _ _ ⟨rfl, hs2, rfl⟩
      refine ⟨_, _, rfl, fun F14 le14 hz3 => ?_⟩
      replace hbs := hbs.mono le14
      replace har := har.mono le14
      replace hf2 := hf2.mono le14
      replace hr6 := hr6.mono le14
      have hf3 : IntsF F14 v3 ((sub ar os (((os).length) - 1))) := intsH.fz (xs := (sub ar os (((os).length) - 1))) hz3.fz
      refine cX (XOp.build [ov, v3] [(.slice none 0 0), (.slice none 0 0)] [(0, 1), (1, 1)] [(0, [ov]), (1, [v3])] runUnderlying117 zeroValue117 rfl (.cons rfl sizeOf24 (.cons rfl sizeOf24 PlacesAre.nil)) rfl (.cons (cells_one (IntsF.isSl hf2)) (.cons (cells_one (IntsF.isSl hf3)) CellsAre.nil)) (cX (XOp.storeN [_, _] _ [ov, v3] sizeOf117 rfl rfl rfl (ones_cons (one_sl (IntsF.isSl hf2)) (ones_cons (one_sl (IntsF.isSl hf3)) ones_nil)) rfl rfl rfl (XL.nil (X.ret (thenQ_ret (blockQ_ret (thenQ_ret (thenQ_ret (blockQ_ret (thenQ_ret (retEnd (L' := curH .i64 134 cb bsv bs.length :: L) [.agg #[ov, v3]] (.agg #[ov, v3]) (.cell rfl (loadNV [ov, v3] isAgg117 sizeOf117 rfl (Rd.ownN [_, _] rfl rfl)) .nil) rfl (FLe.trans (FLe.trans (FLe.trans (FLe.trans (FLe.trans (FLe.trans (FLe.trans (FLe.trans le3 le4) leG1) le10) le11) le12) leG2) le13) le14) rF (sD (sD (sD (sD (sC sR))))) ?_))))))))))))
      exact ⟨⟨_, _, rfl, ⟨_, hf2, by omega⟩, ⟨_, hf3, by have h9 := sub_le (ar := ar) (t := os) (p := os.length - 1); omega⟩⟩, rfl⟩
     refine X.skip (X.region (XL.mv (x11) rfl (XL.mv (.int .i64 ((k : Int))) rfl (XL.mv (x12) rfl (cX (XOp.indexS 0 runUnderlying24 sizeOf2 rfl rfl rfl hr6.slv (by omega) (Nat.mul_one _) (cX (XOp.load1 isAgg2 rfl (hr6.rd (by omega)) (cX (XOp.indexS k runUnderlying24 sizeOf2 rfl rfl rfl (intsH.slv [] rfl) (by omega) (Nat.mul_one _) (cX (intsH.storeX (i := k) (v := x11) [] _ (rr.set k (x13.getD 0 0)) sizeOf2 rfl rfl rfl (by omega) rfl (XL.nil (X.region (XL.mv (.int .i64 ((k : Int))) rfl ?_)))))))))))))))
     refine cX (XOp.addR (((k + 1 : Nat) : Int)) rfl rfl (by omega) (by omega) (XL.as (.int .i64 (((k + 1 : Nat) : Int))) rfl (XL.nil ?_)))
     exact ⟨(k + 1, (rr.set k (x13.getD 0 0)), F13), _, (FLe.trans leG2 le13), rF, ⟨rfl, rfl, rfl, rfl, rfl, trivial⟩, (sC (sC (sC (sC (sC sR))))), ⟨rfl, (FLe.trans leG2 le13), (by (try dsimp only); (try rw [List.length_set]); omega), (by (try dsimp only); (try rw [List.length_set]); omega)⟩, (by (try dsimp only); (try rw [List.length_set]); omega)⟩
    refine X.skip (X.region (XL.mv (.int .i64 ((k : Int))) rfl (cX (XOp.addR (((k + 1 : Nat) : Int)) rfl rfl (by omega) (by omega) (XL.as (.int .i64 (((k + 1 : Nat) : Int))) rfl (XL.nil ?_))))))
    exact ⟨(k + 1, rr, G2), _, leG2, rF, ⟨rfl, rfl, rfl, rfl, rfl, trivial⟩, (sC (sC (sC (sC (sC sR))))), ⟨rfl, leG2, (by (try dsimp only); (try rw [List.length_set]); omega), (by (try dsimp only); (try rw [List.length_set]); omega)⟩, (by (try dsimp only); (try rw [List.length_set]); omega)⟩
   refine XL.no (t := 59) rfl (vF h4) (XL.no (t := 59) rfl (vF h4) (XL.no (t := 59) rfl (vF h4) (XL.no (t := 59) rfl (vF h4) (XL.no (t := 59) rfl (vF h4) (XL.no (t := 59) rfl (vF h4) (XL.no (t := 59) rfl (vF h4) (cX (XOp.pickF (.bool (false)) (vF h4) rfl (XL.nil (X.condF rfl ?_))))))))))
   refine X.skip (X.region (XL.mv (.int .i64 ((k : Int))) rfl (cX (XOp.addR (((k + 1 : Nat) : Int)) rfl rfl (by omega) (by omega) (XL.as (.int .i64 (((k + 1 : Nat) : Int))) rfl (XL.nil ?_))))))
   exact ⟨(k + 1, rr, G2), _, leG2, rF, ⟨rfl, rfl, rfl, rfl, rfl, trivial⟩, (sC (sC (sC (sC (sC sR))))), ⟨rfl, leG2, (by (try dsimp only); (try rw [List.length_set]); omega), (by (try dsimp only); (try rw [List.length_set]); omega)⟩, (by (try dsimp only); (try rw [List.length_set]); omega)⟩
  refine X.exit (thenQ_exit (thenQ_exit (blockQ_exit (X.seq (X.region (XL.mv (ov) rfl (XL.mv (x11) rfl (cX (XOp.build [ov, x11] [(.slice none 0 0), (.slice none 0 0)] [(0, 1), (1, 1)] [(0, [ov]), (1, [x11])] runUnderlying117 zeroValue117 rfl (.cons rfl sizeOf24 (.cons rfl sizeOf24 PlacesAre.nil)) rfl (.cons (cells_one (IntsF.isSl hf2)) (.cons (cells_one hsl3) CellsAre.nil)) (cX (XOp.storeN [_, _] _ [ov, x11] sizeOf117 rfl rfl rfl (ones_cons (one_sl (IntsF.isSl hf2)) (ones_cons (one_sl hsl3) ones_nil)) rfl rfl rfl (XL.nil (X.freezeF [] _ _ rfl (fun F15 le15 hz4 => ?_))))))))))))))
  replace hbs := hbs.mono le15
  replace har := har.mono le15
  replace hf2 := hf2.mono le15
  have hf4 : IntsF F15 x11 rr := intsH.fz (xs := rr) hz4.fz
  refine X.ret (retEnd (L' := curH .i64 134 cb bsv bs.length :: L) [.agg #[ov, x11]] (.agg #[ov, x11]) (.cell rfl (loadNV [ov, x11] isAgg117 sizeOf117 rfl (Rd.ownN [_] rfl rfl)) .nil) rfl (FLe.trans (FLe.trans (FLe.trans (FLe.trans (FLe.trans (FLe.trans (FLe.trans le3 le4) leG1) le10) le11) le12) leG2) le15) rF (sD (sD (sD (sC sR)))) ?_)
  exact ⟨⟨_, _, rfl, ⟨_, hf2, by omega⟩, ⟨_, hf4, by omega⟩⟩, rfl⟩
 refine X.skip (X.seq ?_)
 refine X.drawG [intsH 2 x4 t1, cellsH b2 [(.slice none 0 0), (.slice none 0 0)] 117, cellsH b1 [arv] 26, curH .i64 134 cb bsv bs.length] L 5 [[], [], [], [], [3]] [[], [], [], [2], [3]] [[], [], [], [], []] (phiG [fun FF us v => v = ptr cb 0, fun FF us v => v = (.agg #[arv] : Value), fun FF us v => v = ptr cb 0, fun FF us v => (.int .i64 (((intAt v))) : Value) = v ∧ (0 ≤ ((intAt v)) ∧ (((intAt v)) < 3 ∨ ((intAt v)) = 0)), fun FF us v => v = (.int .i64 (1 + (((intAt (us.getD 0 undef))))) : Value)]) (ownL [fun us v => [], fun us v => [], fun us v => [], fun us v => [], fun us v => []]) mixed rfl rfl (by kernel_rfl) (by kernel_rfl) (MonoG.get (mC (fun le h => h) (mC (fun le h => h) (mC (fun le h => h) (mC (fun le h => ⟨h.1, h.2⟩) (mC (fun le h => h) MonoG.nil)))))) ?_ ?_
 ·refine gC (fun vals Fs R leFs hpZ => ?_) ?_
  ·refine XG.op (XOp.move (ptr cb 0) rfl ?_)
   exact ⟨rfl, rfl⟩
  refine gC (fun vals Fs R leFs hpZ => ?_) ?_
  ·replace hbs := hbs.mono leFs
   replace har := har.mono leFs
   refine XG.op (XOp.loadN [arv] isAgg26 sizeOf26 rfl rfl (Rd.ownN [_, _] rfl rfl) ?_)
   exact ⟨rfl, rfl⟩
  refine gC (fun vals Fs R leFs hpZ => ?_) ?_
  ·refine XG.op (XOp.move (ptr cb 0) rfl ?_)
   exact ⟨rfl, rfl⟩
  refine gC (fun vals Fs R leFs hpZ => ?_) ?_
  ·replace hbs := hbs.mono leFs
   replace har := har.mono leFs
   rw [eS (l := [(2, ptr cb 0)]) ⟨(hpZ 2 (by decide)), trivial⟩]
   refine XG.op (XOp.call (args := [ptr cb 0, .int .i64 (3)]) call122 rfl (Does.at [_, _, _] (l1Below_spec (n := 3) hbs (by omega) (hn := (by first | assumption | rfl | omega | simp)))) ?_)
   rintro _ _ _ _ ⟨⟨rfl, x15, rfl, hr9⟩, rfl⟩
   exact ⟨⟨rfl, hr9⟩, rfl⟩
  refine gC (fun vals Fs R leFs hpZ => ?_) ?_
  ·obtain ⟨e3, f3_3hx⟩ := hpZ 3 (by decide)
   rw [eS (l := [(3, (.int .i64 (((intAt (vals 3)))) : Value))]) ⟨(e3).symm, trivial⟩]
   refine XG.op (XOp.addR (1 + (((intAt (vals 3))))) rfl rfl (by omega) (by omega) ?_)
   exact ⟨rfl, rfl⟩
  exact stepsG.nil
 intro vals F18 le18 hphi
 obtain ⟨e3, f3_3hx⟩ := hphi 3 (by decide)
 have e4 : vals 4 = (.int .i64 (1 + (((intAt (vals 3))))) : Value) := hphi 4 (by decide)
 generalize hu3 : (intAt (vals 3)) = u3 at e3 f3_3hx e4
 rw [eS (l := [(0, ptr cb 0), (1, (.agg #[arv] : Value)), (3, (.int .i64 ((u3)) : Value)), (4, (.int .i64 (1 + ((u3))) : Value))]) ⟨(hphi 0 (by decide)), (hphi 1 (by decide)), (e3).symm, e4, trivial⟩]
 replace hbs := hbs.mono le18
 replace har := har.mono le18
 show XL _ _ _ _ _ _ _ (intsH 2 x4 t1 :: cellsH b2 [(.slice none 0 0), (.slice none 0 0)] 117 :: cellsH b1 [arv] 26 :: curH .i64 134 cb bsv bs.length :: L)
 refine cX (XOp.call (args := [ptr cb 0, .agg #[arv], .int .i64 (((1 + ((u3))).toNat : Nat) : Int), .int .i64 (2)]) call174 (by rw [show (((1 + ((u3))).toNat : Nat) : Int) = 1 + ((u3)) from by omega]; rfl) (Does.atO [_, _, _] (l1DrawTerm_spec ((1 + ((u3))).toNat) (vs := 2) hbs (by omega) har (hso := (by first | assumption | rfl | omega | simp)) (hdp := (by first | assumption | rfl | omega | simp)) (hvs := (by first | assumption | rfl | omega | simp)))) ?_)
 rintro _ F19 _ le19 ⟨x17, ⟨rfl, hsl4⟩, rfl⟩
 replace har := har.mono le19
 show XL _ _ _ _ _ _ _ (drawnH 2 x17 (fun t => goodT ar t ∧ 1 ≤ t.length ∧ t.length ≤ szT ((1 + ((u3))).toNat)) :: intsH 2 x4 t1 :: cellsH b2 [(.slice none 0 0), (.slice none 0 0)] 117 :: cellsH b1 [arv] 26 :: curH .i64 134 cb bsv bs.length :: L)
 refine XL.undraw [] rfl (fun t4 hq9 => ?_)
 obtain ⟨q10, q11, q12⟩ := hq9
 show XL _ _ _ _ _ _ _ (intsH 2 x17 t4 :: intsH 2 x4 t1 :: cellsH b2 [(.slice none 0 0), (.slice none 0 0)] 117 :: cellsH b1 [arv] 26 :: curH .i64 134 cb bsv bs.length :: L)
 have hol : termOk ar t1 = true := goodT.ok hso (by omega) q1
 refine XL.freezeF [_] _ _ rfl (fun F20 le20 hz5 => ?_)
 replace har := har.mono le20
 have hf5 : IntsF F20 x4 t1 := intsH.fz (xs := t1) hz5.fz
 have hy9 := szT_le (d := (1 + ((u3))).toNat) (e := 3) (by omega)
 refine XL.as (x17) rfl (XL.nil (X.seq (X.seq (X.region (XL.as (.int .i64 (0)) rfl (XL.nil (X.block (X.loop (α := Nat × List Int × FH) (fun xQ => [(3, ptr b1 0), (4, ptr b2 0), (5, x4), (8, x17), (9, .int .i64 (((xQ.1 : Nat) : Int)))]) (fun xQ => intsH 2 x17 xQ.2.1 :: cellsH b2 [(.slice none 0 0), (.slice none 0 0)] 117 :: cellsH b1 [arv] 26 :: curH .i64 134 cb bsv bs.length :: L) (fun xQ F' => xQ.2.2 = F' ∧ F20 ≤ xQ.2.2 ∧ (xQ.1 ≤ xQ.2.1.length) ∧ (xQ.2.1.length = t4.length)) (fun xQ => xQ.2.1.length - xQ.1) (0, t4, F20) ⟨rfl, rfl, rfl, rfl, rfl, trivial⟩ (sC (sC (sC (sC sR)))) ⟨rfl, FLe.refl _, (Nat.zero_le _), (rfl)⟩ ?_))))))))
 rintro ⟨k, rr, G3⟩ rE _ _ ⟨rfl, leG, hk, hrl⟩
 show X _ _ _ _ (envs [(3, ptr b1 0), (4, ptr b2 0), (5, x4), (8, x17), (9, .int .i64 ((k : Int)))] rE) _ (intsH 2 x17 rr :: cellsH b2 [(.slice none 0 0), (.slice none 0 0)] 117 :: cellsH b1 [arv] 26 :: curH .i64 134 cb bsv bs.length :: L)
 replace leG : F20 ≤ G3 := leG
 dsimp only at hk hrl
 have leG3 := leG
 replace har := har.mono leG3
 replace hf5 := hf5.mono leG3
 refine X.seq (X.seq (X.region (XL.mv (.int .i64 ((k : Int))) rfl (XL.mv (x17) rfl (cX (XOp.lenS runUnderlying24 rfl (intsH.slv [] rfl) (cX (XOp.lss rfl rfl (XL.nil ?_)))))))))
 refine X.condD (p := (k : Int) < (rr.length : Int)) rfl (fun h7 => ?_) (fun h7 => ?_)
 ·refine X.skip (X.seq (X.block (X.seq (X.region (XL.mv (x17) rfl (XL.mv (.int .i64 ((k : Int))) rfl (cX (XOp.indexS k runUnderlying24 sizeOf2 rfl rfl rfl (intsH.slv [] rfl) (by omega) (Nat.mul_one _) (cX (XOp.load1 isAgg2 rfl (intsH.rd [] rfl (by omega)) (cX (XOp.lss rfl rfl (XL.mv (.bool (decide ((rr.getD k 0 : Int) < 0))) rfl ?_)))))))))))))
  by_cases h8 : (rr.getD k 0 : Int) < 0
  ·refine XL.yes (t := 59) rfl (vT h8) (XOp.move (x4) rfl (XL.yes (t := 59) rfl (vT h8) (XOp.move (x17) rfl (XL.yes (t := 59) rfl (vT h8) (XOp.move (.int .i64 ((k : Int))) rfl (XL.yes (t := 59) rfl (vT h8) (XOp.indexS k runUnderlying24 sizeOf2 rfl rfl rfl (intsH.slv [] rfl) (by omega) (Nat.mul_one _) (XL.yes (t := 59) rfl (vT h8) (XOp.load1 isAgg2 rfl (intsH.rd [] rfl (by omega)) (XL.yes (t := 59) rfl (vT h8) (XOp.call (args := [x4, .int .i64 (rr.getD k 0)]) call193 rfl (l1Has_spec (n := rr.getD k 0) hf5 (hbd := (by first | assumption | rfl | omega | simp))) ?_)))))))))))
   rintro _ _ _ _ ⟨rfl, rfl, rfl⟩
   refine XL.yes (t := 59) rfl (vT h8) (XOp.notD rfl (cX (XOp.pickT (.bool (decide (¬((rr.getD k 0) ∈ t1)))) (vT h8) rfl (XL.nil ?_))))
   refine X.condD (p := ¬((rr.getD k 0) ∈ t1)) rfl (fun h9 => ?_) (fun h9 => ?_)
   ·refine X.seq (X.region (XL.mv (x4) rfl (cX (XOp.call (args := [x4]) call203 rfl (l2Order_spec hf5 (hlt := (by first | assumption | rfl | omega | simp))) ?_))))
    rintro _ F21 _ le21 ⟨⟨x18, x19, rfl, hr10, hr11⟩, rfl⟩
    replace har := har.mono le21
    replace hf5 := hf5.mono le21
    show XL _ _ _ _ _ _ _ (intsH 2 x17 rr :: cellsH b2 [(.slice none 0 0), (.slice none 0 0)] 117 :: cellsH b1 [arv] 26 :: curH .i64 134 cb bsv bs.length :: L)
    refine XL.as (x18) rfl (XL.nil (X.seq (X.seq (X.region (XL.mv (x18) rfl (cX (XOp.lenS runUnderlying24 rfl hr10.slv (cX (XOp.eql rfl rfl (XL.nil ?_))))))))))
    refine X.condD (p := ((x19.length : Int) : Int) = 0) rfl (fun h10 => ?_) (fun h10 => ?_)
    ·refine X.seq (X.region (XL.mv (x4) rfl (cX (XOp.loadN [arv] isAgg26 sizeOf26 rfl rfl (Rd.ownN [_, _] rfl rfl) (XL.mv (x4) rfl (XL.mv (x4) rfl (cX (XOp.lenS runUnderlying24 rfl hf5.slv (cX (XOp.subR (((((t1).length) - 1 : Nat) : Int)) rfl rfl (by omega) (by omega) (cX (XOp.frzF <| XOp.call (args := [.agg #[arv], x4, .int .i64 ((((t1).length) - 1 : Nat) : Int)]) call110 rfl (l1Sub_spec (p := ((t1).length) - 1) har hf5 (ho := (hol)) (hp := (by first | assumption | rfl | omega | simp))) ?_))))))))))))
     rintro v4 _ _ _ ⟨rfl, hs3, rfl⟩
     refine ⟨_, _, rfl, fun F22 le22 hz6 => ?_⟩
     replace hf5 := hf5.mono le22
     replace hr10 := hr10.mono le22
     have hf6 : IntsF F22 v4 ((sub ar t1 (((t1).length) - 1))) := intsH.fz (xs := (sub ar t1 (((t1).length) - 1))) hz6.fz
     refine cX (XOp.build [x4, v4] [(.slice none 0 0), (.slice none 0 0)] [(0, 1), (1, 1)] [(0, [x4]), (1, [v4])] runUnderlying117 zeroValue117 rfl (.cons rfl sizeOf24 (.cons rfl sizeOf24 PlacesAre.nil)) rfl (.cons (cells_one (IntsF.isSl hf5)) (.cons (cells_one (IntsF.isSl hf6)) CellsAre.nil)) (cX (XOp.storeN [_] _ [x4, v4] sizeOf117 rfl rfl rfl (ones_cons (one_sl (IntsF.isSl hf5)) (ones_cons (one_sl (IntsF.isSl hf6)) ones_nil)) rfl rfl rfl (XL.nil (X.ret (thenQ_ret (blockQ_ret (thenQ_ret (thenQ_ret (blockQ_ret (thenQ_ret (retEnd (L' := curH .i64 134 cb bsv bs.length :: L) [.agg #[x4, v4]] (.agg #[x4, v4]) (.cell rfl (loadNV [x4, v4] isAgg117 sizeOf117 rfl (Rd.ownN [_] rfl rfl)) .nil) rfl (FLe.trans (FLe.trans (FLe.trans (FLe.trans (FLe.trans (FLe.trans (FLe.trans le3 le4) le18) le19) le20) leG3) le21) le22) rF (sD (sD (sD (sC sR)))) ?_))))))))))))
     exact ⟨⟨_, _, rfl, ⟨_, hf5, by omega⟩, ⟨_, hf6, by have h9 := sub_le (ar := ar) (t := t1) (p := t1.length - 1); omega⟩⟩, rfl⟩
    refine X.skip (X.region (XL.mv (x17) rfl (XL.mv (.int .i64 ((k : Int))) rfl (XL.mv (x18) rfl (cX (XOp.indexS 0 runUnderlying24 sizeOf2 rfl rfl rfl hr10.slv (by omega) (Nat.mul_one _) (cX (XOp.load1 isAgg2 rfl (hr10.rd (by omega)) (cX (XOp.indexS k runUnderlying24 sizeOf2 rfl rfl rfl (intsH.slv [] rfl) (by omega) (Nat.mul_one _) (cX (intsH.storeX (i := k) (v := x17) [] _ (rr.set k (x19.getD 0 0)) sizeOf2 rfl rfl rfl (by omega) rfl (XL.nil (X.region (XL.mv (.int .i64 ((k : Int))) rfl ?_)))))))))))))))
    refine cX (XOp.addR (((k + 1 : Nat) : Int)) rfl rfl (by omega) (by omega) (XL.as (.int .i64 (((k + 1 : Nat) : Int))) rfl (XL.nil ?_)))
    exact ⟨(k + 1, (rr.set k (x19.getD 0 0)), F21), _, (FLe.trans leG3 le21), rF, ⟨rfl, rfl, rfl, rfl, rfl, trivial⟩, (sC (sC (sC (sC sR)))), ⟨rfl, (FLe.trans leG3 le21), (by (try dsimp only); (try rw [List.length_set]); omega), (by (try dsimp only); (try rw [List.length_set]); omega)⟩, (by (try dsimp only); (try rw [List.length_set]); omega)⟩
   refine X.skip (X.region (XL.mv (.int .i64 ((k : Int))) rfl (cX (XOp.addR (((k + 1 : Nat) : Int)) rfl rfl (by omega) (by omega) (XL.as (.int .i64 (((k + 1 : Nat) : Int))) rfl (XL.nil ?_))))))
   exact ⟨(k + 1, rr, G3), _, leG3, rF, ⟨rfl, rfl, rfl, rfl, rfl, trivial⟩, (sC (sC (sC (sC sR)))), ⟨rfl, leG3, (by (try dsimp only); (try rw [List.length_set]); omega), (by (try dsimp only); (try rw [List.length_set]); omega)⟩, (by (try dsimp only); (try rw [List.length_set]); omega)⟩
  refine XL.no (t := 59) rfl (vF h8) (XL.no (t := 59) rfl (vF h8) (XL.no (t := 59) rfl (vF h8) (XL.no (t := 59) rfl (vF h8) (XL.no (t := 59) rfl (vF h8) (XL.no (t := 59) rfl (vF h8) (XL.no (t := 59) rfl (vF h8) (cX (XOp.pickF (.bool (false)) (vF h8) rfl (XL.nil (X.condF rfl ?_))))))))))
  refine X.skip (X.region (XL.mv (.int .i64 ((k : Int))) rfl (cX (XOp.addR (((k + 1 : Nat) : Int)) rfl rfl (by omega) (by omega) (XL.as (.int .i64 (((k + 1 : Nat) : Int))) rfl (XL.nil ?_))))))
  exact ⟨(k + 1, rr, G3), _, leG3, rF, ⟨rfl, rfl, rfl, rfl, rfl, trivial⟩, (sC (sC (sC (sC sR)))), ⟨rfl, leG3, (by (try dsimp only); (try rw [List.length_set]); omega), (by (try dsimp only); (try rw [List.length_set]); omega)⟩, (by (try dsimp only); (try rw [List.length_set]); omega)⟩
 refine X.exit (thenQ_exit (thenQ_exit (blockQ_exit (X.seq (X.region (XL.mv (x4) rfl (XL.mv (x17) rfl (cX (XOp.build [x4, x17] [(.slice none 0 0), (.slice none 0 0)] [(0, 1), (1, 1)] [(0, [x4]), (1, [x17])] runUnderlying117 zeroValue117 rfl (.cons rfl sizeOf24 (.cons rfl sizeOf24 PlacesAre.nil)) rfl (.cons (cells_one (IntsF.isSl hf5)) (.cons (cells_one hsl4) CellsAre.nil)) (cX (XOp.storeN [_] _ [x4, x17] sizeOf117 rfl rfl rfl (ones_cons (one_sl (IntsF.isSl hf5)) (ones_cons (one_sl hsl4) ones_nil)) rfl rfl rfl (XL.nil (X.freezeF [] _ _ rfl (fun F23 le23 hz7 => ?_))))))))))))))
 replace hf5 := hf5.mono le23
 have hf7 : IntsF F23 x17 rr := intsH.fz (xs := rr) hz7.fz
 refine X.ret (retEnd (L' := curH .i64 134 cb bsv bs.length :: L) [.agg #[x4, x17]] (.agg #[x4, x17]) (.cell rfl (loadNV [x4, x17] isAgg117 sizeOf117 rfl (Rd.ownN [] rfl rfl)) .nil) rfl (FLe.trans (FLe.trans (FLe.trans (FLe.trans (FLe.trans (FLe.trans le3 le4) le18) le19) le20) leG3) le23) rF (sD (sD (sC sR))) ?_)
 exact ⟨⟨_, _, rfl, ⟨_, hf5, by omega⟩, ⟨_, hf7, by omega⟩⟩, rfl⟩

/- spec.l6Known -/
theorem l6Known_spec {F : FH} {L : List HP}  {k : Int} :
    Does prog 182 [.int .i64 (k)] F (L) (fun v F' L' => ∃ (a b : Value) (ar : List Int) (rs : List (List Int × List Int)) (cs : List Value), ((.agg #[a, b] : Value) = v ∧ IntsF F' a ar ∧ IsSl b ∧ PairsC F' cs rs ∧ ar.length ≤ 20 ∧ rs.length ≤ 12 ∧ smallR rs) ∧ slH 117 2 b rs.length cs :: L = L') := by
 refine Does.of_X func182 rfl rfl rfl (X.seq (X.region (cX (XOp.alloc [(.slice none 0 0), (.slice none 0 0)] zeroValue29 rfl ?_))))
 intro b1
 refine XL.nil (X.seq (X.region (cX (XOp.buildSlice (s := 1) [.int .i64 (2), .int .i64 (1), .int .i64 (0)] [.int .i64 (0)] [(0, [.int .i64 (2)]), (1, [.int .i64 (1)]), (2, [.int .i64 (0)])] runUnderlying24 sizeOf2 zeroValue2 rfl (by decide) rfl (.cons rfl (.cons rfl (.cons rfl CellsAre.nil))) rfl ?_))))
 intro v1 hv1
 refine cX (XOp.build [v1] [(.slice none 0 0)] [(0, 1)] [(0, [v1])] runUnderlying26 zeroValue26 rfl (.cons rfl sizeOf24 PlacesAre.nil) rfl (.cons (cells_one (isSl_lit hv1)) CellsAre.nil) (cX (XOp.alloc [(.slice none 0 0)] zeroValue26 rfl ?_)))
 intro b2
 refine cX (XOp.storeN [] _ [v1] sizeOf26 rfl rfl rfl (ones_cons (one_sl (isSl_lit hv1)) ones_nil) rfl rfl rfl (XL.nil (X.seq (X.seq (X.region (XL.mv (.int .i64 (k)) rfl (XL.nil (X.block (X.seq (X.region (cX (XOp.eql rfl rfl (XL.as (.bool (decide ((k : Int) = 0))) rfl (XL.nil ?_))))))))))))))
 refine X.condD (p := (k : Int) = 0) rfl (fun h1 => ?_) (fun h1 => ?_)
 ·refine X.seq (X.region (cX (XOp.loadN [v1] isAgg26 sizeOf26 rfl rfl (Rd.ownN [] rfl rfl) (cX (XOp.buildSlice (s := 1) [.int .i64 (0), .int .i64 (2), .int .i64 (-1)] [.int .i64 (0)] [(0, [.int .i64 (0)]), (1, [.int .i64 (2)]), (2, [.int .i64 (-1)])] runUnderlying24 sizeOf2 zeroValue2 rfl (by decide) rfl (.cons rfl (.cons rfl (.cons rfl CellsAre.nil))) rfl ?_)))))
  intro v2 hv2
  refine cX (XOp.buildSlice (s := 1) [.int .i64 (-1)] [.int .i64 (0)] [(0, [.int .i64 (-1)])] runUnderlying24 sizeOf2 zeroValue2 rfl (by decide) rfl (.cons rfl CellsAre.nil) rfl ?_)
  intro v3 hv3
  refine cX (XOp.build [v2, v3] [(.slice none 0 0), (.slice none 0 0)] [(0, 1), (1, 1)] [(0, [v2]), (1, [v3])] runUnderlying117 zeroValue117 rfl (.cons rfl sizeOf24 (.cons rfl sizeOf24 PlacesAre.nil)) rfl (.cons (cells_one (isSl_lit hv2)) (.cons (cells_one (isSl_lit hv3)) CellsAre.nil)) (cX (XOp.buildSlice (s := 1) [.int .i64 (0), .int .i64 (1), .int .i64 (-1), .int .i64 (-2)] [.int .i64 (0)] [(0, [.int .i64 (0)]), (1, [.int .i64 (1)]), (2, [.int .i64 (-1)]), (3, [.int .i64 (-2)])] runUnderlying24 sizeOf2 zeroValue2 rfl (by decide) rfl (.cons rfl (.cons rfl (.cons rfl (.cons rfl CellsAre.nil)))) rfl ?_)))
  intro v4 hv4
  refine cX (XOp.buildSlice (s := 1) [.int .i64 (1), .int .i64 (0), .int .i64 (-1), .int .i64 (-2)] [.int .i64 (0)] [(0, [.int .i64 (1)]), (1, [.int .i64 (0)]), (2, [.int .i64 (-1)]), (3, [.int .i64 (-2)])] runUnderlying24 sizeOf2 zeroValue2 rfl (by decide) rfl (.cons rfl (.cons rfl (.cons rfl (.cons rfl CellsAre.nil)))) rfl ?_)
  intro v5 hv5
  refine cX (XOp.build [v4, v5] [(.slice none 0 0), (.slice none 0 0)] [(0, 1), (1, 1)] [(0, [v4]), (1, [v5])] runUnderlying117 zeroValue117 rfl (.cons rfl sizeOf24 (.cons rfl sizeOf24 PlacesAre.nil)) rfl (.cons (cells_one (isSl_lit hv4)) (.cons (cells_one (isSl_lit hv5)) CellsAre.nil)) (cX (XOp.buildSlice (s := 2) [v2, v3, v4, v5] [(.slice none 0 0), (.slice none 0 0)] [(0, [v2, v3]), (1, [v4, v5])] runUnderlying27 sizeOf117 zeroValue117 rfl (by decide) rfl (.cons rfl (.cons rfl CellsAre.nil)) rfl ?_)))
  intro v6 hv6
  refine cX (XOp.build [v1, v6] [(.slice none 0 0), (.slice none 0 0)] [(0, 1), (1, 1)] [(0, [v1]), (1, [v6])] runUnderlying29 zeroValue29 rfl (.cons rfl sizeOf26 (.cons rfl sizeOf27 PlacesAre.nil)) rfl (.cons rfl (.cons (cells_one (isSl_lit hv6)) CellsAre.nil)) (cX (XOp.storeN [_, _, _, _, _, _, _] _ [v1, v6] sizeOf29 rfl rfl rfl (ones_cons (one_sl (isSl_lit hv1)) (ones_cons (one_sl (isSl_lit hv6)) ones_nil)) rfl rfl rfl (XL.nil ?_))))
  show X _ _ _ _ _ _ (slH 117 2 v6 2 [v2, v3, v4, v5] :: slH 2 1 v5 4 [.int .i64 (1), .int .i64 (0), .int .i64 (-1), .int .i64 (-2)] :: slH 2 1 v4 4 [.int .i64 (0), .int .i64 (1), .int .i64 (-1), .int .i64 (-2)] :: slH 2 1 v3 1 [.int .i64 (-1)] :: intsH 2 v2 ([0, 2, -1] : List Int) :: cellsH b2 [v1] 26 :: slH 2 1 v1 3 [.int .i64 (2), .int .i64 (1), .int .i64 (0)] :: cellsH b1 [v1, v6] 29 :: L)
  refine X.freezeF [_, _, _, _] _ _ rfl (fun F1 le1 hz1 => ?_)
  have hf1 : IntsF F1 v2 ([0, 2, -1]) := intsH.fz (xs := [0, 2, -1]) hz1.fz
  show X _ _ _ _ _ _ (slH 117 2 v6 2 [v2, v3, v4, v5] :: slH 2 1 v5 4 [.int .i64 (1), .int .i64 (0), .int .i64 (-1), .int .i64 (-2)] :: slH 2 1 v4 4 [.int .i64 (0), .int .i64 (1), .int .i64 (-1), .int .i64 (-2)] :: intsH 2 v3 ([-1] : List Int) :: cellsH b2 [v1] 26 :: slH 2 1 v1 3 [.int .i64 (2), .int .i64 (1), .int .i64 (0)] :: cellsH b1 [v1, v6] 29 :: L)
  refine X.freezeF [_, _, _] _ _ rfl (fun F2 le2 hz2 => ?_)
  replace hf1 := hf1.mono le2
  have hf2 : IntsF F2 v3 ([-1]) := intsH.fz (xs := [-1]) hz2.fz
  show X _ _ _ _ _ _ (slH 117 2 v6 2 [v2, v3, v4, v5] :: slH 2 1 v5 4 [.int .i64 (1), .int .i64 (0), .int .i64 (-1), .int .i64 (-2)] :: intsH 2 v4 ([0, 1, -1, -2] : List Int) :: cellsH b2 [v1] 26 :: slH 2 1 v1 3 [.int .i64 (2), .int .i64 (1), .int .i64 (0)] :: cellsH b1 [v1, v6] 29 :: L)
  refine X.freezeF [_, _] _ _ rfl (fun F3 le3 hz3 => ?_)
  replace hf1 := hf1.mono le3
  replace hf2 := hf2.mono le3
  have hf3 : IntsF F3 v4 ([0, 1, -1, -2]) := intsH.fz (xs := [0, 1, -1, -2]) hz3.fz
  show X _ _ _ _ _ _ (slH 117 2 v6 2 [v2, v3, v4, v5] :: intsH 2 v5 ([1, 0, -1, -2] : List Int) :: cellsH b2 [v1] 26 :: slH 2 1 v1 3 [.int .i64 (2), .int .i64 (1), .int .i64 (0)] :: cellsH b1 [v1, v6] 29 :: L)
  refine X.freezeF [_] _ _ rfl (fun F4 le4 hz4 => ?_)
  replace hf1 := hf1.mono le4
  replace hf2 := hf2.mono le4
  replace hf3 := hf3.mono le4
  have hf4 : IntsF F4 v5 ([1, 0, -1, -2]) := intsH.fz (xs := [1, 0, -1, -2]) hz4.fz
  have hc1 : PairsC F4 [v2, v3, v4, v5] ([([0, 2, -1], [-1]), ([0, 1, -1, -2], [1, 0, -1, -2])] : List (List Int × List Int)) := (PairsC.snoc (PairsC.snoc (CO.nil : PairsC F4 [] []) hf1 hf2) hf3 hf4)
  show X _ _ _ _ _ _ (slH 117 2 v6 2 ([v2, v3, v4, v5]) :: cellsH b2 [v1] 26 :: intsH 2 v1 ([2, 1, 0] : List Int) :: cellsH b1 [v1, v6] 29 :: L)
  refine X.freezeF [_, _] _ _ rfl (fun F5 le5 hz5 => ?_)
  replace hc1 := hc1.mono le5
  have hf5 : IntsF F5 v1 ([2, 1, 0]) := intsH.fz (xs := [2, 1, 0]) hz5.fz
  refine X.ret (blockQ_ret (thenQ_ret (retEnd (L' := slH 117 2 v6 ((([([0, 2, -1], [-1]), ([0, 1, -1, -2], [1, 0, -1, -2])] : List (List Int × List Int))).length) ([v2, v3, v4, v5]) :: L) [.agg #[v1, v6]] (.agg #[v1, v6]) (.cell rfl (loadNV [v1, v6] isAgg29 sizeOf29 rfl (Rd.ownN [_, _] rfl rfl)) .nil) rfl (FLe.trans (FLe.trans (FLe.trans (FLe.trans le1 le2) le3) le4) le5) rF (Sub.trans (sC (sD (sD sR))) (Sub.keep (fun l hl => by first | exact hl | (rw [show 2 = (([([0, 2, -1], [-1]), ([0, 1, -1, -2], [1, 0, -1, -2])] : List (List Int × List Int))).length from by first | rfl | assumption | omega] at hl; exact hl)) sR)) ?_)))
  exact ⟨_, _, _, ([([0, 2, -1], [-1]), ([0, 1, -1, -2], [1, 0, -1, -2])] : List (List Int × List Int)), _, ⟨rfl, hf5, (isSl_lit hv6), hc1, by decide, by decide, by unfold smallR; decide⟩, rfl⟩
 refine X.seq (X.region (cX (XOp.eql rfl rfl (XL.as (.bool (decide ((k : Int) = 1))) rfl (XL.nil ?_)))))
 refine X.condD (p := (k : Int) = 1) rfl (fun h2 => ?_) (fun h2 => ?_)
 ·refine X.seq (X.region (cX (XOp.loadN [v1] isAgg26 sizeOf26 rfl rfl (Rd.ownN [] rfl rfl) (cX (XOp.buildSlice (s := 1) [.int .i64 (0), .int .i64 (0), .int .i64 (-1), .int .i64 (-2), .int .i64 (-3)] [.int .i64 (0)] [(0, [.int .i64 (0)]), (1, [.int .i64 (0)]), (2, [.int .i64 (-1)]), (3, [.int .i64 (-2)]), (4, [.int .i64 (-3)])] runUnderlying24 sizeOf2 zeroValue2 rfl (by decide) rfl (.cons rfl (.cons rfl (.cons rfl (.cons rfl (.cons rfl CellsAre.nil))))) rfl ?_)))))
  intro v7 hv7
  refine cX (XOp.buildSlice (s := 1) [.int .i64 (0), .int .i64 (-1), .int .i64 (0), .int .i64 (-2), .int .i64 (-3)] [.int .i64 (0)] [(0, [.int .i64 (0)]), (1, [.int .i64 (-1)]), (2, [.int .i64 (0)]), (3, [.int .i64 (-2)]), (4, [.int .i64 (-3)])] runUnderlying24 sizeOf2 zeroValue2 rfl (by decide) rfl (.cons rfl (.cons rfl (.cons rfl (.cons rfl (.cons rfl CellsAre.nil))))) rfl ?_)
  intro v8 hv8
  refine cX (XOp.build [v7, v8] [(.slice none 0 0), (.slice none 0 0)] [(0, 1), (1, 1)] [(0, [v7]), (1, [v8])] runUnderlying117 zeroValue117 rfl (.cons rfl sizeOf24 (.cons rfl sizeOf24 PlacesAre.nil)) rfl (.cons (cells_one (isSl_lit hv7)) (.cons (cells_one (isSl_lit hv8)) CellsAre.nil)) (cX (XOp.buildSlice (s := 2) [v7, v8] [(.slice none 0 0), (.slice none 0 0)] [(0, [v7, v8])] runUnderlying27 sizeOf117 zeroValue117 rfl (by decide) rfl (.cons rfl CellsAre.nil) rfl ?_)))
  intro v9 hv9
  refine cX (XOp.build [v1, v9] [(.slice none 0 0), (.slice none 0 0)] [(0, 1), (1, 1)] [(0, [v1]), (1, [v9])] runUnderlying29 zeroValue29 rfl (.cons rfl sizeOf26 (.cons rfl sizeOf27 PlacesAre.nil)) rfl (.cons rfl (.cons (cells_one (isSl_lit hv9)) CellsAre.nil)) (cX (XOp.storeN [_, _, _, _, _] _ [v1, v9] sizeOf29 rfl rfl rfl (ones_cons (one_sl (isSl_lit hv1)) (ones_cons (one_sl (isSl_lit hv9)) ones_nil)) rfl rfl rfl (XL.nil ?_))))
  show X _ _ _ _ _ _ (slH 117 2 v9 1 [v7, v8] :: slH 2 1 v8 5 [.int .i64 (0), .int .i64 (-1), .int .i64 (0), .int .i64 (-2), .int .i64 (-3)] :: intsH 2 v7 ([0, 0, -1, -2, -3] : List Int) :: cellsH b2 [v1] 26 :: slH 2 1 v1 3 [.int .i64 (2), .int .i64 (1), .int .i64 (0)] :: cellsH b1 [v1, v9] 29 :: L)
  refine X.freezeF [_, _] _ _ rfl (fun F6 le6 hz6 => ?_)
  have hf6 : IntsF F6 v7 ([0, 0, -1, -2, -3]) := intsH.fz (xs := [0, 0, -1, -2, -3]) hz6.fz
  show X _ _ _ _ _ _ (slH 117 2 v9 1 [v7, v8] :: intsH 2 v8 ([0, -1, 0, -2, -3] : List Int) :: cellsH b2 [v1] 26 :: slH 2 1 v1 3 [.int .i64 (2), .int .i64 (1), .int .i64 (0)] :: cellsH b1 [v1, v9] 29 :: L)
  refine X.freezeF [_] _ _ rfl (fun F7 le7 hz7 => ?_)
  replace hf6 := hf6.mono le7
  have hf7 : IntsF F7 v8 ([0, -1, 0, -2, -3]) := intsH.fz (xs := [0, -1, 0, -2, -3]) hz7.fz
  have hc2 : PairsC F7 [v7, v8] ([([0, 0, -1, -2, -3], [0, -1, 0, -2, -3])] : List (List Int × List Int)) := (PairsC.snoc (CO.nil : PairsC F7 [] []) hf6 hf7)
  show X _ _ _ _ _ _ (slH 117 2 v9 1 ([v7, v8]) :: cellsH b2 [v1] 26 :: intsH 2 v1 ([2, 1, 0] : List Int) :: cellsH b1 [v1, v9] 29 :: L)
  refine X.freezeF [_, _] _ _ rfl (fun F8 le8 hz8 => ?_)
  replace hc2 := hc2.mono le8
  have hf8 : IntsF F8 v1 ([2, 1, 0]) := intsH.fz (xs := [2, 1, 0]) hz8.fz
  refine X.ret (blockQ_ret (thenQ_ret (retEnd (L' := slH 117 2 v9 ((([([0, 0, -1, -2, -3], [0, -1, 0, -2, -3])] : List (List Int × List Int))).length) ([v7, v8]) :: L) [.agg #[v1, v9]] (.agg #[v1, v9]) (.cell rfl (loadNV [v1, v9] isAgg29 sizeOf29 rfl (Rd.ownN [_, _] rfl rfl)) .nil) rfl (FLe.trans (FLe.trans le6 le7) le8) rF (Sub.trans (sC (sD (sD sR))) (Sub.keep (fun l hl => by first | exact hl | (rw [show 1 = (([([0, 0, -1, -2, -3], [0, -1, 0, -2, -3])] : List (List Int × List Int))).length from by first | rfl | assumption | omega] at hl; exact hl)) sR)) ?_)))
  exact ⟨_, _, _, ([([0, 0, -1, -2, -3], [0, -1, 0, -2, -3])] : List (List Int × List Int)), _, ⟨rfl, hf8, (isSl_lit hv9), hc2, by decide, by decide, by unfold smallR; decide⟩, rfl⟩
 refine X.seq (X.region (cX (XOp.eql rfl rfl (XL.as (.bool (decide ((k : Int) = 2))) rfl (XL.nil ?_)))))
 refine X.condD (p := (k : Int) = 2) rfl (fun h3 => ?_) (fun h3 => ?_)
 ·refine X.seq (X.region (cX (XOp.loadN [v1] isAgg26 sizeOf26 rfl rfl (Rd.ownN [] rfl rfl) (cX (XOp.buildSlice (s := 1) [.int .i64 (1), .int .i64 (1), .int .i64 (-1)] [.int .i64 (0)] [(0, [.int .i64 (1)]), (1, [.int .i64 (1)]), (2, [.int .i64 (-1)])] runUnderlying24 sizeOf2 zeroValue2 rfl (by decide) rfl (.cons rfl (.cons rfl (.cons rfl CellsAre.nil))) rfl ?_)))))
  intro v10 hv10
  refine cX (XOp.buildSlice (s := 1) [.int .i64 (-1)] [.int .i64 (0)] [(0, [.int .i64 (-1)])] runUnderlying24 sizeOf2 zeroValue2 rfl (by decide) rfl (.cons rfl CellsAre.nil) rfl ?_)
  intro v11 hv11
  refine cX (XOp.build [v10, v11] [(.slice none 0 0), (.slice none 0 0)] [(0, 1), (1, 1)] [(0, [v10]), (1, [v11])] runUnderlying117 zeroValue117 rfl (.cons rfl sizeOf24 (.cons rfl sizeOf24 PlacesAre.nil)) rfl (.cons (cells_one (isSl_lit hv10)) (.cons (cells_one (isSl_lit hv11)) CellsAre.nil)) (cX (XOp.buildSlice (s := 2) [v10, v11] [(.slice none 0 0), (.slice none 0 0)] [(0, [v10, v11])] runUnderlying27 sizeOf117 zeroValue117 rfl (by decide) rfl (.cons rfl CellsAre.nil) rfl ?_)))
  intro v12 hv12
  refine cX (XOp.build [v1, v12] [(.slice none 0 0), (.slice none 0 0)] [(0, 1), (1, 1)] [(0, [v1]), (1, [v12])] runUnderlying29 zeroValue29 rfl (.cons rfl sizeOf26 (.cons rfl sizeOf27 PlacesAre.nil)) rfl (.cons rfl (.cons (cells_one (isSl_lit hv12)) CellsAre.nil)) (cX (XOp.storeN [_, _, _, _, _] _ [v1, v12] sizeOf29 rfl rfl rfl (ones_cons (one_sl (isSl_lit hv1)) (ones_cons (one_sl (isSl_lit hv12)) ones_nil)) rfl rfl rfl (XL.nil ?_))))
  show X _ _ _ _ _ _ (slH 117 2 v12 1 [v10, v11] :: slH 2 1 v11 1 [.int .i64 (-1)] :: intsH 2 v10 ([1, 1, -1] : List Int) :: cellsH b2 [v1] 26 :: slH 2 1 v1 3 [.int .i64 (2), .int .i64 (1), .int .i64 (0)] :: cellsH b1 [v1, v12] 29 :: L)
  refine X.freezeF [_, _] _ _ rfl (fun F9 le9 hz9 => ?_)
  have hf9 : IntsF F9 v10 ([1, 1, -1]) := intsH.fz (xs := [1, 1, -1]) hz9.fz
  show X _ _ _ _ _ _ (slH 117 2 v12 1 [v10, v11] :: intsH 2 v11 ([-1] : List Int) :: cellsH b2 [v1] 26 :: slH 2 1 v1 3 [.int .i64 (2), .int .i64 (1), .int .i64 (0)] :: cellsH b1 [v1, v12] 29 :: L)
  refine X.freezeF [_] _ _ rfl (fun F10 le10 hz10 => ?_)
  replace hf9 := hf9.mono le10
  have hf10 : IntsF F10 v11 ([-1]) := intsH.fz (xs := [-1]) hz10.fz
  have hc3 : PairsC F10 [v10, v11] ([([1, 1, -1], [-1])] : List (List Int × List Int)) := (PairsC.snoc (CO.nil : PairsC F10 [] []) hf9 hf10)
  show X _ _ _ _ _ _ (slH 117 2 v12 1 ([v10, v11]) :: cellsH b2 [v1] 26 :: intsH 2 v1 ([2, 1, 0] : List Int) :: cellsH b1 [v1, v12] 29 :: L)
  refine X.freezeF [_, _] _ _ rfl (fun F11 le11 hz11 => ?_)
  replace hc3 := hc3.mono le11
  have hf11 : IntsF F11 v1 ([2, 1, 0]) := intsH.fz (xs := [2, 1, 0]) hz11.fz
  refine X.ret (blockQ_ret (thenQ_ret (retEnd (L' := slH 117 2 v12 ((([([1, 1, -1], [-1])] : List (List Int × List Int))).length) ([v10, v11]) :: L) [.agg #[v1, v12]] (.agg #[v1, v12]) (.cell rfl (loadNV [v1, v12] isAgg29 sizeOf29 rfl (Rd.ownN [_, _] rfl rfl)) .nil) rfl (FLe.trans (FLe.trans le9 le10) le11) rF (Sub.trans (sC (sD (sD sR))) (Sub.keep (fun l hl => by first | exact hl | (rw [show 1 = (([([1, 1, -1], [-1])] : List (List Int × List Int))).length from by first | rfl | assumption | omega] at hl; exact hl)) sR)) ?_)))
  exact ⟨_, _, _, ([([1, 1, -1], [-1])] : List (List Int × List Int)), _, ⟨rfl, hf11, (isSl_lit hv12), hc3, by decide, by decide, by unfold smallR; decide⟩, rfl⟩
 refine X.seq (X.region (cX (XOp.eql rfl rfl (XL.as (.bool (decide ((k : Int) = 3))) rfl (XL.nil ?_)))))
 refine X.condD (p := (k : Int) = 3) rfl (fun h4 => ?_) (fun h4 => ?_)
 ·refine X.seq (X.region (cX (XOp.loadN [v1] isAgg26 sizeOf26 rfl rfl (Rd.ownN [] rfl rfl) (cX (XOp.buildSlice (s := 1) [.int .i64 (1), .int .i64 (-1)] [.int .i64 (0)] [(0, [.int .i64 (1)]), (1, [.int .i64 (-1)])] runUnderlying24 sizeOf2 zeroValue2 rfl (by decide) rfl (.cons rfl (.cons rfl CellsAre.nil)) rfl ?_)))))
  intro v13 hv13
  refine cX (XOp.buildSlice (s := 1) [.int .i64 (1), .int .i64 (1), .int .i64 (-1)] [.int .i64 (0)] [(0, [.int .i64 (1)]), (1, [.int .i64 (1)]), (2, [.int .i64 (-1)])] runUnderlying24 sizeOf2 zeroValue2 rfl (by decide) rfl (.cons rfl (.cons rfl (.cons rfl CellsAre.nil))) rfl ?_)
  intro v14 hv14
  refine cX (XOp.build [v13, v14] [(.slice none 0 0), (.slice none 0 0)] [(0, 1), (1, 1)] [(0, [v13]), (1, [v14])] runUnderlying117 zeroValue117 rfl (.cons rfl sizeOf24 (.cons rfl sizeOf24 PlacesAre.nil)) rfl (.cons (cells_one (isSl_lit hv13)) (.cons (cells_one (isSl_lit hv14)) CellsAre.nil)) (cX (XOp.buildSlice (s := 2) [v13, v14] [(.slice none 0 0), (.slice none 0 0)] [(0, [v13, v14])] runUnderlying27 sizeOf117 zeroValue117 rfl (by decide) rfl (.cons rfl CellsAre.nil) rfl ?_)))
  intro v15 hv15
  refine cX (XOp.build [v1, v15] [(.slice none 0 0), (.slice none 0 0)] [(0, 1), (1, 1)] [(0, [v1]), (1, [v15])] runUnderlying29 zeroValue29 rfl (.cons rfl sizeOf26 (.cons rfl sizeOf27 PlacesAre.nil)) rfl (.cons rfl (.cons (cells_one (isSl_lit hv15)) CellsAre.nil)) (cX (XOp.storeN [_, _, _, _, _] _ [v1, v15] sizeOf29 rfl rfl rfl (ones_cons (one_sl (isSl_lit hv1)) (ones_cons (one_sl (isSl_lit hv15)) ones_nil)) rfl rfl rfl (XL.nil ?_))))
  show X _ _ _ _ _ _ (slH 117 2 v15 1 [v13, v14] :: slH 2 1 v14 3 [.int .i64 (1), .int .i64 (1), .int .i64 (-1)] :: intsH 2 v13 ([1, -1] : List Int) :: cellsH b2 [v1] 26 :: slH 2 1 v1 3 [.int .i64 (2), .int .i64 (1), .int .i64 (0)] :: cellsH b1 [v1, v15] 29 :: L)
  refine X.freezeF [_, _] _ _ rfl (fun F12 le12 hz12 => ?_)
  have hf12 : IntsF F12 v13 ([1, -1]) := intsH.fz (xs := [1, -1]) hz12.fz
  show X _ _ _ _ _ _ (slH 117 2 v15 1 [v13, v14] :: intsH 2 v14 ([1, 1, -1] : List Int) :: cellsH b2 [v1] 26 :: slH 2 1 v1 3 [.int .i64 (2), .int .i64 (1), .int .i64 (0)] :: cellsH b1 [v1, v15] 29 :: L)
  refine X.freezeF [_] _ _ rfl (fun F13 le13 hz13 => ?_)
  replace hf12 := hf12.mono le13
  have hf13 : IntsF F13 v14 ([1, 1, -1]) := intsH.fz (xs := [1, 1, -1]) hz13.fz
  have hc4 : PairsC F13 [v13, v14] ([([1, -1], [1, 1, -1])] : List (List Int × List Int)) := (PairsC.snoc (CO.nil : PairsC F13 [] []) hf12 hf13)
  show X _ _ _ _ _ _ (slH 117 2 v15 1 ([v13, v14]) :: cellsH b2 [v1] 26 :: intsH 2 v1 ([2, 1, 0] : List Int) :: cellsH b1 [v1, v15] 29 :: L)
  refine X.freezeF [_, _] _ _ rfl (fun F14 le14 hz14 => ?_)
  replace hc4 := hc4.mono le14
  have hf14 : IntsF F14 v1 ([2, 1, 0]) := intsH.fz (xs := [2, 1, 0]) hz14.fz
  refine X.ret (blockQ_ret (thenQ_ret (retEnd (L' := slH 117 2 v15 ((([([1, -1], [1, 1, -1])] : List (List Int × List Int))).length) ([v13, v14]) :: L) [.agg #[v1, v15]] (.agg #[v1, v15]) (.cell rfl (loadNV [v1, v15] isAgg29 sizeOf29 rfl (Rd.ownN [_, _] rfl rfl)) .nil) rfl (FLe.trans (FLe.trans le12 le13) le14) rF (Sub.trans (sC (sD (sD sR))) (Sub.keep (fun l hl => by first | exact hl | (rw [show 1 = (([([1, -1], [1, 1, -1])] : List (List Int × List Int))).length from by first | rfl | assumption | omega] at hl; exact hl)) sR)) ?_)))
  exact ⟨_, _, _, ([([1, -1], [1, 1, -1])] : List (List Int × List Int)), _, ⟨rfl, hf14, (isSl_lit hv15), hc4, by decide, by decide, by unfold smallR; decide⟩, rfl⟩
 refine X.seq (X.region (cX (XOp.eql rfl rfl (XL.as (.bool (decide ((k : Int) = 4))) rfl (XL.nil ?_)))))
 refine X.condD (p := (k : Int) = 4) rfl (fun h5 => ?_) (fun h5 => ?_)
 ·refine X.seq (X.region (cX (XOp.loadN [v1] isAgg26 sizeOf26 rfl rfl (Rd.ownN [] rfl rfl) (cX (XOp.buildSlice (s := 1) [.int .i64 (0), .int .i64 (-1), .int .i64 (-2)] [.int .i64 (0)] [(0, [.int .i64 (0)]), (1, [.int .i64 (-1)]), (2, [.int .i64 (-2)])] runUnderlying24 sizeOf2 zeroValue2 rfl (by decide) rfl (.cons rfl (.cons rfl (.cons rfl CellsAre.nil))) rfl ?_)))))
  intro v16 hv16
  refine cX (XOp.buildSlice (s := 1) [.int .i64 (-1)] [.int .i64 (0)] [(0, [.int .i64 (-1)])] runUnderlying24 sizeOf2 zeroValue2 rfl (by decide) rfl (.cons rfl CellsAre.nil) rfl ?_)
  intro v17 hv17
  refine cX (XOp.build [v16, v17] [(.slice none 0 0), (.slice none 0 0)] [(0, 1), (1, 1)] [(0, [v16]), (1, [v17])] runUnderlying117 zeroValue117 rfl (.cons rfl sizeOf24 (.cons rfl sizeOf24 PlacesAre.nil)) rfl (.cons (cells_one (isSl_lit hv16)) (.cons (cells_one (isSl_lit hv17)) CellsAre.nil)) (cX (XOp.buildSlice (s := 1) [.int .i64 (0), .int .i64 (-1), .int .i64 (-2)] [.int .i64 (0)] [(0, [.int .i64 (0)]), (1, [.int .i64 (-1)]), (2, [.int .i64 (-2)])] runUnderlying24 sizeOf2 zeroValue2 rfl (by decide) rfl (.cons rfl (.cons rfl (.cons rfl CellsAre.nil))) rfl ?_)))
  intro v18 hv18
  refine cX (XOp.buildSlice (s := 1) [.int .i64 (-2)] [.int .i64 (0)] [(0, [.int .i64 (-2)])] runUnderlying24 sizeOf2 zeroValue2 rfl (by decide) rfl (.cons rfl CellsAre.nil) rfl ?_)
  intro v19 hv19
  refine cX (XOp.build [v18, v19] [(.slice none 0 0), (.slice none 0 0)] [(0, 1), (1, 1)] [(0, [v18]), (1, [v19])] runUnderlying117 zeroValue117 rfl (.cons rfl sizeOf24 (.cons rfl sizeOf24 PlacesAre.nil)) rfl (.cons (cells_one (isSl_lit hv18)) (.cons (cells_one (isSl_lit hv19)) CellsAre.nil)) (cX (XOp.buildSlice (s := 2) [v16, v17, v18, v19] [(.slice none 0 0), (.slice none 0 0)] [(0, [v16, v17]), (1, [v18, v19])] runUnderlying27 sizeOf117 zeroValue117 rfl (by decide) rfl (.cons rfl (.cons rfl CellsAre.nil)) rfl ?_)))
  intro v20 hv20
  refine cX (XOp.build [v1, v20] [(.slice none 0 0), (.slice none 0 0)] [(0, 1), (1, 1)] [(0, [v1]), (1, [v20])] runUnderlying29 zeroValue29 rfl (.cons rfl sizeOf26 (.cons rfl sizeOf27 PlacesAre.nil)) rfl (.cons rfl (.cons (cells_one (isSl_lit hv20)) CellsAre.nil)) (cX (XOp.storeN [_, _, _, _, _, _, _] _ [v1, v20] sizeOf29 rfl rfl rfl (ones_cons (one_sl (isSl_lit hv1)) (ones_cons (one_sl (isSl_lit hv20)) ones_nil)) rfl rfl rfl (XL.nil ?_))))
  show X _ _ _ _ _ _ (slH 117 2 v20 2 [v16, v17, v18, v19] :: slH 2 1 v19 1 [.int .i64 (-2)] :: slH 2 1 v18 3 [.int .i64 (0), .int .i64 (-1), .int .i64 (-2)] :: slH 2 1 v17 1 [.int .i64 (-1)] :: intsH 2 v16 ([0, -1, -2] : List Int) :: cellsH b2 [v1] 26 :: slH 2 1 v1 3 [.int .i64 (2), .int .i64 (1), .int .i64 (0)] :: cellsH b1 [v1, v20] 29 :: L)
  refine X.freezeF [_, _, _, _] _ _ rfl (fun F15 le15 hz15 => ?_)
  have hf15 : IntsF F15 v16 ([0, -1, -2]) := intsH.fz (xs := [0, -1, -2]) hz15.fz
  show X _ _ _ _ _ _ (slH 117 2 v20 2 [v16, v17, v18, v19] :: slH 2 1 v19 1 [.int .i64 (-2)] :: slH 2 1 v18 3 [.int .i64 (0), .int .i64 (-1), .int .i64 (-2)] :: intsH 2 v17 ([-1] : List Int) :: cellsH b2 [v1] 26 :: slH 2 1 v1 3 [.int .i64 (2), .int .i64 (1), .int .i64 (0)] :: cellsH b1 [v1, v20] 29 :: L)
  refine X.freezeF [_, _, _] _ _ rfl (fun F16 le16 hz16 => ?_)
  replace hf15 := hf15.mono le16
  have hf16 : IntsF F16 v17 ([-1]) := intsH.fz (xs := [-1]) hz16.fz
  show X _ _ _ _ _ _ (slH 117 2 v20 2 [v16, v17, v18, v19] :: slH 2 1 v19 1 [.int .i64 (-2)] :: intsH 2 v18 ([0, -1, -2] : List Int) :: cellsH b2 [v1] 26 :: slH 2 1 v1 3 [.int .i64 (2), .int .i64 (1), .int .i64 (0)] :: cellsH b1 [v1, v20] 29 :: L)
  refine X.freezeF [_, _] _ _ rfl (fun F17 le17 hz17 => ?_)
  replace hf15 := hf15.mono le17
  replace hf16 := hf16.mono le17
  have hf17 : IntsF F17 v18 ([0, -1, -2]) := intsH.fz (xs := [0, -1, -2]) hz17.fz
  show X _ _ _ _ _ _ (slH 117 2 v20 2 [v16, v17, v18, v19] :: intsH 2 v19 ([-2] : List Int) :: cellsH b2 [v1] 26 :: slH 2 1 v1 3 [.int .i64 (2), .int .i64 (1), .int .i64 (0)] :: cellsH b1 [v1, v20] 29 :: L)
  refine X.freezeF [_] _ _ rfl (fun F18 le18 hz18 => ?_)
  replace hf15 := hf15.mono le18
  replace hf16 := hf16.mono le18
  replace hf17 := hf17.mono le18
  have hf18 : IntsF F18 v19 ([-2]) := intsH.fz (xs := [-2]) hz18.fz
  have hc5 : PairsC F18 [v16, v17, v18, v19] ([([0, -1, -2], [-1]), ([0, -1, -2], [-2])] : List (List Int × List Int)) := (PairsC.snoc (PairsC.snoc (CO.nil : PairsC F18 [] []) hf15 hf16) hf17 hf18)
  show X _ _ _ _ _ _ (slH 117 2 v20 2 ([v16, v17, v18, v19]) :: cellsH b2 [v1] 26 :: intsH 2 v1 ([2, 1, 0] : List Int) :: cellsH b1 [v1, v20] 29 :: L)
  refine X.freezeF [_, _] _ _ rfl (fun F19 le19 hz19 => ?_)
  replace hc5 := hc5.mono le19
  have hf19 : IntsF F19 v1 ([2, 1, 0]) := intsH.fz (xs := [2, 1, 0]) hz19.fz
  refine X.ret (blockQ_ret (thenQ_ret (retEnd (L' := slH 117 2 v20 ((([([0, -1, -2], [-1]), ([0, -1, -2], [-2])] : List (List Int × List Int))).length) ([v16, v17, v18, v19]) :: L) [.agg #[v1, v20]] (.agg #[v1, v20]) (.cell rfl (loadNV [v1, v20] isAgg29 sizeOf29 rfl (Rd.ownN [_, _] rfl rfl)) .nil) rfl (FLe.trans (FLe.trans (FLe.trans (FLe.trans le15 le16) le17) le18) le19) rF (Sub.trans (sC (sD (sD sR))) (Sub.keep (fun l hl => by first | exact hl | (rw [show 2 = (([([0, -1, -2], [-1]), ([0, -1, -2], [-2])] : List (List Int × List Int))).length from by first | rfl | assumption | omega] at hl; exact hl)) sR)) ?_)))
  exact ⟨_, _, _, ([([0, -1, -2], [-1]), ([0, -1, -2], [-2])] : List (List Int × List Int)), _, ⟨rfl, hf19, (isSl_lit hv20), hc5, by decide, by decide, by unfold smallR; decide⟩, rfl⟩
 refine X.seq (X.region (cX (XOp.eql rfl rfl (XL.as (.bool (decide ((k : Int) = 5))) rfl (XL.nil ?_)))))
 refine X.condD (p := (k : Int) = 5) rfl (fun h6 => ?_) (fun h6 => ?_)
 ·refine X.seq (X.region (cX (XOp.loadN [v1] isAgg26 sizeOf26 rfl rfl (Rd.ownN [] rfl rfl) (cX (XOp.buildSlice (s := 1) [.int .i64 (0), .int .i64 (-1), .int .i64 (-2)] [.int .i64 (0)] [(0, [.int .i64 (0)]), (1, [.int .i64 (-1)]), (2, [.int .i64 (-2)])] runUnderlying24 sizeOf2 zeroValue2 rfl (by decide) rfl (.cons rfl (.cons rfl (.cons rfl CellsAre.nil))) rfl ?_)))))
  intro v21 hv21
  refine cX (XOp.buildSlice (s := 1) [.int .i64 (0), .int .i64 (-2), .int .i64 (-1)] [.int .i64 (0)] [(0, [.int .i64 (0)]), (1, [.int .i64 (-2)]), (2, [.int .i64 (-1)])] runUnderlying24 sizeOf2 zeroValue2 rfl (by decide) rfl (.cons rfl (.cons rfl (.cons rfl CellsAre.nil))) rfl ?_)
  intro v22 hv22
  refine cX (XOp.build [v21, v22] [(.slice none 0 0), (.slice none 0 0)] [(0, 1), (1, 1)] [(0, [v21]), (1, [v22])] runUnderlying117 zeroValue117 rfl (.cons rfl sizeOf24 (.cons rfl sizeOf24 PlacesAre.nil)) rfl (.cons (cells_one (isSl_lit hv21)) (.cons (cells_one (isSl_lit hv22)) CellsAre.nil)) (cX (XOp.buildSlice (s := 2) [v21, v22] [(.slice none 0 0), (.slice none 0 0)] [(0, [v21, v22])] runUnderlying27 sizeOf117 zeroValue117 rfl (by decide) rfl (.cons rfl CellsAre.nil) rfl ?_)))
  intro v23 hv23
  refine cX (XOp.build [v1, v23] [(.slice none 0 0), (.slice none 0 0)] [(0, 1), (1, 1)] [(0, [v1]), (1, [v23])] runUnderlying29 zeroValue29 rfl (.cons rfl sizeOf26 (.cons rfl sizeOf27 PlacesAre.nil)) rfl (.cons rfl (.cons (cells_one (isSl_lit hv23)) CellsAre.nil)) (cX (XOp.storeN [_, _, _, _, _] _ [v1, v23] sizeOf29 rfl rfl rfl (ones_cons (one_sl (isSl_lit hv1)) (ones_cons (one_sl (isSl_lit hv23)) ones_nil)) rfl rfl rfl (XL.nil ?_))))
  show X _ _ _ _ _ _ (slH 117 2 v23 1 [v21, v22] :: slH 2 1 v22 3 [.int .i64 (0), .int .i64 (-2), .int .i64 (-1)] :: intsH 2 v21 ([0, -1, -2] : List Int) :: cellsH b2 [v1] 26 :: slH 2 1 v1 3 [.int .i64 (2), .int .i64 (1), .int .i64 (0)] :: cellsH b1 [v1, v23] 29 :: L)
  refine X.freezeF [_, _] _ _ rfl (fun F20 le20 hz20 => ?_)
  have hf20 : IntsF F20 v21 ([0, -1, -2]) := intsH.fz (xs := [0, -1, -2]) hz20.fz
  show X _ _ _ _ _ _ (slH 117 2 v23 1 [v21, v22] :: intsH 2 v22 ([0, -2, -1] : List Int) :: cellsH b2 [v1] 26 :: slH 2 1 v1 3 [.int .i64 (2), .int .i64 (1), .int .i64 (0)] :: cellsH b1 [v1, v23] 29 :: L)
  refine X.freezeF [_] _ _ rfl (fun F21 le21 hz21 => ?_)
  replace hf20 := hf20.mono le21
  have hf21 : IntsF F21 v22 ([0, -2, -1]) := intsH.fz (xs := [0, -2, -1]) hz21.fz
  have hc6 : PairsC F21 [v21, v22] ([([0, -1, -2], [0, -2, -1])] : List (List Int × List Int)) := (PairsC.snoc (CO.nil : PairsC F21 [] []) hf20 hf21)
  show X _ _ _ _ _ _ (slH 117 2 v23 1 ([v21, v22]) :: cellsH b2 [v1] 26 :: intsH 2 v1 ([2, 1, 0] : List Int) :: cellsH b1 [v1, v23] 29 :: L)
  refine X.freezeF [_, _] _ _ rfl (fun F22 le22 hz22 => ?_)
  replace hc6 := hc6.mono le22
  have hf22 : IntsF F22 v1 ([2, 1, 0]) := intsH.fz (xs := [2, 1, 0]) hz22.fz
  refine X.ret (blockQ_ret (thenQ_ret (retEnd (L' := slH 117 2 v23 ((([([0, -1, -2], [0, -2, -1])] : List (List Int × List Int))).length) ([v21, v22]) :: L) [.agg #[v1, v23]] (.agg #[v1, v23]) (.cell rfl (loadNV [v1, v23] isAgg29 sizeOf29 rfl (Rd.ownN [_, _] rfl rfl)) .nil) rfl (FLe.trans (FLe.trans le20 le21) le22) rF (Sub.trans (sC (sD (sD sR))) (Sub.keep (fun l hl => by first | exact hl | (rw [show 1 = (([([0, -1, -2], [0, -2, -1])] : List (List Int × List Int))).length from by first | rfl | assumption | omega] at hl; exact hl)) sR)) ?_)))
  exact ⟨_, _, _, ([([0, -1, -2], [0, -2, -1])] : List (List Int × List Int)), _, ⟨rfl, hf22, (isSl_lit hv23), hc6, by decide, by decide, by unfold smallR; decide⟩, rfl⟩
 refine X.skip (X.seq (X.region (cX (XOp.loadN [v1] isAgg26 sizeOf26 rfl rfl (Rd.ownN [] rfl rfl) (cX (XOp.buildSlice (s := 1) [.int .i64 (0), .int .i64 (2), .int .i64 (-1)] [.int .i64 (0)] [(0, [.int .i64 (0)]), (1, [.int .i64 (2)]), (2, [.int .i64 (-1)])] runUnderlying24 sizeOf2 zeroValue2 rfl (by decide) rfl (.cons rfl (.cons rfl (.cons rfl CellsAre.nil))) rfl ?_))))))
 intro v24 hv24
 refine cX (XOp.buildSlice (s := 1) [.int .i64 (-1)] [.int .i64 (0)] [(0, [.int .i64 (-1)])] runUnderlying24 sizeOf2 zeroValue2 rfl (by decide) rfl (.cons rfl CellsAre.nil) rfl ?_)
 intro v25 hv25
 refine cX (XOp.build [v24, v25] [(.slice none 0 0), (.slice none 0 0)] [(0, 1), (1, 1)] [(0, [v24]), (1, [v25])] runUnderlying117 zeroValue117 rfl (.cons rfl sizeOf24 (.cons rfl sizeOf24 PlacesAre.nil)) rfl (.cons (cells_one (isSl_lit hv24)) (.cons (cells_one (isSl_lit hv25)) CellsAre.nil)) (cX (XOp.buildSlice (s := 1) [.int .i64 (0), .int .i64 (1), .int .i64 (-1), .int .i64 (-1)] [.int .i64 (0)] [(0, [.int .i64 (0)]), (1, [.int .i64 (1)]), (2, [.int .i64 (-1)]), (3, [.int .i64 (-1)])] runUnderlying24 sizeOf2 zeroValue2 rfl (by decide) rfl (.cons rfl (.cons rfl (.cons rfl (.cons rfl CellsAre.nil)))) rfl ?_)))
 intro v26 hv26
 refine cX (XOp.buildSlice (s := 1) [.int .i64 (2)] [.int .i64 (0)] [(0, [.int .i64 (2)])] runUnderlying24 sizeOf2 zeroValue2 rfl (by decide) rfl (.cons rfl CellsAre.nil) rfl ?_)
 intro v27 hv27
 refine cX (XOp.build [v26, v27] [(.slice none 0 0), (.slice none 0 0)] [(0, 1), (1, 1)] [(0, [v26]), (1, [v27])] runUnderlying117 zeroValue117 rfl (.cons rfl sizeOf24 (.cons rfl sizeOf24 PlacesAre.nil)) rfl (.cons (cells_one (isSl_lit hv26)) (.cons (cells_one (isSl_lit hv27)) CellsAre.nil)) (cX (XOp.buildSlice (s := 1) [.int .i64 (0), .int .i64 (0), .int .i64 (-1), .int .i64 (-2), .int .i64 (-3)] [.int .i64 (0)] [(0, [.int .i64 (0)]), (1, [.int .i64 (0)]), (2, [.int .i64 (-1)]), (3, [.int .i64 (-2)]), (4, [.int .i64 (-3)])] runUnderlying24 sizeOf2 zeroValue2 rfl (by decide) rfl (.cons rfl (.cons rfl (.cons rfl (.cons rfl (.cons rfl CellsAre.nil))))) rfl ?_)))
 intro v28 hv28
 refine cX (XOp.buildSlice (s := 1) [.int .i64 (0), .int .i64 (-1), .int .i64 (0), .int .i64 (-2), .int .i64 (-3)] [.int .i64 (0)] [(0, [.int .i64 (0)]), (1, [.int .i64 (-1)]), (2, [.int .i64 (0)]), (3, [.int .i64 (-2)]), (4, [.int .i64 (-3)])] runUnderlying24 sizeOf2 zeroValue2 rfl (by decide) rfl (.cons rfl (.cons rfl (.cons rfl (.cons rfl (.cons rfl CellsAre.nil))))) rfl ?_)
 intro v29 hv29
 refine cX (XOp.build [v28, v29] [(.slice none 0 0), (.slice none 0 0)] [(0, 1), (1, 1)] [(0, [v28]), (1, [v29])] runUnderlying117 zeroValue117 rfl (.cons rfl sizeOf24 (.cons rfl sizeOf24 PlacesAre.nil)) rfl (.cons (cells_one (isSl_lit hv28)) (.cons (cells_one (isSl_lit hv29)) CellsAre.nil)) (cX (XOp.buildSlice (s := 2) [v24, v25, v26, v27, v28, v29] [(.slice none 0 0), (.slice none 0 0)] [(0, [v24, v25]), (1, [v26, v27]), (2, [v28, v29])] runUnderlying27 sizeOf117 zeroValue117 rfl (by decide) rfl (.cons rfl (.cons rfl (.cons rfl CellsAre.nil))) rfl ?_)))
 intro v30 hv30
 refine cX (XOp.build [v1, v30] [(.slice none 0 0), (.slice none 0 0)] [(0, 1), (1, 1)] [(0, [v1]), (1, [v30])] runUnderlying29 zeroValue29 rfl (.cons rfl sizeOf26 (.cons rfl sizeOf27 PlacesAre.nil)) rfl (.cons rfl (.cons (cells_one (isSl_lit hv30)) CellsAre.nil)) (cX (XOp.storeN [_, _, _, _, _, _, _, _, _] _ [v1, v30] sizeOf29 rfl rfl rfl (ones_cons (one_sl (isSl_lit hv1)) (ones_cons (one_sl (isSl_lit hv30)) ones_nil)) rfl rfl rfl (XL.nil ?_))))
 show X _ _ _ _ _ _ (slH 117 2 v30 3 [v24, v25, v26, v27, v28, v29] :: slH 2 1 v29 5 [.int .i64 (0), .int .i64 (-1), .int .i64 (0), .int .i64 (-2), .int .i64 (-3)] :: slH 2 1 v28 5 [.int .i64 (0), .int .i64 (0), .int .i64 (-1), .int .i64 (-2), .int .i64 (-3)] :: slH 2 1 v27 1 [.int .i64 (2)] :: slH 2 1 v26 4 [.int .i64 (0), .int .i64 (1), .int .i64 (-1), .int .i64 (-1)] :: slH 2 1 v25 1 [.int .i64 (-1)] :: intsH 2 v24 ([0, 2, -1] : List Int) :: cellsH b2 [v1] 26 :: slH 2 1 v1 3 [.int .i64 (2), .int .i64 (1), .int .i64 (0)] :: cellsH b1 [v1, v30] 29 :: L)
 refine X.freezeF [_, _, _, _, _, _] _ _ rfl (fun F23 le23 hz23 => ?_)
 have hf23 : IntsF F23 v24 ([0, 2, -1]) := intsH.fz (xs := [0, 2, -1]) hz23.fz
 show X _ _ _ _ _ _ (slH 117 2 v30 3 [v24, v25, v26, v27, v28, v29] :: slH 2 1 v29 5 [.int .i64 (0), .int .i64 (-1), .int .i64 (0), .int .i64 (-2), .int .i64 (-3)] :: slH 2 1 v28 5 [.int .i64 (0), .int .i64 (0), .int .i64 (-1), .int .i64 (-2), .int .i64 (-3)] :: slH 2 1 v27 1 [.int .i64 (2)] :: slH 2 1 v26 4 [.int .i64 (0), .int .i64 (1), .int .i64 (-1), .int .i64 (-1)] :: intsH 2 v25 ([-1] : List Int) :: cellsH b2 [v1] 26 :: slH 2 1 v1 3 [.int .i64 (2), .int .i64 (1), .int .i64 (0)] :: cellsH b1 [v1, v30] 29 :: L)
 refine X.freezeF [_, _, _, _, _] _ _ rfl (fun F24 le24 hz24 => ?_)
 replace hf23 := hf23.mono le24
 have hf24 : IntsF F24 v25 ([-1]) := intsH.fz (xs := [-1]) hz24.fz
 show X _ _ _ _ _ _ (slH 117 2 v30 3 [v24, v25, v26, v27, v28, v29] :: slH 2 1 v29 5 [.int .i64 (0), .int .i64 (-1), .int .i64 (0), .int .i64 (-2), .int .i64 (-3)] :: slH 2 1 v28 5 [.int .i64 (0), .int .i64 (0), .int .i64 (-1), .int .i64 (-2), .int .i64 (-3)] :: slH 2 1 v27 1 [.int .i64 (2)] :: intsH 2 v26 ([0, 1, -1, -1] : List Int) :: cellsH b2 [v1] 26 :: slH 2 1 v1 3 [.int .i64 (2), .int .i64 (1), .int .i64 (0)] :: cellsH b1 [v1, v30] 29 :: L)
 refine X.freezeF [_, _, _, _] _ _ rfl (fun F25 le25 hz25 => ?_)
 replace hf23 := hf23.mono le25
 replace hf24 := hf24.mono le25
 have hf25 : IntsF F25 v26 ([0, 1, -1, -1]) := intsH.fz (xs := [0, 1, -1, -1]) hz25.fz
 show X _ _ _ _ _ _ (slH 117 2 v30 3 [v24, v25, v26, v27, v28, v29] :: slH 2 1 v29 5 [.int .i64 (0), .int .i64 (-1), .int .i64 (0), .int .i64 (-2), .int .i64 (-3)] :: slH 2 1 v28 5 [.int .i64 (0), .int .i64 (0), .int .i64 (-1), .int .i64 (-2), .int .i64 (-3)] :: intsH 2 v27 ([2] : List Int) :: cellsH b2 [v1] 26 :: slH 2 1 v1 3 [.int .i64 (2), .int .i64 (1), .int .i64 (0)] :: cellsH b1 [v1, v30] 29 :: L)
 refine X.freezeF [_, _, _] _ _ rfl (fun F26 le26 hz26 => ?_)
 replace hf23 := hf23.mono le26
 replace hf24 := hf24.mono le26
 replace hf25 := hf25.mono le26
 have hf26 : IntsF F26 v27 ([2]) := intsH.fz (xs := [2]) hz26.fz
 show X _ _ _ _ _ _ (slH 117 2 v30 3 [v24, v25, v26, v27, v28, v29] :: slH 2 1 v29 5 [.int .i64 (0), .int .i64 (-1), .int .i64 (0), .int .i64 (-2), .int .i64 (-3)] :: intsH 2 v28 ([0, 0, -1, -2, -3] : List Int) :: cellsH b2 [v1] 26 :: slH 2 1 v1 3 [.int .i64 (2), .int .i64 (1), .int .i64 (0)] :: cellsH b1 [v1, v30] 29 :: L)
 refine X.freezeF [_, _] _ _ rfl (fun F27 le27 hz27 => ?_)
 replace hf23 := hf23.mono le27
 replace hf24 := hf24.mono le27
 replace hf25 := hf25.mono le27
 replace hf26 := hf26.mono le27
 have hf27 : IntsF F27 v28 ([0, 0, -1, -2, -3]) := intsH.fz (xs := [0, 0, -1, -2, -3]) hz27.fz
 show X _ _ _ _ _ _ (slH 117 2 v30 3 [v24, v25, v26, v27, v28, v29] :: intsH 2 v29 ([0, -1, 0, -2, -3] : List Int) :: cellsH b2 [v1] 26 :: slH 2 1 v1 3 [.int .i64 (2), .int .i64 (1), .int .i64 (0)] :: cellsH b1 [v1, v30] 29 :: L)
 refine X.freezeF [_] _ _ rfl (fun F28 le28 hz28 => ?_)
 replace hf23 := hf23.mono le28
 replace hf24 := hf24.mono le28
 replace hf25 := hf25.mono le28
 replace hf26 := hf26.mono le28
 replace hf27 := hf27.mono le28
 have hf28 : IntsF F28 v29 ([0, -1, 0, -2, -3]) := intsH.fz (xs := [0, -1, 0, -2, -3]) hz28.fz
 have hc7 : PairsC F28 [v24, v25, v26, v27, v28, v29] ([([0, 2, -1], [-1]), ([0, 1, -1, -1], [2]), ([0, 0, -1, -2, -3], [0, -1, 0, -2, -3])] : List (List Int × List Int)) := (PairsC.snoc (PairsC.snoc (PairsC.snoc (CO.nil : PairsC F28 [] []) hf23 hf24) hf25 hf26) hf27 hf28)
 show X _ _ _ _ _ _ (slH 117 2 v30 3 ([v24, v25, v26, v27, v28, v29]) :: cellsH b2 [v1] 26 :: intsH 2 v1 ([2, 1, 0] : List Int) :: cellsH b1 [v1, v30] 29 :: L)
 refine X.freezeF [_, _] _ _ rfl (fun F29 le29 hz29 => ?_)
 replace hc7 := hc7.mono le29
 have hf29 : IntsF F29 v1 ([2, 1, 0]) := intsH.fz (xs := [2, 1, 0]) hz29.fz
 refine X.ret (retEnd (L' := slH 117 2 v30 ((([([0, 2, -1], [-1]), ([0, 1, -1, -1], [2]), ([0, 0, -1, -2, -3], [0, -1, 0, -2, -3])] : List (List Int × List Int))).length) ([v24, v25, v26, v27, v28, v29]) :: L) [.agg #[v1, v30]] (.agg #[v1, v30]) (.cell rfl (loadNV [v1, v30] isAgg29 sizeOf29 rfl (Rd.ownN [_, _] rfl rfl)) .nil) rfl (FLe.trans (FLe.trans (FLe.trans (FLe.trans (FLe.trans (FLe.trans le23 le24) le25) le26) le27) le28) le29) rF (Sub.trans (sC (sD (sD sR))) (Sub.keep (fun l hl => by first | exact hl | (rw [show 3 = (([([0, 2, -1], [-1]), ([0, 1, -1, -1], [2]), ([0, 0, -1, -2, -3], [0, -1, 0, -2, -3])] : List (List Int × List Int))).length from by first | rfl | assumption | omega] at hl; exact hl)) sR)) ?_)
 exact ⟨_, _, _, ([([0, 2, -1], [-1]), ([0, 1, -1, -1], [2]), ([0, 0, -1, -2, -3], [0, -1, 0, -2, -3])] : List (List Int × List Int)), _, ⟨rfl, hf29, (isSl_lit hv30), hc7, by decide, by decide, by unfold smallR; decide⟩, rfl⟩

/- spec.l6Draw -/
set_option maxHeartbeats 1000000 in
set_option maxRecDepth 20000 in
theorem l6Draw_spec {F : FH} {L : List HP} {cb : Nat} {bsv : Value} {bs : List Int} (hbs : BytesF F bsv bs) (hbl : bs.length ≤ 4000000) :
    Does prog 129 [ptr cb 0] F (curH .i64 134 cb bsv bs.length :: L) (fun v F' L' => ∃ (a b : Value) (ar : List Int) (rs : List (List Int × List Int)) (cs : List Value), ((.agg #[a, b] : Value) = v ∧ IntsF F' a ar ∧ IsSl b ∧ PairsC F' cs rs ∧ ar.length ≤ 20 ∧ rs.length ≤ 12 ∧ smallR rs) ∧ slH 117 2 b rs.length cs :: curH .i64 134 cb bsv bs.length :: L = L') := by
 refine Does.of_X func129 rfl rfl rfl (X.seq (X.region (cX (XOp.alloc [(.slice none 0 0), (.slice none 0 0)] zeroValue29 rfl ?_))))
 intro b1
 refine XL.nil (X.seq (X.seq (X.region (XL.mv (ptr cb 0) rfl (cX (XOp.call (args := [ptr cb 0, .int .i64 (2)]) call120 rfl (Does.at [_] (l1Once_spec (n := 2) hbs (by omega) (hn := (by first | assumption | rfl | omega | simp)))) ?_))))))
 rintro _ _ _ _ ⟨⟨rfl, x1, rfl⟩, rfl⟩
 show XL _ _ _ _ _ _ _ (cellsH b1 [(.slice none 0 0), (.slice none 0 0)] 29 :: curH .i64 134 cb bsv bs.length :: L)
 refine XL.nil ?_
 refine X.cond (t := x1) rfl (fun h1 => ?_) (fun h1 => ?_)
 ·refine X.seq (X.region (XL.mv (ptr cb 0) rfl (cX (XOp.call (args := [ptr cb 0, .int .i64 (7)]) call122 rfl (Does.at [_] (l1Below_spec (n := 7) hbs (by omega) (hn := (by first | assumption | rfl | omega | simp)))) ?_))))
  rintro _ _ _ _ ⟨⟨rfl, x2, rfl, hr1⟩, rfl⟩
  show XL _ _ _ _ _ _ _ (cellsH b1 [(.slice none 0 0), (.slice none 0 0)] 29 :: curH .i64 134 cb bsv bs.length :: L)
  refine cX (XOp.call (args := [.int .i64 (x2)]) call182 rfl (l6Known_spec (k := x2)) ?_)
  rintro _ F3 _ le3 ⟨x3, x4, ar1, rs1, cs1, ⟨rfl, ha1, hsl1, hc1, h_1, h_2, h_3⟩, rfl⟩
  replace hbs := hbs.mono le3
  show XL _ _ _ _ _ _ _ (slH 117 2 x4 rs1.length cs1 :: cellsH b1 [(.slice none 0 0), (.slice none 0 0)] 29 :: curH .i64 134 cb bsv bs.length :: L)
  refine cX (XOp.storeN [_] _ [x3, x4] sizeOf29 rfl rfl rfl (ones_cons (one_sl (IntsF.isSl ha1)) (ones_cons (one_sl hsl1) ones_nil)) rfl rfl rfl (XL.nil (X.ret (thenQ_ret (retEnd (L' := slH 117 2 x4 rs1.length cs1 :: curH .i64 134 cb bsv bs.length :: L) [.agg #[x3, x4]] (.agg #[x3, x4]) (.cell rfl (loadNV [x3, x4] isAgg29 sizeOf29 rfl (Rd.ownN [_] rfl rfl)) .nil) rfl le3 rF ((sC (sD (sC sR)))) ?_)))))
  exact ⟨_, _, _, rs1, _, ⟨rfl, ha1, hsl1, hc1, h_1, h_2, h_3⟩, rfl⟩
 refine X.skip (X.seq (X.region (XL.mv (ptr cb 0) rfl (cX (XOp.call (args := [ptr cb 0]) call183 rfl (Does.atO [_] (l1DrawSig_spec hbs (by omega))) ?_)))))
 rintro _ F4 _ le4 ⟨x6, ⟨rfl, hsl2⟩, rfl⟩
 replace hbs := hbs.mono le4
 show XL _ _ _ _ _ _ _ (drawnH 2 x6 (fun ar => sigOk ar = true) :: cellsH b1 [(.slice none 0 0), (.slice none 0 0)] 29 :: curH .i64 134 cb bsv bs.length :: L)
 refine XL.undraw [] rfl (fun t1 hq9 => ?_)
 have q1 := hq9
 show XL _ _ _ _ _ _ _ (intsH 2 x6 t1 :: cellsH b1 [(.slice none 0 0), (.slice none 0 0)] 29 :: curH .i64 134 cb bsv bs.length :: L)
 refine XL.freezeF [] _ _ rfl (fun F5 le5 hz1 => ?_)
 replace hbs := hbs.mono le5
 have hf1 : IntsF F5 x6 t1 := intsH.fz (xs := t1) hz1.fz
 have hsl9 := sigOk_spec q1
 refine cX (XOp.build [x6, (.slice none 0 0)] [(.slice none 0 0), (.slice none 0 0)] [(0, 1), (1, 1)] [(0, [x6])] runUnderlying29 zeroValue29 rfl (.cons rfl sizeOf26 (.cons rfl sizeOf27 PlacesAre.nil)) rfl (.cons rfl CellsAre.nil) (cX (XOp.alloc [(.slice none 0 0), (.slice none 0 0)] zeroValue29 rfl ?_)))
 intro b2
 refine cX (XOp.storeN [] _ [x6, (.slice none 0 0)] sizeOf29 rfl rfl rfl (ones_cons (one_sl (IntsF.isSl hf1)) (ones_cons rfl ones_nil)) rfl rfl rfl (XL.nil (X.seq (X.seq (X.region (XL.mv (ptr cb 0) rfl (cX (XOp.call (args := [ptr cb 0, .int .i64 (4)]) call122 rfl (Does.at [_, _] (l1Below_spec (n := 4) hbs (by omega) (hn := (by first | assumption | rfl | omega | simp)))) ?_))))))))
 rintro _ _ _ _ ⟨⟨rfl, x7, rfl, hr2⟩, rfl⟩
 show XL _ _ _ _ _ _ _ (cellsH b2 [x6, (.slice none 0 0)] 29 :: cellsH b1 [(.slice none 0 0), (.slice none 0 0)] 29 :: curH .i64 134 cb bsv bs.length :: L)
 refine XL.as (.int .i64 (x7)) rfl (XL.nil (X.block (X.loop (α := Nat × Value × List (List Int × List Int) × List Value × Nat × FH) (fun xQ => [(0, ptr cb 0), (2, ptr b1 0), (3, ptr b2 0), (4, .int .i64 (((xQ.1 : Nat) : Int)))]) (fun xQ => slH 117 2 xQ.2.1 xQ.2.2.2.2.1 xQ.2.2.2.1 :: cellsH b2 [x6, xQ.2.1] 29 :: cellsH b1 [(.slice none 0 0), (.slice none 0 0)] 29 :: curH .i64 134 cb bsv bs.length :: L) (fun xQ F' => xQ.2.2.2.2.2 = F' ∧ F5 ≤ xQ.2.2.2.2.2 ∧ (IsSl xQ.2.1) ∧ (PairsC xQ.2.2.2.2.2 xQ.2.2.2.1 xQ.2.2.1) ∧ (xQ.2.2.2.2.1 = xQ.2.2.1.length) ∧ (xQ.2.2.1.length + xQ.1 ≤ 4) ∧ (smallR xQ.2.2.1)) (fun xQ => xQ.1) (x7.toNat, (.slice none 0 0), [], [], 0, F5) ⟨rfl, rfl, rfl, (vI (by omega)), trivial⟩ (Sub.trans (Sub.addNil 117 2 _ _) (sC (sC (sC (sC sR))))) ⟨rfl, FLe.refl _, (⟨_, _, _, rfl⟩), (CO.nil), (rfl), (by (try dsimp only); simp only [List.length_nil]; omega), (smallR.nil)⟩ ?_)))
 rintro ⟨n, ov, os, cs, m, G1⟩ rE _ _ ⟨rfl, leG, hov, hC, hm, hon, hos⟩
 show X _ _ _ _ (envs [(0, ptr cb 0), (2, ptr b1 0), (3, ptr b2 0), (4, .int .i64 ((n : Int)))] rE) _ (slH 117 2 ov m cs :: cellsH b2 [x6, ov] 29 :: cellsH b1 [(.slice none 0 0), (.slice none 0 0)] 29 :: curH .i64 134 cb bsv bs.length :: L)
 replace leG : F5 ≤ G1 := leG
 dsimp only at hov hC hm hon hos
 have leG1 := leG
 replace hbs := hbs.mono leG1
 replace hf1 := hf1.mono leG1
 refine X.seq (X.seq (X.region (XL.mv (.int .i64 ((n : Int))) rfl (cX (XOp.gtr rfl rfl (XL.nil ?_))))))
 refine X.condD (p := (n : Int) > 0) rfl (fun h2 => ?_) (fun h2 => ?_)
 ·refine X.skip (X.seq (X.block ?_))
  refine X.drawG [slH 117 2 ov m cs, cellsH b2 [x6, ov] 29, cellsH b1 [(.slice none 0 0), (.slice none 0 0)] 29, curH .i64 134 cb bsv bs.length] L 7 [[], [], [], [], [], [], [5]] [[], [0], [], [], [3], [2, 4], [5]] [[], [], [], [], [], [], []] (phiG [fun FF us v => v = ptr b2 1, fun FF us v => v = ov, fun FF us v => v = ptr cb 0, fun FF us v => v = ptr b2 0, fun FF us v => v = (.agg #[x6] : Value), fun FF us v => (.agg #[((aggAt v 0)), ((aggAt v 1))] : Value) = v ∧ (SomesF FF ((aggAt v 0)) (fun u => u.length ≤ 2000)) ∧ (SomesF FF ((aggAt v 1)) (fun w => w.length ≤ 2000)), fun FF us v => ∃ b, v = .slice (some ⟨b, 0, none⟩) 1 1]) (ownL [fun us v => [], fun us v => [], fun us v => [], fun us v => [], fun us v => [], fun us v => [], fun us v => [slH 117 2 v 1 [((aggAt (us.getD 0 undef) 0)), ((aggAt (us.getD 0 undef) 1))]]]) mixed rfl rfl (by kernel_rfl) (by kernel_rfl) (MonoG.get (mC (fun le h => h) (mC (fun le h => h) (mC (fun le h => h) (mC (fun le h => h) (mC (fun le h => h) (mC (fun le h => ⟨h.1, h.2.1.mono le, h.2.2.mono le⟩) (mC (fun le h => h) MonoG.nil)))))))) ?_ ?_
  ·refine gC (fun vals Fs R leFs hpZ => ?_) ?_
   ·refine XG.op (XOp.fieldP (1) runUnderlying29 rfl sizeOf27 (by decide) rfl rfl ?_)
    exact ⟨rfl, rfl⟩
   refine gC (fun vals Fs R leFs hpZ => ?_) ?_
   ·replace hbs := hbs.mono leFs
    replace hf1 := hf1.mono leFs
    replace hC := hC.mono leFs
    rw [eS (l := [(0, ptr b2 1)]) ⟨(hpZ 0 (by decide)), trivial⟩]
    refine XG.op (XOp.load1 isAgg27 rfl (Rd.own [_] rfl rfl) ?_)
    exact ⟨rfl, rfl⟩
   refine gC (fun vals Fs R leFs hpZ => ?_) ?_
   ·refine XG.op (XOp.move (ptr cb 0) rfl ?_)
    exact ⟨rfl, rfl⟩
   refine gC (fun vals Fs R leFs hpZ => ?_) ?_
   ·refine XG.op (XOp.fieldP (0) runUnderlying29 rfl sizeOf26 (by decide) rfl rfl ?_)
    exact ⟨rfl, rfl⟩
   refine gC (fun vals Fs R leFs hpZ => ?_) ?_
   ·replace hbs := hbs.mono leFs
    replace hf1 := hf1.mono leFs
    replace hC := hC.mono leFs
    rw [eS (l := [(3, ptr b2 0)]) ⟨(hpZ 3 (by decide)), trivial⟩]
    refine XG.op (XOp.loadN [x6] isAgg26 sizeOf26 rfl rfl (Rd.ownN [_] rfl rfl) ?_)
    exact ⟨rfl, rfl⟩
   refine gC (fun vals Fs R leFs hpZ => ?_) ?_
   ·replace hbs := hbs.mono leFs
    replace hf1 := hf1.mono leFs
    replace hC := hC.mono leFs
    rw [eS (l := [(2, ptr cb 0), (4, (.agg #[x6] : Value))]) ⟨(hpZ 2 (by decide)), (hpZ 4 (by decide)), trivial⟩]
    refine XG.op (XOp.call (args := [ptr cb 0, .agg #[x6]]) call184 rfl (Does.at [_, _, _] (l6DrawRule_spec hbs (by omega) hf1 (hso := (by first | assumption | rfl | omega | simp)))) ?_)
    rintro _ F8 _ le8 ⟨⟨x10, x11, rfl, hr5, hr6⟩, rfl⟩
    replace hf1 := hf1.mono le8
    replace hC := hC.mono le8
    exact ⟨⟨rfl, hr5, hr6⟩, rfl⟩
   refine gC (fun vals Fs R leFs hpZ => ?_) ?_
   ·obtain ⟨e5, f5_1hp_a, f5_1hp_b⟩ := hpZ 5 (by decide)
    obtain ⟨t5X1_a, f5_1hp_a, q5_1_a0⟩ := f5_1hp_a
    obtain ⟨t5X1_b, f5_1hp_b, q5_1_b0⟩ := f5_1hp_b
    replace hf1 := hf1.mono leFs
    replace hC := hC.mono leFs
    rw [eS (l := [(5, (.agg #[((aggAt (vals 5) 0)), ((aggAt (vals 5) 1))] : Value))]) ⟨(e5).symm, trivial⟩]
    refine XG.op (XOp.buildSlice (s := 2) [((aggAt (vals 5) 0)), ((aggAt (vals 5) 1))] [(.slice none 0 0), (.slice none 0 0)] [(0, [((aggAt (vals 5) 0)), ((aggAt (vals 5) 1))])] runUnderlying27 sizeOf117 zeroValue117 rfl (by decide) rfl (.cons rfl CellsAre.nil) rfl ?_)
    intro v2 hv2
    exact ⟨hv2, rfl⟩
   exact stepsG.nil
  intro vals F9 le9 hphi
  obtain ⟨e5, f5_1hp_a, f5_1hp_b⟩ := hphi 5 (by decide)
  obtain ⟨t5X1_a, f5_1hp_a, q5_1_a0⟩ := f5_1hp_a
  obtain ⟨t5X1_b, f5_1hp_b, q5_1_b0⟩ := f5_1hp_b
  have f6 : ∃ b, (vals 6) = .slice (some ⟨b, 0, none⟩) 1 1 := hphi 6 (by decide)
  generalize hu1 : ((aggAt (vals 5) 0)) = u1 at e5 f5_1hp_a f5_1hp_b f6
  generalize hu2 : ((aggAt (vals 5) 1)) = u2 at e5 f5_1hp_a f5_1hp_b f6
  generalize hu6 : vals 6 = u3 at e5 f5_1hp_a f5_1hp_b f6
  rw [eS (l := [(1, ov), (5, (.agg #[u1, u2] : Value)), (6, u3)]) ⟨(hphi 1 (by decide)), (e5).symm, hu6, trivial⟩]
  replace hf1 := hf1.mono le9
  replace hC := hC.mono le9
  show XL _ _ _ _ _ _ _ (slH 117 2 u3 1 [u1, u2] :: slH 117 2 ov m cs :: cellsH b2 [x6, ov] 29 :: cellsH b1 [(.slice none 0 0), (.slice none 0 0)] 29 :: curH .i64 134 cb bsv bs.length :: L)
  refine cX (XOp.append (m := 1) (bytes := 48) (cs := cs) [_] _ [u1, u2] runUnderlying27 typeInfo117 rfl rfl rfl rfl rfl rfl rfl (SlV.own [] rfl) rfl (Rd.lit [] rfl) (ones_cons (one_sl (IntsF.isSl f5_1hp_a)) (ones_cons (one_sl (IntsF.isSl f5_1hp_b)) ones_nil)) (by (try simp only [List.length_append, List.length_nil, List.length_cons, List.length_singleton]); omega) (by (try simp only [List.length_append, List.length_nil, List.length_cons, List.length_singleton]); omega) ?_)
  intro v3 hs1 hn1 hm1
  have hc2 := PairsC.snoc hC f5_1hp_a f5_1hp_b
  refine cX (XOp.fieldP (1) runUnderlying29 rfl sizeOf27 (by decide) rfl rfl (cX (XOp.store1 [_, _] _ [x6, v3] sizeOf27 rfl rfl (one_sl hs1) rfl rfl rfl (XL.nil (X.region (XL.mv (.int .i64 ((n : Int))) rfl (cX (XOp.subR (((n : Int)) - 1) rfl rfl (by omega) (by omega) (XL.as (.int .i64 (((n : Int)) - 1)) rfl (XL.nil ?_))))))))))
  exact ⟨(n - 1, v3, os ++ [(t5X1_a, t5X1_b)], cs ++ [u1, u2], (m) + 1, F9), _, (FLe.trans leG1 le9), rF, ⟨rfl, rfl, rfl, (vI (by (try dsimp only); omega)), trivial⟩, (sD (sC (sC (sC (sC sR))))), ⟨rfl, (FLe.trans leG1 le9), (hs1), (hc2), (by (try dsimp only); rw [List.length_append]; simp only [List.length_singleton]; omega), (by (try dsimp only); rw [List.length_append]; simp only [List.length_singleton]; omega), (smallR.snoc hos q5_1_a0 q5_1_b0)⟩, (by (try dsimp only); omega)⟩
 refine X.exit (thenQ_exit (thenQ_exit (blockQ_exit (X.seq (X.region (cX (XOp.loadN [x6, ov] isAgg29 sizeOf29 rfl rfl (Rd.ownN [_] rfl rfl) (cX (XOp.storeN [_, _] _ [x6, ov] sizeOf29 rfl rfl rfl (ones_cons (one_sl (IntsF.isSl hf1)) (ones_cons (one_sl hov) ones_nil)) rfl rfl rfl (XL.nil (X.ret (retEnd (L' := slH 117 2 ov os.length cs :: curH .i64 134 cb bsv bs.length :: L) [.agg #[x6, ov]] (.agg #[x6, ov]) (.cell rfl (loadNV [x6, ov] isAgg29 sizeOf29 rfl (Rd.ownN [_, _] rfl rfl)) .nil) rfl (FLe.trans (FLe.trans le4 le5) leG1) rF (Sub.trans (sC (sD (sD (sC sR)))) (Sub.keep (fun l hl => by first | exact hl | (rw [show m = os.length from by first | rfl | assumption | omega] at hl; exact hl)) sR)) ?_))))))))))))
 exact ⟨_, _, _, os, _, ⟨rfl, hf1, hov, hC, by omega, by omega, hos⟩, rfl⟩

/- spec.l6DrawAny -/
set_option maxHeartbeats 1000000 in
set_option maxRecDepth 20000 in
theorem l6DrawAny_spec {F : FH} {L : List HP} {cb : Nat} {bsv : Value} {bs : List Int} (hbs : BytesF F bsv bs) (hbl : bs.length ≤ 4000000) :
    Does prog 73 [ptr cb 0] F (curH .i64 134 cb bsv bs.length :: L) (fun v F' L' => (∃ (a : Value), ∃ (b : Value), ∃ (ar : List Int), ∃ (rs : List (List Int × List Int)), (.agg #[a, b] : Value) = v ∧ (IntsF F' a ar) ∧ (PairsF F' b rs) ∧ (smallS ar rs)) ∧ curH .i64 134 cb bsv bs.length :: L = L') := by
 refine Does.of_X func73 rfl rfl rfl (X.seq (X.region (cX (XOp.alloc [(.slice none 0 0), (.slice none 0 0)] zeroValue29 rfl ?_))))
 intro b1
 refine XL.nil (X.seq (X.region (XL.mv (ptr cb 0) rfl (cX (XOp.call (args := [ptr cb 0]) call129 rfl ((Does.weaken (Sub.front (A := [_])) (l6Draw_spec hbs (by omega)))) ?_)))))
 rintro _ F1 _ le1 ⟨x1, x2, ar1, rs1, cs1, ⟨rfl, ha1, hsl1, hc1, h_1, h_2, h_3⟩, rfl⟩
 replace hbs := hbs.mono le1
 show XL _ _ _ _ _ _ _ (slH 117 2 x2 rs1.length cs1 :: curH .i64 134 cb bsv bs.length :: cellsH b1 [(.slice none 0 0), (.slice none 0 0)] 29 :: L)
 skip
 refine cX (XOp.alloc [(.slice none 0 0), (.slice none 0 0)] zeroValue29 rfl ?_)
 intro b2
 refine cX (XOp.storeN [] _ [x1, x2] sizeOf29 rfl rfl rfl (ones_cons (one_sl (IntsF.isSl ha1)) (ones_cons (one_sl hsl1) ones_nil)) rfl rfl rfl (XL.nil (X.seq (X.seq (X.region (XL.mv (ptr cb 0) rfl (cX (XOp.call (args := [ptr cb 0, .int .i64 (15)]) call120 rfl (Does.at [_, _] (l1Once_spec (n := 15) hbs (by omega) (hn := (by first | assumption | rfl | omega | simp)))) ?_))))))))
 rintro _ _ _ _ ⟨⟨rfl, x3, rfl⟩, rfl⟩
 show XL _ _ _ _ _ _ _ (cellsH b2 [x1, x2] 29 :: slH 117 2 x2 rs1.length cs1 :: curH .i64 134 cb bsv bs.length :: cellsH b1 [(.slice none 0 0), (.slice none 0 0)] 29 :: L)
 refine XL.nil ?_
 refine X.cond (t := x3) rfl (fun h1 => ?_) (fun h1 => ?_)
 ·refine X.seq (X.region (XL.mv (ptr cb 0) rfl (cX (XOp.call (args := [ptr cb 0, .int .i64 (4)]) call122 rfl (Does.at [_, _] (l1Below_spec (n := 4) hbs (by omega) (hn := (by first | assumption | rfl | omega | simp)))) ?_))))
  rintro _ _ _ _ ⟨⟨rfl, x4, rfl, hr1⟩, rfl⟩
  show XL _ _ _ _ _ _ _ (cellsH b2 [x1, x2] 29 :: slH 117 2 x2 rs1.length cs1 :: curH .i64 134 cb bsv bs.length :: cellsH b1 [(.slice none 0 0), (.slice none 0 0)] 29 :: L)
  refine XL.nil (X.block (X.seq (X.region (cX (XOp.eql rfl rfl (XL.as (.bool (decide ((x4 : Int) = 0))) rfl (XL.nil ?_)))))))
  refine X.condD (p := (x4 : Int) = 0) rfl (fun h2 => ?_) (fun h2 => ?_)
  ·refine X.drawG [cellsH b2 [x1, x2] 29, slH 117 2 x2 rs1.length cs1, curH .i64 134 cb bsv bs.length, cellsH b1 [(.slice none 0 0), (.slice none 0 0)] 29] L 12 [[], [], [], [], [], [], [], [], [], [], [5, 9], [5, 9]] [[], [0], [], [], [3], [2, 4], [], [], [7], [6, 8], [5, 9], [5, 9, 10]] [[], [], [], [], [], [], [], [], [], [], [], []] (phiG [fun FF us v => v = ptr b2 1, fun FF us v => v = x2, fun FF us v => v = ptr cb 0, fun FF us v => v = ptr b2 0, fun FF us v => v = (.agg #[x1] : Value), fun FF us v => ((v) : Value) = v ∧ (SomesF FF (v) (fun u => u.length ≤ 2000)), fun FF us v => v = ptr cb 0, fun FF us v => v = ptr b2 0, fun FF us v => v = (.agg #[x1] : Value), fun FF us v => ((v) : Value) = v ∧ (SomesF FF (v) (fun u => u.length ≤ 2000)), fun FF us v => v = (.agg #[((us.getD 0 undef)), ((us.getD 1 undef))] : Value), fun FF us v => ∃ b, v = .slice (some ⟨b, 0, none⟩) 1 1]) (ownL [fun us v => [], fun us v => [], fun us v => [], fun us v => [], fun us v => [], fun us v => [], fun us v => [], fun us v => [], fun us v => [], fun us v => [], fun us v => [], fun us v => [slH 117 2 v 1 [((us.getD 0 undef)), ((us.getD 1 undef))]]]) mixed rfl rfl (by kernel_rfl) (by kernel_rfl) (MonoG.get (mC (fun le h => h) (mC (fun le h => h) (mC (fun le h => h) (mC (fun le h => h) (mC (fun le h => h) (mC (fun le h => ⟨h.1, h.2.mono le⟩) (mC (fun le h => h) (mC (fun le h => h) (mC (fun le h => h) (mC (fun le h => ⟨h.1, h.2.mono le⟩) (mC (fun le h => h) (mC (fun le h => h) MonoG.nil))))))))))))) ?_ ?_
   ·refine gC (fun vals Fs R leFs hpZ => ?_) ?_
    ·refine XG.op (XOp.fieldP (1) runUnderlying29 rfl sizeOf27 (by decide) rfl rfl ?_)
     exact ⟨rfl, rfl⟩
    refine gC (fun vals Fs R leFs hpZ => ?_) ?_
    ·replace hbs := hbs.mono leFs
     replace ha1 := ha1.mono leFs
     replace hc1 := hc1.mono leFs
     rw [eS (l := [(0, ptr b2 1)]) ⟨(hpZ 0 (by decide)), trivial⟩]
     refine XG.op (XOp.load1 isAgg27 rfl (Rd.own [] rfl rfl) ?_)
     exact ⟨rfl, rfl⟩
    refine gC (fun vals Fs R leFs hpZ => ?_) ?_
    ·refine XG.op (XOp.move (ptr cb 0) rfl ?_)
     exact ⟨rfl, rfl⟩
    refine gC (fun vals Fs R leFs hpZ => ?_) ?_
    ·refine XG.op (XOp.fieldP (0) runUnderlying29 rfl sizeOf26 (by decide) rfl rfl ?_)
     exact ⟨rfl, rfl⟩
    refine gC (fun vals Fs R leFs hpZ => ?_) ?_
    ·replace hbs := hbs.mono leFs
     replace ha1 := ha1.mono leFs
     replace hc1 := hc1.mono leFs
     rw [eS (l := [(3, ptr b2 0)]) ⟨(hpZ 3 (by decide)), trivial⟩]
     refine XG.op (XOp.loadN [x1] isAgg26 sizeOf26 rfl rfl (Rd.ownN [] rfl rfl) ?_)
     exact ⟨rfl, rfl⟩
    refine gC (fun vals Fs R leFs hpZ => ?_) ?_
    ·replace hbs := hbs.mono leFs
     replace ha1 := ha1.mono leFs
     replace hc1 := hc1.mono leFs
     rw [eS (l := [(2, ptr cb 0), (4, (.agg #[x1] : Value))]) ⟨(hpZ 2 (by decide)), (hpZ 4 (by decide)), trivial⟩]
     refine XG.op (XOp.call (args := [ptr cb 0, .agg #[x1]]) call130 rfl (Does.at [_, _] (l1DrawAny_spec hbs (by omega) ha1 (hal := (by first | assumption | rfl | omega | simp)))) ?_)
     rintro _ F6 _ le6 ⟨⟨x7, rfl, hr4⟩, rfl⟩
     replace hbs := hbs.mono le6
     replace ha1 := ha1.mono le6
     replace hc1 := hc1.mono le6
     exact ⟨⟨rfl, hr4⟩, rfl⟩
    refine gC (fun vals Fs R leFs hpZ => ?_) ?_
    ·refine XG.op (XOp.move (ptr cb 0) rfl ?_)
     exact ⟨rfl, rfl⟩
    refine gC (fun vals Fs R leFs hpZ => ?_) ?_
    ·refine XG.op (XOp.fieldP (0) runUnderlying29 rfl sizeOf26 (by decide) rfl rfl ?_)
     exact ⟨rfl, rfl⟩
    refine gC (fun vals Fs R leFs hpZ => ?_) ?_
    ·replace hbs := hbs.mono leFs
     replace ha1 := ha1.mono leFs
     replace hc1 := hc1.mono leFs
     rw [eS (l := [(7, ptr b2 0)]) ⟨(hpZ 7 (by decide)), trivial⟩]
     refine XG.op (XOp.loadN [x1] isAgg26 sizeOf26 rfl rfl (Rd.ownN [] rfl rfl) ?_)
     exact ⟨rfl, rfl⟩
    refine gC (fun vals Fs R leFs hpZ => ?_) ?_
    ·replace hbs := hbs.mono leFs
     replace ha1 := ha1.mono leFs
     replace hc1 := hc1.mono leFs
     rw [eS (l := [(6, ptr cb 0), (8, (.agg #[x1] : Value))]) ⟨(hpZ 6 (by decide)), (hpZ 8 (by decide)), trivial⟩]
     refine XG.op (XOp.call (args := [ptr cb 0, .agg #[x1]]) call130 rfl (Does.at [_, _] (l1DrawAny_spec hbs (by omega) ha1 (hal := (by first | assumption | rfl | omega | simp)))) ?_)
     rintro _ F7 _ le7 ⟨⟨x8, rfl, hr5⟩, rfl⟩
     replace hbs := hbs.mono le7
     replace ha1 := ha1.mono le7
     replace hc1 := hc1.mono le7
     exact ⟨⟨rfl, hr5⟩, rfl⟩
    refine gC (fun vals Fs R leFs hpZ => ?_) ?_
    ·obtain ⟨e5, f5_1hp_a⟩ := hpZ 5 (by decide)
     obtain ⟨t5X1_a, f5_1hp_a, q5_1_a0⟩ := f5_1hp_a
     obtain ⟨e9, f9_1hp_a⟩ := hpZ 9 (by decide)
     obtain ⟨t9X1_a, f9_1hp_a, q9_1_a0⟩ := f9_1hp_a
     replace hbs := hbs.mono leFs
     replace ha1 := ha1.mono leFs
     replace hc1 := hc1.mono leFs
     rw [eS (l := [(5, ((vals 5))), (9, ((vals 9)))]) ⟨(e5).symm, (e9).symm, trivial⟩]
     refine XG.op (XOp.build [((vals 5)), ((vals 9))] [(.slice none 0 0), (.slice none 0 0)] [(0, 1), (1, 1)] [(0, [((vals 5))]), (1, [((vals 9))])] runUnderlying117 zeroValue117 rfl (.cons rfl sizeOf24 (.cons rfl sizeOf24 PlacesAre.nil)) rfl (.cons (cells_one (IntsF.isSl f5_1hp_a)) (.cons (cells_one (IntsF.isSl f9_1hp_a)) CellsAre.nil)) ?_)
     exact ⟨rfl, rfl⟩
    refine gC (fun vals Fs R leFs hpZ => ?_) ?_
    ·obtain ⟨e5, f5_1hp_a⟩ := hpZ 5 (by decide)
     obtain ⟨t5X1_a, f5_1hp_a, q5_1_a0⟩ := f5_1hp_a
     obtain ⟨e9, f9_1hp_a⟩ := hpZ 9 (by decide)
     obtain ⟨t9X1_a, f9_1hp_a, q9_1_a0⟩ := f9_1hp_a
     have e10 : vals 10 = (.agg #[((vals 5)), ((vals 9))] : Value) := hpZ 10 (by decide)
     replace hbs := hbs.mono leFs
     replace ha1 := ha1.mono leFs
     replace hc1 := hc1.mono leFs
     rw [eS (l := [(5, ((vals 5))), (9, ((vals 9))), (10, (.agg #[((vals 5)), ((vals 9))] : Value))]) ⟨(e5).symm, (e9).symm, e10, trivial⟩]
     refine XG.op (XOp.buildSlice (s := 2) [((vals 5)), ((vals 9))] [(.slice none 0 0), (.slice none 0 0)] [(0, [((vals 5)), ((vals 9))])] runUnderlying27 sizeOf117 zeroValue117 rfl (by decide) rfl (.cons rfl CellsAre.nil) rfl ?_)
     intro v2 hv2
     exact ⟨hv2, rfl⟩
    exact stepsG.nil
   intro vals F8 le8 hphi
   obtain ⟨e5, f5_1hp_a⟩ := hphi 5 (by decide)
   obtain ⟨t5X1_a, f5_1hp_a, q5_1_a0⟩ := f5_1hp_a
   obtain ⟨e9, f9_1hp_a⟩ := hphi 9 (by decide)
   obtain ⟨t9X1_a, f9_1hp_a, q9_1_a0⟩ := f9_1hp_a
   have e10 : vals 10 = (.agg #[((vals 5)), ((vals 9))] : Value) := hphi 10 (by decide)
   have f11 : ∃ b, (vals 11) = .slice (some ⟨b, 0, none⟩) 1 1 := hphi 11 (by decide)
   generalize hu1 : ((vals 5)) = u1 at e5 f5_1hp_a e9 f9_1hp_a e10 f11
   generalize hu2 : ((vals 9)) = u2 at e5 f5_1hp_a e9 f9_1hp_a e10 f11
   generalize hu11 : vals 11 = u3 at e5 f5_1hp_a e9 f9_1hp_a e10 f11
   rw [eS (l := [(1, x2), (5, u1), (9, u2), (11, u3)]) ⟨(hphi 1 (by decide)), hu1, hu2, hu11, trivial⟩]
   replace hbs := hbs.mono le8
   replace ha1 := ha1.mono le8
   replace hc1 := hc1.mono le8
   show XL _ _ _ _ _ _ _ (slH 117 2 u3 1 [u1, u2] :: cellsH b2 [x1, x2] 29 :: slH 117 2 x2 rs1.length cs1 :: curH .i64 134 cb bsv bs.length :: cellsH b1 [(.slice none 0 0), (.slice none 0 0)] 29 :: L)
   refine cX (XOp.append (m := 1) (bytes := 48) (cs := cs1) [_, _] _ [u1, u2] runUnderlying27 typeInfo117 rfl rfl rfl rfl rfl rfl rfl (SlV.own [] rfl) rfl (Rd.lit [] rfl) (ones_cons (one_sl (IntsF.isSl f5_1hp_a)) (ones_cons (one_sl (IntsF.isSl f9_1hp_a)) ones_nil)) (by (try simp only [List.length_append, List.length_nil, List.length_cons, List.length_singleton]); omega) (by (try simp only [List.length_append, List.length_nil, List.length_cons, List.length_singleton]); omega) ?_)
   intro v3 hs1 hn1 hm1
   have hc2 := PairsC.snoc hc1 f5_1hp_a f9_1hp_a
   refine cX (XOp.fieldP (1) runUnderlying29 rfl sizeOf27 (by decide) rfl rfl (cX (XOp.store1 [_] _ [x1, v3] sizeOf27 rfl rfl (one_sl hs1) rfl rfl rfl (XL.nil (X.seq (X.region (cX (XOp.loadN [x1, v3] isAgg29 sizeOf29 rfl rfl (Rd.ownN [_] rfl rfl) (cX (XOp.storeN [_, _, _, _] _ [x1, v3] sizeOf29 rfl rfl rfl (ones_cons (one_sl (IntsF.isSl ha1)) (ones_cons (one_sl hs1) ones_nil)) rfl rfl rfl (XL.nil (X.freezeF [_, _] _ _ rfl (fun F9 le9 hz1 => ?_)))))))))))))
   replace hbs := hbs.mono le9
   replace ha1 := ha1.mono le9
   replace hc1 := hc1.mono le9
   replace hc2 := hc2.mono le9
   have hf1 : PairsF F9 v3 (rs1 ++ [(t5X1_a, t9X1_a)]) := CO.fz hc2 (by first | rfl | omega | (rw [List.length_set]; omega) | (simp; done)) hz1.fz
   refine X.ret (retEnd (L' := curH .i64 134 cb bsv bs.length :: L) [.agg #[x1, v3]] (.agg #[x1, v3]) (.cell rfl (loadNV [x1, v3] isAgg29 sizeOf29 rfl (Rd.ownN [_, _, _] rfl rfl)) .nil) rfl (FLe.trans (FLe.trans le1 le8) le9) rF (sD (sD (sC (sD sR)))) ?_)
   exact ⟨⟨_, _, _, _, rfl, ha1, hf1, smallS.mk' (by omega) (by (try simp only [List.length_append, List.length_cons, List.length_nil]); omega) (smallR.snoc h_3 q5_1_a0 q9_1_a0)⟩, rfl⟩
  refine X.seq (X.region (cX (XOp.eql rfl rfl (XL.as (.bool (decide ((x4 : Int) = 1))) rfl (XL.nil ?_)))))
  refine X.condD (p := (x4 : Int) = 1) rfl (fun h3 => ?_) (fun h3 => ?_)
  ·refine X.region (XL.mv (ptr cb 0) rfl (cX (XOp.call (args := [ptr cb 0]) call131 rfl (Does.at [_, _] (l1DrawSigAny_spec hbs (by omega))) ?_)))
   rintro _ F10 _ le10 ⟨⟨x9, x10, rfl, hr6, hr7⟩, rfl⟩
   replace ha1 := ha1.mono le10
   replace hc1 := hc1.mono le10
   show XL _ _ _ _ _ _ _ (cellsH b2 [x1, x2] 29 :: slH 117 2 x2 rs1.length cs1 :: curH .i64 134 cb bsv bs.length :: cellsH b1 [(.slice none 0 0), (.slice none 0 0)] 29 :: L)
   refine cX (XOp.fieldP (0) runUnderlying29 rfl sizeOf26 (by decide) rfl rfl (cX (XOp.storeN [] _ [x9, x2] sizeOf26 rfl rfl rfl (ones_cons (one_sl (IntsF.isSl hr6)) ones_nil) rfl rfl rfl (XL.nil (X.seq (X.region (cX (XOp.loadN [x9, x2] isAgg29 sizeOf29 rfl rfl (Rd.ownN [] rfl rfl) (cX (XOp.storeN [_, _, _] _ [x9, x2] sizeOf29 rfl rfl rfl (ones_cons (one_sl (IntsF.isSl hr6)) (ones_cons (one_sl hsl1) ones_nil)) rfl rfl rfl (XL.nil (X.freezeF [_] _ _ rfl (fun F11 le11 hz2 => ?_)))))))))))))
   replace ha1 := ha1.mono le11
   replace hc1 := hc1.mono le11
   replace hr6 := hr6.mono le11
   have hf2 : PairsF F11 x2 rs1 := CO.fz hc1 (by first | rfl | omega | (rw [List.length_set]; omega) | (simp; done)) hz2.fz
   refine X.ret (retEnd (L' := curH .i64 134 cb bsv bs.length :: L) [.agg #[x9, x2]] (.agg #[x9, x2]) (.cell rfl (loadNV [x9, x2] isAgg29 sizeOf29 rfl (Rd.ownN [_, _] rfl rfl)) .nil) rfl (FLe.trans (FLe.trans le1 le10) le11) rF (sD (sC (sD sR))) ?_)
   exact ⟨⟨_, _, _, _, rfl, hr6, hf2, smallS.mk' (by omega) (by (try simp only [List.length_append, List.length_cons, List.length_nil]); omega) h_3⟩, rfl⟩
  refine X.seq (X.region (cX (XOp.eql rfl rfl (XL.as (.bool (decide ((x4 : Int) = 2))) rfl (XL.nil ?_)))))
  refine X.condD (p := (x4 : Int) = 2) rfl (fun h4 => ?_) (fun h4 => ?_)
  ·refine X.block (X.loop (α := Value × List (List Int × List Int) × List Value × Nat × FH) (fun xQ => [(2, ptr b1 0), (3, ptr b2 0)]) (fun xQ => slH 117 2 xQ.1 xQ.2.2.2.1 xQ.2.2.1 :: cellsH b2 [x1, xQ.1] 29 :: curH .i64 134 cb bsv bs.length :: cellsH b1 [(.slice none 0 0), (.slice none 0 0)] 29 :: L) (fun xQ F' => xQ.2.2.2.2 = F' ∧ F1 ≤ xQ.2.2.2.2 ∧ (IsSl xQ.1) ∧ (PairsC xQ.2.2.2.2 xQ.2.2.1 xQ.2.1) ∧ (xQ.2.2.2.1 = xQ.2.1.length) ∧ (xQ.2.1.length ≤ 13) ∧ (smallR xQ.2.1)) (fun xQ => 13 - xQ.2.2.2.1) (x2, rs1, cs1, rs1.length, F1) ⟨rfl, rfl, trivial⟩ (Sub.trans (Sub.front (A := [_, _, _])) (Sub.trans (Sub.front (A := [_, _, _])) (Sub.trans (Sub.front (A := [_, _])) (Sub.trans (Sub.front (A := [_, _, _])) (sC (sC (sC (sC sR)))))))) ⟨rfl, FLe.refl _, (hsl1), (hc1), (rfl), (by (try dsimp only); omega), (h_3)⟩ ?_)
   rintro ⟨ov, os, cs, m, G1⟩ rE _ _ ⟨rfl, leG, hov, hC, hm, hon, hos⟩
   show X _ _ _ _ (envs [(2, ptr b1 0), (3, ptr b2 0)] rE) _ (slH 117 2 ov m cs :: cellsH b2 [x1, ov] 29 :: curH .i64 134 cb bsv bs.length :: cellsH b1 [(.slice none 0 0), (.slice none 0 0)] 29 :: L)
   replace leG : F1 ≤ G1 := leG
   dsimp only at hov hC hm hon hos
   have leG1 := leG
   replace ha1 := ha1.mono leG1
   replace hc1 := hc1.mono leG1
   refine X.seq (X.seq (X.region (cX (XOp.fieldP (1) runUnderlying29 rfl sizeOf27 (by decide) rfl rfl (cX (XOp.load1 isAgg27 rfl (Rd.own [_] rfl rfl) (cX (XOp.lenS runUnderlying27 rfl (SlV.own [] rfl) (cX (XOp.lss rfl rfl (XL.nil ?_)))))))))))
   refine X.condD (p := (m : Int) < 13) rfl (fun h5 => ?_) (fun h5 => ?_)
   ·refine X.skip (X.block (X.region (cX (XOp.fieldP (1) runUnderlying29 rfl sizeOf27 (by decide) rfl rfl (cX (XOp.load1 isAgg27 rfl (Rd.own [_] rfl rfl) (cX (XOp.buildSlice (s := 1) [.int .i64 (2)] [.int .i64 (0)] [(0, [.int .i64 (2)])] runUnderlying24 sizeOf2 zeroValue2 rfl (by decide) rfl (.cons rfl CellsAre.nil) rfl ?_))))))))
    intro v4 hv3
    refine cX (XOp.buildSlice (s := 1) [.int .i64 (2)] [.int .i64 (0)] [(0, [.int .i64 (2)])] runUnderlying24 sizeOf2 zeroValue2 rfl (by decide) rfl (.cons rfl CellsAre.nil) rfl ?_)
    intro v5 hv4
    refine cX (XOp.build [v4, v5] [(.slice none 0 0), (.slice none 0 0)] [(0, 1), (1, 1)] [(0, [v4]), (1, [v5])] runUnderlying117 zeroValue117 rfl (.cons rfl sizeOf24 (.cons rfl sizeOf24 PlacesAre.nil)) rfl (.cons (cells_one (isSl_lit hv3)) (.cons (cells_one (isSl_lit hv4)) CellsAre.nil)) (cX (XOp.buildSlice (s := 2) [v4, v5] [(.slice none 0 0), (.slice none 0 0)] [(0, [v4, v5])] runUnderlying27 sizeOf117 zeroValue117 rfl (by decide) rfl (.cons rfl CellsAre.nil) rfl ?_)))
    intro v6 hv5
    show XL _ _ _ _ _ _ _ (slH 117 2 v6 1 [v4, v5] :: slH 2 1 v5 1 [.int .i64 (2)] :: intsH 2 v4 ([2] : List Int) :: slH 117 2 ov m cs :: cellsH b2 [x1, ov] 29 :: curH .i64 134 cb bsv bs.length :: cellsH b1 [(.slice none 0 0), (.slice none 0 0)] 29 :: L)
    refine XL.freezeF [_, _] _ _ rfl (fun F12 le12 hz3 => ?_)
    replace ha1 := ha1.mono le12
    replace hc1 := hc1.mono le12
    replace hC := hC.mono le12
    have hf3 : IntsF F12 v4 ([2]) := intsH.fz (xs := [2]) hz3.fz
    show XL _ _ _ _ _ _ _ (slH 117 2 v6 1 [v4, v5] :: intsH 2 v5 ([2] : List Int) :: slH 117 2 ov m cs :: cellsH b2 [x1, ov] 29 :: curH .i64 134 cb bsv bs.length :: cellsH b1 [(.slice none 0 0), (.slice none 0 0)] 29 :: L)
    refine XL.freezeF [_] _ _ rfl (fun F13 le13 hz4 => ?_)
    replace ha1 := ha1.mono le13
    replace hc1 := hc1.mono le13
    replace hC := hC.mono le13
    replace hf3 := hf3.mono le13
    have hf4 : IntsF F13 v5 ([2]) := intsH.fz (xs := [2]) hz4.fz
    refine cX (XOp.append (m := 1) (bytes := 48) (cs := cs) [_] _ [v4, v5] runUnderlying27 typeInfo117 rfl rfl rfl rfl rfl rfl rfl (SlV.own [] rfl) rfl (Rd.lit [] rfl) (ones_cons (one_sl (IntsF.isSl hf3)) (ones_cons (one_sl (IntsF.isSl hf4)) ones_nil)) (by (try simp only [List.length_append, List.length_nil, List.length_cons, List.length_singleton]); omega) (by (try simp only [List.length_append, List.length_nil, List.length_cons, List.length_singleton]); omega) ?_)
    intro v7 hs2 hn2 hm2
    have hc3 := PairsC.snoc hC hf3 hf4
    refine cX (XOp.fieldP (1) runUnderlying29 rfl sizeOf27 (by decide) rfl rfl (cX (XOp.store1 [_, _] _ [x1, v7] sizeOf27 rfl rfl (one_sl hs2) rfl rfl rfl (XL.nil ?_))))
    exact ⟨(v7, os ++ [([2], [2])], cs ++ [v4, v5], (m) + 1, F13), _, (FLe.trans (FLe.trans leG1 le12) le13), rF, ⟨rfl, rfl, trivial⟩, (sD (sC (sC (sC (sC sR))))), ⟨rfl, (FLe.trans (FLe.trans leG1 le12) le13), (hs2), (hc3), (by (try dsimp only); rw [List.length_append]; simp only [List.length_singleton]; omega), (by (try dsimp only); rw [List.length_append]; simp only [List.length_singleton]; omega), (smallR.snoc hos (by decide) (by decide))⟩, (by (try dsimp only); omega)⟩
   refine X.exit (thenQ_exit (thenQ_exit (blockQ_exit (X.seq (X.region (cX (XOp.loadN [x1, ov] isAgg29 sizeOf29 rfl rfl (Rd.ownN [_] rfl rfl) (cX (XOp.storeN [_, _, _] _ [x1, ov] sizeOf29 rfl rfl rfl (ones_cons (one_sl (IntsF.isSl ha1)) (ones_cons (one_sl hov) ones_nil)) rfl rfl rfl (XL.nil (X.freezeF [] _ _ rfl (fun F14 le14 hz5 => ?_))))))))))))
   replace ha1 := ha1.mono le14
   replace hc1 := hc1.mono le14
   replace hC := hC.mono le14
   have hf5 : PairsF F14 ov os := CO.fz hC (by first | rfl | omega | (rw [List.length_set]; omega) | (simp; done)) hz5.fz
   refine X.ret (retEnd (L' := curH .i64 134 cb bsv bs.length :: L) [.agg #[x1, ov]] (.agg #[x1, ov]) (.cell rfl (loadNV [x1, ov] isAgg29 sizeOf29 rfl (Rd.ownN [_, _] rfl rfl)) .nil) rfl (FLe.trans (FLe.trans le1 leG1) le14) rF (sD (sC (sD sR))) ?_)
   exact ⟨⟨_, _, _, _, rfl, ha1, hf5, smallS.mk' (by omega) (by (try simp only [List.length_append, List.length_cons, List.length_nil]); omega) hos⟩, rfl⟩
  refine X.seq (X.region (cX (XOp.eql rfl rfl (XL.as (.bool (decide ((x4 : Int) = 3))) rfl (XL.nil ?_)))))
  refine X.condD (p := (x4 : Int) = 3) rfl (fun h6 => ?_) (fun h6 => ?_)
  ·refine X.region (cX (XOp.fieldP (1) runUnderlying29 rfl sizeOf27 (by decide) rfl rfl (cX (XOp.load1 isAgg27 rfl (Rd.own [] rfl rfl) (cX (XOp.buildSlice (s := 1) [.int .i64 (-1)] [.int .i64 (0)] [(0, [.int .i64 (-1)])] runUnderlying24 sizeOf2 zeroValue2 rfl (by decide) rfl (.cons rfl CellsAre.nil) rfl ?_))))))
   intro v8 hv6
   refine cX (XOp.buildSlice (s := 1) [.int .i64 (-1)] [.int .i64 (0)] [(0, [.int .i64 (-1)])] runUnderlying24 sizeOf2 zeroValue2 rfl (by decide) rfl (.cons rfl CellsAre.nil) rfl ?_)
   intro v9 hv7
   refine cX (XOp.build [v8, v9] [(.slice none 0 0), (.slice none 0 0)] [(0, 1), (1, 1)] [(0, [v8]), (1, [v9])] runUnderlying117 zeroValue117 rfl (.cons rfl sizeOf24 (.cons rfl sizeOf24 PlacesAre.nil)) rfl (.cons (cells_one (isSl_lit hv6)) (.cons (cells_one (isSl_lit hv7)) CellsAre.nil)) (cX (XOp.buildSlice (s := 2) [v8, v9] [(.slice none 0 0), (.slice none 0 0)] [(0, [v8, v9])] runUnderlying27 sizeOf117 zeroValue117 rfl (by decide) rfl (.cons rfl CellsAre.nil) rfl ?_)))
   intro v10 hv8
   show XL _ _ _ _ _ _ _ (slH 117 2 v10 1 [v8, v9] :: slH 2 1 v9 1 [.int .i64 (-1)] :: intsH 2 v8 ([-1] : List Int) :: cellsH b2 [x1, x2] 29 :: slH 117 2 x2 rs1.length cs1 :: curH .i64 134 cb bsv bs.length :: cellsH b1 [(.slice none 0 0), (.slice none 0 0)] 29 :: L)
   refine XL.freezeF [_, _] _ _ rfl (fun F15 le15 hz6 => ?_)
   replace ha1 := ha1.mono le15
   replace hc1 := hc1.mono le15
   have hf6 : IntsF F15 v8 ([-1]) := intsH.fz (xs := [-1]) hz6.fz
   show XL _ _ _ _ _ _ _ (slH 117 2 v10 1 [v8, v9] :: intsH 2 v9 ([-1] : List Int) :: cellsH b2 [x1, x2] 29 :: slH 117 2 x2 rs1.length cs1 :: curH .i64 134 cb bsv bs.length :: cellsH b1 [(.slice none 0 0), (.slice none 0 0)] 29 :: L)
   refine XL.freezeF [_] _ _ rfl (fun F16 le16 hz7 => ?_)
   replace ha1 := ha1.mono le16
   replace hc1 := hc1.mono le16
   replace hf6 := hf6.mono le16
   have hf7 : IntsF F16 v9 ([-1]) := intsH.fz (xs := [-1]) hz7.fz
   refine cX (XOp.append (m := 1) (bytes := 48) (cs := cs1) [_, _] _ [v8, v9] runUnderlying27 typeInfo117 rfl rfl rfl rfl rfl rfl rfl (SlV.own [] rfl) rfl (Rd.lit [] rfl) (ones_cons (one_sl (IntsF.isSl hf6)) (ones_cons (one_sl (IntsF.isSl hf7)) ones_nil)) (by (try simp only [List.length_append, List.length_nil, List.length_cons, List.length_singleton]); omega) (by (try simp only [List.length_append, List.length_nil, List.length_cons, List.length_singleton]); omega) ?_)
   intro v11 hs3 hn3 hm3
   have hc4 := PairsC.snoc hc1 hf6 hf7
   refine cX (XOp.fieldP (1) runUnderlying29 rfl sizeOf27 (by decide) rfl rfl (cX (XOp.store1 [_] _ [x1, v11] sizeOf27 rfl rfl (one_sl hs3) rfl rfl rfl (XL.nil (X.seq (X.region (cX (XOp.loadN [x1, v11] isAgg29 sizeOf29 rfl rfl (Rd.ownN [_] rfl rfl) (cX (XOp.storeN [_, _, _, _] _ [x1, v11] sizeOf29 rfl rfl rfl (ones_cons (one_sl (IntsF.isSl ha1)) (ones_cons (one_sl hs3) ones_nil)) rfl rfl rfl (XL.nil (X.freezeF [_, _] _ _ rfl (fun F17 le17 hz8 => ?_)))))))))))))
   replace ha1 := ha1.mono le17
   replace hc1 := hc1.mono le17
   replace hc4 := hc4.mono le17
   have hf8 : PairsF F17 v11 (rs1 ++ [([-1], [-1])]) := CO.fz hc4 (by first | rfl | omega | (rw [List.length_set]; omega) | (simp; done)) hz8.fz
   refine X.ret (retEnd (L' := curH .i64 134 cb bsv bs.length :: L) [.agg #[x1, v11]] (.agg #[x1, v11]) (.cell rfl (loadNV [x1, v11] isAgg29 sizeOf29 rfl (Rd.ownN [_, _, _] rfl rfl)) .nil) rfl (FLe.trans (FLe.trans (FLe.trans le1 le15) le16) le17) rF (sD (sD (sC (sD sR)))) ?_)
   exact ⟨⟨_, _, _, _, rfl, ha1, hf8, smallS.mk' (by omega) (by (try simp only [List.length_append, List.length_cons, List.length_nil]); omega) (smallR.snoc h_3 (by decide) (by decide))⟩, rfl⟩
  refine X.skip (X.seq (X.region (cX (XOp.loadN [x1, x2] isAgg29 sizeOf29 rfl rfl (Rd.ownN [] rfl rfl) (cX (XOp.storeN [_, _, _] _ [x1, x2] sizeOf29 rfl rfl rfl (ones_cons (one_sl (IntsF.isSl ha1)) (ones_cons (one_sl hsl1) ones_nil)) rfl rfl rfl (XL.nil (X.freezeF [_] _ _ rfl (fun F18 le18 hz9 => ?_)))))))))
  replace ha1 := ha1.mono le18
  replace hc1 := hc1.mono le18
  have hf9 : PairsF F18 x2 rs1 := CO.fz hc1 (by first | rfl | omega | (rw [List.length_set]; omega) | (simp; done)) hz9.fz
  refine X.ret (retEnd (L' := curH .i64 134 cb bsv bs.length :: L) [.agg #[x1, x2]] (.agg #[x1, x2]) (.cell rfl (loadNV [x1, x2] isAgg29 sizeOf29 rfl (Rd.ownN [_, _] rfl rfl)) .nil) rfl (FLe.trans le1 le18) rF (sD (sC (sD sR))) ?_)
  exact ⟨⟨_, _, _, _, rfl, ha1, hf9, smallS.mk' (by omega) (by (try simp only [List.length_append, List.length_cons, List.length_nil]); omega) h_3⟩, rfl⟩
 refine X.skip (X.seq (X.region (cX (XOp.loadN [x1, x2] isAgg29 sizeOf29 rfl rfl (Rd.ownN [] rfl rfl) (cX (XOp.storeN [_, _, _] _ [x1, x2] sizeOf29 rfl rfl rfl (ones_cons (one_sl (IntsF.isSl ha1)) (ones_cons (one_sl hsl1) ones_nil)) rfl rfl rfl (XL.nil (X.freezeF [_] _ _ rfl (fun F19 le19 hz10 => ?_)))))))))
 replace ha1 := ha1.mono le19
 replace hc1 := hc1.mono le19
 have hf10 : PairsF F19 x2 rs1 := CO.fz hc1 (by first | rfl | omega | (rw [List.length_set]; omega) | (simp; done)) hz10.fz
 refine X.ret (retEnd (L' := curH .i64 134 cb bsv bs.length :: L) [.agg #[x1, x2]] (.agg #[x1, x2]) (.cell rfl (loadNV [x1, x2] isAgg29 sizeOf29 rfl (Rd.ownN [_, _] rfl rfl)) .nil) rfl (FLe.trans le1 le19) rF (sD (sC (sD sR))) ?_)
 exact ⟨⟨_, _, _, _, rfl, ha1, hf10, smallS.mk' (by omega) (by (try simp only [List.length_append, List.length_cons, List.length_nil]); omega) h_3⟩, rfl⟩
theorem l2FilledW_spec {F : FH} {L : List HP} {sv : Value} {s : List (List Int)} (hs : RowsF F sv s) {tv : Value} {t : List Int} (ht : IntsF F tv t) (hsl : s.length ≤ 4000000) (hsb : ∀ i, (s.getD i []).length ≤ 4000000) (htl : t.length ≤ 4000000) (htg : ∀ k, k < t.length → -4000000 ≤ t.getD k 0) :
    Does prog 111 [.agg #[sv], tv] F (L) (fun v F' L' => (∃ (a : Value) (b : Bool), (.tuple #[a, .bool b] : Value) = v ∧ (SomesF F' a (fun u => u.length ≤ 60))) ∧ L = L') :=
  (l2Filled_spec hs ht hsl hsb htl htg).mono (by rintro _ F' L' le ⟨a, rfl, h, rfl⟩; exact ⟨⟨a, _, rfl, ⟨_, h, fill_le60⟩⟩, rfl⟩)

/- spec.l7DrawTerm -/
set_option maxHeartbeats 1000000 in
set_option maxRecDepth 20000 in
theorem l7DrawTerm_spec {F : FH} {L : List HP} {cb : Nat} {bsv : Value} {bs : List Int} (hbs : BytesF F bsv bs) (hbl : bs.length ≤ 4000000) {arv : Value} {ar : List Int} (har : IntsF F arv ar) {rsv : Value} {rs : List (List Int × List Int)} (hrs : PairsF F rsv rs) (hsm : smallS ar rs) :
    Does prog 119 [ptr cb 0, .agg #[arv, rsv]] F (curH .i64 134 cb bsv bs.length :: L) (fun v F' L' => (∃ (a : Value), (a : Value) = v ∧ (SomesF F' a (fun u => u.length ≤ 2000))) ∧ curH .i64 134 cb bsv bs.length :: L = L') := by
 refine Does.of_X func119 rfl rfl rfl ?_
 have hla := hsm.la
 have hlr := hsm.lr
 have hrb := hsm.each
 refine X.seq (X.region (cX (XOp.box [arv, rsv] rfl rfl ?_)))
 intro b1
 refine XL.as ((.slice none 0 0)) rfl (XL.nil (X.seq (X.seq (X.region (cX (XOp.loadN [arv, rsv] isAgg29 sizeOf29 rfl rfl (Rd.ownN [] rfl rfl) (cX (XOp.call (args := [.agg #[arv, rsv]]) call92 rfl (sSystemOk_spec har hrs (hla := (by first | assumption | rfl | omega | simp)) (hlr := (by first | assumption | rfl | omega | simp)) (hrb := (by first | assumption | rfl | omega | simp))) ?_))))))))
 rintro _ _ _ _ ⟨rfl, rfl, rfl⟩
 refine cX (XOp.notB rfl (XL.nil ?_))
 refine X.cond (t := !(sysOk ar rs)) rfl (fun h1 => ?_) (fun h1 => ?_)
 ·refine X.seq (X.region (XL.mv (ptr cb 0) rfl (cX (XOp.fieldP (0) runUnderlying29 rfl sizeOf26 (by decide) rfl rfl (cX (XOp.loadN [arv] isAgg26 sizeOf26 rfl rfl (Rd.ownN [] rfl rfl) (cX (XOp.call (args := [ptr cb 0, .agg #[arv]]) call130 rfl (Does.at [_] (l1DrawAny_spec hbs (by omega) har (hal := (by first | assumption | rfl | omega | simp)))) ?_))))))))
  rintro _ F1 _ le1 ⟨⟨x1, rfl, hr1⟩, rfl⟩
  obtain ⟨t1, hr1, q1⟩ := hr1
  replace hbs := hbs.mono le1
  replace har := har.mono le1
  replace hrs := hrs.mono le1
  show XL _ _ _ _ _ _ _ (cellsH b1 [arv, rsv] 29 :: curH .i64 134 cb bsv bs.length :: L)
  refine XL.as (x1) rfl (XL.nil (X.ret (thenQ_ret (retEnd (L' := curH .i64 134 cb bsv bs.length :: L) [x1] (x1) (.tmp rfl .nil) rfl le1 rF (sD (sC sR)) ?_))))
  exact ⟨⟨_, rfl, ⟨_, hr1, by omega⟩⟩, rfl⟩
 have hsys : sysOk ar rs = true := by simpa using h1
 have hsq := sysOk_iff.1 hsys
 have hso := hsq.1
 refine X.skip (X.seq (X.seq (X.region (cX (XOp.fieldP (1) runUnderlying29 rfl sizeOf27 (by decide) rfl rfl (cX (XOp.load1 isAgg27 rfl (Rd.own [] rfl rfl) (cX (XOp.lenS runUnderlying27 rfl hrs.slv (cX (XOp.gtr rfl rfl (XL.mv (.bool (decide (((rs.length : Int) : Int) > 0))) rfl ?_))))))))))))
 by_cases h2 : ((rs.length : Int) : Int) > 0
 ·refine XL.yes (t := 21) rfl (vT h2) (XOp.move (ptr cb 0) rfl (XL.yes (t := 21) rfl (vT h2) (XOp.call (args := [ptr cb 0, .int .i64 (2)]) call120 rfl (Does.at [_] (l1Once_spec (n := 2) hbs (by omega) (hn := (by first | assumption | rfl | omega | simp)))) ?_)))
  rintro _ _ _ _ ⟨⟨rfl, x2, rfl⟩, rfl⟩
  show XL _ _ _ _ _ _ _ (cellsH b1 [arv, rsv] 29 :: curH .i64 134 cb bsv bs.length :: L)
  refine cX (XOp.pickT (.bool (x2)) (vT h2) rfl (XL.nil ?_))
  refine X.cond (t := x2) rfl (fun h3 => ?_) (fun h3 => ?_)
  ·refine X.seq ?_
   refine X.drawG [cellsH b1 [arv, rsv] 29, curH .i64 134 cb bsv bs.length] L 19 [[], [], [], [], [], [], [], [], [], [], [], [10], [10], [10], [], [14], [14], [14], [14]] [[], [], [1], [0, 2], [], [4], [], [], [7], [8], [6, 9], [5, 10], [10, 11], [10, 12], [3, 10, 13], [14], [14, 15], [14, 15], [14, 16]] [[], [], [], [], [], [], [], [], [], [], [], [], [], [], [], [], [], [], []] (phiG [fun FF us v => v = ptr cb 0, fun FF us v => v = ptr b1 0, fun FF us v => v = (.agg #[arv] : Value), fun FF us v => (.agg #[((aggAt v 0))] : Value) = v ∧ (SomeRowsF FF ((aggAt v 0)) (fun s => s.length ≤ 4 ∧ ∀ i, (s.getD i []).length ≤ 2000)), fun FF us v => v = ptr b1 1, fun FF us v => v = rsv, fun FF us v => v = ptr cb 0, fun FF us v => v = ptr b1 1, fun FF us v => v = rsv, fun FF us v => v = (.int .i64 ((rs.length : Int)) : Value), fun FF us v => (.int .i64 (((intAt v))) : Value) = v ∧ (0 ≤ ((intAt v)) ∧ (((intAt v)) < ((rs.length : Int)) ∨ ((intAt v)) = 0)), fun FF us v => v = (.pointer (some (elemA rsv (((((intAt (us.getD 0 undef)))).toNat) * 2))) : Value), fun FF us v => v = (.pointer (some (elemA rsv (((((intAt (us.getD 0 undef)))).toNat) * 2))) : Value), fun FF us v => (v : Value) = v ∧ (IntsF FF v ((rs.getD ((((intAt (us.getD 0 undef)))).toNat) ([], [])).1)), fun FF us v => (.tuple #[((tupAt v 0)), .bool (((boolAt (tupAt v 1))))] : Value) = v ∧ (SomesF FF ((tupAt v 0)) (fun u => u.length ≤ 60)), fun FF us v => v = (.tuple #[((tupAt (us.getD 0 undef) 0)), .bool (((boolAt (tupAt (us.getD 0 undef) 1))))] : Value), fun FF us v => v = ((tupAt (us.getD 0 undef) 0)), fun FF us v => v = (.bool (((boolAt (tupAt (us.getD 0 undef) 1)))) : Value), fun FF us v => v = ((tupAt (us.getD 0 undef) 0))]) (ownL [fun us v => [], fun us v => [], fun us v => [], fun us v => [], fun us v => [], fun us v => [], fun us v => [], fun us v => [], fun us v => [], fun us v => [], fun us v => [], fun us v => [], fun us v => [], fun us v => [], fun us v => [], fun us v => [], fun us v => [], fun us v => [], fun us v => []]) mixed rfl rfl (by kernel_rfl) (by kernel_rfl) (MonoG.get (mC (fun le h => h) (mC (fun le h => h) (mC (fun le h => h) (mC (fun le h => ⟨h.1, h.2.mono le⟩) (mC (fun le h => h) (mC (fun le h => h) (mC (fun le h => h) (mC (fun le h => h) (mC (fun le h => h) (mC (fun le h => h) (mC (fun le h => ⟨h.1, h.2⟩) (mC (fun le h => h) (mC (fun le h => h) (mC (fun le h => ⟨h.1, h.2.mono le⟩) (mC (fun le h => ⟨h.1, h.2.mono le⟩) (mC (fun le h => h) (mC (fun le h => h) (mC (fun le h => h) (mC (fun le h => h) MonoG.nil)))))))))))))))))))) ?_ ?_
   ·refine gC (fun vals Fs R leFs hpZ => ?_) ?_
    ·refine XG.op (XOp.move (ptr cb 0) rfl ?_)
     exact ⟨rfl, rfl⟩
    refine gC (fun vals Fs R leFs hpZ => ?_) ?_
    ·refine XG.op (XOp.fieldP (0) runUnderlying29 rfl sizeOf26 (by decide) rfl rfl ?_)
     exact ⟨rfl, rfl⟩
    refine gC (fun vals Fs R leFs hpZ => ?_) ?_
    ·replace hbs := hbs.mono leFs
     replace har := har.mono leFs
     replace hrs := hrs.mono leFs
     rw [eS (l := [(1, ptr b1 0)]) ⟨(hpZ 1 (by decide)), trivial⟩]
     refine XG.op (XOp.loadN [arv] isAgg26 sizeOf26 rfl rfl (Rd.ownN [] rfl rfl) ?_)
     exact ⟨rfl, rfl⟩
    refine gC (fun vals Fs R leFs hpZ => ?_) ?_
    ·replace hbs := hbs.mono leFs
     replace har := har.mono leFs
     replace hrs := hrs.mono leFs
     rw [eS (l := [(0, ptr cb 0), (2, (.agg #[arv] : Value))]) ⟨(hpZ 0 (by decide)), (hpZ 2 (by decide)), trivial⟩]
     refine XG.op (XOp.call (args := [ptr cb 0, .agg #[arv]]) call173 rfl (Does.at [_] (l2Draw_spec hbs (by omega) har (hso := (by first | assumption | rfl | omega | simp)))) ?_)
     rintro _ F6 _ le6 ⟨⟨x7, rfl, hr7⟩, rfl⟩
     replace hbs := hbs.mono le6
     replace har := har.mono le6
     replace hrs := hrs.mono le6
     exact ⟨⟨rfl, hr7⟩, rfl⟩
    refine gC (fun vals Fs R leFs hpZ => ?_) ?_
    ·refine XG.op (XOp.fieldP (1) runUnderlying29 rfl sizeOf27 (by decide) rfl rfl ?_)
     exact ⟨rfl, rfl⟩
    refine gC (fun vals Fs R leFs hpZ => ?_) ?_
    ·replace hbs := hbs.mono leFs
     replace har := har.mono leFs
     replace hrs := hrs.mono leFs
     rw [eS (l := [(4, ptr b1 1)]) ⟨(hpZ 4 (by decide)), trivial⟩]
     refine XG.op (XOp.load1 isAgg27 rfl (Rd.own [] rfl rfl) ?_)
     exact ⟨rfl, rfl⟩
    refine gC (fun vals Fs R leFs hpZ => ?_) ?_
    ·refine XG.op (XOp.move (ptr cb 0) rfl ?_)
     exact ⟨rfl, rfl⟩
    refine gC (fun vals Fs R leFs hpZ => ?_) ?_
    ·refine XG.op (XOp.fieldP (1) runUnderlying29 rfl sizeOf27 (by decide) rfl rfl ?_)
     exact ⟨rfl, rfl⟩
    refine gC (fun vals Fs R leFs hpZ => ?_) ?_
    ·replace hbs := hbs.mono leFs
     replace har := har.mono leFs
     replace hrs := hrs.mono leFs
     rw [eS (l := [(7, ptr b1 1)]) ⟨(hpZ 7 (by decide)), trivial⟩]
     refine XG.op (XOp.load1 isAgg27 rfl (Rd.own [] rfl rfl) ?_)
     exact ⟨rfl, rfl⟩
    refine gC (fun vals Fs R leFs hpZ => ?_) ?_
    ·replace hbs := hbs.mono leFs
     replace har := har.mono leFs
     replace hrs := hrs.mono leFs
     rw [eS (l := [(8, rsv)]) ⟨(hpZ 8 (by decide)), trivial⟩]
     refine XG.op (XOp.lenS runUnderlying27 rfl hrs.slv ?_)
     exact ⟨rfl, rfl⟩
    refine gC (fun vals Fs R leFs hpZ => ?_) ?_
    ·replace hbs := hbs.mono leFs
     replace har := har.mono leFs
     replace hrs := hrs.mono leFs
     rw [eS (l := [(6, ptr cb 0), (9, (.int .i64 ((rs.length : Int)) : Value))]) ⟨(hpZ 6 (by decide)), (hpZ 9 (by decide)), trivial⟩]
     refine XG.op (XOp.call (args := [ptr cb 0, .int .i64 ((rs.length : Int))]) call122 rfl (Does.at [_] (l1Below_spec (n := (rs.length : Int)) hbs (by omega) (hn := (by first | assumption | rfl | omega | simp)))) ?_)
     rintro _ _ _ _ ⟨⟨rfl, x8, rfl, hr8⟩, rfl⟩
     exact ⟨⟨rfl, hr8⟩, rfl⟩
    refine gC (fun vals Fs R leFs hpZ => ?_) ?_
    ·obtain ⟨e10, f10_1hx⟩ := hpZ 10 (by decide)
     replace hbs := hbs.mono leFs
     replace har := har.mono leFs
     replace hrs := hrs.mono leFs
     rw [eS (l := [(5, rsv), (10, (.int .i64 (((intAt (vals 10)))) : Value))]) ⟨(hpZ 5 (by decide)), (e10).symm, trivial⟩]
     refine XG.op (XOp.indexS ((((intAt (vals 10)))).toNat) runUnderlying27 sizeOf117 rfl rfl (by omega) hrs.slv (by omega) rfl ?_)
     exact ⟨rfl, rfl⟩
    refine gC (fun vals Fs R leFs hpZ => ?_) ?_
    ·obtain ⟨e10, f10_1hx⟩ := hpZ 10 (by decide)
     have e11 : vals 11 = (.pointer (some (elemA rsv (((((intAt (vals 10)))).toNat) * 2))) : Value) := hpZ 11 (by decide)
     rw [eS (l := [(10, (.int .i64 (((intAt (vals 10)))) : Value)), (11, (.pointer (some (elemA rsv (((((intAt (vals 10)))).toNat) * 2))) : Value))]) ⟨(e10).symm, e11, trivial⟩]
     refine XG.op (XOp.fieldE (((((intAt (vals 10)))).toNat) * 2) runUnderlying117 rfl sizeOf24 (by decide) rfl rfl ?_)
     exact ⟨rfl, rfl⟩
    refine gC (fun vals Fs R leFs hpZ => ?_) ?_
    ·obtain ⟨e10, f10_1hx⟩ := hpZ 10 (by decide)
     have e12 : vals 12 = (.pointer (some (elemA rsv (((((intAt (vals 10)))).toNat) * 2))) : Value) := hpZ 12 (by decide)
     replace hbs := hbs.mono leFs
     replace har := har.mono leFs
     replace hrs := hrs.mono leFs
     rw [eS (l := [(10, (.int .i64 (((intAt (vals 10)))) : Value)), (12, (.pointer (some (elemA rsv (((((intAt (vals 10)))).toNat) * 2))) : Value))]) ⟨(e10).symm, e12, trivial⟩]
     obtain ⟨a3, a4, ha3, ha4, hr9, hr10⟩ := hrs.rd (i := (((intAt (vals 10)))).toNat) (by omega)
     refine XG.op (XOp.load1 isAgg24 rfl (hr9 _) ?_)
     exact ⟨⟨rfl, ha3⟩, rfl⟩
    refine gC (fun vals Fs R leFs hpZ => ?_) ?_
    ·obtain ⟨e3, f3_1hp_a⟩ := hpZ 3 (by decide)
     obtain ⟨t3X1_a, f3_1hp_a, q3_1_a0, q3_1_a1⟩ := f3_1hp_a
     obtain ⟨e10, f10_1hx⟩ := hpZ 10 (by decide)
     obtain ⟨e13, f13_1ld⟩ : ((vals 13) : Value) = (vals 13) ∧ (IntsF Fs (vals 13) ((rs.getD ((((intAt (vals 10)))).toNat) ([], [])).1)) := hpZ 13 (by decide)
     replace hbs := hbs.mono leFs
     replace har := har.mono leFs
     rw [eS (l := [(3, (.agg #[((aggAt (vals 3) 0))] : Value)), (10, (.int .i64 (((intAt (vals 10)))) : Value)), (13, (vals 13))]) ⟨(e3).symm, (e10).symm, (e13).symm, trivial⟩]
     refine XG.op (XOp.call (args := [.agg #[((aggAt (vals 3) 0))], (vals 13)]) call111 rfl (l2FilledW_spec f3_1hp_a f13_1ld (hsl := (by first | assumption | rfl | omega | simp)) (hsb := (fun i => Nat.le_trans (by first | exact q3_1_a1 i | exact q3_2_a1 i) (show 2000 ≤ 4000000 by omega))) (htl := ((hrb _ (by omega)).1)) (htg := (fun k hk => Int.le_trans (show (-4000000 : Int) ≤ -24 by omega) (termOk_ge (ruleOk_iff.1 (hsq.2.2 _ (by omega))).left hk)))) ?_)
     rintro _ F8 _ le8 ⟨⟨x9, x10, rfl, hr11⟩, rfl⟩
     replace hbs := hbs.mono le8
     replace har := har.mono le8
     replace f3_1hp_a := f3_1hp_a.mono le8
     replace f13_1ld := f13_1ld.mono le8
     exact ⟨⟨rfl, hr11⟩, rfl⟩
    refine gC (fun vals Fs R leFs hpZ => ?_) ?_
    ·obtain ⟨e14, f14_1hp_a⟩ := hpZ 14 (by decide)
     obtain ⟨t14X1_a, f14_1hp_a, q14_1_a0⟩ := f14_1hp_a
     rw [eS (l := [(14, (.tuple #[((tupAt (vals 14) 0)), .bool (((boolAt (tupAt (vals 14) 1))))] : Value))]) ⟨(e14).symm, trivial⟩]
     refine XG.op (XOp.move (.tuple #[((tupAt (vals 14) 0)), .bool (((boolAt (tupAt (vals 14) 1))))]) rfl ?_)
     exact ⟨rfl, rfl⟩
    refine gC (fun vals Fs R leFs hpZ => ?_) ?_
    ·obtain ⟨e14, f14_1hp_a⟩ := hpZ 14 (by decide)
     obtain ⟨t14X1_a, f14_1hp_a, q14_1_a0⟩ := f14_1hp_a
     have e15 : vals 15 = (.tuple #[((tupAt (vals 14) 0)), .bool (((boolAt (tupAt (vals 14) 1))))] : Value) := hpZ 15 (by decide)
     rw [eS (l := [(14, (.tuple #[((tupAt (vals 14) 0)), .bool (((boolAt (tupAt (vals 14) 1))))] : Value)), (15, (.tuple #[((tupAt (vals 14) 0)), .bool (((boolAt (tupAt (vals 14) 1))))] : Value))]) ⟨(e14).symm, e15, trivial⟩]
     refine XG.op (XOp.extract (((tupAt (vals 14) 0))) rfl rfl ?_)
     exact ⟨rfl, rfl⟩
    refine gC (fun vals Fs R leFs hpZ => ?_) ?_
    ·obtain ⟨e14, f14_1hp_a⟩ := hpZ 14 (by decide)
     obtain ⟨t14X1_a, f14_1hp_a, q14_1_a0⟩ := f14_1hp_a
     have e15 : vals 15 = (.tuple #[((tupAt (vals 14) 0)), .bool (((boolAt (tupAt (vals 14) 1))))] : Value) := hpZ 15 (by decide)
     rw [eS (l := [(14, (.tuple #[((tupAt (vals 14) 0)), .bool (((boolAt (tupAt (vals 14) 1))))] : Value)), (15, (.tuple #[((tupAt (vals 14) 0)), .bool (((boolAt (tupAt (vals 14) 1))))] : Value))]) ⟨(e14).symm, e15, trivial⟩]
     refine XG.op (XOp.extract (.bool (((boolAt (tupAt (vals 14) 1))))) rfl rfl ?_)
     exact ⟨rfl, rfl⟩
    refine gC (fun vals Fs R leFs hpZ => ?_) ?_
    ·obtain ⟨e14, f14_1hp_a⟩ := hpZ 14 (by decide)
     obtain ⟨t14X1_a, f14_1hp_a, q14_1_a0⟩ := f14_1hp_a
     have e16 : vals 16 = ((tupAt (vals 14) 0)) := hpZ 16 (by decide)
     rw [eS (l := [(14, (.tuple #[((tupAt (vals 14) 0)), .bool (((boolAt (tupAt (vals 14) 1))))] : Value)), (16, ((tupAt (vals 14) 0)))]) ⟨(e14).symm, e16, trivial⟩]
     refine XG.op (XOp.assign (((tupAt (vals 14) 0))) rfl ?_)
     exact ⟨rfl, rfl⟩
    exact stepsG.nil
   intro vals F9 le9 hphi
   obtain ⟨e3, f3_1hp_a⟩ := hphi 3 (by decide)
   obtain ⟨t3X1_a, f3_1hp_a, q3_1_a0, q3_1_a1⟩ := f3_1hp_a
   obtain ⟨e10, f10_1hx⟩ := hphi 10 (by decide)
   have e11 : vals 11 = (.pointer (some (elemA rsv (((((intAt (vals 10)))).toNat) * 2))) : Value) := hphi 11 (by decide)
   have e12 : vals 12 = (.pointer (some (elemA rsv (((((intAt (vals 10)))).toNat) * 2))) : Value) := hphi 12 (by decide)
   obtain ⟨e13, f13_1ld⟩ : ((vals 13) : Value) = (vals 13) ∧ (IntsF F9 (vals 13) ((rs.getD ((((intAt (vals 10)))).toNat) ([], [])).1)) := hphi 13 (by decide)
   obtain ⟨e14, f14_1hp_a⟩ := hphi 14 (by decide)
   obtain ⟨t14X1_a, f14_1hp_a, q14_1_a0⟩ := f14_1hp_a
   have e15 : vals 15 = (.tuple #[((tupAt (vals 14) 0)), .bool (((boolAt (tupAt (vals 14) 1))))] : Value) := hphi 15 (by decide)
   have e16 : vals 16 = ((tupAt (vals 14) 0)) := hphi 16 (by decide)
   have e17 : vals 17 = (.bool (((boolAt (tupAt (vals 14) 1)))) : Value) := hphi 17 (by decide)
   have e18 : vals 18 = ((tupAt (vals 14) 0)) := hphi 18 (by decide)
   generalize hu1 : ((aggAt (vals 3) 0)) = u1 at e3 f3_1hp_a e10 f10_1hx e11 e12 e13 f13_1ld e14 f14_1hp_a e15 e16 e17 e18
   generalize hu2 : (intAt (vals 10)) = u2 at e3 f3_1hp_a e10 f10_1hx e11 e12 e13 f13_1ld e14 f14_1hp_a e15 e16 e17 e18
   generalize hu3 : (vals 13) = u3 at e3 f3_1hp_a e10 f10_1hx e11 e12 e13 f13_1ld e14 f14_1hp_a e15 e16 e17 e18
   generalize hu4 : ((tupAt (vals 14) 0)) = u4 at e3 f3_1hp_a e10 f10_1hx e11 e12 e13 f13_1ld e14 f14_1hp_a e15 e16 e17 e18
   generalize hu5 : (boolAt (tupAt (vals 14) 1)) = u5 at e3 f3_1hp_a e10 f10_1hx e11 e12 e13 f13_1ld e14 f14_1hp_a e15 e16 e17 e18
   rw [eS (l := [(10, (.int .i64 ((u2)) : Value)), (14, (.tuple #[u4, .bool ((u5))] : Value)), (17, (.bool ((u5)) : Value)), (18, u4)]) ⟨(e10).symm, (e14).symm, e17, e18, trivial⟩]
   replace hbs := hbs.mono le9
   replace har := har.mono le9
   show XL _ _ _ _ _ _ _ (cellsH b1 [arv, rsv] 29 :: curH .i64 134 cb bsv bs.length :: L)
   refine XL.as (.bool ((u5))) rfl (XL.nil (X.seq (X.region (XL.mv (.bool ((u5))) rfl (XL.nil ?_)))))
   refine X.cond (t := (u5)) rfl (fun h4 => ?_) (fun h4 => ?_)
   ·refine X.seq (X.seq (X.region (XL.mv (ptr cb 0) rfl (cX (XOp.call (args := [ptr cb 0, .int .i64 (2)]) call120 rfl (Does.at [_] (l1Once_spec (n := 2) hbs (by omega) (hn := (by first | assumption | rfl | omega | simp)))) ?_)))))
    rintro _ _ _ _ ⟨⟨rfl, x11, rfl⟩, rfl⟩
    show XL _ _ _ _ _ _ _ (cellsH b1 [arv, rsv] 29 :: curH .i64 134 cb bsv bs.length :: L)
    refine XL.nil ?_
    refine X.cond (t := x11) rfl (fun h5 => ?_) (fun h5 => ?_)
    ·refine X.seq (X.region (XL.mv (u4) rfl (XL.as (u4) rfl (XL.nil (X.ret (thenQ_ret (thenQ_ret (retEnd (L' := curH .i64 134 cb bsv bs.length :: L) [u4] (u4) (.tmp rfl .nil) rfl le9 rF (sD (sC sR)) ?_))))))))
     exact ⟨⟨_, rfl, ⟨_, f14_1hp_a, by omega⟩⟩, rfl⟩
    refine X.skip (X.seq (X.region (XL.mv (ptr cb 0) rfl (cX (XOp.fieldP (0) runUnderlying29 rfl sizeOf26 (by decide) rfl rfl (cX (XOp.loadN [arv] isAgg26 sizeOf26 rfl rfl (Rd.ownN [] rfl rfl) (cX (XOp.call (args := [ptr cb 0, .agg #[arv], .int .i64 ((3 : Nat) : Int), .int .i64 (2)]) call174 rfl (Does.atO [_] (l1DrawTerm_spec 3 (vs := 2) hbs (by omega) har (hso := (by first | assumption | rfl | omega | simp)) (hdp := (by first | assumption | rfl | omega | simp)) (hvs := (by first | assumption | rfl | omega | simp)))) ?_)))))))))
    rintro _ F11 _ le11 ⟨x13, ⟨rfl, hsl1⟩, rfl⟩
    replace hbs := hbs.mono le11
    replace har := har.mono le11
    replace f14_1hp_a := f14_1hp_a.mono le11
    show XL _ _ _ _ _ _ _ (drawnH 2 x13 (fun t => goodT ar t ∧ 1 ≤ t.length ∧ t.length ≤ szT 3) :: cellsH b1 [arv, rsv] 29 :: curH .i64 134 cb bsv bs.length :: L)
    refine XL.undraw [] rfl (fun t2 hq9 => ?_)
    obtain ⟨q2, q3, q4⟩ := hq9
    show XL _ _ _ _ _ _ _ (intsH 2 x13 t2 :: cellsH b1 [arv, rsv] 29 :: curH .i64 134 cb bsv bs.length :: L)
    refine XL.as (x13) rfl (XL.freezeF [] _ _ rfl (fun F12 le12 hz1 => ?_))
    replace hbs := hbs.mono le12
    replace har := har.mono le12
    replace f14_1hp_a := f14_1hp_a.mono le12
    have hf1 : IntsF F12 x13 t2 := intsH.fz (xs := t2) hz1.fz
    have hz8 : szT 3 = 40 := rfl
    have hou : termOk ar t2 = true := goodT.ok hso (by omega) q2
    refine XL.nil (X.seq ?_)
    refine X.drawG [cellsH b1 [arv, rsv] 29, curH .i64 134 cb bsv bs.length] L 13 [[], [], [], [], [], [], [], [], [6], [6, 8], [8], [6], [8]] [[], [0], [], [], [], [4], [3, 5], [], [1, 2, 6, 7], [6, 8], [6, 8, 9], [6, 8, 9], [6, 8, 10]] [[], [], [], [], [], [], [], [], [], [], [], [], []] (phiG [fun FF us v => v = ptr b1 0, fun FF us v => v = (.agg #[arv] : Value), fun FF us v => v = x13, fun FF us v => v = ptr cb 0, fun FF us v => v = x13, fun FF us v => v = (.int .i64 ((t2.length : Int)) : Value), fun FF us v => (.int .i64 (((intAt v))) : Value) = v ∧ (0 ≤ ((intAt v)) ∧ (((intAt v)) < ((t2.length : Int)) ∨ ((intAt v)) = 0)), fun FF us v => v = u4, fun FF us v => (.tuple #[((tupAt v 0)), .bool ((putL ar t2 ((((intAt (us.getD 0 undef)))).toNat) t14X1_a).isSome)] : Value) = v ∧ (IntsF FF ((tupAt v 0)) ((putL ar t2 ((((intAt (us.getD 0 undef)))).toNat) t14X1_a).getD [])), fun FF us v => v = (.tuple #[((tupAt (us.getD 1 undef) 0)), .bool ((putL ar t2 ((((intAt (us.getD 0 undef)))).toNat) t14X1_a).isSome)] : Value), fun FF us v => v = ((tupAt (us.getD 0 undef) 0)), fun FF us v => v = (.bool ((putL ar t2 ((((intAt (us.getD 0 undef)))).toNat) t14X1_a).isSome) : Value), fun FF us v => v = ((tupAt (us.getD 0 undef) 0))]) (ownL [fun us v => [], fun us v => [], fun us v => [], fun us v => [], fun us v => [], fun us v => [], fun us v => [], fun us v => [], fun us v => [], fun us v => [], fun us v => [], fun us v => [], fun us v => []]) mixed rfl rfl (by kernel_rfl) (by kernel_rfl) (MonoG.get (mC (fun le h => h) (mC (fun le h => h) (mC (fun le h => h) (mC (fun le h => h) (mC (fun le h => h) (mC (fun le h => h) (mC (fun le h => ⟨h.1, h.2⟩) (mC (fun le h => h) (mC (fun le h => ⟨h.1, h.2.mono le⟩) (mC (fun le h => h) (mC (fun le h => h) (mC (fun le h => h) (mC (fun le h => h) MonoG.nil)))))))))))))) ?_ ?_
    ·refine gC (fun vals Fs R leFs hpZ => ?_) ?_
     ·refine XG.op (XOp.fieldP (0) runUnderlying29 rfl sizeOf26 (by decide) rfl rfl ?_)
      exact ⟨rfl, rfl⟩
     refine gC (fun vals Fs R leFs hpZ => ?_) ?_
     ·replace hbs := hbs.mono leFs
      replace har := har.mono leFs
      replace f14_1hp_a := f14_1hp_a.mono leFs
      replace hf1 := hf1.mono leFs
      rw [eS (l := [(0, ptr b1 0)]) ⟨(hpZ 0 (by decide)), trivial⟩]
      refine XG.op (XOp.loadN [arv] isAgg26 sizeOf26 rfl rfl (Rd.ownN [] rfl rfl) ?_)
      exact ⟨rfl, rfl⟩
     refine gC (fun vals Fs R leFs hpZ => ?_) ?_
     ·refine XG.op (XOp.move (x13) rfl ?_)
      exact ⟨rfl, rfl⟩
     refine gC (fun vals Fs R leFs hpZ => ?_) ?_
     ·refine XG.op (XOp.move (ptr cb 0) rfl ?_)
      exact ⟨rfl, rfl⟩
     refine gC (fun vals Fs R leFs hpZ => ?_) ?_
     ·refine XG.op (XOp.move (x13) rfl ?_)
      exact ⟨rfl, rfl⟩
     refine gC (fun vals Fs R leFs hpZ => ?_) ?_
     ·replace hbs := hbs.mono leFs
      replace har := har.mono leFs
      replace f14_1hp_a := f14_1hp_a.mono leFs
      replace hf1 := hf1.mono leFs
      rw [eS (l := [(4, x13)]) ⟨(hpZ 4 (by decide)), trivial⟩]
      refine XG.op (XOp.lenS runUnderlying24 rfl hf1.slv ?_)
      exact ⟨rfl, rfl⟩
     refine gC (fun vals Fs R leFs hpZ => ?_) ?_
     ·replace hbs := hbs.mono leFs
      replace har := har.mono leFs
      replace f14_1hp_a := f14_1hp_a.mono leFs
      replace hf1 := hf1.mono leFs
      rw [eS (l := [(3, ptr cb 0), (5, (.int .i64 ((t2.length : Int)) : Value))]) ⟨(hpZ 3 (by decide)), (hpZ 5 (by decide)), trivial⟩]
      refine XG.op (XOp.call (args := [ptr cb 0, .int .i64 ((t2.length : Int))]) call122 rfl (Does.at [_] (l1Below_spec (n := (t2.length : Int)) hbs (by omega) (hn := (by first | assumption | rfl | omega | simp)))) ?_)
      rintro _ _ _ _ ⟨⟨rfl, x16, rfl, hr14⟩, rfl⟩
      exact ⟨⟨rfl, hr14⟩, rfl⟩
     refine gC (fun vals Fs R leFs hpZ => ?_) ?_
     ·refine XG.op (XOp.move (u4) rfl ?_)
      exact ⟨rfl, rfl⟩
     refine gC (fun vals Fs R leFs hpZ => ?_) ?_
     ·obtain ⟨e6, f6_2hx⟩ := hpZ 6 (by decide)
      replace hbs := hbs.mono leFs
      replace har := har.mono leFs
      replace f14_1hp_a := f14_1hp_a.mono leFs
      replace hf1 := hf1.mono leFs
      rw [eS (l := [(1, (.agg #[arv] : Value)), (2, x13), (6, (.int .i64 (((intAt (vals 6)))) : Value)), (7, u4)]) ⟨(hpZ 1 (by decide)), (hpZ 2 (by decide)), (e6).symm, (hpZ 7 (by decide)), trivial⟩]
      refine XG.op (XOp.call (args := [.agg #[arv], x13, .int .i64 (((((intAt (vals 6)))).toNat : Nat) : Int), u4]) call112 (by rw [show (((((intAt (vals 6)))).toNat : Nat) : Int) = ((intAt (vals 6))) from by omega]; rfl) (l3Put_spec (p := (((intAt (vals 6)))).toNat) har hf1 f14_1hp_a (ho := (hou)) (hp := (by first | assumption | rfl | omega | simp)) (hul := (by first | assumption | rfl | omega | simp))) ?_)
      rintro _ F16 _ le16 ⟨x17, rfl, hr15, rfl⟩
      replace hbs := hbs.mono le16
      replace har := har.mono le16
      exact ⟨⟨rfl, hr15⟩, rfl⟩
     refine gC (fun vals Fs R leFs hpZ => ?_) ?_
     ·obtain ⟨e6, f6_2hx⟩ := hpZ 6 (by decide)
      obtain ⟨e8, f8_2hr⟩ : (.tuple #[((tupAt (vals 8) 0)), .bool ((putL ar t2 ((((intAt (vals 6)))).toNat) t14X1_a).isSome)] : Value) = (vals 8) ∧ (IntsF Fs ((tupAt (vals 8) 0)) ((putL ar t2 ((((intAt (vals 6)))).toNat) t14X1_a).getD [])) := hpZ 8 (by decide)
      rw [eS (l := [(6, (.int .i64 (((intAt (vals 6)))) : Value)), (8, (.tuple #[((tupAt (vals 8) 0)), .bool ((putL ar t2 ((((intAt (vals 6)))).toNat) t14X1_a).isSome)] : Value))]) ⟨(e6).symm, (e8).symm, trivial⟩]
      refine XG.op (XOp.move (.tuple #[((tupAt (vals 8) 0)), .bool ((putL ar t2 ((((intAt (vals 6)))).toNat) t14X1_a).isSome)]) rfl ?_)
      exact ⟨rfl, rfl⟩
     refine gC (fun vals Fs R leFs hpZ => ?_) ?_
     ·obtain ⟨e6, f6_2hx⟩ := hpZ 6 (by decide)
      obtain ⟨e8, f8_2hr⟩ : (.tuple #[((tupAt (vals 8) 0)), .bool ((putL ar t2 ((((intAt (vals 6)))).toNat) t14X1_a).isSome)] : Value) = (vals 8) ∧ (IntsF Fs ((tupAt (vals 8) 0)) ((putL ar t2 ((((intAt (vals 6)))).toNat) t14X1_a).getD [])) := hpZ 8 (by decide)
      have e9 : vals 9 = (.tuple #[((tupAt (vals 8) 0)), .bool ((putL ar t2 ((((intAt (vals 6)))).toNat) t14X1_a).isSome)] : Value) := hpZ 9 (by decide)
      rw [eS (l := [(6, (.int .i64 (((intAt (vals 6)))) : Value)), (8, (.tuple #[((tupAt (vals 8) 0)), .bool ((putL ar t2 ((((intAt (vals 6)))).toNat) t14X1_a).isSome)] : Value)), (9, (.tuple #[((tupAt (vals 8) 0)), .bool ((putL ar t2 ((((intAt (vals 6)))).toNat) t14X1_a).isSome)] : Value))]) ⟨(e6).symm, (e8).symm, e9, trivial⟩]
      refine XG.op (XOp.extract (((tupAt (vals 8) 0))) rfl rfl ?_)
      exact ⟨rfl, rfl⟩
     refine gC (fun vals Fs R leFs hpZ => ?_) ?_
     ·obtain ⟨e6, f6_2hx⟩ := hpZ 6 (by decide)
      obtain ⟨e8, f8_2hr⟩ : (.tuple #[((tupAt (vals 8) 0)), .bool ((putL ar t2 ((((intAt (vals 6)))).toNat) t14X1_a).isSome)] : Value) = (vals 8) ∧ (IntsF Fs ((tupAt (vals 8) 0)) ((putL ar t2 ((((intAt (vals 6)))).toNat) t14X1_a).getD [])) := hpZ 8 (by decide)
      have e9 : vals 9 = (.tuple #[((tupAt (vals 8) 0)), .bool ((putL ar t2 ((((intAt (vals 6)))).toNat) t14X1_a).isSome)] : Value) := hpZ 9 (by decide)
      rw [eS (l := [(6, (.int .i64 (((intAt (vals 6)))) : Value)), (8, (.tuple #[((tupAt (vals 8) 0)), .bool ((putL ar t2 ((((intAt (vals 6)))).toNat) t14X1_a).isSome)] : Value)), (9, (.tuple #[((tupAt (vals 8) 0)), .bool ((putL ar t2 ((((intAt (vals 6)))).toNat) t14X1_a).isSome)] : Value))]) ⟨(e6).symm, (e8).symm, e9, trivial⟩]
      refine XG.op (XOp.extract (.bool ((putL ar t2 ((((intAt (vals 6)))).toNat) t14X1_a).isSome)) rfl rfl ?_)
      exact ⟨rfl, rfl⟩
     refine gC (fun vals Fs R leFs hpZ => ?_) ?_
     ·obtain ⟨e6, f6_2hx⟩ := hpZ 6 (by decide)
      obtain ⟨e8, f8_2hr⟩ : (.tuple #[((tupAt (vals 8) 0)), .bool ((putL ar t2 ((((intAt (vals 6)))).toNat) t14X1_a).isSome)] : Value) = (vals 8) ∧ (IntsF Fs ((tupAt (vals 8) 0)) ((putL ar t2 ((((intAt (vals 6)))).toNat) t14X1_a).getD [])) := hpZ 8 (by decide)
      have e10 : vals 10 = ((tupAt (vals 8) 0)) := hpZ 10 (by decide)
      rw [eS (l := [(6, (.int .i64 (((intAt (vals 6)))) : Value)), (8, (.tuple #[((tupAt (vals 8) 0)), .bool ((putL ar t2 ((((intAt (vals 6)))).toNat) t14X1_a).isSome)] : Value)), (10, ((tupAt (vals 8) 0)))]) ⟨(e6).symm, (e8).symm, e10, trivial⟩]
      refine XG.op (XOp.assign (((tupAt (vals 8) 0))) rfl ?_)
      exact ⟨rfl, rfl⟩
     exact stepsG.nil
    intro vals F17 le17 hphi
    obtain ⟨e6, f6_2hx⟩ := hphi 6 (by decide)
    obtain ⟨e8, f8_2hr⟩ : (.tuple #[((tupAt (vals 8) 0)), .bool ((putL ar t2 ((((intAt (vals 6)))).toNat) t14X1_a).isSome)] : Value) = (vals 8) ∧ (IntsF F17 ((tupAt (vals 8) 0)) ((putL ar t2 ((((intAt (vals 6)))).toNat) t14X1_a).getD [])) := hphi 8 (by decide)
    have e9 : vals 9 = (.tuple #[((tupAt (vals 8) 0)), .bool ((putL ar t2 ((((intAt (vals 6)))).toNat) t14X1_a).isSome)] : Value) := hphi 9 (by decide)
    have e10 : vals 10 = ((tupAt (vals 8) 0)) := hphi 10 (by decide)
    have e11 : vals 11 = (.bool ((putL ar t2 ((((intAt (vals 6)))).toNat) t14X1_a).isSome) : Value) := hphi 11 (by decide)
    have e12 : vals 12 = ((tupAt (vals 8) 0)) := hphi 12 (by decide)
    generalize hu6 : (intAt (vals 6)) = u6 at e6 f6_2hx e8 f8_2hr e9 e10 e11 e12
    generalize hu7 : ((tupAt (vals 8) 0)) = u7 at e6 f6_2hx e8 f8_2hr e9 e10 e11 e12
    rw [eS (l := [(6, (.int .i64 ((u6)) : Value)), (8, (.tuple #[u7, .bool ((putL ar t2 (((u6)).toNat) t14X1_a).isSome)] : Value)), (11, (.bool ((putL ar t2 (((u6)).toNat) t14X1_a).isSome) : Value)), (12, u7)]) ⟨(e6).symm, (e8).symm, e11, e12, trivial⟩]
    replace hbs := hbs.mono le17
    replace har := har.mono le17
    show XL _ _ _ _ _ _ _ (cellsH b1 [arv, rsv] 29 :: curH .i64 134 cb bsv bs.length :: L)
    refine XL.as (.bool ((putL ar t2 (((u6)).toNat) t14X1_a).isSome)) rfl (XL.nil (X.seq (X.region (XL.mv (.bool ((putL ar t2 (((u6)).toNat) t14X1_a).isSome)) rfl (XL.nil ?_)))))
    refine X.cond (t := (putL ar t2 (((u6)).toNat) t14X1_a).isSome) rfl (fun h6 => ?_) (fun h6 => ?_)
    ·refine X.seq (X.region (XL.mv (u7) rfl (XL.as (u7) rfl (XL.nil (X.ret (thenQ_ret (retEnd (L' := curH .i64 134 cb bsv bs.length :: L) [u7] (u7) (.tmp rfl .nil) rfl (FLe.trans (FLe.trans (FLe.trans le9 le11) le12) le17) rF (sD (sC sR)) ?_)))))))
     exact ⟨⟨_, rfl, ⟨_, f8_2hr, Nat.le_trans put_le60 (by omega)⟩⟩, rfl⟩
    refine X.skip (X.seq (X.region (XL.mv (ptr cb 0) rfl (cX (XOp.fieldP (0) runUnderlying29 rfl sizeOf26 (by decide) rfl rfl (cX (XOp.loadN [arv] isAgg26 sizeOf26 rfl rfl (Rd.ownN [] rfl rfl) (cX (XOp.call (args := [ptr cb 0, .agg #[arv]]) call130 rfl (Does.at [_] (l1DrawAny_spec hbs (by omega) har (hal := (by first | assumption | rfl | omega | simp)))) ?_)))))))))
    rintro _ F18 _ le18 ⟨⟨x18, rfl, hr16⟩, rfl⟩
    obtain ⟨t3, hr16, q5⟩ := hr16
    replace hbs := hbs.mono le18
    replace har := har.mono le18
    show XL _ _ _ _ _ _ _ (cellsH b1 [arv, rsv] 29 :: curH .i64 134 cb bsv bs.length :: L)
    refine XL.as (x18) rfl (XL.nil (X.ret (retEnd (L' := curH .i64 134 cb bsv bs.length :: L) [x18] (x18) (.tmp rfl .nil) rfl (FLe.trans (FLe.trans (FLe.trans (FLe.trans le9 le11) le12) le17) le18) rF (sD (sC sR)) ?_)))
    exact ⟨⟨_, rfl, ⟨_, hr16, by omega⟩⟩, rfl⟩
   refine X.skip (X.seq (X.region (XL.mv (ptr cb 0) rfl (cX (XOp.fieldP (0) runUnderlying29 rfl sizeOf26 (by decide) rfl rfl (cX (XOp.loadN [arv] isAgg26 sizeOf26 rfl rfl (Rd.ownN [] rfl rfl) (cX (XOp.call (args := [ptr cb 0, .agg #[arv]]) call130 rfl (Does.at [_] (l1DrawAny_spec hbs (by omega) har (hal := (by first | assumption | rfl | omega | simp)))) ?_)))))))))
   rintro _ F19 _ le19 ⟨⟨x19, rfl, hr17⟩, rfl⟩
   obtain ⟨t4, hr17, q6⟩ := hr17
   replace hbs := hbs.mono le19
   replace har := har.mono le19
   show XL _ _ _ _ _ _ _ (cellsH b1 [arv, rsv] 29 :: curH .i64 134 cb bsv bs.length :: L)
   refine XL.as (x19) rfl (XL.nil (X.ret (retEnd (L' := curH .i64 134 cb bsv bs.length :: L) [x19] (x19) (.tmp rfl .nil) rfl (FLe.trans le9 le19) rF (sD (sC sR)) ?_)))
   exact ⟨⟨_, rfl, ⟨_, hr17, by omega⟩⟩, rfl⟩
  refine X.skip (X.seq (X.region (XL.mv (ptr cb 0) rfl (cX (XOp.fieldP (0) runUnderlying29 rfl sizeOf26 (by decide) rfl rfl (cX (XOp.loadN [arv] isAgg26 sizeOf26 rfl rfl (Rd.ownN [] rfl rfl) (cX (XOp.call (args := [ptr cb 0, .agg #[arv]]) call130 rfl (Does.at [_] (l1DrawAny_spec hbs (by omega) har (hal := (by first | assumption | rfl | omega | simp)))) ?_)))))))))
  rintro _ F20 _ le20 ⟨⟨x20, rfl, hr18⟩, rfl⟩
  obtain ⟨t5, hr18, q7⟩ := hr18
  replace hbs := hbs.mono le20
  replace har := har.mono le20
  show XL _ _ _ _ _ _ _ (cellsH b1 [arv, rsv] 29 :: curH .i64 134 cb bsv bs.length :: L)
  refine XL.as (x20) rfl (XL.nil (X.ret (retEnd (L' := curH .i64 134 cb bsv bs.length :: L) [x20] (x20) (.tmp rfl .nil) rfl le20 rF (sD (sC sR)) ?_)))
  exact ⟨⟨_, rfl, ⟨_, hr18, by omega⟩⟩, rfl⟩
 refine XL.no (t := 21) rfl (vF h2) (XL.no (t := 21) rfl (vF h2) (cX (XOp.pickF (.bool (false)) (vF h2) rfl (XL.nil (X.condF rfl (X.skip (X.seq (X.region (XL.mv (ptr cb 0) rfl (cX (XOp.fieldP (0) runUnderlying29 rfl sizeOf26 (by decide) rfl rfl (cX (XOp.loadN [arv] isAgg26 sizeOf26 rfl rfl (Rd.ownN [] rfl rfl) (cX (XOp.call (args := [ptr cb 0, .agg #[arv]]) call130 rfl (Does.at [_] (l1DrawAny_spec hbs (by omega) har (hal := (by first | assumption | rfl | omega | simp)))) ?_)))))))))))))))
 rintro _ F21 _ le21 ⟨⟨x21, rfl, hr19⟩, rfl⟩
 obtain ⟨t6, hr19, q8⟩ := hr19
 show XL _ _ _ _ _ _ _ (cellsH b1 [arv, rsv] 29 :: curH .i64 134 cb bsv bs.length :: L)
 refine XL.as (x21) rfl (XL.nil (X.ret (retEnd (L' := curH .i64 134 cb bsv bs.length :: L) [x21] (x21) (.tmp rfl .nil) rfl le21 rF (sD (sC sR)) ?_)))
 exact ⟨⟨_, rfl, ⟨_, hr19, by omega⟩⟩, rfl⟩

/- spec.l7Draw -/
theorem l7Draw_spec {F : FH} {L : List HP} {cb : Nat} {bsv : Value} {bs : List Int} (hbs : BytesF F bsv bs) (hbl : bs.length ≤ 4000000) :
    Does prog 63 [ptr cb 0] F (curH .i64 134 cb bsv bs.length :: L) (fun v F' L' => (∃ (a : Value), ∃ (b : Value), ∃ (c : Value), ∃ (ar : List Int), ∃ (rs : List (List Int × List Int)), ∃ (t : List Int), (.tuple #[.agg #[a, b], c] : Value) = v ∧ (IntsF F' a ar) ∧ (PairsF F' b rs) ∧ (IntsF F' c t) ∧ (smallS ar rs) ∧ (t.length ≤ 2000)) ∧ curH .i64 134 cb bsv bs.length :: L = L') := by
 refine Does.of_X func63 rfl rfl rfl (X.seq (X.region (cX (XOp.alloc [(.slice none 0 0), (.slice none 0 0)] zeroValue29 rfl ?_))))
 intro b1
 refine XL.as ((.slice none 0 0)) rfl (XL.nil (X.seq (X.region (XL.mv (ptr cb 0) rfl (cX (XOp.call (args := [ptr cb 0]) call73 rfl (Does.at [_] (l6DrawAny_spec hbs (by omega))) ?_))))))
 rintro _ F1 _ le1 ⟨⟨x1, x2, x3, x4, rfl, hr1, hr2, hr3⟩, rfl⟩
 replace hbs := hbs.mono le1
 show XL _ _ _ _ _ _ _ (cellsH b1 [(.slice none 0 0), (.slice none 0 0)] 29 :: curH .i64 134 cb bsv bs.length :: L)
 have hsm7 := hr3
 refine cX (XOp.alloc [(.slice none 0 0), (.slice none 0 0)] zeroValue29 rfl ?_)
 intro b2
 refine cX (XOp.storeN [] _ [x1, x2] sizeOf29 rfl rfl rfl (ones_cons (one_sl (IntsF.isSl hr1)) (ones_cons (one_sl (PairsF.isSl hr2)) ones_nil)) rfl rfl rfl (XL.nil (X.seq ?_)))
 refine X.drawG [cellsH b2 [x1, x2] 29, cellsH b1 [(.slice none 0 0), (.slice none 0 0)] 29, curH .i64 134 cb bsv bs.length] L 4 [[], [], [], []] [[], [], [], [1, 2]] [[], [], [], []] (phiG [fun FF us v => v = (.agg #[x1, x2] : Value), fun FF us v => v = ptr cb 0, fun FF us v => v = (.agg #[x1, x2] : Value), fun FF us v => ((v) : Value) = v ∧ (SomesF FF (v) (fun u => u.length ≤ 2000))]) (ownL [fun us v => [], fun us v => [], fun us v => [], fun us v => []]) mixed rfl rfl (by kernel_rfl) (by kernel_rfl) (MonoG.get (mC (fun le h => h) (mC (fun le h => h) (mC (fun le h => h) (mC (fun le h => ⟨h.1, h.2.mono le⟩) MonoG.nil))))) ?_ ?_
 ·refine gC (fun vals Fs R leFs hpZ => ?_) ?_
  ·replace hbs := hbs.mono leFs
   replace hr1 := hr1.mono leFs
   replace hr2 := hr2.mono leFs
   refine XG.op (XOp.loadN [x1, x2] isAgg29 sizeOf29 rfl rfl (Rd.ownN [] rfl rfl) ?_)
   exact ⟨rfl, rfl⟩
  refine gC (fun vals Fs R leFs hpZ => ?_) ?_
  ·refine XG.op (XOp.move (ptr cb 0) rfl ?_)
   exact ⟨rfl, rfl⟩
  refine gC (fun vals Fs R leFs hpZ => ?_) ?_
  ·replace hbs := hbs.mono leFs
   replace hr1 := hr1.mono leFs
   replace hr2 := hr2.mono leFs
   refine XG.op (XOp.loadN [x1, x2] isAgg29 sizeOf29 rfl rfl (Rd.ownN [] rfl rfl) ?_)
   exact ⟨rfl, rfl⟩
  refine gC (fun vals Fs R leFs hpZ => ?_) ?_
  ·replace hbs := hbs.mono leFs
   replace hr1 := hr1.mono leFs
   replace hr2 := hr2.mono leFs
   rw [eS (l := [(1, ptr cb 0), (2, (.agg #[x1, x2] : Value))]) ⟨(hpZ 1 (by decide)), (hpZ 2 (by decide)), trivial⟩]
   refine XG.op (XOp.call (args := [ptr cb 0, .agg #[x1, x2]]) call119 rfl (Does.at [_, _] (l7DrawTerm_spec hbs (by omega) hr1 hr2 (hsm := (by first | assumption | rfl | omega | simp)))) ?_)
   rintro _ F3 _ le3 ⟨⟨x6, rfl, hr5⟩, rfl⟩
   replace hr1 := hr1.mono le3
   replace hr2 := hr2.mono le3
   exact ⟨⟨rfl, hr5⟩, rfl⟩
  exact stepsG.nil
 intro vals F4 le4 hphi
 obtain ⟨e3, f3_1hp_a⟩ := hphi 3 (by decide)
 obtain ⟨t3X1_a, f3_1hp_a, q3_1_a0⟩ := f3_1hp_a
 generalize hu1 : ((vals 3)) = u1 at e3 f3_1hp_a
 rw [eS (l := [(0, (.agg #[x1, x2] : Value)), (3, u1)]) ⟨(hphi 0 (by decide)), hu1, trivial⟩]
 replace hr1 := hr1.mono le4
 replace hr2 := hr2.mono le4
 show XL _ _ _ _ _ _ _ (cellsH b2 [x1, x2] 29 :: cellsH b1 [(.slice none 0 0), (.slice none 0 0)] 29 :: curH .i64 134 cb bsv bs.length :: L)
 refine cX (XOp.storeN [_] _ [x1, x2] sizeOf29 rfl rfl rfl (ones_cons (one_sl (IntsF.isSl hr1)) (ones_cons (one_sl (PairsF.isSl hr2)) ones_nil)) rfl rfl rfl (XL.as (u1) rfl (XL.nil (X.ret (retEnd (L' := curH .i64 134 cb bsv bs.length :: L) [.agg #[x1, x2], u1] (.tuple #[.agg #[x1, x2], u1]) (.cell rfl (loadNV [x1, x2] isAgg29 sizeOf29 rfl (Rd.ownN [_] rfl rfl)) (.tmp rfl .nil)) rfl (FLe.trans le1 le4) rF (sD (sD (sC sR))) ?_)))))
 exact ⟨⟨_, _, _, _, _, _, rfl, hr1, hr2, f3_1hp_a, hr3, q3_1_a0⟩, rfl⟩
end Go.Proofs.YtmaaifhmhclhdaaGreat
set_option linter.unusedSimpArgs false
set_option linter.unusedVariables false
namespace Go.Proofs.YtmaaifhmhclhdaaGreat
open Go X M Tryz

/- spec.l1Min -/
theorem l1Min_spec {F : FH} {L : List HP} {a : Int} {b : Int} :
    Does prog 176 [.int .i64 (a), .int .i64 (b)] F (L) (fun v F' L' => (.int .i64 (min a b) : Value) = v ∧ F = F' ∧ L = L') := by
 refine Does.of_X func176 rfl rfl rfl (X.seq (X.region (XL.as (.int .i64 (0)) rfl (XL.nil (X.seq (X.seq (X.region (XL.mv (.int .i64 (a)) rfl (XL.mv (.int .i64 (b)) rfl (cX (XOp.lss rfl rfl (XL.nil ?_))))))))))))
 refine X.condD (p := (a : Int) < b) rfl (fun h1 => ?_) (fun h1 => ?_)
 ·refine X.seq (X.region (XL.mv (.int .i64 (a)) rfl (XL.as (.int .i64 (a)) rfl (XL.nil (X.ret (thenQ_ret (retEnd (L' := L) [.int .i64 (a)] (.int .i64 (a)) (.tmp rfl .nil) rfl rF rF sR ?_)))))))
  exact ⟨(vI (by omega)), rfl, rfl⟩
 refine X.skip (X.seq (X.region (XL.mv (.int .i64 (b)) rfl (XL.as (.int .i64 (b)) rfl (XL.nil (X.ret (retEnd (L' := L) [.int .i64 (b)] (.int .i64 (b)) (.tmp rfl .nil) rfl rF rF sR ?_)))))))
 exact ⟨(vI (by omega)), rfl, rfl⟩

/- spec.l1Num -/
theorem l1Num_spec {F : FH} {L : List HP} {cb : Nat} {bsv : Value} {bs : List Int} (hbs : BytesF F bsv bs) (hbl : bs.length ≤ 4000000) {m : Int} (hm : 0 ≤ m ∧ m ≤ 1000) :
    Does prog 121 [ptr cb 0, .int .i64 (m)] F (curH .i64 134 cb bsv bs.length :: L) (fun v F' L' => (F = F' ∧ ∃ (x : Int), (.int .i64 (x) : Value) = v) ∧ curH .i64 134 cb bsv bs.length :: L = L') := by
 refine Does.of_X func121 rfl rfl rfl (X.seq (X.region (XL.as (.int .i64 (0)) rfl (XL.nil (X.seq (X.seq (X.region (XL.mv (ptr cb 0) rfl (cX (XOp.call (args := [ptr cb 0, .int .i64 (10)]) call120 rfl (Does.at [] (l1Once_spec (n := 10) hbs (by omega) (hn := (by first | assumption | rfl | omega | simp)))) ?_))))))))))
 rintro _ _ _ _ ⟨⟨rfl, x1, rfl⟩, rfl⟩
 show XL _ _ _ _ _ _ _ (curH .i64 134 cb bsv bs.length :: L)
 refine XL.nil ?_
 refine X.cond (t := x1) rfl (fun h1 => ?_) (fun h1 => ?_)
 ·refine X.seq (X.region (XL.mv (.int .i64 (m)) rfl (XL.mv (.int .i64 (m)) rfl (cX (XOp.addR (m + 1) rfl rfl (by omega) (by omega) (XL.mv (ptr cb 0) rfl (cX (XOp.call (args := [ptr cb 0]) call175 rfl (Does.at [] (l1Odd_spec hbs (by omega))) ?_))))))))
  rintro _ _ _ _ ⟨⟨rfl, x2, rfl⟩, rfl⟩
  show XL _ _ _ _ _ _ _ (curH .i64 134 cb bsv bs.length :: L)
  refine cX (XOp.buildSlice (s := 1) [.int .i64 (-1), .int .i64 (m), .int .i64 (m + 1), .int .i64 (x2)] [.int .i64 (0)] [(0, [.int .i64 (-1)]), (1, [.int .i64 (m)]), (2, [.int .i64 (m + 1)]), (3, [.int .i64 (x2)])] runUnderlying24 sizeOf2 zeroValue2 rfl (by decide) rfl (.cons rfl (.cons rfl (.cons rfl (.cons rfl CellsAre.nil)))) rfl ?_)
  intro v1 hv1
  show XL _ _ _ _ _ _ _ (intsH 2 v1 ([-1, m, m + 1, x2] : List Int) :: curH .i64 134 cb bsv bs.length :: L)
  have hl4 : ([-1, m, m + 1, x2] : List Int).length = 4 := rfl
  refine XL.mv (ptr cb 0) rfl (cX (XOp.call (args := [ptr cb 0, .int .i64 (4)]) call122 rfl (Does.at [_] (l1Below_spec (n := 4) hbs (by omega) (hn := (by first | assumption | rfl | omega | simp)))) ?_))
  rintro _ _ _ _ ⟨⟨rfl, x3, rfl, hr1⟩, rfl⟩
  show XL _ _ _ _ _ _ _ (intsH 2 v1 ([-1, m, m + 1, x2] : List Int) :: curH .i64 134 cb bsv bs.length :: L)
  refine cX (XOp.indexS ((x3).toNat) runUnderlying24 sizeOf2 rfl rfl (by omega) (intsH.slv [] rfl) (by omega) (Nat.mul_one _) (cX (XOp.load1 isAgg2 rfl (intsH.rd [] rfl (by omega)) (XL.as (.int .i64 (([-1, m, m + 1, x2]).getD ((x3).toNat) 0)) rfl (XL.nil (X.ret (thenQ_ret (retEnd (L' := curH .i64 134 cb bsv bs.length :: L) [.int .i64 (([-1, m, m + 1, x2]).getD ((x3).toNat) 0)] (.int .i64 (([-1, m, m + 1, x2]).getD ((x3).toNat) 0)) (.tmp rfl .nil) rfl rF rF (sD (sC sR)) ?_))))))))
  exact ⟨⟨rfl, _, rfl⟩, rfl⟩
 refine X.skip (X.seq (X.seq (X.region (XL.mv (ptr cb 0) rfl (cX (XOp.call (args := [ptr cb 0, .int .i64 (2)]) call120 rfl (Does.at [] (l1Once_spec (n := 2) hbs (by omega) (hn := (by first | assumption | rfl | omega | simp)))) ?_))))))
 rintro _ _ _ _ ⟨⟨rfl, x4, rfl⟩, rfl⟩
 show XL _ _ _ _ _ _ _ (curH .i64 134 cb bsv bs.length :: L)
 refine XL.nil ?_
 refine X.cond (t := x4) rfl (fun h2 => ?_) (fun h2 => ?_)
 ·refine X.seq (X.region (XL.mv (ptr cb 0) rfl (XL.mv (.int .i64 (m)) rfl (cX (XOp.call (args := [.int .i64 (m), .int .i64 (4)]) call176 rfl (l1Min_spec (a := m) (b := 4)) ?_)))))
  rintro _ _ _ _ ⟨rfl, rfl, rfl⟩
  refine cX (XOp.addR ((min m 4) + 1) rfl rfl (by omega) (by omega) (cX (XOp.call (args := [ptr cb 0, .int .i64 ((min m 4) + 1)]) call122 rfl (Does.at [] (l1Below_spec (n := (min m 4) + 1) hbs (by omega) (hn := (by first | assumption | rfl | omega | simp)))) ?_)))
  rintro _ _ _ _ ⟨⟨rfl, x5, rfl, hr2⟩, rfl⟩
  show XL _ _ _ _ _ _ _ (curH .i64 134 cb bsv bs.length :: L)
  refine XL.as (.int .i64 (x5)) rfl (XL.nil (X.ret (thenQ_ret (retEnd (L' := curH .i64 134 cb bsv bs.length :: L) [.int .i64 (x5)] (.int .i64 (x5)) (.tmp rfl .nil) rfl rF rF (sC sR) ?_))))
  exact ⟨⟨rfl, _, rfl⟩, rfl⟩
 refine X.skip (X.seq (X.region (XL.mv (ptr cb 0) rfl (XL.mv (.int .i64 (m)) rfl (cX (XOp.addR (m + 1) rfl rfl (by omega) (by omega) (cX (XOp.call (args := [ptr cb 0, .int .i64 (m + 1)]) call122 rfl (Does.at [] (l1Below_spec (n := m + 1) hbs (by omega) (hn := (by first | assumption | rfl | omega | simp)))) ?_))))))))
 rintro _ _ _ _ ⟨⟨rfl, x6, rfl, hr3⟩, rfl⟩
 show XL _ _ _ _ _ _ _ (curH .i64 134 cb bsv bs.length :: L)
 refine XL.as (.int .i64 (x6)) rfl (XL.nil (X.ret (retEnd (L' := curH .i64 134 cb bsv bs.length :: L) [.int .i64 (x6)] (.int .i64 (x6)) (.tmp rfl .nil) rfl rF rF (sC sR) ?_)))
 exact ⟨⟨rfl, _, rfl⟩, rfl⟩

/- spec.l9DrawSteps -/
theorem l9DrawSteps_spec {F : FH} {L : List HP} {cb : Nat} {bsv : Value} {bs : List Int} (hbs : BytesF F bsv bs) (hbl : bs.length ≤ 4000000) :
    Does prog 64 [ptr cb 0] F (curH .i64 134 cb bsv bs.length :: L) (fun v F' L' => (F = F' ∧ ∃ (x : Int), (.int .i64 (x) : Value) = v) ∧ curH .i64 134 cb bsv bs.length :: L = L') := by
 refine Does.of_X func64 rfl rfl rfl (X.seq (X.region (XL.as (.int .i64 (0)) rfl (XL.nil (X.seq (X.seq (X.region (XL.mv (ptr cb 0) rfl (cX (XOp.call (args := [ptr cb 0, .int .i64 (12)]) call120 rfl (Does.at [] (l1Once_spec (n := 12) hbs (by omega) (hn := (by first | assumption | rfl | omega | simp)))) ?_))))))))))
 rintro _ _ _ _ ⟨⟨rfl, x1, rfl⟩, rfl⟩
 show XL _ _ _ _ _ _ _ (curH .i64 134 cb bsv bs.length :: L)
 refine XL.nil ?_
 refine X.cond (t := x1) rfl (fun h1 => ?_) (fun h1 => ?_)
 ·refine X.seq (X.region (XL.mv (ptr cb 0) rfl (cX (XOp.call (args := [ptr cb 0, .int .i64 (20)]) call121 rfl (Does.at [] (l1Num_spec (m := 20) hbs (by omega) (hm := (by first | assumption | rfl | omega | simp)))) ?_))))
  rintro _ _ _ _ ⟨⟨rfl, x2, rfl⟩, rfl⟩
  show XL _ _ _ _ _ _ _ (curH .i64 134 cb bsv bs.length :: L)
  refine XL.as (.int .i64 (x2)) rfl (XL.nil (X.ret (thenQ_ret (retEnd (L' := curH .i64 134 cb bsv bs.length :: L) [.int .i64 (x2)] (.int .i64 (x2)) (.tmp rfl .nil) rfl rF rF (sC sR) ?_))))
  exact ⟨⟨rfl, _, rfl⟩, rfl⟩
 refine X.skip (X.seq (X.region (XL.mv (ptr cb 0) rfl (cX (XOp.call (args := [ptr cb 0, .int .i64 (5)]) call122 rfl (Does.at [] (l1Below_spec (n := 5) hbs (by omega) (hn := (by first | assumption | rfl | omega | simp)))) ?_)))))
 rintro _ _ _ _ ⟨⟨rfl, x3, rfl, hr1⟩, rfl⟩
 show XL _ _ _ _ _ _ _ (curH .i64 134 cb bsv bs.length :: L)
 refine XL.as (.int .i64 (x3)) rfl (XL.nil (X.ret (retEnd (L' := curH .i64 134 cb bsv bs.length :: L) [.int .i64 (x3)] (.int .i64 (x3)) (.tmp rfl .nil) rfl rF rF (sC sR) ?_)))
 exact ⟨⟨rfl, _, rfl⟩, rfl⟩

/- spec.DrawReachOf -/
theorem DrawReachOf_spec {F : FH} {L : List HP} {bsv : Value} {bs : List Int} (hbs : BytesF F bsv bs) (hbl : bs.length ≤ 4000000) :
    Does prog 19 [bsv] F (L) (fun v F' L' => ∃ (a : Value), ∃ (b : Value), ∃ (c : Value), ∃ (ar : List Int), ∃ (rs : List (List Int × List Int)), ∃ (t : List Int), ∃ (n : Int), (.tuple #[.agg #[a, b], c, .int .i64 (n)] : Value) = v ∧ (IntsF F' a ar) ∧ (PairsF F' b rs) ∧ (IntsF F' c t) ∧ (smallS ar rs) ∧ (t.length ≤ 2000) ∧ L = L') := by
 refine Does.of_X func19 rfl rfl rfl (X.seq (X.region (cX (XOp.alloc [(.slice none 0 0), (.slice none 0 0)] zeroValue29 rfl ?_))))
 intro b1
 refine XL.as ((.slice none 0 0)) rfl (XL.as (.int .i64 (0)) rfl (XL.nil (X.seq (X.region (XL.mv (bsv) rfl (cX (XOp.call (args := [bsv]) call46 rfl (l1New_spec hbs (by omega)) ?_)))))))
 rintro _ _ _ _ ⟨cb1, rfl, rfl, rfl⟩
 show XL _ _ _ _ _ _ _ (curH .i64 134 cb1 bsv bs.length :: cellsH b1 [(.slice none 0 0), (.slice none 0 0)] 29 :: L)
 refine XL.as (ptr cb1 0) rfl (XL.nil (X.seq (X.region (XL.mv (ptr cb1 0) rfl (cX (XOp.call (args := [ptr cb1 0]) call63 rfl (Does.at [] (l7Draw_spec hbs (by omega))) ?_))))))
 rintro _ F1 _ le1 ⟨⟨x1, x2, x3, x4, x5, x6, rfl, hr1, hr2, hr3, hr4, hr5⟩, rfl⟩
 replace hbs := hbs.mono le1
 show XL _ _ _ _ _ _ _ (curH .i64 134 cb1 bsv bs.length :: cellsH b1 [(.slice none 0 0), (.slice none 0 0)] 29 :: L)
 refine XL.mv (.tuple #[.agg #[x1, x2], x3]) rfl (cX (XOp.extract (.agg #[x1, x2]) rfl rfl (cX (XOp.extract (x3) rfl rfl (cX (XOp.alloc [(.slice none 0 0), (.slice none 0 0)] zeroValue29 rfl ?_))))))
 intro b2
 refine cX (XOp.storeN [] _ [x1, x2] sizeOf29 rfl rfl rfl (ones_cons (one_sl (IntsF.isSl hr1)) (ones_cons (one_sl (PairsF.isSl hr2)) ones_nil)) rfl rfl rfl (XL.as (x3) rfl (XL.nil (X.seq (X.weaken (Sub.front (A := [_, _])) ?_)))))
 show X _ _ _ _ _ _ (cellsH b1 [(.slice none 0 0), (.slice none 0 0)] 29 :: cellsH b2 [x1, x2] 29 :: curH .i64 134 cb1 bsv bs.length :: L)
 refine X.drawH [cellsH b2 [x1, x2] 29, curH .i64 134 cb1 bsv bs.length] L 5 [[], [], [], [], []] [[], [], [], [2], [0]] [[], [], [], [], []] (phiG [fun FF us v => v = (.agg #[x1, x2] : Value), fun FF us v => v = x3, fun FF us v => v = ptr cb1 0, fun FF us v => (.int .i64 (((intAt v))) : Value) = v, fun FF us v => True]) (ownL [fun us v => [], fun us v => [], fun us v => [], fun us v => [], fun us v => [cellsH b1 [x1, x2] 29]]) (fun i => ([[], [], [], [], [cellsH b1 [(.slice none 0 0), (.slice none 0 0)] 29]] : List (List HP)).getD i []) mixed rfl rfl (by kernel_rfl) (by kernel_rfl) (MonoG.get (mC (fun le h => h) (mC (fun le h => h) (mC (fun le h => h) (mC (fun le h => h) (mC (fun le h => h) MonoG.nil)))))) ?_ ?_
 ·refine stepsT.cons (fun vals Fs R leFs hpZ => ?_) ?_
  ·replace hbs := hbs.mono leFs
   replace hr1 := hr1.mono leFs
   replace hr2 := hr2.mono leFs
   replace hr3 := hr3.mono leFs
   refine XG.op (XOp.loadN [x1, x2] isAgg29 sizeOf29 rfl rfl (Rd.ownN [] rfl rfl) ?_)
   exact ⟨rfl, rfl⟩
  refine stepsT.cons (fun vals Fs R leFs hpZ => ?_) ?_
  ·refine XG.op (XOp.move (x3) rfl ?_)
   exact ⟨rfl, rfl⟩
  refine stepsT.cons (fun vals Fs R leFs hpZ => ?_) ?_
  ·refine XG.op (XOp.move (ptr cb1 0) rfl ?_)
   exact ⟨rfl, rfl⟩
  refine stepsT.cons (fun vals Fs R leFs hpZ => ?_) ?_
  ·replace hbs := hbs.mono leFs
   replace hr1 := hr1.mono leFs
   replace hr2 := hr2.mono leFs
   replace hr3 := hr3.mono leFs
   rw [eS (l := [(2, ptr cb1 0)]) ⟨(hpZ 2 (by decide)), trivial⟩]
   refine XG.op (XOp.call (args := [ptr cb1 0]) call64 rfl (Does.at [_] (l9DrawSteps_spec hbs (by omega))) ?_)
   rintro _ _ _ _ ⟨⟨rfl, x8, rfl⟩, rfl⟩
   exact ⟨rfl, rfl⟩
  refine stepsT.cons (fun vals Fs R leFs hpZ => ?_) ?_
  ·replace hbs := hbs.mono leFs
   replace hr1 := hr1.mono leFs
   replace hr2 := hr2.mono leFs
   replace hr3 := hr3.mono leFs
   rw [eS (l := [(0, (.agg #[x1, x2] : Value))]) ⟨(hpZ 0 (by decide)), trivial⟩]
   show XG _ _ _ _ _ (cellsH b1 [(.slice none 0 0), (.slice none 0 0)] 29 :: ([cellsH b2 [x1, x2] 29, curH .i64 134 cb1 bsv bs.length] ++ R)) _
   refine XG.op (XOp.storeN [] _ [x1, x2] sizeOf29 rfl rfl rfl (ones_cons (one_sl (IntsF.isSl hr1)) (ones_cons (one_sl (PairsF.isSl hr2)) ones_nil)) rfl rfl rfl ?_)
   exact ⟨trivial, rfl⟩
  exact stepsT.nil
 intro vals F4 le4 hphi
 have e3 : (.int .i64 (((intAt (vals 3)))) : Value) = (vals 3) := hphi 3 (by decide)
 generalize hu1 : (intAt (vals 3)) = u1 at e3
 rw [eS (l := [(1, x3), (3, (.int .i64 ((u1)) : Value))]) ⟨(hphi 1 (by decide)), (e3).symm, trivial⟩]
 replace hr1 := hr1.mono le4
 replace hr2 := hr2.mono le4
 replace hr3 := hr3.mono le4
 show XL _ _ _ _ _ _ _ (cellsH b1 [x1, x2] 29 :: cellsH b2 [x1, x2] 29 :: curH .i64 134 cb1 bsv bs.length :: L)
 refine XL.as (x3) rfl (XL.as (.int .i64 ((u1))) rfl (XL.nil (X.ret (retEnd (L' := L) [.agg #[x1, x2], x3, .int .i64 ((u1))] (.tuple #[.agg #[x1, x2], x3, .int .i64 ((u1))]) (.cell rfl (loadNV [x1, x2] isAgg29 sizeOf29 rfl (Rd.ownN [] rfl rfl)) (.tmp rfl (.tmp rfl .nil))) rfl (FLe.trans le1 le4) rF (sD (sD (sD sR))) ?_))))
 exact ⟨_, _, _, _, _, _, _, rfl, hr1, hr2, hr3, hr4, hr5, rfl⟩
end Go.Proofs.YtmaaifhmhclhdaaGreat
set_option linter.unusedSimpArgs false
set_option linter.unusedVariables false
namespace Go.Proofs.YtmaaifhmhclhdaaGreat
open Go X M Tryz
end Go.Proofs.YtmaaifhmhclhdaaGreat
set_option linter.unusedSimpArgs false
set_option linter.unusedVariables false
namespace Go.Proofs.YtmaaifhmhclhdaaGreat
open Go X M Tryz
end Go.Proofs.YtmaaifhmhclhdaaGreat
set_option linter.unusedSimpArgs false
set_option linter.unusedVariables false
namespace Go.Proofs.YtmaaifhmhclhdaaGreat
open Go X M Tryz
end Go.Proofs.YtmaaifhmhclhdaaGreat
set_option linter.unusedSimpArgs false
set_option linter.unusedVariables false
namespace Go.Proofs.YtmaaifhmhclhdaaGreat
open Go X M Tryz
end Go.Proofs.YtmaaifhmhclhdaaGreat
set_option linter.unusedSimpArgs false
set_option linter.unusedVariables false
namespace Go.Proofs.YtmaaifhmhclhdaaGreat
open Go X M Tryz
end Go.Proofs.YtmaaifhmhclhdaaGreat
set_option linter.unusedSimpArgs false
set_option linter.unusedVariables false
namespace Go.Proofs.YtmaaifhmhclhdaaGreat
open Go X M Tryz

/- impl.stepArgs -/
theorem stepArgs_spec {F : FH} {L : List HP} {arv : Value} {ar : List Int} (har : IntsF F arv ar) {rsv : Value} {rs : List (List Int × List Int)} (hrs : PairsF F rsv rs) {tv : Value} {t : List Int} (ht : IntsF F tv t) {p : Int} {r : Int} :
    Does prog 171 [.agg #[arv, rsv], tv, .int .i64 (p), .int .i64 (r)] F (L) (fun v F' L' => (.bool (stepAtOk ar rs t p r) : Value) = v ∧ F = F' ∧ L = L') := by
 refine Does.of_X func171 rfl rfl rfl (X.seq (X.region (cX (XOp.box [arv, rsv] rfl rfl ?_))))
 intro b1
 refine XL.as (.bool (false)) rfl (XL.nil (X.seq (X.region (cX (XOp.loadN [arv, rsv] isAgg29 sizeOf29 rfl rfl (Rd.ownN [] rfl rfl) (cX (XOp.call (args := [.agg #[arv, rsv]]) call56 rfl (SystemOk_spec har hrs) ?_)))))))
 rintro _ _ _ _ ⟨rfl, rfl, rfl⟩
 refine XL.mv (.bool (sysOk ar rs)) rfl ?_
 by_cases h1 : (sysOk ar rs) = true
 ·refine XL.yes (t := 11) rfl (vB h1) (XOp.fieldP (0) runUnderlying29 rfl sizeOf26 (by decide) rfl rfl (XL.yes (t := 11) rfl (vB h1) (XOp.loadN [arv] isAgg26 sizeOf26 rfl rfl (Rd.ownN [] rfl rfl) (XL.yes (t := 11) rfl (vB h1) (XOp.move (tv) rfl (XL.yes (t := 11) rfl (vB h1) (XOp.move (.int .i64 (p)) rfl (XL.yes (t := 11) rfl (vB h1) (XOp.call (args := [.agg #[arv], tv, .int .i64 (p)]) call137 rfl (posOk_spec (n := p) har ht) ?_)))))))))
  rintro _ _ _ _ ⟨rfl, rfl, rfl⟩
  refine cX (XOp.pickT (.bool (posOk ar t p)) (vB h1) rfl (XL.mv (.bool (posOk ar t p)) rfl ?_))
  by_cases h2 : (posOk ar t p) = true
  ·refine XL.yes (t := 18) rfl (vB h2) (XOp.move (.int .i64 (r)) rfl (XL.yes (t := 18) rfl (vB h2) (XOp.geq rfl rfl (cX (XOp.pickT (.bool (decide ((r : Int) ≥ 0))) (vB h2) rfl (XL.mv (.bool (decide ((r : Int) ≥ 0))) rfl ?_))))))
   by_cases h3 : (r : Int) ≥ 0
   ·refine XL.yes (t := 22) rfl (vT h3) (XOp.move (.int .i64 (r)) rfl (XL.yes (t := 22) rfl (vT h3) (XOp.fieldP (1) runUnderlying29 rfl sizeOf27 (by decide) rfl rfl (XL.yes (t := 22) rfl (vT h3) (XOp.load1 isAgg27 rfl (Rd.own [] rfl rfl) (XL.yes (t := 22) rfl (vT h3) (XOp.lenS runUnderlying27 rfl hrs.slv (XL.yes (t := 22) rfl (vT h3) (XOp.lss rfl rfl (cX (XOp.pickT (.bool (decide ((r : Int) < (rs.length : Int)))) (vT h3) rfl (XL.as (.bool (decide ((r : Int) < (rs.length : Int)))) rfl (XL.nil (X.ret (retEnd (L' := L) [.bool (decide ((r : Int) < (rs.length : Int)))] (.bool (decide ((r : Int) < (rs.length : Int)))) (.tmp rfl .nil) rfl rF rF (sD sR) ?_)))))))))))))))
    exact ⟨(vB (by unfold stepAtOk rightB; cases hA : sysOk ar rs <;> cases hB : termOk ar t <;> simp_all [posOk] <;> omega)), rfl, rfl⟩
   refine XL.no (t := 22) rfl (vF h3) (XL.no (t := 22) rfl (vF h3) (XL.no (t := 22) rfl (vF h3) (XL.no (t := 22) rfl (vF h3) (XL.no (t := 22) rfl (vF h3) (cX (XOp.pickF (.bool (false)) (vF h3) rfl (XL.as (.bool (false)) rfl (XL.nil (X.ret (retEnd (L' := L) [.bool (false)] (.bool (false)) (.tmp rfl .nil) rfl rF rF (sD sR) ?_))))))))))
   exact ⟨(vB (by unfold stepAtOk rightB; cases hA : sysOk ar rs <;> cases hB : termOk ar t <;> simp_all [posOk] <;> omega)), rfl, rfl⟩
  rw [Bool.not_eq_true] at h2
  refine XL.no (t := 18) rfl (vB h2) (XL.no (t := 18) rfl (vB h2) (cX (XOp.pickF (.bool (false)) (vB h2) rfl (XL.mv (.bool (false)) rfl (XL.no (t := 22) rfl rfl (XL.no (t := 22) rfl rfl (XL.no (t := 22) rfl rfl (XL.no (t := 22) rfl rfl (XL.no (t := 22) rfl rfl (cX (XOp.pickF (.bool (false)) rfl rfl ?_)))))))))))
  refine XL.as (.bool (false)) rfl (XL.nil (X.ret (retEnd (L' := L) [.bool (false)] (.bool (false)) (.tmp rfl .nil) rfl rF rF (sD sR) ?_)))
  exact ⟨(vB (by unfold stepAtOk rightB; cases hA : sysOk ar rs <;> cases hB : termOk ar t <;> simp_all [posOk] <;> omega)), rfl, rfl⟩
 rw [Bool.not_eq_true] at h1
 refine XL.no (t := 11) rfl (vB h1) (XL.no (t := 11) rfl (vB h1) (XL.no (t := 11) rfl (vB h1) (XL.no (t := 11) rfl (vB h1) (XL.no (t := 11) rfl (vB h1) (cX (XOp.pickF (.bool (false)) (vB h1) rfl (XL.mv (.bool (false)) rfl (XL.no (t := 18) rfl rfl (XL.no (t := 18) rfl rfl (cX (XOp.pickF (.bool (false)) rfl rfl ?_)))))))))))
 refine XL.mv (.bool (false)) rfl (XL.no (t := 22) rfl rfl (XL.no (t := 22) rfl rfl (XL.no (t := 22) rfl rfl (XL.no (t := 22) rfl rfl (XL.no (t := 22) rfl rfl (cX (XOp.pickF (.bool (false)) rfl rfl (XL.as (.bool (false)) rfl (XL.nil (X.ret (retEnd (L' := L) [.bool (false)] (.bool (false)) (.tmp rfl .nil) rfl rF rF (sD sR) ?_)))))))))))
 exact ⟨(vB (by unfold stepAtOk rightB; cases hA : sysOk ar rs <;> cases hB : termOk ar t <;> simp_all [posOk] <;> omega)), rfl, rfl⟩

/- impl.StepAt -/
theorem StepAt_spec {F : FH} {L : List HP} {arv : Value} {ar : List Int} (har : IntsF F arv ar) {rsv : Value} {rs : List (List Int × List Int)} (hrs : PairsF F rsv rs) {tv : Value} {t : List Int} (ht : IntsF F tv t) {p : Int} {r : Int} :
    Does prog 116 [.agg #[arv, rsv], tv, .int .i64 (p), .int .i64 (r)] F (L) (fun v F' L' => ∃ (a : Value), (.tuple #[a, .bool ((stepAtL ar rs t p r).isSome)] : Value) = v ∧ (IntsF F' a ((stepAtL ar rs t p r).getD [])) ∧ (Fresh F F' (intsH 2 a ((stepAtL ar rs t p r).getD []))) ∧ L = L') := by
 refine Does.of_X func116 rfl rfl rfl (X.seq (X.region (cX (XOp.box [arv, rsv] rfl rfl ?_))))
 intro b1
 refine XL.as ((.slice none 0 0)) rfl (XL.as (.bool (false)) rfl (XL.nil (X.seq (X.seq (X.region (cX (XOp.loadN [arv, rsv] isAgg29 sizeOf29 rfl rfl (Rd.ownN [] rfl rfl) (XL.mv (tv) rfl (XL.mv (.int .i64 (p)) rfl (XL.mv (.int .i64 (r)) rfl (cX (XOp.call (args := [.agg #[arv, rsv], tv, .int .i64 (p), .int .i64 (r)]) call171 rfl (stepArgs_spec (p := p) (r := r) har hrs ht) ?_))))))))))))
 rintro _ _ _ _ ⟨rfl, rfl, rfl⟩
 refine cX (XOp.notB rfl (XL.nil ?_))
 refine X.cond (t := !(stepAtOk ar rs t p r)) rfl (fun h1 => ?_) (fun h1 => ?_)
 ·have hz0 : stepAtL ar rs t p r = none := by rw [stepAtL, if_neg (by simpa using h1)]
  refine X.seq (X.region (XL.as ((.slice none 0 0)) rfl (XL.as (.bool (false)) rfl (XL.nil (X.ret (thenQ_ret (retEnd (L' := L) [(.slice none 0 0), .bool (false)] (.tuple #[(.slice none 0 0), .bool (false)]) (.tmp rfl (.tmp rfl .nil)) rfl rF rF (sD sR) ?_)))))))
  exact ⟨_, by rw [hz0]; rfl, by rw [hz0]; exact IntsF.nilV, by rw [hz0]; exact Fresh.ofNil _, rfl⟩
 have hok : stepAtOk ar rs t p r = true := by simpa using h1
 have hok2 := hok
 unfold stepAtOk rightB at hok2
 simp only [Bool.and_eq_true, decide_eq_true_eq] at hok2
 obtain ⟨⟨⟨hsys, ho⟩, hp1⟩, hr1⟩ := hok2
 refine X.skip (X.seq (X.region (cX (XOp.loadN [arv, rsv] isAgg29 sizeOf29 rfl rfl (Rd.ownN [] rfl rfl) (XL.mv (tv) rfl (XL.mv (.int .i64 (p)) rfl (XL.mv (.int .i64 (r)) rfl (cX (XOp.call (args := [.agg #[arv, rsv], tv, .int .i64 (((p).toNat : Nat) : Int), .int .i64 (((r).toNat : Nat) : Int)]) call106 (by rw [show (((p).toNat : Nat) : Int) = p from by omega, show (((r).toNat : Nat) : Int) = r from by omega]; rfl) (step_spec (p := (p).toNat) (r := (r).toNat) har hrs ht (hsys := (by first | assumption | rfl | omega | simp)) (ho := (by first | assumption | rfl | omega | simp)) (hp := (by first | assumption | rfl | omega | simp)) (hr := (by first | assumption | rfl | omega | simp))) ?_)))))))))
 rintro _ F1 _ le1 ⟨x1, rfl, hr1, hr2, hr3, rfl⟩
 refine cX (XOp.extract (x1) rfl rfl (cX (XOp.extract (.bool ((stepL ar rs t ((p).toNat) ((r).toNat)).isSome)) rfl rfl (XL.as (x1) rfl (XL.as (.bool ((stepL ar rs t ((p).toNat) ((r).toNat)).isSome)) rfl (XL.nil (X.ret (retEnd (L' := L) [x1, .bool ((stepL ar rs t ((p).toNat) ((r).toNat)).isSome)] (.tuple #[x1, .bool ((stepL ar rs t ((p).toNat) ((r).toNat)).isSome)]) (.tmp rfl (.tmp rfl .nil)) rfl le1 rF (sD sR) ?_))))))))
 have e := show stepAtL ar rs t p r = stepL ar rs t p.toNat r.toNat from by rw [stepAtL, if_pos hok]
 exact ⟨_, by rw [e], by rw [e]; exact hr1, by rw [e]; exact hr3, rfl⟩
end Go.Proofs.YtmaaifhmhclhdaaGreat
set_option linter.unusedSimpArgs false
set_option linter.unusedVariables false
namespace Go.Proofs.YtmaaifhmhclhdaaGreat
open Go X M Tryz

/- impl.walkOk -/
theorem walkOk_spec {F : FH} {L : List HP} {arv : Value} {ar : List Int} (har : IntsF F arv ar) {rsv : Value} {rs : List (List Int × List Int)} (hrs : PairsF F rsv rs) {fv : Value} {f : List Int} (hf : IntsF F fv f) {ssv : Value} {ss : List StepT} (hss : StepsF F ssv ss) (hlf : f.length ≤ 4000000) (hsb : ∀ i, i < ss.length → (ss.getD i (0, 0, [])).2.2.length ≤ 4000000) :
    Does prog 57 [.agg #[arv, rsv], .agg #[fv, ssv]] F (L) (fun v F' L' => (.bool (((termOk ar f && decide (ss.length ≤ 60)) && goOk ar rs f ss)) : Value) = v ∧ F = F' ∧ L = L') := by
 refine Does.of_X func57 rfl rfl rfl (X.seq (X.region (cX (XOp.box [arv, rsv] rfl rfl ?_))))
 intro b1
 refine cX (XOp.box [fv, ssv] rfl rfl ?_)
 intro b2
 refine XL.as (.bool (false)) rfl (XL.nil (X.seq (X.seq (X.region (cX (XOp.fieldP (0) runUnderlying29 rfl sizeOf26 (by decide) rfl rfl (cX (XOp.loadN [arv] isAgg26 sizeOf26 rfl rfl (Rd.ownN [_] rfl rfl) (cX (XOp.fieldP (0) runUnderlying34 rfl sizeOf24 (by decide) rfl rfl (cX (XOp.load1 isAgg24 rfl (Rd.own [] rfl rfl) (cX (XOp.call (args := [.agg #[arv], fv]) call58 rfl (TermOk_spec har hf) ?_))))))))))))))
 rintro _ _ _ _ ⟨rfl, rfl, rfl⟩
 refine cX (XOp.notB rfl (XL.mv (.bool (!(termOk ar f))) rfl ?_))
 by_cases h1 : (!(termOk ar f)) = true
 ·refine XL.no (t := 16) rfl (vB h1) (XL.no (t := 16) rfl (vB h1) (XL.no (t := 16) rfl (vB h1) (XL.no (t := 16) rfl (vB h1) (cX (XOp.pickT (.bool (true)) (vB h1) rfl (XL.nil (X.condT rfl (X.seq (X.region (XL.as (.bool (false)) rfl (XL.nil ?_)))))))))))
  refine X.ret (thenQ_ret (retEnd (L' := L) [.bool (false)] (.bool (false)) (.tmp rfl .nil) rfl rF rF (sD (sD sR)) ?_))
  exact ⟨(vB (by simp_all <;> omega)), rfl, rfl⟩
 rw [Bool.not_eq_true] at h1
 refine XL.yes (t := 16) rfl (vB h1) (XOp.fieldP (1) runUnderlying34 rfl sizeOf32 (by decide) rfl rfl (XL.yes (t := 16) rfl (vB h1) (XOp.load1 isAgg32 rfl (Rd.own [] rfl rfl) (XL.yes (t := 16) rfl (vB h1) (XOp.lenS runUnderlying32 rfl hss.slv (XL.yes (t := 16) rfl (vB h1) (XOp.gtr rfl rfl (cX (XOp.pickF (.bool (decide (((ss.length : Int) : Int) > 60))) (vB h1) rfl (XL.nil ?_))))))))))
 refine X.condD (p := ((ss.length : Int) : Int) > 60) rfl (fun h2 => ?_) (fun h2 => ?_)
 ·refine X.seq (X.region (XL.as (.bool (false)) rfl (XL.nil (X.ret (thenQ_ret (retEnd (L' := L) [.bool (false)] (.bool (false)) (.tmp rfl .nil) rfl rF rF (sD (sD sR)) ?_))))))
  exact ⟨(vB (by simp_all <;> omega)), rfl, rfl⟩
 refine X.skip (X.seq (X.region (cX (XOp.fieldP (0) runUnderlying34 rfl sizeOf24 (by decide) rfl rfl (cX (XOp.load1 isAgg24 rfl (Rd.own [] rfl rfl) (XL.as (fv) rfl (XL.nil (X.seq (X.seq (X.region (cX (XOp.fieldP (1) runUnderlying34 rfl sizeOf32 (by decide) rfl rfl (cX (XOp.load1 isAgg32 rfl (Rd.own [] rfl rfl) (cX (XOp.lenS runUnderlying32 rfl hss.slv (XL.mv (.int .i64 (0)) rfl (XL.nil (X.block ?_))))))))))))))))))))
 refine X.loop (α := Nat × Value × List Int × FH) (fun xQ => [(2, ptr b1 0), (5, xQ.2.1), (25, ssv), (26, .int .i64 ((ss.length : Int))), (27, .int .i64 (((xQ.1 : Nat) : Int)))]) (fun xQ => cellsH b2 [fv, ssv] 34 :: cellsH b1 [arv, rsv] 29 :: L) (fun xQ F' => xQ.2.2.2 = F' ∧ F ≤ xQ.2.2.2 ∧ (IntsF xQ.2.2.2 xQ.2.1 xQ.2.2.1) ∧ (xQ.1 ≤ ss.length) ∧ (goOk ar rs f ss = goOk ar rs xQ.2.2.1 (ss.drop xQ.1)) ∧ (xQ.2.2.1.length ≤ 4000000)) (fun xQ => ss.length - xQ.1) (0, fv, f, F) ⟨rfl, rfl, rfl, rfl, rfl, trivial⟩ (sC (sC sR)) ⟨rfl, FLe.refl _, (hf), (by (try dsimp only) <;> omega), (rfl), (hlf)⟩ ?_
 rintro ⟨k, cv, cur, G1⟩ rE _ _ ⟨rfl, leG, hcv, hk, hgo, hcl⟩
 show X _ _ _ _ (envs [(2, ptr b1 0), (5, cv), (25, ssv), (26, .int .i64 ((ss.length : Int))), (27, .int .i64 ((k : Int)))] rE) _ (cellsH b2 [fv, ssv] 34 :: cellsH b1 [arv, rsv] 29 :: L)
 replace leG : F ≤ G1 := leG
 dsimp only at hcv hk hgo hcl
 have hsk := hsb k
 have leG1 := leG
 replace har := har.mono leG1
 replace hrs := hrs.mono leG1
 replace hss := hss.mono leG1
 refine X.seq (X.region (cX (XOp.lss rfl rfl (XL.nil (X.seq ?_)))))
 refine X.condD (p := (k : Int) < (ss.length : Int)) rfl (fun h3 => ?_) (fun h3 => ?_)
 ·refine X.skip (X.seq (X.block (X.seq (X.region (cX (XOp.indexS k runUnderlying32 sizeOf68 rfl rfl rfl hss.slv (by omega) rfl ?_))))))
  obtain ⟨a1, ha1, hr1, hr2, hr3⟩ := hss.rd (i := k) (by omega)
  refine cX (XOp.loadN [.int .i64 ((ss.getD k (0, 0, [])).1), .int .i64 ((ss.getD k (0, 0, [])).2.1), a1] isAgg68 sizeOf68 rfl rfl (Rd.three (hr1 _) (hr2 _) (hr3 _)) (cX (XOp.alloc [.int .i64 (0), .int .i64 (0), (.slice none 0 0)] zeroValue68 rfl ?_)))
  intro b3
  refine cX (XOp.storeN [] _ [.int .i64 ((ss.getD k (0, 0, [])).1), .int .i64 ((ss.getD k (0, 0, [])).2.1), a1] sizeOf68 rfl rfl rfl (ones_cons rfl (ones_cons rfl (ones_cons (one_sl (IntsF.isSl ha1)) ones_nil))) rfl rfl rfl (XL.nil (X.seq (X.region (cX (XOp.loadN [arv, rsv] isAgg29 sizeOf29 rfl rfl (Rd.ownN [_, _] rfl rfl) (XL.mv (cv) rfl (cX (XOp.fieldP (0) runUnderlying68 rfl sizeOf2 (by decide) rfl rfl (cX (XOp.load1 isAgg2 rfl (Rd.own [] rfl rfl) (cX (XOp.fieldP (1) runUnderlying68 rfl sizeOf2 (by decide) rfl rfl (cX (XOp.load1 isAgg2 rfl (Rd.own [] rfl rfl) (cX (XOp.call (args := [.agg #[arv, rsv], cv, .int .i64 ((ss.getD k (0, 0, [])).1), .int .i64 ((ss.getD k (0, 0, [])).2.1)]) call116 rfl (StepAt_spec (p := (ss.getD k (0, 0, [])).1) (r := (ss.getD k (0, 0, [])).2.1) har hrs hcv) ?_)))))))))))))))))
  rintro _ F1 _ le1 ⟨x1, rfl, hr4, hr5, rfl⟩
  replace ha1 := ha1.mono le1
  refine XL.mv (.tuple #[x1, .bool ((stepAtL ar rs cur ((ss.getD k (0, 0, [])).1) ((ss.getD k (0, 0, [])).2.1)).isSome)]) rfl (cX (XOp.extract (x1) rfl rfl (cX (XOp.extract (.bool ((stepAtL ar rs cur ((ss.getD k (0, 0, [])).1) ((ss.getD k (0, 0, [])).2.1)).isSome)) rfl rfl (XL.as (x1) rfl (XL.as (.bool ((stepAtL ar rs cur ((ss.getD k (0, 0, [])).1) ((ss.getD k (0, 0, [])).2.1)).isSome)) rfl (XL.nil (X.seq (X.seq (X.region (XL.mv (.bool ((stepAtL ar rs cur ((ss.getD k (0, 0, [])).1) ((ss.getD k (0, 0, [])).2.1)).isSome)) rfl (cX (XOp.notB rfl (XL.mv (.bool (!((stepAtL ar rs cur ((ss.getD k (0, 0, [])).1) ((ss.getD k (0, 0, [])).2.1)).isSome))) rfl ?_))))))))))))))
  by_cases h4 : (!((stepAtL ar rs cur ((ss.getD k (0, 0, [])).1) ((ss.getD k (0, 0, [])).2.1)).isSome)) = true
  ·have hu1 : (stepAtL ar rs cur (ss.getD k (0, 0, [])).1 (ss.getD k (0, 0, [])).2.1).isSome = false := by simpa using h4
   refine XL.no (t := 43) rfl (vB h4) (XL.no (t := 43) rfl (vB h4) (XL.no (t := 43) rfl (vB h4) (XL.no (t := 43) rfl (vB h4) (XL.no (t := 43) rfl (vB h4) (cX (XOp.pickT (.bool (true)) (vB h4) rfl (XL.nil (X.condT rfl (X.seq (X.region (XL.as (.bool (false)) rfl ?_)))))))))))
   refine XL.nil (X.ret (thenQ_ret (blockQ_ret (thenQ_ret (thenQ_ret (blockQ_ret (thenQ_ret (retEnd (L' := L) [.bool (false)] (.bool (false)) (.tmp rfl .nil) rfl rF (FLe.trans leG1 le1) (sD (sD (sD sR))) ?_))))))))
   exact ⟨(vB (by have hz := goOk_fail (ar := ar) (rs := rs) (t := cur) (ss := ss) (k := k) (by omega) (by first | exact .inl hu1 | exact .inr hu2); rw [hgo, hz]; simp)), rfl, rfl⟩
  rw [Bool.not_eq_true] at h4
  have hu1 : (stepAtL ar rs cur (ss.getD k (0, 0, [])).1 (ss.getD k (0, 0, [])).2.1).isSome = true := by simpa using h4
  refine XL.yes (t := 43) rfl (vB h4) (XOp.move (x1) rfl (XL.yes (t := 43) rfl (vB h4) (XOp.fieldP (2) runUnderlying68 rfl sizeOf24 (by decide) rfl rfl (XL.yes (t := 43) rfl (vB h4) (XOp.load1 isAgg24 rfl (Rd.own [] rfl rfl) (XL.yes (t := 43) rfl (vB h4) (XOp.call (args := [x1, a1]) call62 rfl (Equal_spec hr4 ha1 (hbd := (by first | assumption | rfl | omega | (left; simp; done) | (right; simp; done)))) ?_)))))))
  rintro _ _ _ _ ⟨rfl, rfl, rfl⟩
  refine XL.yes (t := 43) rfl (vB h4) (XOp.notD rfl (cX (XOp.pickF (.bool (decide (¬(((stepAtL ar rs cur ((ss.getD k (0, 0, [])).1) ((ss.getD k (0, 0, [])).2.1)).getD []) = ((ss.getD k (0, 0, [])).2.2))))) (vB h4) rfl (XL.nil ?_))))
  refine X.condD (p := ¬(((stepAtL ar rs cur ((ss.getD k (0, 0, [])).1) ((ss.getD k (0, 0, [])).2.1)).getD []) = ((ss.getD k (0, 0, [])).2.2))) rfl (fun h5 => ?_) (fun h5 => ?_)
  ·have hu2 : (stepAtL ar rs cur (ss.getD k (0, 0, [])).1 (ss.getD k (0, 0, [])).2.1).getD [] ≠ (ss.getD k (0, 0, [])).2.2 := h5
   refine X.seq (X.region (XL.as (.bool (false)) rfl (XL.nil (X.ret (thenQ_ret (blockQ_ret (thenQ_ret (thenQ_ret (blockQ_ret (thenQ_ret (retEnd (L' := L) [.bool (false)] (.bool (false)) (.tmp rfl .nil) rfl rF (FLe.trans leG1 le1) (sD (sD (sD sR))) ?_)))))))))))
   exact ⟨(vB (by have hz := goOk_fail (ar := ar) (rs := rs) (t := cur) (ss := ss) (k := k) (by omega) (by first | exact .inl hu1 | exact .inr hu2); rw [hgo, hz]; simp)), rfl, rfl⟩
  have hu2 : (stepAtL ar rs cur (ss.getD k (0, 0, [])).1 (ss.getD k (0, 0, [])).2.1).getD [] = (ss.getD k (0, 0, [])).2.2 := Classical.not_not.1 h5
  refine X.skip (X.region (XL.mv (x1) rfl (XL.as (x1) rfl (XL.nil (X.region (cX (XOp.addR (((k + 1 : Nat) : Int)) rfl rfl (by omega) (by omega) (XL.mv (.int .i64 (((k + 1 : Nat) : Int))) rfl (XL.nil ?_)))))))))
  exact ⟨(k + 1, x1, (stepAtL ar rs cur ((ss.getD k (0, 0, [])).1) ((ss.getD k (0, 0, [])).2.1)).getD [], F1), _, (FLe.trans leG1 le1), rF, ⟨rfl, rfl, rfl, rfl, rfl, trivial⟩, (sD (sC (sC sR))), ⟨rfl, (FLe.trans leG1 le1), (hr4), (by (try dsimp only) <;> omega), (by (try dsimp only); rw [hgo]; exact goOk_next (by omega) hu1 hu2), (by (try dsimp only); rw [hu2]; exact hsk (by omega))⟩, (by omega)⟩
 refine X.exit (thenQ_exit (thenQ_exit (blockQ_exit (X.seq (X.region (XL.as (.bool (true)) rfl (XL.nil (X.ret (retEnd (L' := L) [.bool (true)] (.bool (true)) (.tmp rfl .nil) rfl rF leG1 (sD (sD sR)) ?_)))))))))
 exact ⟨(vB (by rw [hgo, goOk_end (by omega)]; simp_all <;> omega)), rfl, rfl⟩

/- impl.WalkOk -/
theorem WalkOk_spec {F : FH} {L : List HP} {arv : Value} {ar : List Int} (har : IntsF F arv ar) {rsv : Value} {rs : List (List Int × List Int)} (hrs : PairsF F rsv rs) {fv : Value} {f : List Int} (hf : IntsF F fv f) {ssv : Value} {ss : List StepT} (hss : StepsF F ssv ss) (hlf : f.length ≤ 4000000) (hsb : ∀ i, i < ss.length → (ss.getD i (0, 0, [])).2.2.length ≤ 4000000) :
    Does prog 14 [.agg #[arv, rsv], .agg #[fv, ssv]] F (L) (fun v F' L' => (.bool (walkOkL ar rs f ss) : Value) = v ∧ F = F' ∧ L = L') := by
 refine Does.of_X func14 rfl rfl rfl (X.seq (X.region (cX (XOp.box [arv, rsv] rfl rfl ?_))))
 intro b1
 refine cX (XOp.box [fv, ssv] rfl rfl ?_)
 intro b2
 refine XL.as (.bool (false)) rfl (XL.nil (X.seq (X.region (cX (XOp.loadN [arv, rsv] isAgg29 sizeOf29 rfl rfl (Rd.ownN [_] rfl rfl) (cX (XOp.call (args := [.agg #[arv, rsv]]) call56 rfl (SystemOk_spec har hrs) ?_)))))))
 rintro _ _ _ _ ⟨rfl, rfl, rfl⟩
 refine XL.mv (.bool (sysOk ar rs)) rfl ?_
 by_cases h1 : (sysOk ar rs) = true
 ·refine XL.yes (t := 7) rfl (vB h1) (XOp.loadN [arv, rsv] isAgg29 sizeOf29 rfl rfl (Rd.ownN [_] rfl rfl) (XL.yes (t := 7) rfl (vB h1) (XOp.loadN [fv, ssv] isAgg34 sizeOf34 rfl rfl (Rd.ownN [] rfl rfl) (XL.yes (t := 7) rfl (vB h1) (XOp.call (args := [.agg #[arv, rsv], .agg #[fv, ssv]]) call57 rfl (walkOk_spec har hrs hf hss (hlf := (by first | assumption | rfl | omega | simp)) (hsb := (by first | assumption | rfl | omega | simp))) ?_)))))
  rintro _ _ _ _ ⟨rfl, rfl, rfl⟩
  refine cX (XOp.pickT (.bool (((termOk ar f && decide (ss.length ≤ 60)) && goOk ar rs f ss))) (vB h1) rfl (XL.as (.bool (((termOk ar f && decide (ss.length ≤ 60)) && goOk ar rs f ss))) rfl (XL.nil (X.ret (retEnd (L' := L) [.bool (((termOk ar f && decide (ss.length ≤ 60)) && goOk ar rs f ss))] (.bool (((termOk ar f && decide (ss.length ≤ 60)) && goOk ar rs f ss))) (.tmp rfl .nil) rfl rF rF (sD (sD sR)) ?_)))))
  exact ⟨(vB (by rw [walkOkL, rightB]; simp_all [Bool.and_assoc])), rfl, rfl⟩
 rw [Bool.not_eq_true] at h1
 refine XL.no (t := 7) rfl (vB h1) (XL.no (t := 7) rfl (vB h1) (XL.no (t := 7) rfl (vB h1) (cX (XOp.pickF (.bool (false)) (vB h1) rfl (XL.as (.bool (false)) rfl (XL.nil (X.ret (retEnd (L' := L) [.bool (false)] (.bool (false)) (.tmp rfl .nil) rfl rF rF (sD (sD sR)) ?_))))))))
 exact ⟨(vB (by rw [walkOkL, rightB]; simp_all [Bool.and_assoc])), rfl, rfl⟩

/- (impl.Walk).end -/
theorem walkEnd_spec {F : FH} {L : List HP} {fv : Value} {f : List Int} (hf : IntsF F fv f) {ssv : Value} {ss : List StepT} (hss : StepsF F ssv ss) (hlss : ss.length ≤ 4000000) :
    Does prog 61 [.agg #[fv, ssv]] F (L) (fun v F' L' => F = F' ∧ ∃ (a : Value), (a : Value) = v ∧ (IntsF F' a (endL f ss)) ∧ L = L') := by
 refine Does.of_X func61 rfl rfl rfl (X.seq (X.region (cX (XOp.box [fv, ssv] rfl rfl ?_))))
 intro b1
 refine XL.as ((.slice none 0 0)) rfl (XL.nil (X.seq (X.seq (X.region (cX (XOp.fieldP (1) runUnderlying34 rfl sizeOf32 (by decide) rfl rfl (cX (XOp.load1 isAgg32 rfl (Rd.own [] rfl rfl) (cX (XOp.lenS runUnderlying32 rfl hss.slv (XL.as (.int .i64 ((ss.length : Int))) rfl (XL.nil (X.seq (X.region (XL.mv (.int .i64 ((ss.length : Int))) rfl (cX (XOp.gtr rfl rfl (XL.nil ?_))))))))))))))))))
 refine X.condD (p := ((ss.length : Int) : Int) > 0) rfl (fun h1 => ?_) (fun h1 => ?_)
 ·refine X.seq (X.region (cX (XOp.fieldP (1) runUnderlying34 rfl sizeOf32 (by decide) rfl rfl (cX (XOp.load1 isAgg32 rfl (Rd.own [] rfl rfl) (XL.mv (.int .i64 ((ss.length : Int))) rfl (cX (XOp.subR (((((ss).length) - 1 : Nat) : Int)) rfl rfl (by omega) (by omega) (cX (XOp.indexS (((ss).length) - 1) runUnderlying32 sizeOf68 rfl rfl rfl hss.slv (by omega) rfl (cX (XOp.fieldE ((((ss).length) - 1) * 3 + 2) runUnderlying68 rfl sizeOf24 (by decide) rfl rfl ?_))))))))))))
  obtain ⟨a1, ha1, hr1, hr2, hr3⟩ := hss.rd (i := ((ss).length) - 1) (by omega)
  refine cX (XOp.load1 isAgg24 rfl (hr3 _) (XL.as (a1) rfl (XL.nil (X.ret (thenQ_ret (retEnd (L' := L) [a1] (a1) (.tmp rfl .nil) rfl rF rF (sD sR) ?_))))))
  exact ⟨rfl, _, rfl, by rw [endL, if_neg (by omega)]; exact ha1, rfl⟩
 refine X.skip (X.seq (X.region (cX (XOp.fieldP (0) runUnderlying34 rfl sizeOf24 (by decide) rfl rfl (cX (XOp.load1 isAgg24 rfl (Rd.own [] rfl rfl) (XL.as (fv) rfl (XL.nil (X.ret (retEnd (L' := L) [fv] (fv) (.tmp rfl .nil) rfl rF rF (sD sR) ?_))))))))))
 exact ⟨rfl, _, rfl, by rw [endL, if_pos (by omega)]; exact hf, rfl⟩

/- impl.EndTerm -/
theorem EndTerm_spec {F : FH} {L : List HP} {arv : Value} {ar : List Int} (har : IntsF F arv ar) {rsv : Value} {rs : List (List Int × List Int)} (hrs : PairsF F rsv rs) {fv : Value} {f : List Int} (hf : IntsF F fv f) {ssv : Value} {ss : List StepT} (hss : StepsF F ssv ss) (hlf : f.length ≤ 4000000) (hsb : ∀ i, i < ss.length → (ss.getD i (0, 0, [])).2.2.length ≤ 4000000) :
    Does prog 16 [.agg #[arv, rsv], .agg #[fv, ssv]] F (L) (fun v F' L' => F = F' ∧ IsSl v ∧ intsH 2 v (endT ar rs f ss) :: L = L') := by
 refine Does.of_X func16 rfl rfl rfl (X.seq (X.region (cX (XOp.box [arv, rsv] rfl rfl ?_))))
 intro b1
 refine cX (XOp.box [fv, ssv] rfl rfl ?_)
 intro b2
 refine XL.as ((.slice none 0 0)) rfl (XL.nil (X.seq (X.seq (X.region (cX (XOp.loadN [arv, rsv] isAgg29 sizeOf29 rfl rfl (Rd.ownN [_] rfl rfl) (cX (XOp.loadN [fv, ssv] isAgg34 sizeOf34 rfl rfl (Rd.ownN [] rfl rfl) (cX (XOp.call (args := [.agg #[arv, rsv], .agg #[fv, ssv]]) call14 rfl (WalkOk_spec har hrs hf hss (hlf := (by first | assumption | rfl | omega | simp)) (hsb := (by first | assumption | rfl | omega | simp))) ?_))))))))))
 rintro _ _ _ _ ⟨rfl, rfl, rfl⟩
 refine cX (XOp.notB rfl (XL.nil ?_))
 refine X.cond (t := !(walkOkL ar rs f ss)) rfl (fun h1 => ?_) (fun h1 => ?_)
 ·refine X.seq (X.region (XL.as ((.slice none 0 0)) rfl (XL.nil (X.ret (thenQ_ret (retEnd (L' := intsH 2 ((.slice none 0 0)) ([]) :: L) [(.slice none 0 0)] ((.slice none 0 0)) (.tmp rfl .nil) rfl rF rF (Sub.trans (intsH.addNil 2 none _) (sC (sD (sD sR)))) ?_))))))
  refine ⟨rfl, ⟨_, _, _, rfl⟩, ?_⟩
  have hxs : (endT ar rs f ss : List Int) = [] := by rw [endT, if_neg (by simp_all)]
  exact congrArg (fun z => intsH 2 _ z :: L) hxs
 have hwk : walkOkL ar rs f ss = true := by simpa using h1
 have hel := termOk_len (right_iff.1 (walkOk_end hwk)).2
 have hwl := (walkOkL_iff.1 hwk).2.1
 refine X.skip (X.seq (X.region (cX (XOp.loadN [fv, ssv] isAgg34 sizeOf34 rfl rfl (Rd.ownN [] rfl rfl) (cX (XOp.call (args := [.agg #[fv, ssv]]) call61 rfl (walkEnd_spec hf hss (hlss := (by first | assumption | rfl | omega | simp))) ?_))))))
 rintro _ _ _ _ ⟨rfl, x1, rfl, hr1, rfl⟩
 refine cX (XOp.call (args := [x1]) call60 rfl (Clone_spec hr1 (hlt := (by first | assumption | rfl | omega | simp))) ?_)
 rintro v1 _ _ _ ⟨rfl, hs1, rfl⟩
 refine XL.as (v1) rfl (XL.nil (X.ret (retEnd (L' := intsH 2 v1 (((endL f ss))) :: L) [v1] (v1) (.tmp rfl .nil) rfl rF rF (sC (sD (sD sR))) ?_)))
 refine ⟨rfl, hs1, ?_⟩
 have hxs : (endT ar rs f ss : List Int) = ((endL f ss)) := by rw [endT, if_pos hwk]
 exact congrArg (fun z => intsH 2 _ z :: L) hxs
end Go.Proofs.YtmaaifhmhclhdaaGreat
set_option linter.unusedSimpArgs false
set_option linter.unusedVariables false
namespace Go.Proofs.YtmaaifhmhclhdaaGreat
open Go X M Tryz
end Go.Proofs.YtmaaifhmhclhdaaGreat
