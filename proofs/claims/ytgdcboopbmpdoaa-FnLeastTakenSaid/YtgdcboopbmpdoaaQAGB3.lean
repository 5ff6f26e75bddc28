/-
  Walks, one after the other (part 4).
-/
import Derived.Test.YtgdcboopbmpdoaaQAGL1
import Derived.Test.YtgdcboopbmpdoaaQAGB2
import Derived.Test.YtgdcboopbmpdoaaQAGB0
set_option linter.unusedSimpArgs false
set_option linter.unusedVariables false
namespace Go.Proofs.Ytgdcboopbmpdoaa
open Go X M Try
theorem zeroSm : ∀ w, (zeroValue 60).run prog w = .ok (.agg (smZ ++ [Value.map none]).toArray) w := fun w => by
  rw [zeroValue60]; exact congrArg (fun z => Result.ok (Value.agg z) w) (by kernel_rfl)
theorem arrKey : WideMaps.ArrKey prog 108 2 4 := ⟨underlying108, by kernel_rfl, by kernel_rfl, by kernel_rfl⟩
theorem keySize : ∃ m, prog.types.size = m + 1 := ⟨prog.types.size - 1, by kernel_rfl⟩

/- impl.newSmallest -/
theorem newSmallest_spec {F : FH} {L : List HP} :
    Does prog 26 [] F (L) (fun v F' L' => ∃ b mb, ptr b 0 = v ∧ F = F' ∧ cellsH b (smZ ++ [.map (some mb)]) 60 :: memH mb [] :: L = L') := by
 refine qO func26 rfl rfl rfl (qc (qa (qg ((.pointer none)) rfl (qb (qc (qa (cX (XOp.makeMapA ?_))))))))
 intro b1
 refine cX (XOp.build (smZ ++ [.map (some b1)]) (smZ ++ [Value.map none]) [(0, 976), (976, 1)] [(1, [.map (some b1)])] jJ zeroSm rfl (.cons rfl sizeOf57 (.cons rfl sizeOf58 PlacesAre.nil)) (by kernel_rfl) (.cons rfl .nil) (cX (ji (smZ ++ [.map (some b1)]) rfl rfl ?_)))
 intro b2
 have hc1 : BindC F smZ (List.replicate 976 []) := smZ_bind
 have hl1 : (List.replicate 976 ([] : List Int)).length = 976 := List.length_replicate
 refine qg (ptr b2 0) rfl (qb (qC (qv (L' := cellsH b2 (smZ ++ [.map (some b1)]) 60 :: memH b1 ([]) :: L) [ptr b2 0] (ptr b2 0) (.tmp rfl .nil) rfl rF rF (sC (sC sR)) ?_)))
 exact ⟨_, _, rfl, rfl, rfl⟩

/- (*impl.smallest).terms -/
set_option maxHeartbeats 2000000 in
set_option maxRecDepth 20000 in
theorem terms_step {d : Nat} (ih : ∀ m : Nat, m < d → ∀ {F : FH} {L : List HP} {xb mb : Nat} {cl : List Value} {os : List (List Int)} {es : List (Value × Value)} {ar : List Int} {rs : List TranT} {k i : Nat} (hS : BindC F cl os) (hM : MemC ar rs F es) (hG : TabG ar rs k i os) {qsv : Value} {qs : List Int} (hqs : IntsF F qsv qs) {n : Nat} (hn : n ≤ k) (hn6 : n ≤ 60) (hq1 : 1 ≤ qs.length) (hq3 : qs.length ≤ 3) (hqb : ∀ i, i < qs.length → 0 ≤ qs.getD i 0 ∧ qs.getD i 0 < 16) (hd : qs.length ≤ m), Does prog 63 [ptr xb 0, qsv, ii (n : Int)] F (cellsH xb (cl ++ [.map (some mb)]) 60 :: memH mb es :: L) (fun v F' L' => ∃ u es', IntsF F' v u ∧ isNil v = decide (u = []) ∧ LstL ar rs qs n u ∧ MemC ar rs F' es' ∧ cellsH xb (cl ++ [.map (some mb)]) 60 :: memH mb es' :: L = L')) {F : FH} {L : List HP} {xb mb : Nat} {cl : List Value} {os : List (List Int)} {es : List (Value × Value)} {ar : List Int} {rs : List TranT} {k i : Nat} (hS : BindC F cl os) (hM : MemC ar rs F es) (hG : TabG ar rs k i os) {qsv : Value} {qs : List Int} (hqs : IntsF F qsv qs) {n : Nat} (hn : n ≤ k) (hn6 : n ≤ 60) (hq1 : 1 ≤ qs.length) (hq3 : qs.length ≤ 3) (hqb : ∀ i, i < qs.length → 0 ≤ qs.getD i 0 ∧ qs.getD i 0 < 16) (hd : qs.length ≤ d) :
    Does prog 63 [ptr xb 0, qsv, ii ((n : Int))] F (cellsH xb (cl ++ [.map (some mb)]) 60 :: memH mb es :: L) (fun v F' L' => ∃ u es', IntsF F' v u ∧ isNil v = decide (u = []) ∧ LstL ar rs qs n u ∧ MemC ar rs F' es' ∧ cellsH xb (cl ++ [.map (some mb)]) 60 :: memH mb es' :: L = L') := by
 refine qO func63 rfl rfl rfl (qc (qa (qg (sN) rfl (qb (qc (qc (qa (qd (qsv) rfl (cX (qG qf rfl hqs.slv (cX (jp rfl rfl (qb ?_)))))))))))))
 refine qE (p := ((qs.length : Int) : Int) = 1) rfl (fun h1 => ?_) (fun h1 => ?_)
 ·have hq0 := hqb 0 (by omega)
  refine qc ?_
  refine jq [cellsH xb (cl ++ [.map (some mb)]) 60, memH mb es] L 8 [] [[], [], [1], [2], [], [0], [5], [3, 6]] (phiL [qe (ptr xb 0), qe qsv, qe (.pointer (some (elemA qsv (0)))), qe (ii (qs.getD 0 0)), qe (ii ((n : Int)) : Value), qe (ptr xb 0), qe (ptr xb 0), qe (ptr xb (((qs.getD 0 0).toNat) * 61))]) (ownL []) mixed rfl rfl (by kernel_rfl) ?_ ?_
  ·refine pD (fun W R z9 => ?_) ?_
   ·refine qh (qk (ptr xb 0) rfl ?_)
    exact ⟨rfl, rfl, rfl⟩
   refine pD (fun W R z9 => ?_) ?_
   ·refine qh (qk (qsv) rfl ?_)
    exact ⟨rfl, rfl, rfl⟩
   refine pD (fun W R z9 => ?_) ?_
   ·rw [zA 1 (z9 1 rfl)]
    refine qh (qy 0 qf qr rfl rfl rfl hqs.slv (by omega) (Nat.mul_one _) ?_)
    exact ⟨rfl, rfl, rfl⟩
   refine pD (fun W R z9 => ?_) ?_
   ·rw [zA 2 (z9 2 rfl)]
    refine qh (qi qM rfl (hqs.rd (by omega)) ?_)
    exact ⟨rfl, rfl, rfl⟩
   refine pD (fun W R z9 => ?_) ?_
   ·refine qh (qk (ii ((n : Int))) rfl ?_)
    exact ⟨rfl, rfl, rfl⟩
   refine pD (fun W R z9 => ?_) ?_
   ·rw [zA 0 (z9 0 rfl)]
    refine qh (jk rfl ?_)
    exact ⟨rfl, rfl, rfl⟩
   refine pD (fun W R z9 => ?_) ?_
   ·rw [zA 5 (z9 5 rfl)]
    refine qh (ql (0) jJ rfl sizeOf57 (by decide) rfl rfl ?_)
    exact ⟨rfl, rfl, rfl⟩
   refine pD (fun W R z9 => ?_) ?_
   ·rw [zB 3 6 (z9 3 rfl) (z9 6 rfl)]
    refine qh (jy (i := qs.getD 0 0) ((qs.getD 0 0).toNat) (((qs.getD 0 0).toNat) * 61) runUnderlying57 sizeOf56 rfl rfl (by omega) (by omega) (by omega) ?_)
    exact ⟨rfl, rfl, rfl⟩
   exact stepsP.nil
  intro W hphi
  rw [zB 4 7 (hphi 4 (by decide)) (hphi 7 (by decide))]
  show XL _ _ _ _ _ _ _ (cellsH xb (cl ++ [.map (some mb)]) 60 :: memH mb es :: L)
  refine cX (jy (i := (n : Int)) n (((qs.getD 0 0).toNat) * 61 + n) runUnderlying56 qw rfl rfl rfl (by omega) (by omega) ?_)
  obtain ⟨a1, ha1, hn1, he1⟩ := hS.get (i := ((qs.getD 0 0).toNat) * 61 + n) (by have := hG.len; omega)
  refine cX (qi qT rfl (Rd.own [] rfl (sm_get he1)) (qg (a1) rfl (qb (qC (qn (qv (L' := cellsH xb (cl ++ [.map (some mb)]) 60 :: memH mb es :: L) [a1] (a1) (.tmp rfl .nil) rfl rF rF (sC (sC sR)) ?_))))))
  exact ⟨_, _, ha1, hn1, hG.one hn hn6 (by omega) hq0.1 hq0.2, hM, rfl⟩
 have hq0 := hqb 0 (by omega)
 have hqne : qs ≠ [] := List.length_pos_iff.1 (by omega)
 have hdne : qs.drop 1 ≠ [] := List.length_pos_iff.1 (by rw [List.length_drop]; omega)
 have hKQ : KeyQ qs n := ⟨hq1, hq3, hqb, hn6⟩
 have htd : (qs.drop 1).take (qs.length - 1) = qs.drop 1 := List.take_of_length_le (by rw [List.length_drop]; exact Nat.le_refl _)
 have htl9 : ((qs.drop 1).take (qs.length - 1)).length = qs.length - 1 := by rw [htd, List.length_drop]
 refine qx (qc (qa (qd (ii ((n : Int))) rfl (cX (XOp.buildArr (s := 1) [ii (-1), ii (-1), ii (-1), ii ((n : Int))] [ii (0), ii (0), ii (0), ii (0)] [(0, [ii (-1)]), (1, [ii (-1)]), (2, [ii (-1)]), (3, [ii ((n : Int))])] runUnderlying108 qr zeroValue108 rfl rfl (.cons rfl (.cons rfl (.cons rfl (.cons rfl CellsAre.nil)))) (cX (jt [ii (0), ii (0), ii (0), ii (0)] zeroValue108 rfl ?_)))))))
 intro b1
 refine cX (qX [] _ [ii (-1), ii (-1), ii (-1), ii ((n : Int))] sizeOf108 rfl rfl rfl (qt rfl (qt rfl (qt rfl (qt rfl qZ)))) rfl rfl rfl (qb (qc (qa (cX (XOp.sliceArrF (b := b1) (o := 0) runUnderlying108 qr rfl (qd (qsv) rfl (cX (XOp.copyK (xs := qs) [] _ underlying24 qr rfl rfl rfl hqs (by omega) (by omega) (qb (qc (qc ?_))))))))))))
 obtain ⟨lu1, hlu1, hln1, hlq1⟩ := hM.look hKQ
 refine jq [cellsH b1 [ii (qs.getD 0 (-1)), ii (qs.getD 1 (-1)), ii (qs.getD 2 (-1)), ii ((n : Int))] 108, cellsH xb (cl ++ [.map (some mb)]) 60, memH mb es] L 10 [] [[], [0], [1], [2], [], [3, 4], [5], [6], [6], [7]] (phiL [qe (ptr xb 0), qe (ptr xb 0), qe (ptr xb 976), qe (.map (some mb)), qe (.agg #[ii (qs.getD 0 (-1)), ii (qs.getD 1 (-1)), ii (qs.getD 2 (-1)), ii ((n : Int))] : Value), qe (.tuple #[((memFind es (keyV qs n)).getD sN), .bool ((memFind es (keyV qs n)).isSome)]), qe (.tuple #[((memFind es (keyV qs n)).getD sN), .bool ((memFind es (keyV qs n)).isSome)]), qe ((memFind es (keyV qs n)).getD sN), qe (.bool ((memFind es (keyV qs n)).isSome)), qe ((memFind es (keyV qs n)).getD sN)]) (ownL []) mixed rfl rfl (by kernel_rfl) ?_ ?_
 ·refine pD (fun W R z9 => ?_) ?_
  ·refine qh (qk (ptr xb 0) rfl ?_)
   exact ⟨rfl, rfl, rfl⟩
  refine pD (fun W R z9 => ?_) ?_
  ·rw [zA 0 (z9 0 rfl)]
   refine qh (jk rfl ?_)
   exact ⟨rfl, rfl, rfl⟩
  refine pD (fun W R z9 => ?_) ?_
  ·rw [zA 1 (z9 1 rfl)]
   refine qh (ql (976) jJ rfl sizeOf58 (by decide) rfl rfl ?_)
   exact ⟨rfl, rfl, rfl⟩
  refine pD (fun W R z9 => ?_) ?_
  ·rw [zA 2 (z9 2 rfl)]
   refine qh (qi isAgg58 rfl (Rd.own [_] rfl (sm_map (by have := CO.len hS; have := hG.len; omega))) ?_)
   exact ⟨rfl, rfl, rfl⟩
  refine pD (fun W R z9 => ?_) ?_
  ·refine qh (qu [ii (qs.getD 0 (-1)), ii (qs.getD 1 (-1)), ii (qs.getD 2 (-1)), ii ((n : Int))] isAgg108 sizeOf108 rfl rfl (Rd.ownN [] rfl rfl) ?_)
   exact ⟨rfl, rfl, rfl⟩
  refine pD (fun W R z9 => ?_) ?_
  ·rw [zB 3 4 (z9 3 rfl) (z9 4 rfl)]
   refine qh (XOp.lookupA (es := es) (key := (keyV qs n)) [_, _] arrKey.law underlying58 ju rfl rfl rfl (hM.keys arrKey underlying2 keySize) hM.nodup (key_ok arrKey underlying2 keySize hKQ) ?_)
   exact ⟨rfl, rfl, rfl⟩
  refine pD (fun W R z9 => ?_) ?_
  ·rw [zA 5 (z9 5 rfl)]
   refine qh (qk (.tuple #[((memFind es (keyV qs n)).getD sN), .bool ((memFind es (keyV qs n)).isSome)]) rfl ?_)
   exact ⟨rfl, rfl, rfl⟩
  refine pD (fun W R z9 => ?_) ?_
  ·rw [zA 6 (z9 6 rfl)]
   refine qh (jn (((memFind es (keyV qs n)).getD sN)) rfl rfl ?_)
   exact ⟨rfl, rfl, rfl⟩
  refine pD (fun W R z9 => ?_) ?_
  ·rw [zA 6 (z9 6 rfl)]
   refine qh (jn (.bool ((memFind es (keyV qs n)).isSome)) rfl rfl ?_)
   exact ⟨rfl, rfl, rfl⟩
  refine pD (fun W R z9 => ?_) ?_
  ·rw [zA 7 (z9 7 rfl)]
   refine qh (XOp.assign (((memFind es (keyV qs n)).getD sN)) rfl ?_)
   exact ⟨rfl, rfl, rfl⟩
  exact stepsP.nil
 intro W hphi
 rw [zB 8 9 (hphi 8 (by decide)) (hphi 9 (by decide))]
 show XL _ _ _ _ _ _ _ (cellsH b1 [ii (qs.getD 0 (-1)), ii (qs.getD 1 (-1)), ii (qs.getD 2 (-1)), ii ((n : Int))] 108 :: cellsH xb (cl ++ [.map (some mb)]) 60 :: memH mb es :: L)
 refine qg (.bool ((memFind es (keyV qs n)).isSome)) rfl (qb (qc (qa (qd (.bool ((memFind es (keyV qs n)).isSome)) rfl (qb ?_)))))
 refine jr (t := (memFind es (keyV qs n)).isSome) rfl (fun h2 => ?_) (fun h2 => ?_)
 ·refine qc (qa (qd (((memFind es (keyV qs n)).getD sN)) rfl (qg (((memFind es (keyV qs n)).getD sN)) rfl (qb (qC (qn (qv (L' := cellsH xb (cl ++ [.map (some mb)]) 60 :: memH mb es :: L) [((memFind es (keyV qs n)).getD sN)] (((memFind es (keyV qs n)).getD sN)) (.tmp rfl .nil) rfl rF rF (sD (sC (sC sR))) ?_)))))))
  exact ⟨_, _, hlu1, hln1, hlq1 h2, hM, rfl⟩
 refine qx (qc (qa (qg (sN) rfl (qb (qc (qc (qa (qg (ii (1)) rfl (qb (qF (jg (α := Nat × Value × List Int × List (Value × Value) × FH) (fun xQ => [(0, ptr xb 0), (1, qsv), (2, ii ((n : Int))), (7, ptr b1 0), (10, xQ.2.1), (11, ii (((xQ.1 + 1 : Nat) : Int)))]) (fun xQ => cellsH b1 [ii (qs.getD 0 (-1)), ii (qs.getD 1 (-1)), ii (qs.getD 2 (-1)), ii ((n : Int))] 108 :: cellsH xb (cl ++ [.map (some mb)]) 60 :: memH mb xQ.2.2.2.1 :: L) (fun xQ F' => xQ.2.2.2.2 = F' ∧ F ≤ xQ.2.2.2.2 ∧ (IntsF xQ.2.2.2.2 xQ.2.1 xQ.2.2.1) ∧ (MemC ar rs xQ.2.2.2.2 xQ.2.2.2.1) ∧ (isNil xQ.2.1 = decide (xQ.2.2.1 = [])) ∧ (xQ.1 ≤ n) ∧ (xQ.2.2.1.length ≤ 120) ∧ (Lst (RunK ar rs (qs.getD 0 0) (qs.drop 1) n xQ.1) xQ.2.2.1)) (fun xQ => n - xQ.1) (0, sN, [], es, F) ⟨rfl, rfl, rfl, rfl, rfl, rfl, ⟨⟩⟩ (sC (sC (sC sR))) ⟨rfl, FLe.refl _, (IntsF.nilV), (hM), (rfl), (Nat.zero_le _), (Nat.zero_le _), (LstL.start)⟩ ?_)))))))))))
 rintro ⟨j, ov, u, es1, G1⟩ rE _ _ ⟨rfl, leG, hov, hM1, hon, hj, hul, hR⟩
 show X _ _ _ _ (envs [(0, ptr xb 0), (1, qsv), (2, ii ((n : Int))), (7, ptr b1 0), (10, ov), (11, ii (((j + 1 : Nat) : Int)))] rE) _ (cellsH b1 [ii (qs.getD 0 (-1)), ii (qs.getD 1 (-1)), ii (qs.getD 2 (-1)), ii ((n : Int))] 108 :: cellsH xb (cl ++ [.map (some mb)]) 60 :: memH mb es1 :: L)
 replace leG : F ≤ G1 := leG
 dsimp only at hov hM1 hon hj hul hR
 have leG1 := leG
 replace hqs := hqs.mono leG1
 replace hS := hS.mono leG1
 refine qc (qc (qa (qd (ii (((j + 1 : Nat) : Int))) rfl (qd (ii ((n : Int))) rfl (cX (qV rfl rfl (qb ?_)))))))
 refine qE (p := (((j + 1 : Nat) : Int) : Int) < (n : Int)) rfl (fun h3 => ?_) (fun h3 => ?_)
 ·refine qx (qc (qF (qc ?_)))
  refine jq [cellsH b1 [ii (qs.getD 0 (-1)), ii (qs.getD 1 (-1)), ii (qs.getD 2 (-1)), ii ((n : Int))] 108, cellsH xb (cl ++ [.map (some mb)]) 60, memH mb es1] L 8 [] [[], [], [1], [2], [], [0], [5], [3, 6]] (phiL [qe (ptr xb 0), qe qsv, qe (.pointer (some (elemA qsv (0)))), qe (ii (qs.getD 0 0)), qe (ii (((j + 1 : Nat) : Int)) : Value), qe (ptr xb 0), qe (ptr xb 0), qe (ptr xb (((qs.getD 0 0).toNat) * 61))]) (ownL []) mixed rfl rfl (by kernel_rfl) ?_ ?_
  ·refine pD (fun W R z9 => ?_) ?_
   ·refine qh (qk (ptr xb 0) rfl ?_)
    exact ⟨rfl, rfl, rfl⟩
   refine pD (fun W R z9 => ?_) ?_
   ·refine qh (qk (qsv) rfl ?_)
    exact ⟨rfl, rfl, rfl⟩
   refine pD (fun W R z9 => ?_) ?_
   ·rw [zA 1 (z9 1 rfl)]
    refine qh (qy 0 qf qr rfl rfl rfl hqs.slv (by omega) (Nat.mul_one _) ?_)
    exact ⟨rfl, rfl, rfl⟩
   refine pD (fun W R z9 => ?_) ?_
   ·rw [zA 2 (z9 2 rfl)]
    refine qh (qi qM rfl (hqs.rd (by omega)) ?_)
    exact ⟨rfl, rfl, rfl⟩
   refine pD (fun W R z9 => ?_) ?_
   ·refine qh (qk (ii (((j + 1 : Nat) : Int))) rfl ?_)
    exact ⟨rfl, rfl, rfl⟩
   refine pD (fun W R z9 => ?_) ?_
   ·rw [zA 0 (z9 0 rfl)]
    refine qh (jk rfl ?_)
    exact ⟨rfl, rfl, rfl⟩
   refine pD (fun W R z9 => ?_) ?_
   ·rw [zA 5 (z9 5 rfl)]
    refine qh (ql (0) jJ rfl sizeOf57 (by decide) rfl rfl ?_)
    exact ⟨rfl, rfl, rfl⟩
   refine pD (fun W R z9 => ?_) ?_
   ·rw [zB 3 6 (z9 3 rfl) (z9 6 rfl)]
    refine qh (jy (i := qs.getD 0 0) ((qs.getD 0 0).toNat) (((qs.getD 0 0).toNat) * 61) runUnderlying57 sizeOf56 rfl rfl (by omega) (by omega) (by omega) ?_)
    exact ⟨rfl, rfl, rfl⟩
   exact stepsP.nil
  intro W hphi
  rw [zB 4 7 (hphi 4 (by decide)) (hphi 7 (by decide))]
  show XL _ _ _ _ _ _ _ (cellsH b1 [ii (qs.getD 0 (-1)), ii (qs.getD 1 (-1)), ii (qs.getD 2 (-1)), ii ((n : Int))] 108 :: cellsH xb (cl ++ [.map (some mb)]) 60 :: memH mb es1 :: L)
  refine cX (jy (i := ((j + 1 : Nat) : Int)) (j + 1) (((qs.getD 0 0).toNat) * 61 + (j + 1)) runUnderlying56 qw rfl rfl rfl (by omega) (by omega) ?_)
  obtain ⟨a2, ha2, hn2, he2⟩ := hS.get (i := ((qs.getD 0 0).toNat) * 61 + (j + 1)) (by have := hG.len; omega)
  refine cX (qi qT rfl (Rd.own [_] rfl (sm_get he2)) (qg (a2) rfl (qb (qc (qc (qa (qd (a2) rfl (cX (XOp.eqNil qf rfl rfl (qS ha2) (qb ?_))))))))))
  refine jr (t := isNil a2) rfl (fun h4 => ?_) (fun h4 => ?_)
  ·have hf9 : Lst (RunN ar rs (qs.getD 0 0) (j + 1)) (os.getD ((qs.getD 0 0).toNat * 61 + (j + 1)) []) := hG.low (j + 1) (qs.getD 0 0) (by omega) (by omega) hq0.1 hq0.2
   have hfl := hG.bnd ((qs.getD 0 0).toNat * 61 + (j + 1))
   have hnx : Lst (RunK ar rs (qs.getD 0 0) (qs.drop 1) n (j + 1)) u := LstL.skip0 hR (by rw [nil_yes hn2 h4] at hf9; exact hf9)
   refine jd (qp (qJ (qa (qd (ii (((j + 1 : Nat) : Int))) rfl (cX (qD ((((j + 1) + 1 : Nat) : Int)) rfl rfl (by omega) (by omega) (qg (ii ((((j + 1) + 1 : Nat) : Int))) rfl (qb ?_))))))))
   exact ⟨(j + 1, ov, u, es1, G1), _, leG1, rF, ⟨rfl, rfl, rfl, rfl, rfl, rfl, ⟨⟩⟩, (sC (sC (sC sR))), ⟨rfl, leG1, (hov), (hM1), (by first | exact hon | exact nil_no hov hcn), (by (try dsimp only) <;> omega), (by (try dsimp only); first | exact hul | exact hcl9), (by (try dsimp only); first | exact hnx | (rw [hcat]; exact LstL.put hR (by omega) hf9 hl8 hfn hgn (.inl hou)) | (rw [hcat]; exact LstL.put hR (by omega) hf9 hl8 hfn hgn (.inr hlt)) | exact LstL.skip2 hR (by omega) hf9 hl8 hfn hgn hou hlt)⟩, (by omega)⟩
  have hf9 : Lst (RunN ar rs (qs.getD 0 0) (j + 1)) (os.getD ((qs.getD 0 0).toNat * 61 + (j + 1)) []) := hG.low (j + 1) (qs.getD 0 0) (by omega) (by omega) hq0.1 hq0.2
  have hfl := hG.bnd ((qs.getD 0 0).toNat * 61 + (j + 1))
  have hfn : (os.getD ((qs.getD 0 0).toNat * 61 + (j + 1)) []) ≠ [] := nil_not hn2 h4
  refine qx (qc (qa (qd (ptr xb 0) rfl (qd (qsv) rfl (cX (XOp.sliceI 1 ((qs).length) qf qr rfl hqs ⟨_, rfl⟩ rfl (by omega) (by omega) ?_))))))
  intro v1 hv1 hn3
  refine qd (ii ((n : Int))) rfl (qd (ii (((j + 1 : Nat) : Int))) rfl (cX (js (((n - (j + 1) : Nat) : Int)) rfl rfl (by omega) (by omega) (XL.weaken (je (A := [_, _])) ?_))))
  show XL _ _ _ _ _ _ _ (memH mb es1 :: cellsH b1 [ii (qs.getD 0 (-1)), ii (qs.getD 1 (-1)), ii (qs.getD 2 (-1)), ii ((n : Int))] 108 :: cellsH xb (cl ++ [.map (some mb)]) 60 :: L)
  refine XL.weaken (je (A := [_, _])) ?_
  show XL _ _ _ _ _ _ _ (cellsH xb (cl ++ [.map (some mb)]) 60 :: memH mb es1 :: cellsH b1 [ii (qs.getD 0 (-1)), ii (qs.getD 1 (-1)), ii (qs.getD 2 (-1)), ii ((n : Int))] 108 :: L)
  refine cX (qq (args := [ptr xb 0, v1, ii ((n - (j + 1) : Nat) : Int)]) call63 rfl (ih (((qs.drop 1).take (((qs).length) - 1))).length (by omega) hS hM1 hG hv1 (n := n - (j + 1)) (hn := by omega) (hn6 := by omega) (hq1 := by omega) (hq3 := by omega) (hqb := fun i hi => by rw [htl9] at hi; rw [htd]; have h9 := hqb (i + 1) (by omega); simpa [List.getD, Nat.add_comm] using h9) (hd := Nat.le_refl _)) ?_)
  rintro v2 F1 _ le1 ⟨u1, es1, hu1, hn4, hl1, hm1, rfl⟩
  replace hS := hS.mono le1
  replace hov := hov.mono le1
  replace hM1 := hM1.mono le1
  replace ha2 := ha2.mono le1
  show XL _ _ _ _ _ _ _ (cellsH xb (cl ++ [.map (some mb)]) 60 :: memH mb es1 :: cellsH b1 [ii (qs.getD 0 (-1)), ii (qs.getD 1 (-1)), ii (qs.getD 2 (-1)), ii ((n : Int))] 108 :: L)
  refine qg (v2) rfl (qb (qc (qc (qa (qd (v2) rfl (cX (XOp.eqNil qf rfl rfl (qS hu1) (qb ?_))))))))
  refine jr (t := isNil v2) rfl (fun h5 => ?_) (fun h5 => ?_)
  ·have hl8 : LstL ar rs (qs.drop 1) (n - (j + 1)) u1 := by have h9 := hl1; rw [htd] at h9; exact h9
   have hgl := hl8.len
   have hnx : Lst (RunK ar rs (qs.getD 0 0) (qs.drop 1) n (j + 1)) u := LstL.skip1 hR hf9 (by rw [nil_yes hn4 h5] at hl8; exact hl8)
   refine jd (qp (qJ (qa (qd (ii (((j + 1 : Nat) : Int))) rfl (cX (qD ((((j + 1) + 1 : Nat) : Int)) rfl rfl (by omega) (by omega) (qg (ii ((((j + 1) + 1 : Nat) : Int))) rfl (qb ?_))))))))
   exact ⟨(j + 1, ov, u, es1, F1), _, (qj leG1 le1), rF, ⟨rfl, rfl, rfl, rfl, rfl, rfl, ⟨⟩⟩, (jj (je (A := [_])) (jj (je (A := [_])) (jj (je (A := [_, _])) (sC (sC (sC sR)))))), ⟨rfl, (qj leG1 le1), (hov), (hm1), (by first | exact hon | exact nil_no hov hcn), (by (try dsimp only) <;> omega), (by (try dsimp only); first | exact hul | exact hcl9), (by (try dsimp only); first | exact hnx | (rw [hcat]; exact LstL.put hR (by omega) hf9 hl8 hfn hgn (.inl hou)) | (rw [hcat]; exact LstL.put hR (by omega) hf9 hl8 hfn hgn (.inr hlt)) | exact LstL.skip2 hR (by omega) hf9 hl8 hfn hgn hou hlt)⟩, (by omega)⟩
  have hl8 : LstL ar rs (qs.drop 1) (n - (j + 1)) u1 := by have h9 := hl1; rw [htd] at h9; exact h9
  have hgl := hl8.len
  have hgn : u1 ≠ [] := nil_not hn4 h5
  have hcat : ([(os.getD ((qs.getD 0 0).toNat * 61 + (j + 1)) []), u1] : List (List Int)).flatten = (os.getD ((qs.getD 0 0).toNat * 61 + (j + 1)) []) ++ u1 := by simp
  have hcn : ([(os.getD ((qs.getD 0 0).toNat * 61 + (j + 1)) []), u1] : List (List Int)).flatten ≠ [] := by rw [hcat]; exact fun e9 => hfn (List.append_eq_nil_iff.1 e9).1
  have hcl9 : ([(os.getD ((qs.getD 0 0).toNat * 61 + (j + 1)) []), u1] : List (List Int)).flatten.length ≤ 120 := by rw [hcat, List.length_append]; omega
  refine qx (qc (qa ?_))
  skip
  refine qd (a2) rfl (qd (v2) rfl (cX (qP (s := 1) [a2, v2] [sN] [(0, [a2]), (1, [v2])] qz qw ju rfl (by decide) rfl (.cons (cells_one (qS ha2)) (.cons (cells_one (qS hu1)) CellsAre.nil)) rfl ?_)))
  intro v3 hv2
  have hc1 : RowsC F1 [a2, v2] ([(os.getD (((qs.getD 0 0).toNat) * 61 + (j + 1)) []), u1] : List (List Int)) := (RowsC.snoc (RowsC.snoc (CO.nil : RowsC F1 [] []) ha2) hu1)
  refine jz [] _ _ rfl (fun F2 le2 hz1 => ?_)
  replace hS := hS.mono le2
  replace hov := hov.mono le2
  replace hM1 := hM1.mono le2
  replace hm1 := hm1.mono le2
  replace hc1 := hc1.mono le2
  have hf1 : RowsF F2 v3 (([(os.getD (((qs.getD 0 0).toNat) * 61 + (j + 1)) []), u1] : List (List Int))) := CO.fz hc1 (by first | rfl | omega | (rw [List.length_set]; omega) | (simp; done) | (rw [List.length_append]; simp only [List.length_singleton]; omega) | ((simp only [List.length_append, List.length_singleton, List.length_nil]) <;> omega)) hz1.fz
  refine cX (XOp.frzF <| qq (args := [v3]) call81 rfl (ConcatAny_spec hf1 (hn := (by simp)) (hb := (fun i hi => by match i, hi with | 0, _ => exact Nat.le_trans hfl (by decide) | 1, _ => exact Nat.le_trans hgl (by omega)))) ?_)
  rintro v4 _ _ _ ⟨rfl, hs1, rfl⟩
  refine ⟨_, _, rfl, fun F3 le3 hz2 => ?_⟩
  replace hS := hS.mono le3
  replace hov := hov.mono le3
  replace hM1 := hM1.mono le3
  replace hm1 := hm1.mono le3
  have hf2 : IntsF F3 v4 (((([(os.getD (((qs.getD 0 0).toNat) * 61 + (j + 1)) []), u1] : List (List Int))).flatten)) := intsH.fz (xs := ((([(os.getD (((qs.getD 0 0).toNat) * 61 + (j + 1)) []), u1] : List (List Int))).flatten)) hz2.fz
  refine qg (v4) rfl (qb (qc (qa (qd (ov) rfl (cX (XOp.eqNil qf rfl rfl (qS hov) (qd (.bool (isNil ov)) rfl ?_)))))))
  by_cases h6 : (isNil ov) = true
  ·have hou : u = [] := nil_yes hon h6
   refine qm (t := 76) rfl (vB h6) (qm (t := 76) rfl (vB h6) (qm (t := 76) rfl (vB h6) (qm (t := 76) rfl (vB h6) (cX (qL (.bool (true)) (vB h6) rfl (qb (jA rfl (qa (qd (v4) rfl (qg (v4) rfl ?_))))))))))
   refine qb (qa (qd (ii (((j + 1 : Nat) : Int))) rfl (cX (qD ((((j + 1) + 1 : Nat) : Int)) rfl rfl (by omega) (by omega) (qg (ii ((((j + 1) + 1 : Nat) : Int))) rfl (qb ?_))))))
   exact ⟨(j + 1, v4, ((([(os.getD (((qs.getD 0 0).toNat) * 61 + (j + 1)) []), u1] : List (List Int))).flatten), es1, F3), _, (qj (qj (qj leG1 le1) le2) le3), rF, ⟨rfl, rfl, rfl, rfl, rfl, rfl, ⟨⟩⟩, (jj (je (A := [_])) (jj (je (A := [_])) (jj (je (A := [_, _])) (sC (sC (sC sR)))))), ⟨rfl, (qj (qj (qj leG1 le1) le2) le3), (hf2), (hm1), (by first | exact hon | exact nil_no hf2 hcn), (by (try dsimp only) <;> omega), (by (try dsimp only); first | exact hul | exact hcl9), (by (try dsimp only); first | exact hnx | (rw [hcat]; exact LstL.put hR (by omega) hf9 hl8 hfn hgn (.inl hou)) | (rw [hcat]; exact LstL.put hR (by omega) hf9 hl8 hfn hgn (.inr hlt)) | exact LstL.skip2 hR (by omega) hf9 hl8 hfn hgn hou hlt)⟩, (by omega)⟩
  rw [Bool.not_eq_true] at h6
  have hou : u ≠ [] := nil_not hon h6
  refine qo (t := 76) rfl (vB h6) (qk (v4) rfl (qo (t := 76) rfl (vB h6) (qk (ov) rfl (qo (t := 76) rfl (vB h6) (qq (args := [v4, ov]) call28 rfl (Compare_spec hf2 hov (hlx := (by omega)) (hly := (by omega))) ?_)))))
  rintro _ _ _ _ ⟨rfl, x1, rfl, hr1, rfl⟩
  refine qo (t := 76) rfl (vB h6) (qV rfl rfl (cX (qQ (.bool (decide ((x1 : Int) < 0))) (vB h6) rfl (qb ?_))))
  refine qE (p := (x1 : Int) < 0) rfl (fun h7 => ?_) (fun h7 => ?_)
  ·have hlt := hr1.2.1 h7
   rw [hcat] at hlt
   refine qa (qd (v4) rfl (qg (v4) rfl (qb (qa (qd (ii (((j + 1 : Nat) : Int))) rfl (cX (qD ((((j + 1) + 1 : Nat) : Int)) rfl rfl (by omega) (by omega) (qg (ii ((((j + 1) + 1 : Nat) : Int))) rfl (qb ?_)))))))))
   exact ⟨(j + 1, v4, ((([(os.getD (((qs.getD 0 0).toNat) * 61 + (j + 1)) []), u1] : List (List Int))).flatten), es1, F3), _, (qj (qj (qj leG1 le1) le2) le3), rF, ⟨rfl, rfl, rfl, rfl, rfl, rfl, ⟨⟩⟩, (jj (je (A := [_])) (jj (je (A := [_])) (jj (je (A := [_, _])) (sC (sC (sC sR)))))), ⟨rfl, (qj (qj (qj leG1 le1) le2) le3), (hf2), (hm1), (by first | exact hon | exact nil_no hf2 hcn), (by (try dsimp only) <;> omega), (by (try dsimp only); first | exact hul | exact hcl9), (by (try dsimp only); first | exact hnx | (rw [hcat]; exact LstL.put hR (by omega) hf9 hl8 hfn hgn (.inl hou)) | (rw [hcat]; exact LstL.put hR (by omega) hf9 hl8 hfn hgn (.inr hlt)) | exact LstL.skip2 hR (by omega) hf9 hl8 hfn hgn hou hlt)⟩, (by omega)⟩
  have hlt : ¬ ltL _ _ := fun h9 => h7 (hr1.2.2 h9)
  rw [hcat] at hlt
  refine qx (qa (qd (ii (((j + 1 : Nat) : Int))) rfl (cX (qD ((((j + 1) + 1 : Nat) : Int)) rfl rfl (by omega) (by omega) (qg (ii ((((j + 1) + 1 : Nat) : Int))) rfl (qb ?_))))))
  exact ⟨(j + 1, ov, u, es1, F3), _, (qj (qj (qj leG1 le1) le2) le3), rF, ⟨rfl, rfl, rfl, rfl, rfl, rfl, ⟨⟩⟩, (jj (je (A := [_])) (jj (je (A := [_])) (jj (je (A := [_, _])) (sC (sC (sC sR)))))), ⟨rfl, (qj (qj (qj leG1 le1) le2) le3), (hov), (hm1), (by first | exact hon | exact nil_no hov hcn), (by (try dsimp only) <;> omega), (by (try dsimp only); first | exact hul | exact hcl9), (by (try dsimp only); first | exact hnx | (rw [hcat]; exact LstL.put hR (by omega) hf9 hl8 hfn hgn (.inl hou)) | (rw [hcat]; exact LstL.put hR (by omega) hf9 hl8 hfn hgn (.inr hlt)) | exact LstL.skip2 hR (by omega) hf9 hl8 hfn hgn hou hlt)⟩, (by omega)⟩
 refine jd (qp (qp (qJ (qc ?_))))
 refine jq [cellsH b1 [ii (qs.getD 0 (-1)), ii (qs.getD 1 (-1)), ii (qs.getD 2 (-1)), ii ((n : Int))] 108, cellsH xb (cl ++ [.map (some mb)]) 60, memH mb es1] L 6 [] [[], [0], [1], [2]] (phiL [qe (ptr xb 0), qe (ptr xb 0), qe (ptr xb 976), qe (.map (some mb)), qe (.agg #[ii (qs.getD 0 (-1)), ii (qs.getD 1 (-1)), ii (qs.getD 2 (-1)), ii ((n : Int))] : Value), qe ov]) (ownL []) mixed rfl rfl (by kernel_rfl) ?_ ?_
 ·refine pD (fun W R z9 => ?_) ?_
  ·refine qh (qk (ptr xb 0) rfl ?_)
   exact ⟨rfl, rfl, rfl⟩
  refine pD (fun W R z9 => ?_) ?_
  ·rw [zA 0 (z9 0 rfl)]
   refine qh (jk rfl ?_)
   exact ⟨rfl, rfl, rfl⟩
  refine pD (fun W R z9 => ?_) ?_
  ·rw [zA 1 (z9 1 rfl)]
   refine qh (ql (976) jJ rfl sizeOf58 (by decide) rfl rfl ?_)
   exact ⟨rfl, rfl, rfl⟩
  refine pD (fun W R z9 => ?_) ?_
  ·rw [zA 2 (z9 2 rfl)]
   refine qh (qi isAgg58 rfl (Rd.own [_] rfl (sm_map (by have := CO.len hS; have := hG.len; omega))) ?_)
   exact ⟨rfl, rfl, rfl⟩
  refine pD (fun W R z9 => ?_) ?_
  ·refine qh (qu [ii (qs.getD 0 (-1)), ii (qs.getD 1 (-1)), ii (qs.getD 2 (-1)), ii ((n : Int))] isAgg108 sizeOf108 rfl rfl (Rd.ownN [] rfl rfl) ?_)
   exact ⟨rfl, rfl, rfl⟩
  refine pD (fun W R z9 => ?_) ?_
  ·refine qh (qk (ov) rfl ?_)
   exact ⟨rfl, rfl, rfl⟩
  exact stepsP.nil
 intro W hphi
 rw [eS (l := [(3, _), (4, _), (5, _)]) ⟨(hphi 3 (by decide)), (hphi 4 (by decide)), (hphi 5 (by decide)), ⟨⟩⟩]
 show XL _ _ _ _ _ _ _ (cellsH b1 [ii (qs.getD 0 (-1)), ii (qs.getD 1 (-1)), ii (qs.getD 2 (-1)), ii ((n : Int))] 108 :: cellsH xb (cl ++ [.map (some mb)]) 60 :: memH mb es1 :: L)
 have hm2 := hM1.put hKQ hov hon (LstL.at hqne (LstL.all hR hdne (by omega)))
 refine cX (XOp.updateA (es := es1) (key := (keyV qs n)) (u := ov) [_, _] arrKey.law underlying58 rfl rfl rfl rfl (hM1.keys arrKey underlying2 keySize) hM1.nodup (key_ok arrKey underlying2 keySize hKQ) ?_)
 show XL _ _ _ _ _ _ _ (cellsH b1 [ii (qs.getD 0 (-1)), ii (qs.getD 1 (-1)), ii (qs.getD 2 (-1)), ii ((n : Int))] 108 :: cellsH xb (cl ++ [.map (some mb)]) 60 :: memH mb ((memPut es1 (keyV qs n) ov)) :: L)
 refine qb (qc (qa (qd (ov) rfl (qg (ov) rfl (qb (qC (qv (L' := cellsH xb (cl ++ [.map (some mb)]) 60 :: memH mb ((memPut es1 (keyV qs n) ov)) :: L) [ov] (ov) (.tmp rfl .nil) rfl leG1 rF (sD (sC (sC sR))) ?_)))))))
 exact ⟨_, _, hov, hon, LstL.at hqne (LstL.all hR hdne (by omega)), hm2, rfl⟩

theorem terms_spec (d : Nat) : ∀ {F : FH} {L : List HP} {xb mb : Nat} {cl : List Value} {os : List (List Int)} {es : List (Value × Value)} {ar : List Int} {rs : List TranT} {k i : Nat} (hS : BindC F cl os) (hM : MemC ar rs F es) (hG : TabG ar rs k i os) {qsv : Value} {qs : List Int} (hqs : IntsF F qsv qs) {n : Nat} (hn : n ≤ k) (hn6 : n ≤ 60) (hq1 : 1 ≤ qs.length) (hq3 : qs.length ≤ 3) (hqb : ∀ i, i < qs.length → 0 ≤ qs.getD i 0 ∧ qs.getD i 0 < 16) (hd : qs.length ≤ d), Does prog 63 [ptr xb 0, qsv, ii (n : Int)] F (cellsH xb (cl ++ [.map (some mb)]) 60 :: memH mb es :: L) (fun v F' L' => ∃ u es', IntsF F' v u ∧ isNil v = decide (u = []) ∧ LstL ar rs qs n u ∧ MemC ar rs F' es' ∧ cellsH xb (cl ++ [.map (some mb)]) 60 :: memH mb es' :: L = L') := by
  induction d using Nat.strongRecOn with
  | _ d ih =>
    intros
    exact terms_step ih (by assumption) (by assumption) (by assumption) (by assumption) (by assumption) (by assumption) (by assumption) (by assumption) (by assumption) (by assumption)

/- (*impl.smallest).grow -/
set_option maxHeartbeats 2000000 in
set_option maxRecDepth 20000 in
theorem grow_spec {F : FH} {L : List HP} {xb mb : Nat} {cl : List Value} {os : List (List Int)} {es : List (Value × Value)} {ar fi : List Int} {rs : List TranT} {m : Int} {k : Nat} (hS : BindC F cl os) (hM : MemC ar rs F es) (hA : AutoOk ar m rs fi) (hG : TabG ar rs k 0 os) {rsv : Value} (hrs : TransF F rsv rs) (hk : k + 1 ≤ 60) :
    Does prog 27 [ptr xb 0, rsv, ii (((k + 1 : Nat) : Int))] F (cellsH xb (cl ++ [.map (some mb)]) 60 :: memH mb es :: L) (fun v F' L' => ∃ cl' os' es', BindC F' cl' os' ∧ MemC ar rs F' es' ∧ TabG ar rs (k + 1) 0 os' ∧ cellsH xb (cl' ++ [.map (some mb)]) 60 :: memH mb es' :: L = L') := by
 refine qO func27 rfl rfl rfl ?_
 have hfw := hA.few
 refine qc (qa (qd (rsv) rfl (cX (qG qR rfl hrs.slv (qd (ii (0)) rfl (qb (qF (jg (α := Nat × List Value × List (List Int) × List (Value × Value) × FH) (fun xQ => [(0, ptr xb 0), (2, ii (((k + 1 : Nat) : Int))), (11, rsv), (12, ii ((rs.length : Int))), (13, ii (((xQ.1 : Nat) : Int)))]) (fun xQ => cellsH xb (xQ.2.1 ++ [.map (some mb)]) 60 :: memH mb xQ.2.2.2.1 :: L) (fun xQ F' => xQ.2.2.2.2 = F' ∧ F ≤ xQ.2.2.2.2 ∧ (BindC xQ.2.2.2.2 xQ.2.1 xQ.2.2.1) ∧ (MemC ar rs xQ.2.2.2.2 xQ.2.2.2.1) ∧ (xQ.1 ≤ rs.length) ∧ (TabG ar rs k xQ.1 xQ.2.2.1)) (fun xQ => rs.length - xQ.1) (0, cl, os, es, F) ⟨rfl, rfl, rfl, rfl, rfl, ⟨⟩⟩ (sC (sC sR)) ⟨rfl, FLe.refl _, (hS), (hM), (Nat.zero_le _), (hG)⟩ ?_))))))))
 rintro ⟨i, cl1, os1, es1, G1⟩ rE _ _ ⟨rfl, leG, hS1, hM1, hi, hG1⟩
 show X _ _ _ _ (envs [(0, ptr xb 0), (2, ii (((k + 1 : Nat) : Int))), (11, rsv), (12, ii ((rs.length : Int))), (13, ii ((i : Int)))] rE) _ (cellsH xb (cl1 ++ [.map (some mb)]) 60 :: memH mb es1 :: L)
 replace leG : F ≤ G1 := leG
 dsimp only at hS1 hM1 hi hG1
 have hTi := fun (h : i < rs.length) => hA.rule i h
 have hla := fun (h : i < rs.length) => hA.argl h
 have h16 := hA.n16
 have leG1 := leG
 replace hrs := hrs.mono leG1
 refine qc (qa (cX (qV rfl rfl (qb (qc ?_)))))
 refine qE (p := (i : Int) < (rs.length : Int)) rfl (fun h1 => ?_) (fun h1 => ?_)
 ·refine qx (qc (qF (qc (qa (cX (qy i qR jb rfl rfl rfl hrs.slv (by omega) rfl ?_))))))
  obtain ⟨a1, ha1, hrg1, hq1⟩ := hrs.rd (i := i) (by omega)
  refine cX (qu [ii ((rs.getD i (0, [], 0)).1), a1, ii ((rs.getD i (0, [], 0)).2.2)] jD jb rfl rfl (Rd.all (hrg1 _)) (cX (jt [ii (0), sN, ii (0)] jF rfl ?_)))
  intro b1
  refine cX (qX [] _ [ii ((rs.getD i (0, [], 0)).1), a1, ii ((rs.getD i (0, [], 0)).2.2)] jb rfl rfl rfl (qt rfl (qt (qU (qS ha1)) (qt rfl qZ))) rfl rfl rfl (qb (qc (qa (cX (ql (0) qB rfl qr (by decide) rfl rfl (cX (qi qM rfl (Rd.own [] rfl rfl) (cX (qP (s := 1) [ii ((rs.getD i (0, [], 0)).1)] [ii (0)] [(0, [ii ((rs.getD i (0, [], 0)).1)])] qf qr jm rfl (by decide) rfl (.cons rfl CellsAre.nil) rfl ?_))))))))))
  intro v1 hv1
  refine qg (v1) rfl (qb (qc (qc (qa ?_))))
  show XL _ _ _ _ _ _ _ (intsH 2 v1 ([(rs.getD i (0, [], 0)).1] : List Int) :: cellsH b1 [ii ((rs.getD i (0, [], 0)).1), a1, ii ((rs.getD i (0, [], 0)).2.2)] 68 :: cellsH xb (cl1 ++ [.map (some mb)]) 60 :: memH mb es1 :: L)
  skip
  refine cX (ql (1) qB rfl qw (by decide) rfl rfl (cX (qi qT rfl (Rd.own [_] rfl rfl) (cX (qG qf rfl ha1.slv (cX (jw rfl rfl (qb ?_))))))))
  refine qE (p := (((((rs.getD i (0, [], 0)).2.1).length : Nat) : Int) : Int) > 0) rfl (fun h2 => ?_) (fun h2 => ?_)
  ·have hT9 := hTi (by omega)
   have hto9 := hT9.to
   have hal9 := hla (by omega)
   refine qc (qa (qd (ptr xb 0) rfl (cX (ql (1) qB rfl qw (by decide) rfl rfl (cX (qi qT rfl (Rd.own [_] rfl rfl) (qd (ii (((k + 1 : Nat) : Int))) rfl (cX (js ((k : Int)) rfl rfl (by omega) (by omega) (XL.weaken (je (A := [_, _, _])) ?_))))))))))
   show XL _ _ _ _ _ _ _ (memH mb es1 :: intsH 2 v1 ([(rs.getD i (0, [], 0)).1] : List Int) :: cellsH b1 [ii ((rs.getD i (0, [], 0)).1), a1, ii ((rs.getD i (0, [], 0)).2.2)] 68 :: cellsH xb (cl1 ++ [.map (some mb)]) 60 :: L)
   refine XL.weaken (je (A := [_, _, _])) ?_
   show XL _ _ _ _ _ _ _ (cellsH xb (cl1 ++ [.map (some mb)]) 60 :: memH mb es1 :: intsH 2 v1 ([(rs.getD i (0, [], 0)).1] : List Int) :: cellsH b1 [ii ((rs.getD i (0, [], 0)).1), a1, ii ((rs.getD i (0, [], 0)).2.2)] 68 :: L)
   refine cX (qq (args := [ptr xb 0, a1, ii (k : Int)]) call63 rfl (terms_spec ((rs.getD i (0, [], 0)).2.1).length hS1 hM1 hG1 ha1 (n := k) (hn := by omega) (hn6 := by omega) (hq1 := by omega) (hq3 := hal9) (hqb := fun y hy => by have := hT9.arg y hy; omega) (hd := Nat.le_refl _)) ?_)
   rintro v2 F1 _ le1 ⟨u1, es1, hu1, hn1, hl1, hm1, rfl⟩
   replace hS1 := hS1.mono le1
   replace hM1 := hM1.mono le1
   show XL _ _ _ _ _ _ _ (cellsH xb (cl1 ++ [.map (some mb)]) 60 :: memH mb es1 :: intsH 2 v1 ([(rs.getD i (0, [], 0)).1] : List Int) :: cellsH b1 [ii ((rs.getD i (0, [], 0)).1), a1, ii ((rs.getD i (0, [], 0)).2.2)] 68 :: L)
   refine qg (v2) rfl (qb (qc (qc (qa (qd (v2) rfl (cX (XOp.eqNil qf rfl rfl (qS hu1) (qb ?_))))))))
   refine jr (t := isNil v2) rfl (fun h3 => ?_) (fun h3 => ?_)
   ·have hl8 : LstL ar rs (rs.getD i (0, [], 0)).2.1 k u1 := hl1
    have hul9 := hl8.len
    have hNI : NewI ar rs k i [] := NewI.none (Lst.no (P := RunL ar rs (rs.getD i (0, [], 0)).2.1 k) (by have h9 := hl8; rw [nil_yes hn1 h3] at h9; exact h9))
    have hG2 := hG1.skip hNI (.inl rfl)
    refine jd (qp (qp (qJ (qa (cX (qD (((i + 1 : Nat) : Int)) rfl rfl (by omega) (by omega) (qd (ii (((i + 1 : Nat) : Int))) rfl (qb ?_))))))))
    exact ⟨(i + 1, cl1, os1, es1, F1), _, (qj leG1 le1), rF, ⟨rfl, rfl, rfl, rfl, rfl, ⟨⟩⟩, (sC (sC (sD (sD sR)))), ⟨rfl, (qj leG1 le1), (hS1), (hm1), (by (try dsimp only) <;> omega), (by first | exact hG2 | exact hG1.put hA (by omega) hk hNI hgne hgl (.inl hold) | exact hG1.put hA (by omega) hk hNI hgne hgl (.inr hlt))⟩, (by omega)⟩
   have hl8 : LstL ar rs (rs.getD i (0, [], 0)).2.1 k u1 := hl1
   have hul9 := hl8.len
   have hNI : NewI ar rs k i (([(rs.getD i (0, [], 0)).1]) ++ (u1)) := NewI.cons hl8 (nil_not hn1 h3)
   have hgne : (([(rs.getD i (0, [], 0)).1]) ++ (u1)) ≠ [] := fun e9 => by cases e9
   have hgl : (([(rs.getD i (0, [], 0)).1]) ++ (u1)).length ≤ 60 := by rw [List.length_append, List.length_singleton]; omega
   refine qx (qa (qd (v1) rfl (qd (v2) rfl (cX (XOp.appendI [_, _] _ qf typeInfo2 rfl rfl rfl rfl rfl rfl hu1 (by (try simp only [List.length_append, List.length_nil, List.length_cons, List.length_singleton, List.length_take, List.length_drop]); omega) ?_)))))
   intro v3 hs1 hn2 hm2
   refine qg (v3) rfl (qb (qc (jf [_, _] _ _ rfl (fun F2 le2 hz1 => ?_))))
   replace hS1 := hS1.mono le2
   replace hM1 := hM1.mono le2
   replace hm1 := hm1.mono le2
   have hf1 : IntsF F2 v3 (([(rs.getD i (0, [], 0)).1]) ++ u1) := intsH.fz (xs := ([(rs.getD i (0, [], 0)).1]) ++ u1) hz1.fz
   refine jq [cellsH xb (cl1 ++ [.map (some mb)]) 60, memH mb es1, cellsH b1 [ii ((rs.getD i (0, [], 0)).1), a1, ii ((rs.getD i (0, [], 0)).2.2)] 68] L 7 [] [[], [], [1], [], [0], [4], [2, 5]] (phiL [qe (ptr xb 0), qe (ptr b1 2), qe (ii ((rs.getD i (0, [], 0)).2.2)), qe (ii (((k + 1 : Nat) : Int)) : Value), qe (ptr xb 0), qe (ptr xb 0), qe (ptr xb ((((rs.getD i (0, [], 0)).2.2).toNat) * 61))]) (ownL []) mixed rfl rfl (by kernel_rfl) ?_ ?_
   ·refine pD (fun W R z9 => ?_) ?_
    ·refine qh (qk (ptr xb 0) rfl ?_)
     exact ⟨rfl, rfl, rfl⟩
    refine pD (fun W R z9 => ?_) ?_
    ·refine qh (ql (2) qB rfl qr (by decide) rfl rfl ?_)
     exact ⟨rfl, rfl, rfl⟩
    refine pD (fun W R z9 => ?_) ?_
    ·rw [zA 1 (z9 1 rfl)]
     refine qh (qi qM rfl (Rd.own [_, _] rfl rfl) ?_)
     exact ⟨rfl, rfl, rfl⟩
    refine pD (fun W R z9 => ?_) ?_
    ·refine qh (qk (ii (((k + 1 : Nat) : Int))) rfl ?_)
     exact ⟨rfl, rfl, rfl⟩
    refine pD (fun W R z9 => ?_) ?_
    ·rw [zA 0 (z9 0 rfl)]
     refine qh (jk rfl ?_)
     exact ⟨rfl, rfl, rfl⟩
    refine pD (fun W R z9 => ?_) ?_
    ·rw [zA 4 (z9 4 rfl)]
     refine qh (ql (0) jJ rfl sizeOf57 (by decide) rfl rfl ?_)
     exact ⟨rfl, rfl, rfl⟩
    refine pD (fun W R z9 => ?_) ?_
    ·rw [zB 2 5 (z9 2 rfl) (z9 5 rfl)]
     refine qh (jy (i := (rs.getD i (0, [], 0)).2.2) (((rs.getD i (0, [], 0)).2.2).toNat) ((((rs.getD i (0, [], 0)).2.2).toNat) * 61) runUnderlying57 sizeOf56 rfl rfl (by omega) (by omega) (by omega) ?_)
     exact ⟨rfl, rfl, rfl⟩
    exact stepsP.nil
   intro W hphi
   rw [zB 3 6 (hphi 3 (by decide)) (hphi 6 (by decide))]
   show XL _ _ _ _ _ _ _ (cellsH xb (cl1 ++ [.map (some mb)]) 60 :: memH mb es1 :: cellsH b1 [ii ((rs.getD i (0, [], 0)).1), a1, ii ((rs.getD i (0, [], 0)).2.2)] 68 :: L)
   refine cX (jy (i := ((k + 1 : Nat) : Int)) (k + 1) ((((rs.getD i (0, [], 0)).2.2).toNat) * 61 + (k + 1)) runUnderlying56 qw rfl rfl rfl (by omega) (by omega) ?_)
   obtain ⟨a2, ha2, hn3, he1⟩ := hS1.get (i := (((rs.getD i (0, [], 0)).2.2).toNat) * 61 + (k + 1)) (by have := hG1.len; omega)
   refine cX (qi qT rfl (Rd.own [] rfl (sm_get he1)) (qg (a2) rfl (qb (qc (qa (qd (a2) rfl (cX (XOp.eqNil qf rfl rfl (qS ha2) (qd (.bool (isNil a2)) rfl ?_)))))))))
   by_cases h4 : (isNil a2) = true
   ·have hofl := hG1.bnd ((rs.getD i (0, [], 0)).2.2.toNat * 61 + (k + 1))
    have hold : (os1.getD ((rs.getD i (0, [], 0)).2.2.toNat * 61 + (k + 1)) []) = [] := nil_yes hn3 h4
    refine qm (t := 48) rfl (vB h4) (qm (t := 48) rfl (vB h4) (qm (t := 48) rfl (vB h4) (qm (t := 48) rfl (vB h4) (cX (qL (.bool (true)) (vB h4) rfl (qb (jA rfl ?_)))))))
    refine jq [cellsH xb (cl1 ++ [.map (some mb)]) 60, memH mb es1, cellsH b1 [ii ((rs.getD i (0, [], 0)).1), a1, ii ((rs.getD i (0, [], 0)).2.2)] 68] L 8 [] [[], [], [1], [], [], [0], [5], [2, 6]] (phiL [qe (ptr xb 0), qe (ptr b1 2), qe (ii ((rs.getD i (0, [], 0)).2.2)), qe (ii (((k + 1 : Nat) : Int)) : Value), qe v3, qe (ptr xb 0), qe (ptr xb 0), qe (ptr xb ((((rs.getD i (0, [], 0)).2.2).toNat) * 61))]) (ownL []) mixed rfl rfl (by kernel_rfl) ?_ ?_
    ·refine pD (fun W R z9 => ?_) ?_
     ·refine qh (qk (ptr xb 0) rfl ?_)
      exact ⟨rfl, rfl, rfl⟩
     refine pD (fun W R z9 => ?_) ?_
     ·refine qh (ql (2) qB rfl qr (by decide) rfl rfl ?_)
      exact ⟨rfl, rfl, rfl⟩
     refine pD (fun W R z9 => ?_) ?_
     ·rw [zA 1 (z9 1 rfl)]
      refine qh (qi qM rfl (Rd.own [_, _] rfl rfl) ?_)
      exact ⟨rfl, rfl, rfl⟩
     refine pD (fun W R z9 => ?_) ?_
     ·refine qh (qk (ii (((k + 1 : Nat) : Int))) rfl ?_)
      exact ⟨rfl, rfl, rfl⟩
     refine pD (fun W R z9 => ?_) ?_
     ·refine qh (qk (v3) rfl ?_)
      exact ⟨rfl, rfl, rfl⟩
     refine pD (fun W R z9 => ?_) ?_
     ·rw [zA 0 (z9 0 rfl)]
      refine qh (jk rfl ?_)
      exact ⟨rfl, rfl, rfl⟩
     refine pD (fun W R z9 => ?_) ?_
     ·rw [zA 5 (z9 5 rfl)]
      refine qh (ql (0) jJ rfl sizeOf57 (by decide) rfl rfl ?_)
      exact ⟨rfl, rfl, rfl⟩
     refine pD (fun W R z9 => ?_) ?_
     ·rw [zB 2 6 (z9 2 rfl) (z9 6 rfl)]
      refine qh (jy (i := (rs.getD i (0, [], 0)).2.2) (((rs.getD i (0, [], 0)).2.2).toNat) ((((rs.getD i (0, [], 0)).2.2).toNat) * 61) runUnderlying57 sizeOf56 rfl rfl (by omega) (by omega) (by omega) ?_)
      exact ⟨rfl, rfl, rfl⟩
     exact stepsP.nil
    intro W hphi
    rw [eS (l := [(3, _), (4, _), (7, _)]) ⟨(hphi 3 (by decide)), (hphi 4 (by decide)), (hphi 7 (by decide)), ⟨⟩⟩]
    show XL _ _ _ _ _ _ _ (cellsH xb (cl1 ++ [.map (some mb)]) 60 :: memH mb es1 :: cellsH b1 [ii ((rs.getD i (0, [], 0)).1), a1, ii ((rs.getD i (0, [], 0)).2.2)] 68 :: L)
    refine cX (jy (i := ((k + 1 : Nat) : Int)) (k + 1) ((((rs.getD i (0, [], 0)).2.2).toNat) * 61 + (k + 1)) runUnderlying56 qw rfl rfl rfl (by omega) (by omega) ?_)
    have hc1 := hS1.set ((((rs.getD i (0, [], 0)).2.2).toNat) * 61 + (k + 1)) hf1 (nil_no hf1 hgne)
    have hl2 : (os1.set ((((rs.getD i (0, [], 0)).2.2).toNat) * 61 + (k + 1)) (([(rs.getD i (0, [], 0)).1]) ++ u1)).length = 976 := by rw [List.length_set]; exact hG1.len
    refine cX (jC [] _ ((cl1.set ((((rs.getD i (0, [], 0)).2.2).toNat) * 61 + (k + 1)) v3) ++ [.map (some mb)]) qw rfl rfl (qU (qS hf1)) rfl (sm_blt (by have := CO.len hS1; have := hG1.len; omega)) (sm_set (by have := CO.len hS1; have := hG1.len; omega)) ?_)
    show XL _ _ _ _ _ _ _ (cellsH xb (((cl1.set ((((rs.getD i (0, [], 0)).2.2).toNat) * 61 + (k + 1)) v3)) ++ [.map (some mb)]) 60 :: memH mb es1 :: cellsH b1 [ii ((rs.getD i (0, [], 0)).1), a1, ii ((rs.getD i (0, [], 0)).2.2)] 68 :: L)
    refine qb (qa (cX (qD (((i + 1 : Nat) : Int)) rfl rfl (by omega) (by omega) (qd (ii (((i + 1 : Nat) : Int))) rfl (qb ?_)))))
    exact ⟨(i + 1, (cl1.set ((((rs.getD i (0, [], 0)).2.2).toNat) * 61 + (k + 1)) v3), (os1.set ((((rs.getD i (0, [], 0)).2.2).toNat) * 61 + (k + 1)) (([(rs.getD i (0, [], 0)).1]) ++ u1)), es1, F2), _, (qj (qj leG1 le1) le2), rF, ⟨rfl, rfl, rfl, rfl, rfl, ⟨⟩⟩, (sC (sC (sD sR))), ⟨rfl, (qj (qj leG1 le1) le2), (hc1), (hm1), (by (try dsimp only) <;> omega), (by first | exact hG2 | exact hG1.put hA (by omega) hk hNI hgne hgl (.inl hold) | exact hG1.put hA (by omega) hk hNI hgne hgl (.inr hlt))⟩, (by omega)⟩
   rw [Bool.not_eq_true] at h4
   have hofl := hG1.bnd ((rs.getD i (0, [], 0)).2.2.toNat * 61 + (k + 1))
   have hold : (os1.getD ((rs.getD i (0, [], 0)).2.2.toNat * 61 + (k + 1)) []) ≠ [] := nil_not hn3 h4
   refine qo (t := 48) rfl (vB h4) (qk (v3) rfl (qo (t := 48) rfl (vB h4) (qk (a2) rfl (qo (t := 48) rfl (vB h4) (qq (args := [v3, a2]) call28 rfl (Compare_spec hf1 ha2 (hlx := (by omega)) (hly := (by omega))) ?_)))))
   rintro _ _ _ _ ⟨rfl, x1, rfl, hr1, rfl⟩
   refine qo (t := 48) rfl (vB h4) (qV rfl rfl (cX (qQ (.bool (decide ((x1 : Int) < 0))) (vB h4) rfl (qb ?_))))
   refine qE (p := (x1 : Int) < 0) rfl (fun h5 => ?_) (fun h5 => ?_)
   ·have hlt := hr1.2.1 h5
    refine jq [cellsH xb (cl1 ++ [.map (some mb)]) 60, memH mb es1, cellsH b1 [ii ((rs.getD i (0, [], 0)).1), a1, ii ((rs.getD i (0, [], 0)).2.2)] 68] L 8 [] [[], [], [1], [], [], [0], [5], [2, 6]] (phiL [qe (ptr xb 0), qe (ptr b1 2), qe (ii ((rs.getD i (0, [], 0)).2.2)), qe (ii (((k + 1 : Nat) : Int)) : Value), qe v3, qe (ptr xb 0), qe (ptr xb 0), qe (ptr xb ((((rs.getD i (0, [], 0)).2.2).toNat) * 61))]) (ownL []) mixed rfl rfl (by kernel_rfl) ?_ ?_
    ·refine pD (fun W R z9 => ?_) ?_
     ·refine qh (qk (ptr xb 0) rfl ?_)
      exact ⟨rfl, rfl, rfl⟩
     refine pD (fun W R z9 => ?_) ?_
     ·refine qh (ql (2) qB rfl qr (by decide) rfl rfl ?_)
      exact ⟨rfl, rfl, rfl⟩
     refine pD (fun W R z9 => ?_) ?_
     ·rw [zA 1 (z9 1 rfl)]
      refine qh (qi qM rfl (Rd.own [_, _] rfl rfl) ?_)
      exact ⟨rfl, rfl, rfl⟩
     refine pD (fun W R z9 => ?_) ?_
     ·refine qh (qk (ii (((k + 1 : Nat) : Int))) rfl ?_)
      exact ⟨rfl, rfl, rfl⟩
     refine pD (fun W R z9 => ?_) ?_
     ·refine qh (qk (v3) rfl ?_)
      exact ⟨rfl, rfl, rfl⟩
     refine pD (fun W R z9 => ?_) ?_
     ·rw [zA 0 (z9 0 rfl)]
      refine qh (jk rfl ?_)
      exact ⟨rfl, rfl, rfl⟩
     refine pD (fun W R z9 => ?_) ?_
     ·rw [zA 5 (z9 5 rfl)]
      refine qh (ql (0) jJ rfl sizeOf57 (by decide) rfl rfl ?_)
      exact ⟨rfl, rfl, rfl⟩
     refine pD (fun W R z9 => ?_) ?_
     ·rw [zB 2 6 (z9 2 rfl) (z9 6 rfl)]
      refine qh (jy (i := (rs.getD i (0, [], 0)).2.2) (((rs.getD i (0, [], 0)).2.2).toNat) ((((rs.getD i (0, [], 0)).2.2).toNat) * 61) runUnderlying57 sizeOf56 rfl rfl (by omega) (by omega) (by omega) ?_)
      exact ⟨rfl, rfl, rfl⟩
     exact stepsP.nil
    intro W hphi
    rw [eS (l := [(3, _), (4, _), (7, _)]) ⟨(hphi 3 (by decide)), (hphi 4 (by decide)), (hphi 7 (by decide)), ⟨⟩⟩]
    show XL _ _ _ _ _ _ _ (cellsH xb (cl1 ++ [.map (some mb)]) 60 :: memH mb es1 :: cellsH b1 [ii ((rs.getD i (0, [], 0)).1), a1, ii ((rs.getD i (0, [], 0)).2.2)] 68 :: L)
    refine cX (jy (i := ((k + 1 : Nat) : Int)) (k + 1) ((((rs.getD i (0, [], 0)).2.2).toNat) * 61 + (k + 1)) runUnderlying56 qw rfl rfl rfl (by omega) (by omega) ?_)
    have hc2 := hS1.set ((((rs.getD i (0, [], 0)).2.2).toNat) * 61 + (k + 1)) hf1 (nil_no hf1 hgne)
    have hl3 : (os1.set ((((rs.getD i (0, [], 0)).2.2).toNat) * 61 + (k + 1)) (([(rs.getD i (0, [], 0)).1]) ++ u1)).length = 976 := by rw [List.length_set]; exact hG1.len
    refine cX (jC [] _ ((cl1.set ((((rs.getD i (0, [], 0)).2.2).toNat) * 61 + (k + 1)) v3) ++ [.map (some mb)]) qw rfl rfl (qU (qS hf1)) rfl (sm_blt (by have := CO.len hS1; have := hG1.len; omega)) (sm_set (by have := CO.len hS1; have := hG1.len; omega)) ?_)
    show XL _ _ _ _ _ _ _ (cellsH xb (((cl1.set ((((rs.getD i (0, [], 0)).2.2).toNat) * 61 + (k + 1)) v3)) ++ [.map (some mb)]) 60 :: memH mb es1 :: cellsH b1 [ii ((rs.getD i (0, [], 0)).1), a1, ii ((rs.getD i (0, [], 0)).2.2)] 68 :: L)
    refine qb (qa (cX (qD (((i + 1 : Nat) : Int)) rfl rfl (by omega) (by omega) (qd (ii (((i + 1 : Nat) : Int))) rfl (qb ?_)))))
    exact ⟨(i + 1, (cl1.set ((((rs.getD i (0, [], 0)).2.2).toNat) * 61 + (k + 1)) v3), (os1.set ((((rs.getD i (0, [], 0)).2.2).toNat) * 61 + (k + 1)) (([(rs.getD i (0, [], 0)).1]) ++ u1)), es1, F2), _, (qj (qj leG1 le1) le2), rF, ⟨rfl, rfl, rfl, rfl, rfl, ⟨⟩⟩, (sC (sC (sD sR))), ⟨rfl, (qj (qj leG1 le1) le2), (hc2), (hm1), (by (try dsimp only) <;> omega), (by first | exact hG2 | exact hG1.put hA (by omega) hk hNI hgne hgl (.inl hold) | exact hG1.put hA (by omega) hk hNI hgne hgl (.inr hlt))⟩, (by omega)⟩
   have hlt : ¬ ltL _ _ := fun h9 => h5 (hr1.2.2 h9)
   have hG2 := hG1.skip hNI (.inr ⟨hold, hlt⟩)
   refine qx (qa (cX (qD (((i + 1 : Nat) : Int)) rfl rfl (by omega) (by omega) (qd (ii (((i + 1 : Nat) : Int))) rfl (qb ?_)))))
   exact ⟨(i + 1, cl1, os1, es1, F2), _, (qj (qj leG1 le1) le2), rF, ⟨rfl, rfl, rfl, rfl, rfl, ⟨⟩⟩, (sC (sC (sD sR))), ⟨rfl, (qj (qj leG1 le1) le2), (hS1), (hm1), (by (try dsimp only) <;> omega), (by first | exact hG2 | exact hG1.put hA (by omega) hk hNI hgne hgl (.inl hold) | exact hG1.put hA (by omega) hk hNI hgne hgl (.inr hlt))⟩, (by omega)⟩
  have hT9 := hTi (by omega)
  have hto9 := hT9.to
  have hal9 := hla (by omega)
  have hae : (rs.getD i (0, [], 0)).2.1 = [] := List.length_eq_zero_iff.1 (by omega)
  refine qc (qa (qd (ii (((k + 1 : Nat) : Int))) rfl (cX (jw rfl rfl (qb ?_)))))
  refine qE (p := (((k + 1 : Nat) : Int) : Int) > 1) rfl (fun h6 => ?_) (fun h6 => ?_)
  ·have hNI : NewI ar rs k i [] := NewI.none0 hae (by omega)
   have hG2 := hG1.skip hNI (.inl rfl)
   refine jd (qp (qJ (qa (cX (qD (((i + 1 : Nat) : Int)) rfl rfl (by omega) (by omega) (qd (ii (((i + 1 : Nat) : Int))) rfl (qb ?_)))))))
   exact ⟨(i + 1, cl1, os1, es1, G1), _, leG1, rF, ⟨rfl, rfl, rfl, rfl, rfl, ⟨⟩⟩, (sD (sD (sC (sC sR)))), ⟨rfl, leG1, (hS1), (hM1), (by (try dsimp only) <;> omega), (by first | exact hG2 | exact hG1.put hA (by omega) hk hNI hgne hgl (.inl hold) | exact hG1.put hA (by omega) hk hNI hgne hgl (.inr hlt))⟩, (by omega)⟩
  have hNI : NewI ar rs k i [(rs.getD i (0, [], 0)).1] := NewI.zero hae (by omega)
  have hgne : [(rs.getD i (0, [], 0)).1] ≠ [] := fun e9 => by cases e9
  have hgl : [(rs.getD i (0, [], 0)).1].length ≤ 60 := by simp
  refine qx (qc (jf [] _ _ rfl (fun F4 le4 hz2 => ?_)))
  replace hS1 := hS1.mono le4
  replace hM1 := hM1.mono le4
  have hf2 : IntsF F4 v1 ([(rs.getD i (0, [], 0)).1]) := intsH.fz (xs := [(rs.getD i (0, [], 0)).1]) hz2.fz
  refine jq [cellsH b1 [ii ((rs.getD i (0, [], 0)).1), a1, ii ((rs.getD i (0, [], 0)).2.2)] 68, cellsH xb (cl1 ++ [.map (some mb)]) 60, memH mb es1] L 7 [] [[], [], [1], [], [0], [4], [2, 5]] (phiL [qe (ptr xb 0), qe (ptr b1 2), qe (ii ((rs.getD i (0, [], 0)).2.2)), qe (ii (((k + 1 : Nat) : Int)) : Value), qe (ptr xb 0), qe (ptr xb 0), qe (ptr xb ((((rs.getD i (0, [], 0)).2.2).toNat) * 61))]) (ownL []) mixed rfl rfl (by kernel_rfl) ?_ ?_
  ·refine pD (fun W R z9 => ?_) ?_
   ·refine qh (qk (ptr xb 0) rfl ?_)
    exact ⟨rfl, rfl, rfl⟩
   refine pD (fun W R z9 => ?_) ?_
   ·refine qh (ql (2) qB rfl qr (by decide) rfl rfl ?_)
    exact ⟨rfl, rfl, rfl⟩
   refine pD (fun W R z9 => ?_) ?_
   ·rw [zA 1 (z9 1 rfl)]
    refine qh (qi qM rfl (Rd.own [] rfl rfl) ?_)
    exact ⟨rfl, rfl, rfl⟩
   refine pD (fun W R z9 => ?_) ?_
   ·refine qh (qk (ii (((k + 1 : Nat) : Int))) rfl ?_)
    exact ⟨rfl, rfl, rfl⟩
   refine pD (fun W R z9 => ?_) ?_
   ·rw [zA 0 (z9 0 rfl)]
    refine qh (jk rfl ?_)
    exact ⟨rfl, rfl, rfl⟩
   refine pD (fun W R z9 => ?_) ?_
   ·rw [zA 4 (z9 4 rfl)]
    refine qh (ql (0) jJ rfl sizeOf57 (by decide) rfl rfl ?_)
    exact ⟨rfl, rfl, rfl⟩
   refine pD (fun W R z9 => ?_) ?_
   ·rw [zB 2 5 (z9 2 rfl) (z9 5 rfl)]
    refine qh (jy (i := (rs.getD i (0, [], 0)).2.2) (((rs.getD i (0, [], 0)).2.2).toNat) ((((rs.getD i (0, [], 0)).2.2).toNat) * 61) runUnderlying57 sizeOf56 rfl rfl (by omega) (by omega) (by omega) ?_)
    exact ⟨rfl, rfl, rfl⟩
   exact stepsP.nil
  intro W hphi
  rw [zB 3 6 (hphi 3 (by decide)) (hphi 6 (by decide))]
  show XL _ _ _ _ _ _ _ (cellsH b1 [ii ((rs.getD i (0, [], 0)).1), a1, ii ((rs.getD i (0, [], 0)).2.2)] 68 :: cellsH xb (cl1 ++ [.map (some mb)]) 60 :: memH mb es1 :: L)
  refine cX (jy (i := ((k + 1 : Nat) : Int)) (k + 1) ((((rs.getD i (0, [], 0)).2.2).toNat) * 61 + (k + 1)) runUnderlying56 qw rfl rfl rfl (by omega) (by omega) ?_)
  obtain ⟨a3, ha3, hn4, he2⟩ := hS1.get (i := (((rs.getD i (0, [], 0)).2.2).toNat) * 61 + (k + 1)) (by have := hG1.len; omega)
  refine cX (qi qT rfl (Rd.own [_] rfl (sm_get he2)) (qg (a3) rfl (qb (qc (qa (qd (a3) rfl (cX (XOp.eqNil qf rfl rfl (qS ha3) (qd (.bool (isNil a3)) rfl ?_)))))))))
  by_cases h7 : (isNil a3) = true
  ·have hofl := hG1.bnd ((rs.getD i (0, [], 0)).2.2.toNat * 61 + (k + 1))
   have hold : (os1.getD ((rs.getD i (0, [], 0)).2.2.toNat * 61 + (k + 1)) []) = [] := nil_yes hn4 h7
   refine qm (t := 48) rfl (vB h7) (qm (t := 48) rfl (vB h7) (qm (t := 48) rfl (vB h7) (qm (t := 48) rfl (vB h7) (cX (qL (.bool (true)) (vB h7) rfl (qb (jA rfl ?_)))))))
   refine jq [cellsH b1 [ii ((rs.getD i (0, [], 0)).1), a1, ii ((rs.getD i (0, [], 0)).2.2)] 68, cellsH xb (cl1 ++ [.map (some mb)]) 60, memH mb es1] L 8 [] [[], [], [1], [], [], [0], [5], [2, 6]] (phiL [qe (ptr xb 0), qe (ptr b1 2), qe (ii ((rs.getD i (0, [], 0)).2.2)), qe (ii (((k + 1 : Nat) : Int)) : Value), qe v1, qe (ptr xb 0), qe (ptr xb 0), qe (ptr xb ((((rs.getD i (0, [], 0)).2.2).toNat) * 61))]) (ownL []) mixed rfl rfl (by kernel_rfl) ?_ ?_
   ·refine pD (fun W R z9 => ?_) ?_
    ·refine qh (qk (ptr xb 0) rfl ?_)
     exact ⟨rfl, rfl, rfl⟩
    refine pD (fun W R z9 => ?_) ?_
    ·refine qh (ql (2) qB rfl qr (by decide) rfl rfl ?_)
     exact ⟨rfl, rfl, rfl⟩
    refine pD (fun W R z9 => ?_) ?_
    ·rw [zA 1 (z9 1 rfl)]
     refine qh (qi qM rfl (Rd.own [] rfl rfl) ?_)
     exact ⟨rfl, rfl, rfl⟩
    refine pD (fun W R z9 => ?_) ?_
    ·refine qh (qk (ii (((k + 1 : Nat) : Int))) rfl ?_)
     exact ⟨rfl, rfl, rfl⟩
    refine pD (fun W R z9 => ?_) ?_
    ·refine qh (qk (v1) rfl ?_)
     exact ⟨rfl, rfl, rfl⟩
    refine pD (fun W R z9 => ?_) ?_
    ·rw [zA 0 (z9 0 rfl)]
     refine qh (jk rfl ?_)
     exact ⟨rfl, rfl, rfl⟩
    refine pD (fun W R z9 => ?_) ?_
    ·rw [zA 5 (z9 5 rfl)]
     refine qh (ql (0) jJ rfl sizeOf57 (by decide) rfl rfl ?_)
     exact ⟨rfl, rfl, rfl⟩
    refine pD (fun W R z9 => ?_) ?_
    ·rw [zB 2 6 (z9 2 rfl) (z9 6 rfl)]
     refine qh (jy (i := (rs.getD i (0, [], 0)).2.2) (((rs.getD i (0, [], 0)).2.2).toNat) ((((rs.getD i (0, [], 0)).2.2).toNat) * 61) runUnderlying57 sizeOf56 rfl rfl (by omega) (by omega) (by omega) ?_)
     exact ⟨rfl, rfl, rfl⟩
    exact stepsP.nil
   intro W hphi
   rw [eS (l := [(3, _), (4, _), (7, _)]) ⟨(hphi 3 (by decide)), (hphi 4 (by decide)), (hphi 7 (by decide)), ⟨⟩⟩]
   show XL _ _ _ _ _ _ _ (cellsH b1 [ii ((rs.getD i (0, [], 0)).1), a1, ii ((rs.getD i (0, [], 0)).2.2)] 68 :: cellsH xb (cl1 ++ [.map (some mb)]) 60 :: memH mb es1 :: L)
   refine cX (jy (i := ((k + 1 : Nat) : Int)) (k + 1) ((((rs.getD i (0, [], 0)).2.2).toNat) * 61 + (k + 1)) runUnderlying56 qw rfl rfl rfl (by omega) (by omega) ?_)
   have hc3 := hS1.set ((((rs.getD i (0, [], 0)).2.2).toNat) * 61 + (k + 1)) hf2 (nil_no hf2 hgne)
   have hl4 : (os1.set ((((rs.getD i (0, [], 0)).2.2).toNat) * 61 + (k + 1)) ([(rs.getD i (0, [], 0)).1])).length = 976 := by rw [List.length_set]; exact hG1.len
   refine cX (jC [_] _ ((cl1.set ((((rs.getD i (0, [], 0)).2.2).toNat) * 61 + (k + 1)) v1) ++ [.map (some mb)]) qw rfl rfl (qU (qS hf2)) rfl (sm_blt (by have := CO.len hS1; have := hG1.len; omega)) (sm_set (by have := CO.len hS1; have := hG1.len; omega)) ?_)
   show XL _ _ _ _ _ _ _ (cellsH b1 [ii ((rs.getD i (0, [], 0)).1), a1, ii ((rs.getD i (0, [], 0)).2.2)] 68 :: cellsH xb (((cl1.set ((((rs.getD i (0, [], 0)).2.2).toNat) * 61 + (k + 1)) v1)) ++ [.map (some mb)]) 60 :: memH mb es1 :: L)
   refine qb (qa (cX (qD (((i + 1 : Nat) : Int)) rfl rfl (by omega) (by omega) (qd (ii (((i + 1 : Nat) : Int))) rfl (qb ?_)))))
   exact ⟨(i + 1, (cl1.set ((((rs.getD i (0, [], 0)).2.2).toNat) * 61 + (k + 1)) v1), (os1.set ((((rs.getD i (0, [], 0)).2.2).toNat) * 61 + (k + 1)) ([(rs.getD i (0, [], 0)).1])), es1, F4), _, (qj leG1 le4), rF, ⟨rfl, rfl, rfl, rfl, rfl, ⟨⟩⟩, (sD (sC (sC sR))), ⟨rfl, (qj leG1 le4), (hc3), (hM1), (by (try dsimp only) <;> omega), (by first | exact hG2 | exact hG1.put hA (by omega) hk hNI hgne hgl (.inl hold) | exact hG1.put hA (by omega) hk hNI hgne hgl (.inr hlt))⟩, (by omega)⟩
  rw [Bool.not_eq_true] at h7
  have hofl := hG1.bnd ((rs.getD i (0, [], 0)).2.2.toNat * 61 + (k + 1))
  have hold : (os1.getD ((rs.getD i (0, [], 0)).2.2.toNat * 61 + (k + 1)) []) ≠ [] := nil_not hn4 h7
  refine qo (t := 48) rfl (vB h7) (qk (v1) rfl (qo (t := 48) rfl (vB h7) (qk (a3) rfl (qo (t := 48) rfl (vB h7) (qq (args := [v1, a3]) call28 rfl (Compare_spec hf2 ha3 (hlx := (by omega)) (hly := (by omega))) ?_)))))
  rintro _ _ _ _ ⟨rfl, x2, rfl, hr2, rfl⟩
  refine qo (t := 48) rfl (vB h7) (qV rfl rfl (cX (qQ (.bool (decide ((x2 : Int) < 0))) (vB h7) rfl (qb ?_))))
  refine qE (p := (x2 : Int) < 0) rfl (fun h8 => ?_) (fun h8 => ?_)
  ·have hlt := hr2.2.1 h8
   refine jq [cellsH b1 [ii ((rs.getD i (0, [], 0)).1), a1, ii ((rs.getD i (0, [], 0)).2.2)] 68, cellsH xb (cl1 ++ [.map (some mb)]) 60, memH mb es1] L 8 [] [[], [], [1], [], [], [0], [5], [2, 6]] (phiL [qe (ptr xb 0), qe (ptr b1 2), qe (ii ((rs.getD i (0, [], 0)).2.2)), qe (ii (((k + 1 : Nat) : Int)) : Value), qe v1, qe (ptr xb 0), qe (ptr xb 0), qe (ptr xb ((((rs.getD i (0, [], 0)).2.2).toNat) * 61))]) (ownL []) mixed rfl rfl (by kernel_rfl) ?_ ?_
   ·refine pD (fun W R z9 => ?_) ?_
    ·refine qh (qk (ptr xb 0) rfl ?_)
     exact ⟨rfl, rfl, rfl⟩
    refine pD (fun W R z9 => ?_) ?_
    ·refine qh (ql (2) qB rfl qr (by decide) rfl rfl ?_)
     exact ⟨rfl, rfl, rfl⟩
    refine pD (fun W R z9 => ?_) ?_
    ·rw [zA 1 (z9 1 rfl)]
     refine qh (qi qM rfl (Rd.own [] rfl rfl) ?_)
     exact ⟨rfl, rfl, rfl⟩
    refine pD (fun W R z9 => ?_) ?_
    ·refine qh (qk (ii (((k + 1 : Nat) : Int))) rfl ?_)
     exact ⟨rfl, rfl, rfl⟩
    refine pD (fun W R z9 => ?_) ?_
    ·refine qh (qk (v1) rfl ?_)
     exact ⟨rfl, rfl, rfl⟩
    refine pD (fun W R z9 => ?_) ?_
    ·rw [zA 0 (z9 0 rfl)]
     refine qh (jk rfl ?_)
     exact ⟨rfl, rfl, rfl⟩
    refine pD (fun W R z9 => ?_) ?_
    ·rw [zA 5 (z9 5 rfl)]
     refine qh (ql (0) jJ rfl sizeOf57 (by decide) rfl rfl ?_)
     exact ⟨rfl, rfl, rfl⟩
    refine pD (fun W R z9 => ?_) ?_
    ·rw [zB 2 6 (z9 2 rfl) (z9 6 rfl)]
     refine qh (jy (i := (rs.getD i (0, [], 0)).2.2) (((rs.getD i (0, [], 0)).2.2).toNat) ((((rs.getD i (0, [], 0)).2.2).toNat) * 61) runUnderlying57 sizeOf56 rfl rfl (by omega) (by omega) (by omega) ?_)
     exact ⟨rfl, rfl, rfl⟩
    exact stepsP.nil
   intro W hphi
   rw [eS (l := [(3, _), (4, _), (7, _)]) ⟨(hphi 3 (by decide)), (hphi 4 (by decide)), (hphi 7 (by decide)), ⟨⟩⟩]
   show XL _ _ _ _ _ _ _ (cellsH b1 [ii ((rs.getD i (0, [], 0)).1), a1, ii ((rs.getD i (0, [], 0)).2.2)] 68 :: cellsH xb (cl1 ++ [.map (some mb)]) 60 :: memH mb es1 :: L)
   refine cX (jy (i := ((k + 1 : Nat) : Int)) (k + 1) ((((rs.getD i (0, [], 0)).2.2).toNat) * 61 + (k + 1)) runUnderlying56 qw rfl rfl rfl (by omega) (by omega) ?_)
   have hc4 := hS1.set ((((rs.getD i (0, [], 0)).2.2).toNat) * 61 + (k + 1)) hf2 (nil_no hf2 hgne)
   have hl5 : (os1.set ((((rs.getD i (0, [], 0)).2.2).toNat) * 61 + (k + 1)) ([(rs.getD i (0, [], 0)).1])).length = 976 := by rw [List.length_set]; exact hG1.len
   refine cX (jC [_] _ ((cl1.set ((((rs.getD i (0, [], 0)).2.2).toNat) * 61 + (k + 1)) v1) ++ [.map (some mb)]) qw rfl rfl (qU (qS hf2)) rfl (sm_blt (by have := CO.len hS1; have := hG1.len; omega)) (sm_set (by have := CO.len hS1; have := hG1.len; omega)) ?_)
   show XL _ _ _ _ _ _ _ (cellsH b1 [ii ((rs.getD i (0, [], 0)).1), a1, ii ((rs.getD i (0, [], 0)).2.2)] 68 :: cellsH xb (((cl1.set ((((rs.getD i (0, [], 0)).2.2).toNat) * 61 + (k + 1)) v1)) ++ [.map (some mb)]) 60 :: memH mb es1 :: L)
   refine qb (qa (cX (qD (((i + 1 : Nat) : Int)) rfl rfl (by omega) (by omega) (qd (ii (((i + 1 : Nat) : Int))) rfl (qb ?_)))))
   exact ⟨(i + 1, (cl1.set ((((rs.getD i (0, [], 0)).2.2).toNat) * 61 + (k + 1)) v1), (os1.set ((((rs.getD i (0, [], 0)).2.2).toNat) * 61 + (k + 1)) ([(rs.getD i (0, [], 0)).1])), es1, F4), _, (qj leG1 le4), rF, ⟨rfl, rfl, rfl, rfl, rfl, ⟨⟩⟩, (sD (sC (sC sR))), ⟨rfl, (qj leG1 le4), (hc4), (hM1), (by (try dsimp only) <;> omega), (by first | exact hG2 | exact hG1.put hA (by omega) hk hNI hgne hgl (.inl hold) | exact hG1.put hA (by omega) hk hNI hgne hgl (.inr hlt))⟩, (by omega)⟩
  have hlt : ¬ ltL _ _ := fun h9 => h8 (hr2.2.2 h9)
  have hG2 := hG1.skip hNI (.inr ⟨hold, hlt⟩)
  refine qx (qa (cX (qD (((i + 1 : Nat) : Int)) rfl rfl (by omega) (by omega) (qd (ii (((i + 1 : Nat) : Int))) rfl (qb ?_)))))
  exact ⟨(i + 1, cl1, os1, es1, F4), _, (qj leG1 le4), rF, ⟨rfl, rfl, rfl, rfl, rfl, ⟨⟩⟩, (sD (sC (sC sR))), ⟨rfl, (qj leG1 le4), (hS1), (hM1), (by (try dsimp only) <;> omega), (by first | exact hG2 | exact hG1.put hA (by omega) hk hNI hgne hgl (.inl hold) | exact hG1.put hA (by omega) hk hNI hgne hgl (.inr hlt))⟩, (by omega)⟩
 refine jd (qp (qp (qJ (id (retEndN (L' := cellsH xb (cl1 ++ [.map (some mb)]) 60 :: memH mb es1 :: L) [] (.tuple #[]) (by exact .nil) rfl leG1 rF (sC (sC sR)) ?_)))))
 exact ⟨_, _, _, hS1, hM1, TabG.turn hA (by rw [show rs.length = i from by omega]; exact hG1), rfl⟩

/- impl.LeastIn -/
set_option maxHeartbeats 2000000 in
set_option maxRecDepth 20000 in
theorem LeastIn_spec {F : FH} {L : List HP}  {arv : Value} {ar : List Int} (har : IntsF F arv ar) {n : Int} {rsv : Value} {rs : List TranT} (hrs : TransF F rsv rs) {fiv : Value} {fi : List Int} (hfi : IntsF F fiv fi) (hlf : fi.length ≤ 4000000) :
    Does prog 6 [.agg #[arv], .agg #[ii (n), rsv, fiv]] F (L) (fun v F' L' => (∃ (a : Value), ∃ (ok : Bool), (.tuple #[a, .bool (ok)] : Value) = v ∧ (SomesF F' a (fun u => LeastR ar n rs fi u ok ∧ u.length ≤ 60))) ∧ L = L') := by
 refine qO func6 rfl rfl rfl (qc (qa (cX (ji [arv] rfl rfl ?_))))
 intro b1
 refine cX (ji [ii (n), rsv, fiv] rfl rfl ?_)
 intro b2
 refine qg (sN) rfl (qg (.bool (false)) rfl (qb (qc (qc ?_))))
 by_cases h1 : (!(autoB ar n rs fi)) = true
 ·have hA : autoB ar n rs fi = false := Bool.not_inj (y := false) h1
  refine jq [cellsH b2 [ii (n), rsv, fiv] 29, cellsH b1 [arv] 26] L 9 [] [[], [], [0, 1], [2], [3], [4], [4, 5], [4], [4, 7]] (phiL [qe (.agg #[arv]), qe (.agg #[ii (n), rsv, fiv]), qe (.bool (autoB ar n rs fi)), qe (.bool (!(autoB ar n rs fi))), qe (.bool (!(autoB ar n rs fi))), qe undef, qe undef, qe undef, qe undef]) (ownL []) mixed rfl rfl (by kernel_rfl) ?_ ?_
  ·refine pD (fun W R z9 => ?_) ?_
   ·refine qh (qu [arv] qY qI rfl rfl (Rd.ownN [_] rfl rfl) ?_)
    exact ⟨rfl, rfl, rfl⟩
   refine pD (fun W R z9 => ?_) ?_
   ·refine qh (qu [ii (n), rsv, fiv] jc qN rfl rfl (Rd.ownN [] rfl rfl) ?_)
    exact ⟨rfl, rfl, rfl⟩
   refine pD (fun W R z9 => ?_) ?_
   ·rw [zB 0 1 (z9 0 rfl) (z9 1 rfl)]
    refine qh (qq (args := [.agg #[arv], .agg #[ii (n), rsv, fiv]]) call23 rfl (AutoOk_spec har hrs hfi (hlf := (by first | assumption | rfl | omega | simp))) ?_)
    rintro _ _ _ _ ⟨rfl, rfl, rfl⟩
    exact ⟨rfl, rfl, rfl⟩
   refine pD (fun W R z9 => ?_) ?_
   ·rw [zA 2 (z9 2 rfl)]
    refine qh (jx rfl ?_)
    exact ⟨rfl, rfl, rfl⟩
   refine pD (fun W R z9 => ?_) ?_
   ·rw [zA 3 (z9 3 rfl)]
    refine qh (qk (.bool (!(autoB ar n rs fi))) rfl ?_)
    exact ⟨rfl, rfl, rfl⟩
   refine pD (fun W R z9 => ?_) ?_
   ·rw [zA 4 (z9 4 rfl)]
    exact qW (t := 16) rfl (vB h1) ⟨rfl, rfl, rfl⟩
   refine pD (fun W R z9 => ?_) ?_
   ·rw [eS (l := [(4, _), (5, undef)]) ⟨z9 4 rfl, z9 5 rfl, ⟨⟩⟩]
    exact qW (t := 16) rfl (vB h1) ⟨rfl, rfl, rfl⟩
   refine pD (fun W R z9 => ?_) ?_
   ·rw [zA 4 (z9 4 rfl)]
    exact qW (t := 16) rfl (vB h1) ⟨rfl, rfl, rfl⟩
   refine pD (fun W R z9 => ?_) ?_
   ·rw [eS (l := [(4, _), (7, undef)]) ⟨z9 4 rfl, z9 7 rfl, ⟨⟩⟩]
    exact qW (t := 16) rfl (vB h1) ⟨rfl, rfl, rfl⟩
   exact stepsP.nil
  intro W hphi
  rw [eS (l := [(4, _), (6, undef), (8, undef)]) ⟨(hphi 4 (by decide)), (hphi 6 (by decide)), (hphi 8 (by decide)), ⟨⟩⟩]
  show XL _ _ _ _ _ _ _ (cellsH b2 [ii (n), rsv, fiv] 29 :: cellsH b1 [arv] 26 :: L)
  refine qm (t := 16) rfl (vB h1) (qm (t := 16) rfl (vB h1) (qm (t := 16) rfl (vB h1) (cX (qL (.bool (true)) (vB h1) rfl (qb (jA rfl (qc (qa (qg (sN) rfl (qg (.bool (false)) rfl (qb ?_)))))))))))
  refine qC (qn (qv (L' := L) [sN, .bool (false)] (.tuple #[sN, .bool (false)]) (.tmp rfl (.tmp rfl .nil)) rfl rF rF (sD (sD sR)) ?_))
  exact ⟨⟨_, _, rfl, ⟨[], IntsF.nilV, by first | exact LeastR.no hA | exact NoAcc.none hA (fun u _ _ => hno u) | exact NoAcc.none hA (by have h9 := hN; rw [show k = 60 from by omega] at h9; exact h9), by decide⟩⟩, rfl⟩
 rw [Bool.not_eq_true] at h1
 have hA : autoB ar n rs fi = true := Bool.not_inj (y := true) h1
 have hA2 := auto_iff.1 hA
 have hfl9 := hA2.sizes
 have h16 := hA2.n16
 refine X.drawG [cellsH b2 [ii (n), rsv, fiv] 29, cellsH b1 [arv] 26] L 9 [] [[], [], [0, 1], [2], [3], [4], [4, 5], [4], [4, 7]] [] (phiG [pe (.agg #[arv]), pe (.agg #[ii (n), rsv, fiv]), pe (.bool (autoB ar n rs fi)), pe (.bool (!(autoB ar n rs fi))), pe (.bool (!(autoB ar n rs fi))), pe (.agg #[ii (n), rsv, fiv]), fun FF us v => (.int .u32 (((intAt v))) : Value) = v ∧ (RchZ rs ((intAt v))), pe (ptr b2 2), pe fiv]) (ownL []) mixed rfl rfl (by kernel_rfl) (by kernel_rfl) (MonoG.get (m1 (m1 (m1 (m1 (m1 (m1 (mC (fun le h => ⟨h.1, h.2⟩) (m1 (m1 MonoG.nil)))))))))) ?_ ?_
 ·refine gD (fun W Fs R lF z9 => ?_) ?_
  ·replace har := har.mono lF
   replace hrs := hrs.mono lF
   replace hfi := hfi.mono lF
   refine qh (qu [arv] qY qI rfl rfl (Rd.ownN [_] rfl rfl) ?_)
   exact ⟨rfl, rfl⟩
  refine gD (fun W Fs R lF z9 => ?_) ?_
  ·replace har := har.mono lF
   replace hrs := hrs.mono lF
   replace hfi := hfi.mono lF
   refine qh (qu [ii (n), rsv, fiv] jc qN rfl rfl (Rd.ownN [] rfl rfl) ?_)
   exact ⟨rfl, rfl⟩
  refine gD (fun W Fs R lF z9 => ?_) ?_
  ·replace har := har.mono lF
   replace hrs := hrs.mono lF
   replace hfi := hfi.mono lF
   rw [zB 0 1 (z9 0 rfl) (z9 1 rfl)]
   refine qh (qq (args := [.agg #[arv], .agg #[ii (n), rsv, fiv]]) call23 rfl (AutoOk_spec har hrs hfi (hlf := (by first | assumption | rfl | omega | simp))) ?_)
   rintro _ _ _ _ ⟨rfl, rfl, rfl⟩
   exact ⟨rfl, rfl⟩
  refine gD (fun W Fs R lF z9 => ?_) ?_
  ·rw [zA 2 (z9 2 rfl)]
   refine qh (jx rfl ?_)
   exact ⟨rfl, rfl⟩
  refine gD (fun W Fs R lF z9 => ?_) ?_
  ·rw [zA 3 (z9 3 rfl)]
   refine qh (qk (.bool (!(autoB ar n rs fi))) rfl ?_)
   exact ⟨rfl, rfl⟩
  refine gD (fun W Fs R lF z9 => ?_) ?_
  ·replace har := har.mono lF
   replace hrs := hrs.mono lF
   replace hfi := hfi.mono lF
   rw [zA 4 (z9 4 rfl)]
   refine qH (t := 16) rfl (vB h1) (qu [ii (n), rsv, fiv] jc qN rfl rfl (Rd.ownN [] rfl rfl) ?_)
   exact ⟨rfl, rfl⟩
  refine gD (fun W Fs R lF z9 => ?_) ?_
  ·replace har := har.mono lF
   replace hrs := hrs.mono lF
   replace hfi := hfi.mono lF
   rw [zB 4 5 (z9 4 rfl) (z9 5 rfl)]
   refine qH (t := 16) rfl (vB h1) (qq (args := [.agg #[ii (n), rsv, fiv]]) call24 rfl (reachedZ_spec hrs hfi (hA9 := (⟨ar, hA2⟩))) ?_)
   rintro _ _ _ _ ⟨⟨rfl, x2, rfl, hr2⟩, rfl⟩
   exact ⟨⟨rfl, hr2⟩, rfl⟩
  refine gD (fun W Fs R lF z9 => ?_) ?_
  ·rw [zA 4 (z9 4 rfl)]
   refine qH (t := 16) rfl (vB h1) (ql (2) qA rfl qw (by decide) rfl rfl ?_)
   exact ⟨rfl, rfl⟩
  refine gD (fun W Fs R lF z9 => ?_) ?_
  ·replace har := har.mono lF
   replace hrs := hrs.mono lF
   replace hfi := hfi.mono lF
   rw [zB 4 7 (z9 4 rfl) (z9 7 rfl)]
   refine qH (t := 16) rfl (vB h1) (qi qT rfl (Rd.own [] rfl rfl) ?_)
   exact ⟨rfl, rfl⟩
  exact stepsG.nil
 intro W F3 le3 hphi
 obtain ⟨e6, f6_3hx⟩ := hphi 6 (by decide)
 generalize hu1 : (intAt (W 6)) = u1 at e6 f6_3hx
 rw [eS (l := [(4, _), (6, (.int .u32 ((u1)))), (8, _)]) ⟨(hphi 4 (by decide)), (e6).symm, (hphi 8 (by decide)), ⟨⟩⟩]
 replace hrs := hrs.mono le3
 replace hfi := hfi.mono le3
 show XL _ _ _ _ _ _ _ (cellsH b2 [ii (n), rsv, fiv] 29 :: cellsH b1 [arv] 26 :: L)
 refine qo (t := 16) rfl (vB h1) (qq (args := [fiv]) call25 rfl (setOfZ_spec hfi (hll := (by first | assumption | rfl | omega | simp)) (hq := (fun i hi => by have h9 := hA2.fin i hi; omega))) ?_)
 rintro _ _ _ _ ⟨⟨rfl, x3, rfl, hr3⟩, rfl⟩
 show XL _ _ _ _ _ _ _ (cellsH b2 [ii (n), rsv, fiv] 29 :: cellsH b1 [arv] 26 :: L)
 refine qo (t := 16) rfl (vB h1) (XOp.and32Z (a := (u1)) (b := x3) rfl rfl (by first | exact BitZ.lt (by assumption) | exact RchZ.lt (by assumption)) (by first | exact BitZ.lt (by assumption) | exact RchZ.lt (by assumption)) (qo (t := 16) rfl (vB h1) (jp rfl rfl (cX (qQ (.bool (decide (((((((u1)).toNat &&& (x3).toNat) : Nat) : Int) : Int) = 0))) (vB h1) rfl (qb ?_))))))
 refine qE (p := ((((((u1)).toNat &&& (x3).toNat) : Nat) : Int) : Int) = 0) rfl (fun h2 => ?_) (fun h2 => ?_)
 ·have hno : ∀ t, ¬ Acc ar rs fi t := fun t => none_acc hA2 f6_3hx.2.1 f6_3hx.2.2 hr3.2 h2
  refine qc (qa (qg (sN) rfl (qg (.bool (false)) rfl (qb (qC (qn (qv (L' := L) [sN, .bool (false)] (.tuple #[sN, .bool (false)]) (.tmp rfl (.tmp rfl .nil)) rfl le3 rF (sD (sD sR)) ?_)))))))
  exact ⟨⟨_, _, rfl, ⟨[], IntsF.nilV, by first | exact LeastR.no hA | exact NoAcc.none hA (fun u _ _ => hno u) | exact NoAcc.none hA (by have h9 := hN; rw [show k = 60 from by omega] at h9; exact h9), by decide⟩⟩, rfl⟩
 refine qx (qc (qa (cX (qq (args := []) call26 rfl (newSmallest_spec) ?_))))
 rintro _ _ _ _ ⟨b3, mb1, rfl, rfl, rfl⟩
 have hc1 : BindC F3 smZ (List.replicate 976 []) := smZ_bind
 have hl1 : (List.replicate 976 ([] : List Int)).length = 976 := List.length_replicate
 show XL _ _ _ _ _ _ _ (cellsH b3 (smZ ++ [.map (some mb1)]) 60 :: memH mb1 ([]) :: cellsH b2 [ii (n), rsv, fiv] 29 :: cellsH b1 [arv] 26 :: L)
 refine qg (ptr b3 0) rfl (qb (qc (qc (qa (qg (ii (1)) rfl (qb (qF (jg (α := Nat × List Value × List (List Int) × List (Value × Value) × FH) (fun xQ => [(3, ptr b2 0), (6, ptr b3 0), (7, ii (((xQ.1 + 1 : Nat) : Int)))]) (fun xQ => cellsH b3 (xQ.2.1 ++ [.map (some mb1)]) 60 :: memH mb1 xQ.2.2.2.1 :: cellsH b2 [ii (n), rsv, fiv] 29 :: cellsH b1 [arv] 26 :: L) (fun xQ F' => xQ.2.2.2.2 = F' ∧ F3 ≤ xQ.2.2.2.2 ∧ (BindC xQ.2.2.2.2 xQ.2.1 xQ.2.2.1) ∧ (MemC ar rs xQ.2.2.2.2 xQ.2.2.2.1) ∧ (xQ.1 ≤ 60) ∧ (TabG ar rs xQ.1 0 xQ.2.2.1) ∧ (NoAcc ar rs fi xQ.1)) (fun xQ => 60 - xQ.1) (0, smZ, (List.replicate 976 ([] : List Int)), [], F3) ⟨rfl, rfl, rfl, ⟨⟩⟩ (sC (sC (sC (sC sR)))) ⟨rfl, FLe.refl _, (hc1), (MemC.start), (Nat.zero_le _), (TabG.start), (NoAcc.start)⟩ ?_))))))))
 rintro ⟨k, cl, os, es, G1⟩ rE _ _ ⟨rfl, leG, hS, hM, hk, hG, hN⟩
 show X _ _ _ _ (envs [(3, ptr b2 0), (6, ptr b3 0), (7, ii (((k + 1 : Nat) : Int)))] rE) _ (cellsH b3 (cl ++ [.map (some mb1)]) 60 :: memH mb1 es :: cellsH b2 [ii (n), rsv, fiv] 29 :: cellsH b1 [arv] 26 :: L)
 replace leG : F3 ≤ G1 := leG
 dsimp only at hS hM hk hG hN
 have leG1 := leG
 replace hrs := hrs.mono leG1
 replace hfi := hfi.mono leG1
 refine qc (qc (qa (qd (ii (((k + 1 : Nat) : Int))) rfl (cX (XOp.leq rfl rfl (qb ?_))))))
 refine qE (p := (((k + 1 : Nat) : Int) : Int) ≤ 60) rfl (fun h3 => ?_) (fun h3 => ?_)
 ·refine qx (qc (qF (qc (qa (qd (ptr b3 0) rfl (cX (ql (1) qA rfl jh (by decide) rfl rfl (cX (qi jo rfl (Rd.own [_, _] rfl rfl) (qd (ii (((k + 1 : Nat) : Int))) rfl (XL.weaken (je (A := [_])) ?_)))))))))))
  show XL _ _ _ _ _ _ _ (memH mb1 es :: cellsH b3 (cl ++ [.map (some mb1)]) 60 :: cellsH b2 [ii (n), rsv, fiv] 29 :: cellsH b1 [arv] 26 :: L)
  refine XL.weaken (je (A := [_])) ?_
  show XL _ _ _ _ _ _ _ (cellsH b3 (cl ++ [.map (some mb1)]) 60 :: memH mb1 es :: cellsH b2 [ii (n), rsv, fiv] 29 :: cellsH b1 [arv] 26 :: L)
  refine cX (qq (args := [ptr b3 0, rsv, ii ((k + 1 : Nat) : Int)]) call27 rfl (grow_spec (k := k) hS hM hA2 hG hrs (by omega)) ?_)
  rintro _ F5 _ le5 ⟨cl1, os1, es1, hS1, hM1, hG1, rfl⟩
  replace hfi := hfi.mono le5
  show XL _ _ _ _ _ _ _ (cellsH b3 (cl1 ++ [.map (some mb1)]) 60 :: memH mb1 es1 :: cellsH b2 [ii (n), rsv, fiv] 29 :: cellsH b1 [arv] 26 :: L)
  refine qb (qc (qa (qg (sN) rfl (qb (qc (qc (qa (cX (ql (2) qA rfl qw (by decide) rfl rfl (cX (qi qT rfl (Rd.own [_, _] rfl rfl) (cX (qG qf rfl hfi.slv (qd (ii (0)) rfl (qb (qF (jg (α := Nat × Value × List Int × FH) (fun xQ => [(3, ptr b2 0), (6, ptr b3 0), (7, ii (((k + 1 : Nat) : Int))), (8, xQ.2.1), (36, fiv), (37, ii ((fi.length : Int))), (38, ii (((xQ.1 : Nat) : Int)))]) (fun xQ => cellsH b3 (cl1 ++ [.map (some mb1)]) 60 :: memH mb1 es1 :: cellsH b2 [ii (n), rsv, fiv] 29 :: cellsH b1 [arv] 26 :: L) (fun xQ F' => xQ.2.2.2 = F' ∧ F5 ≤ xQ.2.2.2 ∧ (IntsF xQ.2.2.2 xQ.2.1 xQ.2.2.1) ∧ (isNil xQ.2.1 = decide (xQ.2.2.1 = [])) ∧ (xQ.1 ≤ fi.length) ∧ (xQ.2.2.1.length ≤ 60) ∧ (Lst (RunF ar rs fi (k + 1) xQ.1) xQ.2.2.1)) (fun xQ => fi.length - xQ.1) (0, sN, [], F5) ⟨rfl, rfl, rfl, rfl, rfl, rfl, rfl, ⟨⟩⟩ (sC (sC (sC (sC sR)))) ⟨rfl, FLe.refl _, (IntsF.nilV), (rfl), (Nat.zero_le _), (Nat.zero_le _), (RunF.start)⟩ ?_)))))))))))))))))
  rintro ⟨i, lv, ls, G2⟩ rE _ _ ⟨rfl, leG, hlv, hln, hi, hll, hF⟩
  show X _ _ _ _ (envs [(3, ptr b2 0), (6, ptr b3 0), (7, ii (((k + 1 : Nat) : Int))), (8, lv), (36, fiv), (37, ii ((fi.length : Int))), (38, ii ((i : Int)))] rE) _ (cellsH b3 (cl1 ++ [.map (some mb1)]) 60 :: memH mb1 es1 :: cellsH b2 [ii (n), rsv, fiv] 29 :: cellsH b1 [arv] 26 :: L)
  replace leG : F5 ≤ G2 := leG
  dsimp only at hlv hln hi hll hF
  have hff := fun (h : i < fi.length) => hA2.fin i h
  have leG2 := leG
  replace hfi := hfi.mono leG2
  replace hS1 := hS1.mono leG2
  replace hM1 := hM1.mono leG2
  refine qc (qa (cX (qV rfl rfl (qb (qc ?_)))))
  refine qE (p := (i : Int) < (fi.length : Int)) rfl (fun h4 => ?_) (fun h4 => ?_)
  ·refine qx (qc (qF (qc (qa (cX (qy i qf qr rfl rfl rfl hfi.slv (by omega) (Nat.mul_one _) (cX (qi qM rfl (hfi.rd (by omega)) (qg (ii (fi.getD i 0)) rfl (qb (qc (qa (qd (ptr b3 0) rfl (qd (ii (fi.getD i 0)) rfl (qd (ii (((k + 1 : Nat) : Int))) rfl (cX (jk rfl (cX (ql (0) jJ rfl sizeOf57 (by decide) rfl rfl ?_)))))))))))))))))))
   refine cX (jy (i := fi.getD i 0) ((fi.getD i 0).toNat) (((fi.getD i 0).toNat) * 61) runUnderlying57 sizeOf56 rfl rfl (by omega) (by omega) (by omega) (cX (jy (i := ((k + 1 : Nat) : Int)) (k + 1) (((fi.getD i 0).toNat) * 61 + (k + 1)) runUnderlying56 qw rfl rfl rfl (by omega) (by omega) ?_)))
   obtain ⟨a1, ha1, hn1, he1⟩ := hS1.get (i := ((fi.getD i 0).toNat) * 61 + (k + 1)) (by have := hG1.len; omega)
   refine cX (qi qT rfl (Rd.own [] rfl (sm_get he1)) (qg (a1) rfl (qb (qc (qa (qd (a1) rfl (cX (XOp.neNil qf rfl rfl (qS ha1) (qd (.bool (!isNil a1)) rfl ?_)))))))))
   by_cases h5 : (!isNil a1) = true
   ·have hf9 : Lst (RunN ar rs (fi.getD i 0) (k + 1)) (os1.getD ((fi.getD i 0).toNat * 61 + (k + 1)) []) := hG1.low (k + 1) (fi.getD i 0) (Nat.le_refl _) (by omega) (hff (by omega)).1 (by have := (hff (by omega)).2; omega)
    have hfl8 := hG1.bnd ((fi.getD i 0).toNat * 61 + (k + 1))
    have hfn : (os1.getD ((fi.getD i 0).toNat * 61 + (k + 1)) []) ≠ [] := ne_of_notNil hn1 h5
    refine qo (t := 52) rfl (vB h5) (qk (lv) rfl (qo (t := 52) rfl (vB h5) (XOp.eqNil qf rfl rfl (qS hlv) (qo (t := 52) rfl (vB h5) (qk (.bool (isNil lv)) rfl ?_)))))
    by_cases h6 : (isNil lv) = true
    ·have hou : ls = [] := nil_yes hln h6
     refine qm (t := 55) rfl (vB h6) (qm (t := 55) rfl (vB h6) (qm (t := 55) rfl (vB h6) (qm (t := 55) rfl (vB h6) (qo (t := 52) rfl (vB h5) (qL (.bool (true)) (vB h6) rfl (cX (qL (.bool (true)) (vB h5) rfl (qb (jA rfl (qa (qd (a1) rfl ?_)))))))))))
     refine qg (a1) rfl (qb (qa (cX (qD (((i + 1 : Nat) : Int)) rfl rfl (by omega) (by omega) (qd (ii (((i + 1 : Nat) : Int))) rfl (qb ?_))))))
     exact ⟨(i + 1, a1, (os1.getD (((fi.getD i 0).toNat) * 61 + (k + 1)) []), G2), _, leG2, rF, ⟨rfl, rfl, rfl, rfl, rfl, rfl, rfl, ⟨⟩⟩, (sC (sC (sC (sC sR)))), ⟨rfl, leG2, (ha1), (by first | exact hln | exact nil_no ha1 hfn), (by (try dsimp only) <;> omega), (by (try dsimp only); first | exact hll | exact hfl8), (by first | exact hF2 | exact RunF.put hF hf9 hfn (.inl hou) | exact RunF.put hF hf9 hfn (.inr hlt))⟩, (by omega)⟩
    rw [Bool.not_eq_true] at h6
    have hou : ls ≠ [] := nil_not hln h6
    refine qo (t := 55) rfl (vB h6) (qk (a1) rfl (qo (t := 55) rfl (vB h6) (qk (lv) rfl (qo (t := 55) rfl (vB h6) (qq (args := [a1, lv]) call28 rfl (Compare_spec ha1 hlv (hlx := (by omega)) (hly := (by omega))) ?_)))))
    rintro _ _ _ _ ⟨rfl, x4, rfl, hr4, rfl⟩
    refine qo (t := 55) rfl (vB h6) (qV rfl rfl (qo (t := 52) rfl (vB h5) (qQ (.bool (decide ((x4 : Int) < 0))) (vB h6) rfl (cX (qL (.bool (decide ((x4 : Int) < 0))) (vB h5) rfl (qb ?_))))))
    refine qE (p := (x4 : Int) < 0) rfl (fun h7 => ?_) (fun h7 => ?_)
    ·have hlt := hr4.2.1 h7
     refine qa (qd (a1) rfl (qg (a1) rfl (qb (qa (cX (qD (((i + 1 : Nat) : Int)) rfl rfl (by omega) (by omega) (qd (ii (((i + 1 : Nat) : Int))) rfl (qb ?_))))))))
     exact ⟨(i + 1, a1, (os1.getD (((fi.getD i 0).toNat) * 61 + (k + 1)) []), G2), _, leG2, rF, ⟨rfl, rfl, rfl, rfl, rfl, rfl, rfl, ⟨⟩⟩, (sC (sC (sC (sC sR)))), ⟨rfl, leG2, (ha1), (by first | exact hln | exact nil_no ha1 hfn), (by (try dsimp only) <;> omega), (by (try dsimp only); first | exact hll | exact hfl8), (by first | exact hF2 | exact RunF.put hF hf9 hfn (.inl hou) | exact RunF.put hF hf9 hfn (.inr hlt))⟩, (by omega)⟩
    have hlt : ¬ ltL _ _ := fun h9 => h7 (hr4.2.2 h9)
    have hF2 := RunF.skip hF hf9 (.inr ⟨hou, hlt⟩)
    refine qx (qa (cX (qD (((i + 1 : Nat) : Int)) rfl rfl (by omega) (by omega) (qd (ii (((i + 1 : Nat) : Int))) rfl (qb ?_)))))
    exact ⟨(i + 1, lv, ls, G2), _, leG2, rF, ⟨rfl, rfl, rfl, rfl, rfl, rfl, rfl, ⟨⟩⟩, (sC (sC (sC (sC sR)))), ⟨rfl, leG2, (hlv), (by first | exact hln | exact nil_no hlv hfn), (by (try dsimp only) <;> omega), (by (try dsimp only); first | exact hll | exact hfl8), (by first | exact hF2 | exact RunF.put hF hf9 hfn (.inl hou) | exact RunF.put hF hf9 hfn (.inr hlt))⟩, (by omega)⟩
   rw [Bool.not_eq_true] at h5
   have hf9 : Lst (RunN ar rs (fi.getD i 0) (k + 1)) (os1.getD ((fi.getD i 0).toNat * 61 + (k + 1)) []) := hG1.low (k + 1) (fi.getD i 0) (Nat.le_refl _) (by omega) (hff (by omega)).1 (by have := (hff (by omega)).2; omega)
   have hfl8 := hG1.bnd ((fi.getD i 0).toNat * 61 + (k + 1))
   have hF2 := RunF.skip hF hf9 (.inl (eq_of_isNil hn1 h5))
   refine qm (t := 52) rfl (vB h5) (qm (t := 52) rfl (vB h5) (qm (t := 52) rfl (vB h5) (jE (t := 55) rfl rfl (jE (t := 55) rfl rfl (jE (t := 55) rfl rfl (jE (t := 55) rfl rfl (qm (t := 52) rfl (vB h5) (cX (qQ (.bool (false)) (vB h5) rfl (qb ?_))))))))))
   refine jG rfl (qx (qa (cX (qD (((i + 1 : Nat) : Int)) rfl rfl (by omega) (by omega) (qd (ii (((i + 1 : Nat) : Int))) rfl (qb ?_))))))
   exact ⟨(i + 1, lv, ls, G2), _, leG2, rF, ⟨rfl, rfl, rfl, rfl, rfl, rfl, rfl, ⟨⟩⟩, (sC (sC (sC (sC sR)))), ⟨rfl, leG2, (hlv), (by first | exact hln | exact nil_no hlv hfn), (by (try dsimp only) <;> omega), (by (try dsimp only); first | exact hll | exact hfl8), (by first | exact hF2 | exact RunF.put hF hf9 hfn (.inl hou) | exact RunF.put hF hf9 hfn (.inr hlt))⟩, (by omega)⟩
  refine jd (qp (qp (qJ (qc (qa (qd (lv) rfl (cX (XOp.neNil qf rfl rfl (qS hlv) (qb ?_)))))))))
  refine jr (t := !isNil lv) rfl (fun h8 => ?_) (fun h8 => ?_)
  ·have hou : ls ≠ [] := ne_of_notNil hln h8
   refine qc (qa (qd (lv) rfl (cX (XOp.frzF <| qq (args := [lv]) call29 rfl (Clone_spec hlv (hlt := (by omega))) ?_))))
   rintro v1 _ _ _ ⟨rfl, hs1, rfl⟩
   refine ⟨_, _, rfl, fun F7 le7 hz1 => ?_⟩
   replace hS1 := hS1.mono le7
   replace hM1 := hM1.mono le7
   have hf1 : IntsF F7 v1 ((ls)) := intsH.fz (xs := (ls)) hz1.fz
   refine qg (v1) rfl (qg (.bool (true)) rfl (qb (qC (qK (qn (qn (qK (qn (qv (L' := L) [v1, .bool (true)] (.tuple #[v1, .bool (true)]) (.tmp rfl (.tmp rfl .nil)) rfl (qj (qj (qj (qj le3 leG1) le5) leG2) le7) rF (sD (sD (sD (sD sR)))) ?_)))))))))
   exact ⟨⟨_, _, rfl, ⟨_, hf1, NoAcc.least hA2 hA hN (by rw [show fi.length = i from by omega]; exact hF) hou, hll⟩⟩, rfl⟩
  have hou : ls = [] := eq_of_isNil hln h8
  have hF9 : Lst (RunF ar rs fi (k + 1) fi.length) [] := by have h9 := hF; rw [hou, show i = fi.length from by omega] at h9; exact h9
  have hN2 := hN.next hA2 hF9
  refine qx (qa (qd (ii (((k + 1 : Nat) : Int))) rfl (cX (qD ((((k + 1) + 1 : Nat) : Int)) rfl rfl (by omega) (by omega) (qg (ii ((((k + 1) + 1 : Nat) : Int))) rfl (qb ?_))))))
  exact ⟨(k + 1, cl1, os1, es1, G2), _, (qj (qj leG1 le5) leG2), rF, ⟨rfl, rfl, rfl, ⟨⟩⟩, (sC (sC (sC (sC sR)))), ⟨rfl, (qj (qj leG1 le5) leG2), (hS1), (hM1), (by (try dsimp only) <;> omega), (hG1), (hN2)⟩, (by omega)⟩
 refine jd (qp (qp (qJ (qc (qa (qg (sN) rfl (qg (.bool (false)) rfl (qb (qC (qv (L' := L) [sN, .bool (false)] (.tuple #[sN, .bool (false)]) (.tmp rfl (.tmp rfl .nil)) rfl (qj le3 leG1) rF (sD (sD (sD (sD sR)))) ?_))))))))))
 exact ⟨⟨_, _, rfl, ⟨[], IntsF.nilV, by first | exact LeastR.no hA | exact NoAcc.none hA (fun u _ _ => hno u) | exact NoAcc.none hA (by have h9 := hN; rw [show k = 60 from by omega] at h9; exact h9), by decide⟩⟩, rfl⟩

/- spec.l23NextList -/
theorem l23NextList_spec {F : FH} {L : List HP}  {lv : Value} {l : List Int} (hl : IntsF F lv l) {n : Nat} (hin : InN n l) (hll : l.length ≤ 10) (hn : n ≤ 1000) :
    Does prog 51 [lv, ii ((n : Int))] F (L) (fun v F' L' => (∃ (a : Value), ∃ (ok : Bool), (.tuple #[a, .bool (ok)] : Value) = v ∧ (SomesF F' a (fun os => NextR n l os ok))) ∧ L = L') := by
 refine qO func51 rfl rfl rfl (qc (qa (qg (sN) rfl (qg (.bool (false)) rfl (qb (qc (qa (qd (lv) rfl (cX (qq (args := [lv]) call31 rfl (l1Copy_spec hl (hlt := (by first | assumption | rfl | omega | simp))) ?_))))))))))
 rintro v1 _ _ _ ⟨rfl, hs1, rfl⟩
 refine qg (v1) rfl (qb (qc (qc (qa (qd (v1) rfl (cX (qG qf rfl (intsH.slv [] rfl) (cX (js ((((((l)).length : Nat) : Int)) - 1) rfl rfl (by omega) (by omega) (qg (ii ((((((l)).length : Nat) : Int)) - 1)) rfl (qb (qF (jg (α := Nat × List Int) (fun xQ => [(1, ii ((n : Int))), (6, v1), (7, ii ((xQ.1 : Int) - 1))]) (fun xQ => intsH 2 v1 xQ.2 :: L) (fun xQ F' => F = F' ∧ (xQ.1 ≤ l.length) ∧ (NextI n l xQ.2 xQ.1)) (fun xQ => xQ.1) (l.length, (l)) ⟨rfl, rfl, (vI (by omega)), ⟨⟩⟩ (sC sR) ⟨rfl, (Nat.le_refl _), (by (try simp only [Nat.sub_zero, List.drop_zero, List.take_length]); exact NextI.start hin)⟩ ?_)))))))))))))
 rintro ⟨j, os⟩ rE _ _ ⟨rfl, hj, hI⟩
 show X _ _ _ _ (envs [(1, ii ((n : Int))), (6, v1), (7, ii ((j : Int) - 1))] rE) _ (intsH 2 v1 os :: L)
 dsimp only at hj hI
 have hol := hI.len
 have hib := fun i (hi : i < os.length) => hI.inn i hi
 refine qc (qc (qa (qd (ii ((j : Int) - 1)) rfl (cX (XOp.geq rfl rfl (qb ?_))))))
 refine qE (p := ((j : Int) - 1 : Int) ≥ 0) rfl (fun h1 => ?_) (fun h1 => ?_)
 ·have hb9 := hib ((j : Int) - 1).toNat (by omega)
  refine qx (qc (qF (qc (qa (qd (v1) rfl (qd (ii ((j : Int) - 1)) rfl (qd (v1) rfl (qd (ii ((j : Int) - 1)) rfl (cX (qy (((j : Int) - 1).toNat) qf qr rfl rfl (by omega) (intsH.slv [] rfl) (by omega) (Nat.mul_one _) (cX (qi qM rfl (intsH.rd [] rfl (by first | omega | (rw [List.length_set]; omega))) (cX (qD ((os.getD (((j : Int) - 1).toNat) 0) + 1) rfl rfl (by omega) (by omega) (cX (qy (((j : Int) - 1).toNat) qf qr rfl rfl (by omega) (intsH.slv [] rfl) (by omega) (Nat.mul_one _) (cX (intsH.storeX (i := ((j : Int) - 1).toNat) (v := v1) [] _ (os.set (((j : Int) - 1).toNat) ((os.getD (((j : Int) - 1).toNat) 0) + 1)) qr rfl rfl rfl (by simp; omega) rfl ?_))))))))))))))))))
  refine qb (qc (qc (qa (qd (v1) rfl (qd (ii ((j : Int) - 1)) rfl (cX (qy (((j : Int) - 1).toNat) qf qr rfl rfl (by omega) (intsH.slv [] rfl) (by rw [List.length_set]; omega) (Nat.mul_one _) (cX (qi qM rfl (intsH.rd [] rfl (by first | omega | (rw [List.length_set]; omega))) (qd (ii ((n : Int))) rfl (cX (qV rfl rfl (qb ?_)))))))))))))
  refine qE (p := (((os.set (((j : Int) - 1).toNat) ((os.getD (((j : Int) - 1).toNat) 0) + 1))).getD (((j : Int) - 1).toNat) 0 : Int) < (n : Int)) rfl (fun h2 => ?_) (fun h2 => ?_)
  ·have hx9 := h2
   rw [getD_set (xs := os) (k := ((j : Int) - 1).toNat) (by omega), if_pos rfl] at hx9
   refine qc (qa (qd (v1) rfl (qg (v1) rfl (qg (.bool (true)) rfl (qb (jf [] _ _ rfl (fun F1 le1 hz1 => ?_)))))))
   have hf1 : IntsF F1 v1 ((os.set (((j : Int) - 1).toNat) ((os.getD (((j : Int) - 1).toNat) 0) + 1))) := intsH.fz (xs := (os.set (((j : Int) - 1).toNat) ((os.getD (((j : Int) - 1).toNat) 0) + 1))) hz1.fz
   refine qC (qn (qK (qn (qn (qK (qn (qv (L' := L) [v1, .bool (true)] (.tuple #[v1, .bool (true)]) (.tmp rfl (.tmp rfl .nil)) rfl le1 rF sR ?_)))))))
   exact ⟨⟨_, _, rfl, ⟨_, hf1, hI.found (p := ((j : Int) - 1).toNat) hj (by omega) hx9⟩⟩, rfl⟩
  have hx9 := h2
  rw [getD_set (xs := os) (k := ((j : Int) - 1).toNat) (by omega), if_pos rfl] at hx9
  refine qx (qa (qd (v1) rfl (qd (ii ((j : Int) - 1)) rfl (cX (qy (((j : Int) - 1).toNat) qf qr rfl rfl (by omega) (intsH.slv [] rfl) (by rw [List.length_set]; omega) (Nat.mul_one _) (cX (intsH.storeX (i := ((j : Int) - 1).toNat) (v := v1) [] _ (((os.set (((j : Int) - 1).toNat) ((os.getD (((j : Int) - 1).toNat) 0) + 1))).set (((j : Int) - 1).toNat) 0) qr rfl rfl rfl (by simp; omega) rfl (qb (qa (qd (ii ((j : Int) - 1)) rfl (cX (js (((j : Int) - 1) - 1) rfl rfl (by omega) (by omega) (qg (ii (((j : Int) - 1) - 1)) rfl (qb ?_))))))))))))))
  exact ⟨(j - 1, (((os.set (((j : Int) - 1).toNat) ((os.getD (((j : Int) - 1).toNat) 0) + 1))).set (((j : Int) - 1).toNat) 0)), _, FLe.refl _, rF, ⟨rfl, rfl, (vI (by (try dsimp only); omega)), ⟨⟩⟩, (sC sR), ⟨rfl, (by (try dsimp only) <;> omega), (hI.next (p := ((j : Int) - 1).toNat) hj (by omega) hx9)⟩, (by (try dsimp only); omega)⟩
 refine jd (qp (qp (qJ (qc (qa (qd (v1) rfl (qg (v1) rfl (qg (.bool (false)) rfl (qb (jf [] _ _ rfl (fun F2 le2 hz2 => ?_)))))))))))
 have hf2 : IntsF F2 v1 os := intsH.fz (xs := os) hz2.fz
 refine qC (qv (L' := L) [v1, .bool (false)] (.tuple #[v1, .bool (false)]) (.tmp rfl (.tmp rfl .nil)) rfl le2 rF sR ?_)
 exact ⟨⟨_, _, rfl, ⟨_, hf2, hI.none⟩⟩, rfl⟩

/- spec.l1TermPlace -/
set_option maxRecDepth 20000 in
theorem l1TermPlaceO_spec {F : FH} {L : List HP} {mv : Value} {mm : List (List Int)} {mcs : List Value} {mn : Nat} (hmv : IsSl mv) (hMC : RowsC F mcs mm) (hmn : mn = mm.length) {tv : Value} {t : List Int} (ht : IntsF F tv t) (hml : mm.length ≤ 4000000) (hmb : ∀ i, i < mm.length → (mm.getD i []).length ≤ 4000000) (hlt : t.length ≤ 4000000) :
    Does prog 52 [mv, tv] F (slH 24 1 mv mn mcs :: L) (fun v F' L' => (F = F' ∧ ∃ (x : Int), (ii (x) : Value) = v ∧ (-1 ≤ x ∧ x < (mm.length : Int))) ∧ slH 24 1 mv mn mcs :: L = L') := by
 refine qO func52 rfl rfl rfl ?_
 have hmk := fun k => hmb k
 refine qc (qa (qg (ii (0)) rfl (qb (qc (qc (qa (qg (ii (0)) rfl (qb (qF (jg (α := Nat) (fun k => [(0, mv), (1, tv), (5, ii ((k : Int)))]) (fun k => slH 24 1 mv mn mcs :: L) (fun k F' => F = F' ∧ (k ≤ mm.length)) (fun k => mm.length - k) 0 ⟨rfl, rfl, rfl, ⟨⟩⟩ (sC sR) ⟨rfl, (Nat.zero_le _)⟩ ?_))))))))))
 rintro k rE _ _ ⟨rfl, hk⟩
 show X _ _ _ _ (envs [(0, mv), (1, tv), (5, ii ((k : Int)))] rE) _ (slH 24 1 mv mn mcs :: L)
 refine qc (qc (qa (qd (ii ((k : Int))) rfl (qd (mv) rfl (cX (qG qz rfl (SlV.own [] rfl) (cX (qV rfl rfl (qb ?_)))))))))
 refine qE (p := (k : Int) < ((mn : Nat) : Int)) rfl (fun h1 => ?_) (fun h1 => ?_)
 ·refine qx (qc (qF (qc (qa (qd (mv) rfl (qd (ii ((k : Int))) rfl (cX (qy k qz qw rfl rfl rfl (SlV.own [] rfl) (by omega) (Nat.mul_one _) ?_))))))))
  obtain ⟨a1, ha1, he1⟩ := hMC.get (i := k) (by omega)
  refine cX (qi qT rfl (Rd.sl [] rfl he1) (qd (tv) rfl (cX (qq (args := [a1, tv]) call9 rfl (SameTerm_spec ha1 ht (hbd := (by first | assumption | rfl | omega | (left; simp; done) | (right; simp; done)))) ?_))))
  rintro _ _ _ _ ⟨rfl, rfl, rfl⟩
  refine qb ?_
  refine qE (p := ((mm.getD k [])) = t) rfl (fun h2 => ?_) (fun h2 => ?_)
  ·refine qc (qa (qd (ii ((k : Int))) rfl (qg (ii ((k : Int))) rfl (qb (qC (qK (qn (qn (qK (qn (qv (L' := slH 24 1 mv mn mcs :: L) [ii ((k : Int))] (ii ((k : Int))) (.tmp rfl .nil) rfl rF rF (sC sR) ?_)))))))))))
   exact ⟨⟨rfl, _, rfl, by omega⟩, rfl⟩
  refine qx (qa (qd (ii ((k : Int))) rfl (cX (qD (((k + 1 : Nat) : Int)) rfl rfl (by omega) (by omega) (qg (ii (((k + 1 : Nat) : Int))) rfl (qb ?_))))))
  exact ⟨k + 1, _, FLe.refl _, rF, ⟨rfl, rfl, rfl, ⟨⟩⟩, (sC sR), ⟨rfl, (by (try dsimp only) <;> omega)⟩, (by omega)⟩
 refine jd (qp (qp (qJ (qc (qa (qg (ii (-1)) rfl (qb (qC (qv (L' := slH 24 1 mv mn mcs :: L) [ii (-1)] (ii (-1)) (.tmp rfl .nil) rfl rF rF (sC sR) ?_)))))))))
 exact ⟨⟨rfl, _, rfl, by omega⟩, rfl⟩

/- spec.l1TermPlace -/
set_option maxRecDepth 20000 in
theorem l1TermPlaceF_spec {F : FH} {L : List HP}  {mmv : Value} {mm : List (List Int)} (hmm : RowsF F mmv mm) {tv : Value} {t : List Int} (ht : IntsF F tv t) (hml : mm.length ≤ 4000000) (hmb : ∀ i, i < mm.length → (mm.getD i []).length ≤ 4000000) (hlt : t.length ≤ 4000000) :
    Does prog 52 [mmv, tv] F (L) (fun v F' L' => (F = F' ∧ ∃ (x : Int), (ii (x) : Value) = v ∧ (-1 ≤ x ∧ x < (mm.length : Int))) ∧ L = L') := by
 refine qO func52 rfl rfl rfl ?_
 have hmk := fun k => hmb k
 refine qc (qa (qg (ii (0)) rfl (qb (qc (qc (qa (qg (ii (0)) rfl (qb (qF (jg (α := Nat) (fun k => [(0, mmv), (1, tv), (5, ii ((k : Int)))]) (fun k => L) (fun k F' => F = F' ∧ (k ≤ mm.length)) (fun k => mm.length - k) 0 ⟨rfl, rfl, rfl, ⟨⟩⟩ sR ⟨rfl, (Nat.zero_le _)⟩ ?_))))))))))
 rintro k rE _ _ ⟨rfl, hk⟩
 show X _ _ _ _ (envs [(0, mmv), (1, tv), (5, ii ((k : Int)))] rE) _ (L)
 refine qc (qc (qa (qd (ii ((k : Int))) rfl (qd (mmv) rfl (cX (qG qz rfl hmm.slv (cX (qV rfl rfl (qb ?_)))))))))
 refine qE (p := (k : Int) < (mm.length : Int)) rfl (fun h1 => ?_) (fun h1 => ?_)
 ·refine qx (qc (qF (qc (qa (qd (mmv) rfl (qd (ii ((k : Int))) rfl (cX (qy k qz qw rfl rfl rfl hmm.slv (by omega) (Nat.mul_one _) ?_))))))))
  obtain ⟨a1, ha1, hr1⟩ := hmm.rd (i := k) (by omega)
  refine cX (qi qT rfl (hr1 _) (qd (tv) rfl (cX (qq (args := [a1, tv]) call9 rfl (SameTerm_spec ha1 ht (hbd := (by first | assumption | rfl | omega | (left; simp; done) | (right; simp; done)))) ?_))))
  rintro _ _ _ _ ⟨rfl, rfl, rfl⟩
  refine qb ?_
  refine qE (p := ((mm.getD k [])) = t) rfl (fun h2 => ?_) (fun h2 => ?_)
  ·refine qc (qa (qd (ii ((k : Int))) rfl (qg (ii ((k : Int))) rfl (qb (qC (qK (qn (qn (qK (qn (qv (L' := L) [ii ((k : Int))] (ii ((k : Int))) (.tmp rfl .nil) rfl rF rF sR ?_)))))))))))
   exact ⟨⟨rfl, _, rfl, by omega⟩, rfl⟩
  refine qx (qa (qd (ii ((k : Int))) rfl (cX (qD (((k + 1 : Nat) : Int)) rfl rfl (by omega) (by omega) (qg (ii (((k + 1 : Nat) : Int))) rfl (qb ?_))))))
  exact ⟨k + 1, _, FLe.refl _, rF, ⟨rfl, rfl, rfl, ⟨⟩⟩, sR, ⟨rfl, (by (try dsimp only) <;> omega)⟩, (by omega)⟩
 refine jd (qp (qp (qJ (qc (qa (qg (ii (-1)) rfl (qb (qC (qv (L' := L) [ii (-1)] (ii (-1)) (.tmp rfl .nil) rfl rF rF sR ?_)))))))))
 exact ⟨⟨rfl, _, rfl, by omega⟩, rfl⟩

/- spec.l23Listed -/
set_option maxRecDepth 20000 in
theorem l23Listed_spec {F : FH} {L : List HP}  {mmv : Value} {mm : List (List Int)} (hmm : RowsF F mmv mm) {lv : Value} {l : List Int} (hl : IntsF F lv l) (hin : InN mm.length l) (hml : mm.length ≤ 1000) (hmb : ∀ i, i < mm.length → (mm.getD i []).length ≤ 300) (hll : l.length ≤ 10) :
    Does prog 54 [mmv, lv] F (L) (fun v F' L' => (∃ (b : Value), (b : Value) = v ∧ (SomeRowsF F' b (fun os => os.length = l.length ∧ ∀ r ∈ os, r.length ≤ 300))) ∧ L = L') := by
 refine qO func54 rfl rfl rfl (qc (qa (qg (sN) rfl (qb (qc (qa (cX (qP (s := 1) [] [sN] [] qz qw ju rfl (by decide) rfl CellsAre.nil rfl ?_))))))))
 intro v1 hv1
 refine qg (v1) rfl (qb (qc (qc (qa ?_))))
 have hc1 : RowsC F [] ([] : List (List Int)) := (CO.nil : RowsC F [] [])
 skip
 refine qg (ii (0)) rfl (qb (qF (jg (α := Nat × Value × List (List Int) × List Value × Nat × FH) (fun xQ => [(0, mmv), (1, lv), (5, xQ.2.1), (6, ii (((xQ.1 : Nat) : Int)))]) (fun xQ => slH 24 1 xQ.2.1 xQ.2.2.2.2.1 xQ.2.2.2.1 :: L) (fun xQ F' => xQ.2.2.2.2.2 = F' ∧ F ≤ xQ.2.2.2.2.2 ∧ (IsSl xQ.2.1) ∧ (RowsC xQ.2.2.2.2.2 xQ.2.2.2.1 xQ.2.2.1) ∧ (xQ.2.2.2.2.1 = xQ.2.2.1.length) ∧ (xQ.1 ≤ l.length) ∧ (xQ.2.2.1.length = xQ.1) ∧ (∀ r ∈ xQ.2.2.1, r.length ≤ 300)) (fun xQ => l.length - xQ.1) (0, v1, ([] : List (List Int)), [], 0, F) ⟨rfl, rfl, rfl, rfl, ⟨⟩⟩ (sC sR) ⟨rfl, FLe.refl _, ((jH hv1)), (hc1), (rfl), (Nat.zero_le _), (rfl), (fun r hr => absurd hr (by simp))⟩ ?_)))
 rintro ⟨k, ov, os, cs, m, G1⟩ rE _ _ ⟨rfl, leG, hov, hC, hm, hk, hok, hob⟩
 show X _ _ _ _ (envs [(0, mmv), (1, lv), (5, ov), (6, ii ((k : Int)))] rE) _ (slH 24 1 ov m cs :: L)
 replace leG : F ≤ G1 := leG
 dsimp only at hov hC hm hk hok hob
 have hlk := fun (h : k < l.length) => hin k h
 have leG1 := leG
 replace hmm := hmm.mono leG1
 replace hl := hl.mono leG1
 refine qc (qc (qa (qd (ii ((k : Int))) rfl (qd (lv) rfl (cX (qG qf rfl hl.slv (cX (qV rfl rfl (qb ?_)))))))))
 refine qE (p := (k : Int) < (l.length : Int)) rfl (fun h1 => ?_) (fun h1 => ?_)
 ·refine qx (qc (qF (qa (qd (ov) rfl (qd (mmv) rfl (qd (lv) rfl (qd (ii ((k : Int))) rfl (cX (qy k qf qr rfl rfl rfl hl.slv (by omega) (Nat.mul_one _) (cX (qi qM rfl (hl.rd (by omega)) (cX (qy ((l.getD k 0).toNat) qz qw rfl rfl (by omega) hmm.slv (by omega) (Nat.mul_one _) ?_)))))))))))))
  obtain ⟨a1, ha1, hr1⟩ := hmm.rd (i := (l.getD k 0).toNat) (by omega)
  refine cX (qi qT rfl (hr1 _) (cX (qP (s := 1) [a1] [sN] [(0, [a1])] qz qw ju rfl (by decide) rfl (.cons (cells_one (qS ha1)) CellsAre.nil) rfl ?_)))
  intro v2 hv2
  refine cX (jN (m := 1) (bytes := 24) (cs := cs) [_] _ [a1] qz typeInfo24 rfl rfl rfl rfl rfl rfl rfl (SlV.own [] rfl) rfl (Rd.lit [] rfl) (qt (qU (qS ha1)) qZ) (by (try simp only [List.length_append, List.length_nil, List.length_cons, List.length_singleton]); omega) (by (try simp only [List.length_append, List.length_nil, List.length_cons, List.length_singleton]); omega) ?_)
  intro v3 hs1 hn1 hm1
  have hc2 := RowsC.snoc hC ha1
  refine qg (v3) rfl (qb (qa (qd (ii ((k : Int))) rfl (cX (qD (((k + 1 : Nat) : Int)) rfl rfl (by omega) (by omega) (qg (ii (((k + 1 : Nat) : Int))) rfl (qb ?_)))))))
  exact ⟨(k + 1, v3, os ++ [(mm.getD ((l.getD k 0).toNat) [])], cs ++ [a1], (m) + 1, G1), _, leG1, rF, ⟨rfl, rfl, rfl, rfl, ⟨⟩⟩, (sD (sC sR)), ⟨rfl, leG1, (hs1), (hc2), (by (try dsimp only); rw [List.length_append]; simp only [List.length_singleton]; omega), (by (try dsimp only) <;> omega), (by (try dsimp only); rw [List.length_append]; simp only [List.length_singleton]; omega), (fun r hr => (List.mem_append.1 hr).elim (hob r) (fun h => by rw [List.mem_singleton.1 h]; exact hmb _ (by omega)))⟩, (by omega)⟩
 refine jd (qp (qp (qJ (qc (qa (qd (ov) rfl (qg (ov) rfl (qb (jf [] _ _ rfl (fun F1 le1 hz1 => ?_))))))))))
 replace hC := hC.mono le1
 have hf1 : RowsF F1 ov os := CO.fz hC (by first | rfl | omega | (rw [List.length_set]; omega) | (simp; done) | (rw [List.length_append]; simp only [List.length_singleton]; omega) | ((simp only [List.length_append, List.length_singleton, List.length_nil]) <;> omega)) hz1.fz
 refine qC (qv (L' := L) [ov] (ov) (.tmp rfl .nil) rfl (qj leG1 le1) rF sR ?_)
 exact ⟨⟨_, rfl, ⟨_, hf1, by omega, hob⟩⟩, rfl⟩

/- spec.l23Round -/
set_option maxHeartbeats 2000000 in
set_option maxRecDepth 20000 in
theorem l23Round_spec {F : FH} {L : List HP}  {arv : Value} {ar : List Int} (har : IntsF F arv ar) {n : Int} {rsv : Value} {rs : List TranT} (hrs : TransF F rsv rs) {fiv : Value} {fi : List Int} (hfi : IntsF F fiv fi) {ssv : Value} {ss : List (List Int)} (hss : RowsF F ssv ss) (hA : AutoOk ar n rs fi) (hsl : ss.length ≤ 16) (hsb : ∀ i, i < ss.length → (ss.getD i []).length ≤ 300) :
    Does prog 75 [.agg #[arv], .agg #[ii (n), rsv, fiv], ssv] F (L) (fun v F' L' => (∃ (a : Value), ∃ (ok : Bool), (.tuple #[a, .bool (ok)] : Value) = v ∧ (SomeRowsF F' a (fun os => RndR ss os ok))) ∧ L = L') := by
 refine qO func75 rfl rfl rfl ?_
 have hsg9 := sigOk_spec hA.sig
 refine qc (qa (cX (ji [arv] rfl rfl ?_)))
 intro b1
 refine cX (ji [ii (n), rsv, fiv] rfl rfl ?_)
 intro b2
 refine qg (sN) rfl (qg (.bool (false)) rfl (qb (qc (qa (cX (qP (s := 1) [] [sN] [] qz qw ju rfl (by decide) rfl CellsAre.nil rfl ?_))))))
 intro v1 hv1
 refine qd (ssv) rfl ?_
 have hc1 : RowsC F [] ([] : List (List Int)) := (CO.nil : RowsC F [] [])
 skip
 refine cX (XOp.appendRows (bytes := 24) (cs := []) [] _ qz typeInfo24 rfl rfl rfl rfl rfl rfl rfl hc1 hss (by omega) (by omega) ?_)
 intro v2 ds1 hs1 hc2
 refine qg (v2) rfl (qb (qc (qa (qd (ssv) rfl (cX (qG qz rfl hss.slv (qg (ii ((ss.length : Int))) rfl (qb (qc (qc (qa (qg (ii (0)) rfl (qb (qF (jg (α := Nat × Value × List (List Int) × List Value × Nat × FH) (fun xQ => [(2, ssv), (3, ptr b1 0), (4, ptr b2 0), (8, xQ.2.1), (9, ii ((ss.length : Int))), (10, ii (((xQ.1 : Nat) : Int)))]) (fun xQ => slH 24 1 xQ.2.1 xQ.2.2.2.2.1 xQ.2.2.2.1 :: cellsH b2 [ii (n), rsv, fiv] 29 :: cellsH b1 [arv] 26 :: L) (fun xQ F' => xQ.2.2.2.2.2 = F' ∧ F ≤ xQ.2.2.2.2.2 ∧ (IsSl xQ.2.1) ∧ (RowsC xQ.2.2.2.2.2 xQ.2.2.2.1 xQ.2.2.1) ∧ (xQ.2.2.2.2.1 = xQ.2.2.1.length) ∧ (xQ.1 ≤ ar.length) ∧ (ss.length ≤ xQ.2.2.1.length) ∧ (xQ.2.2.1.length ≤ 16) ∧ (∀ r ∈ xQ.2.2.1, r.length ≤ 300)) (fun xQ => ar.length - xQ.1) (0, v2, (([] : List (List Int)) ++ ss), ([] ++ ds1), (0) + ss.length, F) ⟨rfl, rfl, rfl, rfl, rfl, rfl, ⟨⟩⟩ (sC (sC (sC sR))) ⟨rfl, FLe.refl _, (hs1), (hc2), (by (try dsimp only); first | rfl | simp), (Nat.zero_le _), (by (try dsimp only); first | exact Nat.le_refl _ | simp), (by (try dsimp only); first | exact hsl | simpa using hsl), (by (try simp only [List.nil_append]); exact getD_all9 hsb)⟩ ?_)))))))))))))))
 rintro ⟨f, ov, os, cs, m, G1⟩ rE _ _ ⟨rfl, leG, hov, hC, hm, hf, hol, ho16, hob⟩
 show X _ _ _ _ (envs [(2, ssv), (3, ptr b1 0), (4, ptr b2 0), (8, ov), (9, ii ((ss.length : Int))), (10, ii ((f : Int)))] rE) _ (slH 24 1 ov m cs :: cellsH b2 [ii (n), rsv, fiv] 29 :: cellsH b1 [arv] 26 :: L)
 replace leG : F ≤ G1 := leG
 dsimp only at hov hC hm hf hol ho16 hob
 have haf := fun (h : f < ar.length) => hsg9.2.2 f h
 have leG1 := leG
 replace har := har.mono leG1
 replace hrs := hrs.mono leG1
 replace hfi := hfi.mono leG1
 replace hss := hss.mono leG1
 refine qc (qc (qa (qd (ii ((f : Int))) rfl (cX (ql (0) ja rfl qw (by decide) rfl rfl (cX (qi qT rfl (Rd.own [_, _] rfl rfl) (cX (qG qf rfl har.slv (cX (qV rfl rfl (qb ?_))))))))))))
 refine qE (p := (f : Int) < (ar.length : Int)) rfl (fun h1 => ?_) (fun h1 => ?_)
 ·refine qx (qc (qF (qc (qc (qa (qd (ii ((ss.length : Int))) rfl (cX (jp rfl rfl (qd (.bool (decide (((ss.length : Int) : Int) = 0))) rfl ?_)))))))))
  by_cases h2 : ((ss.length : Int) : Int) = 0
  ·refine qo (t := 28) rfl (vT h2) (ql (0) ja rfl qw (by decide) rfl rfl (qo (t := 28) rfl (vT h2) (qi qT rfl (Rd.own [_, _] rfl rfl) (qo (t := 28) rfl (vT h2) (qk (ii ((f : Int))) rfl (qo (t := 28) rfl (vT h2) (qy f qf qr rfl rfl rfl har.slv (by omega) (Nat.mul_one _) (qo (t := 28) rfl (vT h2) (qi qM rfl (har.rd (by omega)) (qo (t := 28) rfl (vT h2) (jw rfl rfl (cX (qL (.bool (decide ((ar.getD f 0 : Int) > 0))) (vT h2) rfl (qb ?_))))))))))))))
   refine qE (p := (ar.getD f 0 : Int) > 0) rfl (fun h3 => ?_) (fun h3 => ?_)
   ·refine jd (qp (qJ (qa (qd (ii ((f : Int))) rfl (cX (qD (((f + 1 : Nat) : Int)) rfl rfl (by omega) (by omega) (qg (ii (((f + 1 : Nat) : Int))) rfl (qb ?_))))))))
    exact ⟨(f + 1, ov, os, cs, m, G1), _, leG1, rF, ⟨rfl, rfl, rfl, rfl, rfl, rfl, ⟨⟩⟩, (sC (sC (sC sR))), ⟨rfl, leG1, (hov), (hC), (by first | exact hm1 | exact hm), (by (try dsimp only) <;> omega), (by first | exact hol1 | exact hol), (by first | exact ho161 | exact ho16), (by first | exact hob1 | exact hob)⟩, (by omega)⟩
   refine qx (qc (qa (cX (ql (0) ja rfl qw (by decide) rfl rfl (cX (qi qT rfl (Rd.own [_, _] rfl rfl) (qd (ii ((f : Int))) rfl (cX (qy f qf qr rfl rfl rfl har.slv (by omega) (Nat.mul_one _) (cX (qi qM rfl (har.rd (by omega)) (cX (XOp.makeSlice (n := (ar.getD f 0).toNat) (bytes := 8) [ii (0)] qf qr typeInfo2 rfl jm rfl rfl (vI (show ar.getD f 0 = (((ar.getD f 0).toNat : Nat) : Int) from by omega)) (vI (show ar.getD f 0 = (((ar.getD f 0).toNat : Nat) : Int) from by omega)) (by omega) (by omega) ?_)))))))))))))
   intro v3 hv2
   rw [intsH_zeros]
   refine qg (v3) rfl (qb (qc (qa (jz [] _ _ rfl (fun F1 le1 hz1 => ?_)))))
   replace har := har.mono le1
   replace hrs := hrs.mono le1
   replace hfi := hfi.mono le1
   replace hss := hss.mono le1
   replace hC := hC.mono le1
   have hf1 : IntsF F1 v3 ((List.replicate ((ar.getD f 0).toNat) 0)) := intsH.fz (xs := (List.replicate ((ar.getD f 0).toNat) 0)) hz1.fz
   skip
   refine qg (.bool (true)) rfl (qb (qF (jg (α := Value × List Int × Bool × Value × List (List Int) × List Value × Nat × FH) (fun xQ => [(2, ssv), (3, ptr b1 0), (4, ptr b2 0), (8, xQ.2.2.2.1), (9, ii ((ss.length : Int))), (10, ii ((f : Int))), (11, xQ.1), (12, .bool (xQ.2.2.1))]) (fun xQ => slH 24 1 xQ.2.2.2.1 xQ.2.2.2.2.2.2.1 xQ.2.2.2.2.2.1 :: cellsH b2 [ii (n), rsv, fiv] 29 :: cellsH b1 [arv] 26 :: L) (fun xQ F' => xQ.2.2.2.2.2.2.2 = F' ∧ F1 ≤ xQ.2.2.2.2.2.2.2 ∧ (IntsF xQ.2.2.2.2.2.2.2 xQ.1 xQ.2.1) ∧ (xQ.2.2.1 = true → InN ss.length xQ.2.1) ∧ ((xQ.2.1.length : Int) = ar.getD f 0) ∧ (IsSl xQ.2.2.2.1) ∧ (RowsC xQ.2.2.2.2.2.2.2 xQ.2.2.2.2.2.1 xQ.2.2.2.2.1) ∧ (xQ.2.2.2.2.2.2.1 = xQ.2.2.2.2.1.length) ∧ (ss.length ≤ xQ.2.2.2.2.1.length) ∧ (xQ.2.2.2.2.1.length ≤ 16) ∧ (∀ r ∈ xQ.2.2.2.2.1, r.length ≤ 300)) (fun xQ => muN ss.length xQ.2.1 xQ.2.2.1) (v3, (List.replicate ((ar.getD f 0).toNat) 0), true, ov, os, cs, m, F1) ⟨rfl, rfl, rfl, rfl, rfl, rfl, rfl, rfl, ⟨⟩⟩ (sC (sC (sC sR))) ⟨rfl, FLe.refl _, (hf1), (fun _ => InN.zero (by omega)), (by (try dsimp only); rw [List.length_replicate]; omega), (hov), (hC), (hm), (hol), (ho16), (hob)⟩ ?_)))
   rintro ⟨lv, l, b, ow, os1, cs1, mq, G2⟩ rE _ _ ⟨rfl, leG, hlv, hb, hlg, how, hC1, hm1, hol1, ho161, hob1⟩
   show X _ _ _ _ (envs [(2, ssv), (3, ptr b1 0), (4, ptr b2 0), (8, ow), (9, ii ((ss.length : Int))), (10, ii ((f : Int))), (11, lv), (12, .bool (b))] rE) _ (slH 24 1 ow mq cs1 :: cellsH b2 [ii (n), rsv, fiv] 29 :: cellsH b1 [arv] 26 :: L)
   replace leG : F1 ≤ G2 := leG
   dsimp only at hlv hb hlg how hC1 hm1 hol1 ho161 hob1
   have hll := haf (by omega)
   have hom := getD_mem hob1
   have leG2 := leG
   replace har := har.mono leG2
   replace hrs := hrs.mono leG2
   replace hfi := hfi.mono leG2
   replace hss := hss.mono leG2
   replace hC := hC.mono leG2
   refine qc (qc (qa (qd (.bool (b)) rfl (qb ?_))))
   refine jr (t := b) rfl (fun h4 => ?_) (fun h4 => ?_)
   ·have hbt : b = true := h4
    have hin := hb hbt
    refine qx (qc (qF (qc ?_)))
    refine X.drawG [slH 24 1 ow mq cs1, cellsH b2 [ii (n), rsv, fiv] 29, cellsH b1 [arv] 26] L 5 [] [[], [], [], [], [2, 3]] [] (phiG [pe (.agg #[ii (n), rsv, fiv]), pe (ii ((f : Int)) : Value), pe ssv, pe lv, fun FF us v => ((v) : Value) = v ∧ (SomeRowsF FF (v) (fun os => os.length = l.length ∧ ∀ r ∈ os, r.length ≤ 300))]) (ownL []) mixed rfl rfl (by kernel_rfl) (by kernel_rfl) (MonoG.get (m1 (m1 (m1 (m1 (mC (fun le h => ⟨h.1, h.2.mono le⟩) MonoG.nil)))))) ?_ ?_
    ·refine gD (fun W Fs R lF z9 => ?_) ?_
     ·replace har := har.mono lF
      replace hrs := hrs.mono lF
      replace hfi := hfi.mono lF
      replace hss := hss.mono lF
      replace hC := hC.mono lF
      replace hlv := hlv.mono lF
      replace hC1 := hC1.mono lF
      refine qh (qu [ii (n), rsv, fiv] jc qN rfl rfl (Rd.ownN [_] rfl rfl) ?_)
      exact ⟨rfl, rfl⟩
     refine gD (fun W Fs R lF z9 => ?_) ?_
     ·refine qh (qk (ii ((f : Int))) rfl ?_)
      exact ⟨rfl, rfl⟩
     refine gD (fun W Fs R lF z9 => ?_) ?_
     ·refine qh (qk (ssv) rfl ?_)
      exact ⟨rfl, rfl⟩
     refine gD (fun W Fs R lF z9 => ?_) ?_
     ·refine qh (qk (lv) rfl ?_)
      exact ⟨rfl, rfl⟩
     refine gD (fun W Fs R lF z9 => ?_) ?_
     ·replace har := har.mono lF
      replace hrs := hrs.mono lF
      replace hfi := hfi.mono lF
      replace hss := hss.mono lF
      replace hC := hC.mono lF
      replace hlv := hlv.mono lF
      replace hC1 := hC1.mono lF
      rw [zB 2 3 (z9 2 rfl) (z9 3 rfl)]
      refine qh (qq (args := [ssv, lv]) call54 rfl (l23Listed_spec hss hlv (hin := (hin)) (hml := (by first | assumption | rfl | omega | simp)) (hmb := (hsb)) (hll := (by omega))) ?_)
      rintro _ F3 _ le3 ⟨⟨x2, rfl, hr2⟩, rfl⟩
      replace har := har.mono le3
      replace hrs := hrs.mono le3
      replace hfi := hfi.mono le3
      replace hss := hss.mono le3
      replace hC := hC.mono le3
      replace hlv := hlv.mono le3
      replace hC1 := hC1.mono le3
      exact ⟨⟨rfl, hr2⟩, rfl⟩
     exact stepsG.nil
    intro W F4 le4 hphi
    obtain ⟨e4, f4_1hp_b⟩ := hphi 4 (by decide)
    obtain ⟨t4X1_b, f4_1hp_b, q4_1_b0, q4_1_b1⟩ := f4_1hp_b
    generalize hu1 : ((W 4)) = u1 at e4 f4_1hp_b
    rw [eS (l := [(0, _), (1, _), (4, u1)]) ⟨(hphi 0 (by decide)), (hphi 1 (by decide)), hu1, ⟨⟩⟩]
    replace har := har.mono le4
    replace hrs := hrs.mono le4
    replace hfi := hfi.mono le4
    replace hss := hss.mono le4
    replace hC := hC.mono le4
    replace hlv := hlv.mono le4
    replace hC1 := hC1.mono le4
    show XL _ _ _ _ _ _ _ (slH 24 1 ow mq cs1 :: cellsH b2 [ii (n), rsv, fiv] 29 :: cellsH b1 [arv] 26 :: L)
    refine cX (qq (args := [.agg #[ii (n), rsv, fiv], ii ((f : Int)), u1]) call53 rfl (l23Image_spec (f := (f : Int)) hrs hfi f4_1hp_b (hA9 := (⟨ar, hA, by (try simp only [Int.toNat_natCast]); omega⟩)) (hsb := (fun j hj => Nat.le_trans (getD_mem (k := 300) (by assumption) j) (by decide))) (hsl4 := (by first | assumption | rfl | omega | simp))) ?_)
    rintro _ F5 _ le5 ⟨x3, x4, rfl, hr3, hr4, hr5, rfl⟩
    replace har := har.mono le5
    replace hrs := hrs.mono le5
    replace hfi := hfi.mono le5
    replace hss := hss.mono le5
    replace hC := hC.mono le5
    replace hlv := hlv.mono le5
    replace hC1 := hC1.mono le5
    refine qg (x3) rfl (qb (qc (qc (qa (qd (ow) rfl (qd (x3) rfl (cX (qq (args := [ow, x3]) call52 rfl (jl [] (l1TermPlaceO_spec (mm := os1) (mcs := cs1) (mn := mq) how hC1 (by first | rfl | assumption | omega) hr3 (hml := (by first | assumption | rfl | omega | simp)) (hmb := (fun j _ => Nat.le_trans (getD_mem hob1 j) (by decide))) (hlt := (by omega)))) ?_))))))))
    rintro _ _ _ _ ⟨⟨rfl, x5, rfl, hr6⟩, rfl⟩
    show XL _ _ _ _ _ _ _ (slH 24 1 ow mq cs1 :: cellsH b2 [ii (n), rsv, fiv] 29 :: cellsH b1 [arv] 26 :: L)
    refine cX (qV rfl rfl (qb ?_))
    refine qE (p := (x5 : Int) < 0) rfl (fun h5 => ?_) (fun h5 => ?_)
    ·refine qa (qd (ow) rfl (qd (x3) rfl (cX (qP (s := 1) [x3] [sN] [(0, [x3])] qz qw ju rfl (by decide) rfl (.cons (cells_one (qS hr3)) CellsAre.nil) rfl ?_))))
     intro v4 hv3
     refine cX (jN (m := 1) (bytes := 24) (cs := cs1) [_] _ [x3] qz typeInfo24 rfl rfl rfl rfl rfl rfl rfl (SlV.own [] rfl) rfl (Rd.lit [] rfl) (qt (qU (qS hr3)) qZ) (by (try simp only [List.length_append, List.length_nil, List.length_cons, List.length_singleton]); omega) (by (try simp only [List.length_append, List.length_nil, List.length_cons, List.length_singleton]); omega) ?_)
     intro v5 hs2 hn1 hm1
     have hc3 := RowsC.snoc hC1 hr3
     refine qg (v5) rfl (qb (qc (qa (qd (v5) rfl (cX (qG qz rfl (SlV.own [_] rfl) (cX (jw rfl rfl (qb ?_)))))))))
     refine qE (p := ((((mq) + 1 : Nat) : Int) : Int) > 16) rfl (fun h6 => ?_) (fun h6 => ?_)
     ·refine qc (qa (qd (v5) rfl (qg (v5) rfl (qg (.bool (false)) rfl (qb (jf [_] _ _ rfl (fun F7 le7 hz2 => ?_)))))))
      replace har := har.mono le7
      replace hrs := hrs.mono le7
      replace hfi := hfi.mono le7
      replace hss := hss.mono le7
      replace hC := hC.mono le7
      replace hlv := hlv.mono le7
      replace hC1 := hC1.mono le7
      replace hc3 := hc3.mono le7
      have hf2 : RowsF F7 v5 (os1 ++ [x4]) := CO.fz hc3 (by first | rfl | omega | (rw [List.length_set]; omega) | (simp; done) | (rw [List.length_append]; simp only [List.length_singleton]; omega) | ((simp only [List.length_append, List.length_singleton, List.length_nil]) <;> omega)) hz2.fz
      refine qC (qK (qn (qn (qK (qK (qn (qn (qK (qn (qv (L' := L) [v5, .bool (false)] (.tuple #[v5, .bool (false)]) (.tmp rfl (.tmp rfl .nil)) rfl (qj (qj (qj (qj (qj leG1 le1) leG2) le4) le5) le7) rF (sD (sD (sD sR))) ?_))))))))))
      exact ⟨⟨_, _, rfl, ⟨_, hf2, ⟨by first | exact hol | (rw [List.length_append]; simp only [List.length_singleton]; omega) | exact hol1, by first | omega | (rw [List.length_append]; simp only [List.length_singleton]; omega), fun h9 => by first | (cases h9; done) | omega, by first | exact hob | exact hob1 | exact mem_snoc9 hob1 (by omega)⟩⟩⟩, rfl⟩
     refine qx (qa (qd (lv) rfl (qd (ii ((ss.length : Int))) rfl (cX (qq (args := [lv, ii (ss.length : Int)]) call51 rfl (l23NextList_spec (n := (ss).length) hlv (hin := (hin)) (hll := (by omega)) (hn := (by omega))) ?_)))))
     rintro _ F8 _ le8 ⟨⟨x6, x7, rfl, hr7⟩, rfl⟩
     obtain ⟨t1, hr7, q1⟩ := hr7
     replace har := har.mono le8
     replace hrs := hrs.mono le8
     replace hfi := hfi.mono le8
     replace hss := hss.mono le8
     replace hC := hC.mono le8
     replace hlv := hlv.mono le8
     replace hC1 := hC1.mono le8
     replace hc3 := hc3.mono le8
     show XL _ _ _ _ _ _ _ (slH 24 1 v4 1 [x3] :: slH 24 1 v5 ((mq) + 1) (cs1 ++ [x3]) :: cellsH b2 [ii (n), rsv, fiv] 29 :: cellsH b1 [arv] 26 :: L)
     refine qd (.tuple #[x6, .bool (x7)]) rfl (cX (jn (x6) rfl rfl (cX (jn (.bool (x7)) rfl rfl (qg (x6) rfl (qg (.bool (x7)) rfl (qb ?_)))))))
     exact ⟨(x6, t1, x7, v5, os1 ++ [x4], cs1 ++ [x3], (mq) + 1, F8), _, (qj (qj (qj leG2 le4) le5) le8), rF, ⟨rfl, rfl, rfl, rfl, rfl, rfl, rfl, rfl, ⟨⟩⟩, (sD (sC (sC (sC sR)))), ⟨rfl, (qj (qj (qj leG2 le4) le5) le8), (hr7), (fun h8 => (q1.2 h8).1), (by (try dsimp only); rw [q1.1]; exact hlg), (hs2), (hc3), (by (try dsimp only); first | exact hm1 | (rw [List.length_append]; simp only [List.length_singleton]; omega)), (by (try dsimp only); first | exact hol1 | (rw [List.length_append]; simp only [List.length_singleton]; omega)), (by (try dsimp only); (try rw [List.length_append]); (try simp only [List.length_singleton]); omega), (by first | exact hob1 | exact mem_snoc9 hob1 (by omega))⟩, (by (try dsimp only); rw [hbt]; exact muN_next (hb hbt) q1)⟩
    refine qx (qc (qa (qd (ow) rfl (cX (qG qz rfl (SlV.own [] rfl) (cX (jw rfl rfl (qb ?_))))))))
    refine qE (p := (((mq : Nat) : Int) : Int) > 16) rfl (fun h7 => ?_) (fun h7 => ?_)
    ·refine qc (qa (qd (ow) rfl (qg (ow) rfl (qg (.bool (false)) rfl (qb (jf [] _ _ rfl (fun F9 le9 hz3 => ?_)))))))
     replace har := har.mono le9
     replace hrs := hrs.mono le9
     replace hfi := hfi.mono le9
     replace hss := hss.mono le9
     replace hC := hC.mono le9
     replace hlv := hlv.mono le9
     replace hC1 := hC1.mono le9
     have hf3 : RowsF F9 ow os1 := CO.fz hC1 (by first | rfl | omega | (rw [List.length_set]; omega) | (simp; done) | (rw [List.length_append]; simp only [List.length_singleton]; omega) | ((simp only [List.length_append, List.length_singleton, List.length_nil]) <;> omega)) hz3.fz
     refine qC (qK (qn (qn (qK (qK (qn (qn (qK (qn (qv (L' := L) [ow, .bool (false)] (.tuple #[ow, .bool (false)]) (.tmp rfl (.tmp rfl .nil)) rfl (qj (qj (qj (qj (qj leG1 le1) leG2) le4) le5) le9) rF (sD (sD sR)) ?_))))))))))
     exact ⟨⟨_, _, rfl, ⟨_, hf3, ⟨by first | exact hol | (rw [List.length_append]; simp only [List.length_singleton]; omega) | exact hol1, by first | omega | (rw [List.length_append]; simp only [List.length_singleton]; omega), fun h9 => by first | (cases h9; done) | omega, by first | exact hob | exact hob1 | exact mem_snoc9 hob1 (by omega)⟩⟩⟩, rfl⟩
    refine qx (qa (qd (lv) rfl (qd (ii ((ss.length : Int))) rfl (cX (qq (args := [lv, ii (ss.length : Int)]) call51 rfl (l23NextList_spec (n := (ss).length) hlv (hin := (hin)) (hll := (by omega)) (hn := (by omega))) ?_)))))
    rintro _ F10 _ le10 ⟨⟨x8, x9, rfl, hr8⟩, rfl⟩
    obtain ⟨t2, hr8, q2⟩ := hr8
    replace har := har.mono le10
    replace hrs := hrs.mono le10
    replace hfi := hfi.mono le10
    replace hss := hss.mono le10
    replace hC := hC.mono le10
    replace hlv := hlv.mono le10
    replace hC1 := hC1.mono le10
    show XL _ _ _ _ _ _ _ (slH 24 1 ow mq cs1 :: cellsH b2 [ii (n), rsv, fiv] 29 :: cellsH b1 [arv] 26 :: L)
    refine qd (.tuple #[x8, .bool (x9)]) rfl (cX (jn (x8) rfl rfl (cX (jn (.bool (x9)) rfl rfl (qg (x8) rfl (qg (.bool (x9)) rfl (qb ?_)))))))
    exact ⟨(x8, t2, x9, ow, os1, cs1, mq, F10), _, (qj (qj (qj leG2 le4) le5) le10), rF, ⟨rfl, rfl, rfl, rfl, rfl, rfl, rfl, rfl, ⟨⟩⟩, (sC (sC (sC sR))), ⟨rfl, (qj (qj (qj leG2 le4) le5) le10), (hr8), (fun h8 => (q2.2 h8).1), (by (try dsimp only); rw [q2.1]; exact hlg), (how), (hC1), (by (try dsimp only); first | exact hm1 | (rw [List.length_append]; simp only [List.length_singleton]; omega)), (by (try dsimp only); first | exact hol1 | (rw [List.length_append]; simp only [List.length_singleton]; omega)), (by (try dsimp only); (try rw [List.length_append]); (try simp only [List.length_singleton]); omega), (by first | exact hob1 | exact mem_snoc9 hob1 (by omega))⟩, (by (try dsimp only); rw [hbt]; exact muN_next (hb hbt) q2)⟩
   refine jd (qp (qp (qJ (qa (qd (ii ((f : Int))) rfl (cX (qD (((f + 1 : Nat) : Int)) rfl rfl (by omega) (by omega) (qg (ii (((f + 1 : Nat) : Int))) rfl (qb ?_)))))))))
   exact ⟨(f + 1, ow, os1, cs1, mq, G2), _, (qj (qj leG1 le1) leG2), rF, ⟨rfl, rfl, rfl, rfl, rfl, rfl, ⟨⟩⟩, (sC (sC (sC sR))), ⟨rfl, (qj (qj leG1 le1) leG2), (how), (hC1), (by first | exact hm1 | exact hm), (by (try dsimp only) <;> omega), (by first | exact hol1 | exact hol), (by first | exact ho161 | exact ho16), (by first | exact hob1 | exact hob)⟩, (by omega)⟩
  refine qm (t := 28) rfl (vF h2) (qm (t := 28) rfl (vF h2) (qm (t := 28) rfl (vF h2) (qm (t := 28) rfl (vF h2) (qm (t := 28) rfl (vF h2) (qm (t := 28) rfl (vF h2) (cX (qQ (.bool (false)) (vF h2) rfl (qb (jG rfl (qx (qc (qa ?_))))))))))))
  refine cX (ql (0) ja rfl qw (by decide) rfl rfl (cX (qi qT rfl (Rd.own [_, _] rfl rfl) (qd (ii ((f : Int))) rfl (cX (qy f qf qr rfl rfl rfl har.slv (by omega) (Nat.mul_one _) (cX (qi qM rfl (har.rd (by omega)) (cX (XOp.makeSlice (n := (ar.getD f 0).toNat) (bytes := 8) [ii (0)] qf qr typeInfo2 rfl jm rfl rfl (vI (show ar.getD f 0 = (((ar.getD f 0).toNat : Nat) : Int) from by omega)) (vI (show ar.getD f 0 = (((ar.getD f 0).toNat : Nat) : Int) from by omega)) (by omega) (by omega) ?_))))))))))
  intro v6 hv4
  rw [intsH_zeros]
  refine qg (v6) rfl (qb (qc (qa (jz [] _ _ rfl (fun F11 le11 hz4 => ?_)))))
  replace har := har.mono le11
  replace hrs := hrs.mono le11
  replace hfi := hfi.mono le11
  replace hss := hss.mono le11
  replace hC := hC.mono le11
  have hf4 : IntsF F11 v6 ((List.replicate ((ar.getD f 0).toNat) 0)) := intsH.fz (xs := (List.replicate ((ar.getD f 0).toNat) 0)) hz4.fz
  skip
  refine qg (.bool (true)) rfl (qb (qF (jg (α := Value × List Int × Bool × Value × List (List Int) × List Value × Nat × FH) (fun xQ => [(2, ssv), (3, ptr b1 0), (4, ptr b2 0), (8, xQ.2.2.2.1), (9, ii ((ss.length : Int))), (10, ii ((f : Int))), (11, xQ.1), (12, .bool (xQ.2.2.1))]) (fun xQ => slH 24 1 xQ.2.2.2.1 xQ.2.2.2.2.2.2.1 xQ.2.2.2.2.2.1 :: cellsH b2 [ii (n), rsv, fiv] 29 :: cellsH b1 [arv] 26 :: L) (fun xQ F' => xQ.2.2.2.2.2.2.2 = F' ∧ F11 ≤ xQ.2.2.2.2.2.2.2 ∧ (IntsF xQ.2.2.2.2.2.2.2 xQ.1 xQ.2.1) ∧ (xQ.2.2.1 = true → InN ss.length xQ.2.1) ∧ ((xQ.2.1.length : Int) = ar.getD f 0) ∧ (IsSl xQ.2.2.2.1) ∧ (RowsC xQ.2.2.2.2.2.2.2 xQ.2.2.2.2.2.1 xQ.2.2.2.2.1) ∧ (xQ.2.2.2.2.2.2.1 = xQ.2.2.2.2.1.length) ∧ (ss.length ≤ xQ.2.2.2.2.1.length) ∧ (xQ.2.2.2.2.1.length ≤ 16) ∧ (∀ r ∈ xQ.2.2.2.2.1, r.length ≤ 300)) (fun xQ => muN ss.length xQ.2.1 xQ.2.2.1) (v6, (List.replicate ((ar.getD f 0).toNat) 0), true, ov, os, cs, m, F11) ⟨rfl, rfl, rfl, rfl, rfl, rfl, rfl, rfl, ⟨⟩⟩ (sC (sC (sC sR))) ⟨rfl, FLe.refl _, (hf4), (fun _ => InN.zero (by omega)), (by (try dsimp only); rw [List.length_replicate]; omega), (hov), (hC), (hm), (hol), (ho16), (hob)⟩ ?_)))
  rintro ⟨lv, l, b, ow, os1, cs1, mq, G3⟩ rE _ _ ⟨rfl, leG, hlv, hb, hlg, how, hC1, hm1, hol1, ho161, hob1⟩
  show X _ _ _ _ (envs [(2, ssv), (3, ptr b1 0), (4, ptr b2 0), (8, ow), (9, ii ((ss.length : Int))), (10, ii ((f : Int))), (11, lv), (12, .bool (b))] rE) _ (slH 24 1 ow mq cs1 :: cellsH b2 [ii (n), rsv, fiv] 29 :: cellsH b1 [arv] 26 :: L)
  replace leG : F11 ≤ G3 := leG
  dsimp only at hlv hb hlg how hC1 hm1 hol1 ho161 hob1
  have hll := haf (by omega)
  have hom := getD_mem hob1
  have leG3 := leG
  replace har := har.mono leG3
  replace hrs := hrs.mono leG3
  replace hfi := hfi.mono leG3
  replace hss := hss.mono leG3
  replace hC := hC.mono leG3
  refine qc (qc (qa (qd (.bool (b)) rfl (qb ?_))))
  refine jr (t := b) rfl (fun h8 => ?_) (fun h8 => ?_)
  ·have hbt : b = true := h8
   have hin := hb hbt
   refine qx (qc (qF (qc ?_)))
   refine X.drawG [slH 24 1 ow mq cs1, cellsH b2 [ii (n), rsv, fiv] 29, cellsH b1 [arv] 26] L 5 [] [[], [], [], [], [2, 3]] [] (phiG [pe (.agg #[ii (n), rsv, fiv]), pe (ii ((f : Int)) : Value), pe ssv, pe lv, fun FF us v => ((v) : Value) = v ∧ (SomeRowsF FF (v) (fun os => os.length = l.length ∧ ∀ r ∈ os, r.length ≤ 300))]) (ownL []) mixed rfl rfl (by kernel_rfl) (by kernel_rfl) (MonoG.get (m1 (m1 (m1 (m1 (mC (fun le h => ⟨h.1, h.2.mono le⟩) MonoG.nil)))))) ?_ ?_
   ·refine gD (fun W Fs R lF z9 => ?_) ?_
    ·replace har := har.mono lF
     replace hrs := hrs.mono lF
     replace hfi := hfi.mono lF
     replace hss := hss.mono lF
     replace hC := hC.mono lF
     replace hlv := hlv.mono lF
     replace hC1 := hC1.mono lF
     refine qh (qu [ii (n), rsv, fiv] jc qN rfl rfl (Rd.ownN [_] rfl rfl) ?_)
     exact ⟨rfl, rfl⟩
    refine gD (fun W Fs R lF z9 => ?_) ?_
    ·refine qh (qk (ii ((f : Int))) rfl ?_)
     exact ⟨rfl, rfl⟩
    refine gD (fun W Fs R lF z9 => ?_) ?_
    ·refine qh (qk (ssv) rfl ?_)
     exact ⟨rfl, rfl⟩
    refine gD (fun W Fs R lF z9 => ?_) ?_
    ·refine qh (qk (lv) rfl ?_)
     exact ⟨rfl, rfl⟩
    refine gD (fun W Fs R lF z9 => ?_) ?_
    ·replace har := har.mono lF
     replace hrs := hrs.mono lF
     replace hfi := hfi.mono lF
     replace hss := hss.mono lF
     replace hC := hC.mono lF
     replace hlv := hlv.mono lF
     replace hC1 := hC1.mono lF
     rw [zB 2 3 (z9 2 rfl) (z9 3 rfl)]
     refine qh (qq (args := [ssv, lv]) call54 rfl (l23Listed_spec hss hlv (hin := (hin)) (hml := (by first | assumption | rfl | omega | simp)) (hmb := (hsb)) (hll := (by omega))) ?_)
     rintro _ F13 _ le13 ⟨⟨x11, rfl, hr10⟩, rfl⟩
     replace hrs := hrs.mono le13
     replace hfi := hfi.mono le13
     replace hC := hC.mono le13
     replace hlv := hlv.mono le13
     replace hC1 := hC1.mono le13
     exact ⟨⟨rfl, hr10⟩, rfl⟩
    exact stepsG.nil
   intro W F14 le14 hphi
   obtain ⟨e4, f4_2hp_b⟩ := hphi 4 (by decide)
   obtain ⟨t4X2_b, f4_2hp_b, q4_2_b0, q4_2_b1⟩ := f4_2hp_b
   generalize hu2 : ((W 4)) = u2 at e4 f4_2hp_b
   rw [eS (l := [(0, _), (1, _), (4, u2)]) ⟨(hphi 0 (by decide)), (hphi 1 (by decide)), hu2, ⟨⟩⟩]
   replace hrs := hrs.mono le14
   replace hfi := hfi.mono le14
   replace hC := hC.mono le14
   replace hlv := hlv.mono le14
   replace hC1 := hC1.mono le14
   show XL _ _ _ _ _ _ _ (slH 24 1 ow mq cs1 :: cellsH b2 [ii (n), rsv, fiv] 29 :: cellsH b1 [arv] 26 :: L)
   refine cX (qq (args := [.agg #[ii (n), rsv, fiv], ii ((f : Int)), u2]) call53 rfl (l23Image_spec (f := (f : Int)) hrs hfi f4_2hp_b (hA9 := (⟨ar, hA, by (try simp only [Int.toNat_natCast]); omega⟩)) (hsb := (fun j hj => Nat.le_trans (getD_mem (k := 300) (by assumption) j) (by decide))) (hsl4 := (by first | assumption | rfl | omega | simp))) ?_)
   rintro _ F15 _ le15 ⟨x12, x13, rfl, hr11, hr12, hr13, rfl⟩
   replace hC := hC.mono le15
   replace hlv := hlv.mono le15
   replace hC1 := hC1.mono le15
   refine qg (x12) rfl (qb (qc (qc (qa (qd (ow) rfl (qd (x12) rfl (cX (qq (args := [ow, x12]) call52 rfl (jl [] (l1TermPlaceO_spec (mm := os1) (mcs := cs1) (mn := mq) how hC1 (by first | rfl | assumption | omega) hr11 (hml := (by first | assumption | rfl | omega | simp)) (hmb := (fun j _ => Nat.le_trans (getD_mem hob1 j) (by decide))) (hlt := (by omega)))) ?_))))))))
   rintro _ _ _ _ ⟨⟨rfl, x14, rfl, hr14⟩, rfl⟩
   show XL _ _ _ _ _ _ _ (slH 24 1 ow mq cs1 :: cellsH b2 [ii (n), rsv, fiv] 29 :: cellsH b1 [arv] 26 :: L)
   refine cX (qV rfl rfl (qb ?_))
   refine qE (p := (x14 : Int) < 0) rfl (fun h9 => ?_) (fun h9 => ?_)
   ·refine qa (qd (ow) rfl (qd (x12) rfl (cX (qP (s := 1) [x12] [sN] [(0, [x12])] qz qw ju rfl (by decide) rfl (.cons (cells_one (qS hr11)) CellsAre.nil) rfl ?_))))
    intro v7 hv5
    refine cX (jN (m := 1) (bytes := 24) (cs := cs1) [_] _ [x12] qz typeInfo24 rfl rfl rfl rfl rfl rfl rfl (SlV.own [] rfl) rfl (Rd.lit [] rfl) (qt (qU (qS hr11)) qZ) (by (try simp only [List.length_append, List.length_nil, List.length_cons, List.length_singleton]); omega) (by (try simp only [List.length_append, List.length_nil, List.length_cons, List.length_singleton]); omega) ?_)
    intro v8 hs3 hn2 hm2
    have hc4 := RowsC.snoc hC1 hr11
    refine qg (v8) rfl (qb (qc (qa (qd (v8) rfl (cX (qG qz rfl (SlV.own [_] rfl) (cX (jw rfl rfl (qb ?_)))))))))
    refine qE (p := ((((mq) + 1 : Nat) : Int) : Int) > 16) rfl (fun h10 => ?_) (fun h10 => ?_)
    ·refine qc (qa (qd (v8) rfl (qg (v8) rfl (qg (.bool (false)) rfl (qb (jf [_] _ _ rfl (fun F17 le17 hz5 => ?_)))))))
     replace hC := hC.mono le17
     replace hlv := hlv.mono le17
     replace hC1 := hC1.mono le17
     replace hc4 := hc4.mono le17
     have hf5 : RowsF F17 v8 (os1 ++ [x13]) := CO.fz hc4 (by first | rfl | omega | (rw [List.length_set]; omega) | (simp; done) | (rw [List.length_append]; simp only [List.length_singleton]; omega) | ((simp only [List.length_append, List.length_singleton, List.length_nil]) <;> omega)) hz5.fz
     refine qC (qK (qn (qn (qK (qK (qn (qn (qK (qn (qv (L' := L) [v8, .bool (false)] (.tuple #[v8, .bool (false)]) (.tmp rfl (.tmp rfl .nil)) rfl (qj (qj (qj (qj (qj leG1 le11) leG3) le14) le15) le17) rF (sD (sD (sD sR))) ?_))))))))))
     exact ⟨⟨_, _, rfl, ⟨_, hf5, ⟨by first | exact hol | (rw [List.length_append]; simp only [List.length_singleton]; omega) | exact hol1, by first | omega | (rw [List.length_append]; simp only [List.length_singleton]; omega), fun h9 => by first | (cases h9; done) | omega, by first | exact hob | exact hob1 | exact mem_snoc9 hob1 (by omega)⟩⟩⟩, rfl⟩
    refine qx (qa (qd (lv) rfl (qd (ii ((ss.length : Int))) rfl (cX (qq (args := [lv, ii (ss.length : Int)]) call51 rfl (l23NextList_spec (n := (ss).length) hlv (hin := (hin)) (hll := (by omega)) (hn := (by omega))) ?_)))))
    rintro _ F18 _ le18 ⟨⟨x15, x16, rfl, hr15⟩, rfl⟩
    obtain ⟨t3, hr15, q3⟩ := hr15
    replace hC := hC.mono le18
    replace hlv := hlv.mono le18
    replace hC1 := hC1.mono le18
    replace hc4 := hc4.mono le18
    show XL _ _ _ _ _ _ _ (slH 24 1 v7 1 [x12] :: slH 24 1 v8 ((mq) + 1) (cs1 ++ [x12]) :: cellsH b2 [ii (n), rsv, fiv] 29 :: cellsH b1 [arv] 26 :: L)
    refine qd (.tuple #[x15, .bool (x16)]) rfl (cX (jn (x15) rfl rfl (cX (jn (.bool (x16)) rfl rfl (qg (x15) rfl (qg (.bool (x16)) rfl (qb ?_)))))))
    exact ⟨(x15, t3, x16, v8, os1 ++ [x13], cs1 ++ [x12], (mq) + 1, F18), _, (qj (qj (qj leG3 le14) le15) le18), rF, ⟨rfl, rfl, rfl, rfl, rfl, rfl, rfl, rfl, ⟨⟩⟩, (sD (sC (sC (sC sR)))), ⟨rfl, (qj (qj (qj leG3 le14) le15) le18), (hr15), (fun h8 => (q3.2 h8).1), (by (try dsimp only); rw [q3.1]; exact hlg), (hs3), (hc4), (by (try dsimp only); first | exact hm1 | (rw [List.length_append]; simp only [List.length_singleton]; omega)), (by (try dsimp only); first | exact hol1 | (rw [List.length_append]; simp only [List.length_singleton]; omega)), (by (try dsimp only); (try rw [List.length_append]); (try simp only [List.length_singleton]); omega), (by first | exact hob1 | exact mem_snoc9 hob1 (by omega))⟩, (by (try dsimp only); rw [hbt]; exact muN_next (hb hbt) q3)⟩
   refine qx (qc (qa (qd (ow) rfl (cX (qG qz rfl (SlV.own [] rfl) (cX (jw rfl rfl (qb ?_))))))))
   refine qE (p := (((mq : Nat) : Int) : Int) > 16) rfl (fun h11 => ?_) (fun h11 => ?_)
   ·refine qc (qa (qd (ow) rfl (qg (ow) rfl (qg (.bool (false)) rfl (qb (jf [] _ _ rfl (fun F19 le19 hz6 => ?_)))))))
    replace hC := hC.mono le19
    replace hlv := hlv.mono le19
    replace hC1 := hC1.mono le19
    have hf6 : RowsF F19 ow os1 := CO.fz hC1 (by first | rfl | omega | (rw [List.length_set]; omega) | (simp; done) | (rw [List.length_append]; simp only [List.length_singleton]; omega) | ((simp only [List.length_append, List.length_singleton, List.length_nil]) <;> omega)) hz6.fz
    refine qC (qK (qn (qn (qK (qK (qn (qn (qK (qn (qv (L' := L) [ow, .bool (false)] (.tuple #[ow, .bool (false)]) (.tmp rfl (.tmp rfl .nil)) rfl (qj (qj (qj (qj (qj leG1 le11) leG3) le14) le15) le19) rF (sD (sD sR)) ?_))))))))))
    exact ⟨⟨_, _, rfl, ⟨_, hf6, ⟨by first | exact hol | (rw [List.length_append]; simp only [List.length_singleton]; omega) | exact hol1, by first | omega | (rw [List.length_append]; simp only [List.length_singleton]; omega), fun h9 => by first | (cases h9; done) | omega, by first | exact hob | exact hob1 | exact mem_snoc9 hob1 (by omega)⟩⟩⟩, rfl⟩
   refine qx (qa (qd (lv) rfl (qd (ii ((ss.length : Int))) rfl (cX (qq (args := [lv, ii (ss.length : Int)]) call51 rfl (l23NextList_spec (n := (ss).length) hlv (hin := (hin)) (hll := (by omega)) (hn := (by omega))) ?_)))))
   rintro _ F20 _ le20 ⟨⟨x17, x18, rfl, hr16⟩, rfl⟩
   obtain ⟨t4, hr16, q4⟩ := hr16
   replace hC := hC.mono le20
   replace hC1 := hC1.mono le20
   show XL _ _ _ _ _ _ _ (slH 24 1 ow mq cs1 :: cellsH b2 [ii (n), rsv, fiv] 29 :: cellsH b1 [arv] 26 :: L)
   refine qd (.tuple #[x17, .bool (x18)]) rfl (cX (jn (x17) rfl rfl (cX (jn (.bool (x18)) rfl rfl (qg (x17) rfl (qg (.bool (x18)) rfl (qb ?_)))))))
   exact ⟨(x17, t4, x18, ow, os1, cs1, mq, F20), _, (qj (qj (qj leG3 le14) le15) le20), rF, ⟨rfl, rfl, rfl, rfl, rfl, rfl, rfl, rfl, ⟨⟩⟩, (sC (sC (sC sR))), ⟨rfl, (qj (qj (qj leG3 le14) le15) le20), (hr16), (fun h8 => (q4.2 h8).1), (by (try dsimp only); rw [q4.1]; exact hlg), (how), (hC1), (by (try dsimp only); first | exact hm1 | (rw [List.length_append]; simp only [List.length_singleton]; omega)), (by (try dsimp only); first | exact hol1 | (rw [List.length_append]; simp only [List.length_singleton]; omega)), (by (try dsimp only); (try rw [List.length_append]); (try simp only [List.length_singleton]); omega), (by first | exact hob1 | exact mem_snoc9 hob1 (by omega))⟩, (by (try dsimp only); rw [hbt]; exact muN_next (hb hbt) q4)⟩
  refine jd (qp (qp (qJ (qa (qd (ii ((f : Int))) rfl (cX (qD (((f + 1 : Nat) : Int)) rfl rfl (by omega) (by omega) (qg (ii (((f + 1 : Nat) : Int))) rfl (qb ?_)))))))))
  exact ⟨(f + 1, ow, os1, cs1, mq, G3), _, (qj (qj leG1 le11) leG3), rF, ⟨rfl, rfl, rfl, rfl, rfl, rfl, ⟨⟩⟩, (sC (sC (sC sR))), ⟨rfl, (qj (qj leG1 le11) leG3), (how), (hC1), (by first | exact hm1 | exact hm), (by (try dsimp only) <;> omega), (by first | exact hol1 | exact hol), (by first | exact ho161 | exact ho16), (by first | exact hob1 | exact hob)⟩, (by omega)⟩
 refine jd (qp (qp (qJ (qc (qa (qd (ov) rfl (qg (ov) rfl (qg (.bool (true)) rfl (qb (jf [] _ _ rfl (fun F21 le21 hz7 => ?_)))))))))))
 replace hC := hC.mono le21
 have hf7 : RowsF F21 ov os := CO.fz hC (by first | rfl | omega | (rw [List.length_set]; omega) | (simp; done) | (rw [List.length_append]; simp only [List.length_singleton]; omega) | ((simp only [List.length_append, List.length_singleton, List.length_nil]) <;> omega)) hz7.fz
 refine qC (qv (L' := L) [ov, .bool (true)] (.tuple #[ov, .bool (true)]) (.tmp rfl (.tmp rfl .nil)) rfl (qj leG1 le21) rF (sD (sD sR)) ?_)
 exact ⟨⟨_, _, rfl, ⟨_, hf7, ⟨by first | exact hol | (rw [List.length_append]; simp only [List.length_singleton]; omega) | exact hol1, by first | omega | (rw [List.length_append]; simp only [List.length_singleton]; omega), fun h9 => by first | (cases h9; done) | omega, by first | exact hob | exact hob1 | exact mem_snoc9 hob1 (by omega)⟩⟩⟩, rfl⟩

/- spec.l23Sets -/
set_option maxHeartbeats 1000000 in
set_option maxRecDepth 20000 in
theorem l23Sets_spec {F : FH} {L : List HP}  {arv : Value} {ar : List Int} (har : IntsF F arv ar) {n : Int} {rsv : Value} {rs : List TranT} (hrs : TransF F rsv rs) {fiv : Value} {fi : List Int} (hfi : IntsF F fiv fi) (hA : AutoOk ar n rs fi) :
    Does prog 50 [.agg #[arv], .agg #[ii (n), rsv, fiv]] F (L) (fun v F' L' => (∃ (a : Value), ∃ (ok : Bool), (.tuple #[a, .bool (ok)] : Value) = v ∧ (SomeRowsF F' a (fun os => SetsR os ok))) ∧ L = L') := by
 refine qO func50 rfl rfl rfl (qc (qa (cX (ji [arv] rfl rfl ?_))))
 intro b1
 refine cX (ji [ii (n), rsv, fiv] rfl rfl ?_)
 intro b2
 refine qg (sN) rfl (qg (.bool (false)) rfl (qb (qc (qa (cX (qP (s := 1) [] [sN] [] qz qw ju rfl (by decide) rfl CellsAre.nil rfl ?_))))))
 intro v1 hv1
 have hc1 : RowsC F [] ([] : List (List Int)) := (CO.nil : RowsC F [] [])
 refine jz [] _ _ rfl (fun F1 le1 hz1 => ?_)
 replace har := har.mono le1
 replace hrs := hrs.mono le1
 replace hfi := hfi.mono le1
 replace hc1 := hc1.mono le1
 have hf1 : RowsF F1 v1 (([] : List (List Int))) := CO.fz hc1 (by first | rfl | omega | (rw [List.length_set]; omega) | (simp; done) | (rw [List.length_append]; simp only [List.length_singleton]; omega) | ((simp only [List.length_append, List.length_singleton, List.length_nil]) <;> omega)) hz1.fz
 skip
 refine qg (v1) rfl (qb (qF (jg (α := Value × List (List Int) × FH) (fun xQ => [(2, ptr b1 0), (3, ptr b2 0), (6, xQ.1)]) (fun xQ => cellsH b2 [ii (n), rsv, fiv] 29 :: cellsH b1 [arv] 26 :: L) (fun xQ F' => xQ.2.2 = F' ∧ F1 ≤ xQ.2.2 ∧ (RowsF xQ.2.2 xQ.1 xQ.2.1) ∧ (xQ.2.1.length ≤ 16) ∧ (∀ r ∈ xQ.2.1, r.length ≤ 300)) (fun xQ => 17 - xQ.2.1.length) (v1, ([] : List (List Int)), F1) ⟨rfl, rfl, rfl, ⟨⟩⟩ (sC (sC sR)) ⟨rfl, FLe.refl _, (hf1), (Nat.zero_le _), (fun r hr => absurd hr (by simp))⟩ ?_)))
 rintro ⟨sv, ss, G1⟩ rE _ _ ⟨rfl, leG, hsv, hs16, hsb⟩
 show X _ _ _ _ (envs [(2, ptr b1 0), (3, ptr b2 0), (6, sv)] rE) _ (cellsH b2 [ii (n), rsv, fiv] 29 :: cellsH b1 [arv] 26 :: L)
 replace leG : F1 ≤ G1 := leG
 dsimp only at hsv hs16 hsb
 have hsm := getD_mem hsb
 have leG1 := leG
 replace har := har.mono leG1
 replace hrs := hrs.mono leG1
 replace hfi := hfi.mono leG1
 refine qF (qc (qa (cX (qu [arv] qY qI rfl rfl (Rd.ownN [_] rfl rfl) (cX (qu [ii (n), rsv, fiv] jc qN rfl rfl (Rd.ownN [] rfl rfl) (qd (sv) rfl (cX (qq (args := [.agg #[arv], .agg #[ii (n), rsv, fiv], sv]) call75 rfl (l23Round_spec har hrs hfi hsv (hA := (hA)) (hsl := (hs16)) (hsb := (fun i _ => hsm i))) ?_)))))))))
 rintro _ F2 _ le2 ⟨⟨x1, x2, rfl, hr1⟩, rfl⟩
 obtain ⟨t1, hr1, q1⟩ := hr1
 replace hsv := hsv.mono le2
 show XL _ _ _ _ _ _ _ (cellsH b2 [ii (n), rsv, fiv] 29 :: cellsH b1 [arv] 26 :: L)
 refine qd (.tuple #[x1, .bool (x2)]) rfl (cX (jn (x1) rfl rfl (cX (jn (.bool (x2)) rfl rfl (qg (x1) rfl (qg (.bool (x2)) rfl (qb (qc (qc (qa (qd (.bool (x2)) rfl (cX (jx rfl (qb ?_))))))))))))))
 refine jr (t := !(x2)) rfl (fun h1 => ?_) (fun h1 => ?_)
 ·have hok9 := Bool.not_inj (y := false) h1
  refine qc (qa (qd (x1) rfl (qg (x1) rfl (qg (.bool (false)) rfl (qb (qC (qn (qK (qn (qK (qv (L' := L) [x1, .bool (false)] (.tuple #[x1, .bool (false)]) (.tmp rfl (.tmp rfl .nil)) rfl (qj (qj le1 leG1) le2) rF (sD (sD sR)) ?_)))))))))))
  exact ⟨⟨_, _, rfl, ⟨_, hr1, ⟨q1.2.1, q1.2.2.2, fun h9 => by cases h9⟩⟩⟩, rfl⟩
 have hok9 := Bool.not_inj (y := true) h1
 refine qx (qc (qc (qa (qd (x1) rfl (cX (qG qz rfl hr1.slv (qd (sv) rfl (cX (qG qz rfl hsv.slv (cX (jp rfl rfl (qb ?_))))))))))))
 refine qE (p := ((t1.length : Int) : Int) = (ss.length : Int)) rfl (fun h2 => ?_) (fun h2 => ?_)
 ·refine qc (qa (qd (sv) rfl (qd (sv) rfl (cX (qG qz rfl hsv.slv (cX (jw rfl rfl (qg (sv) rfl (qg (.bool (decide (((ss.length : Int) : Int) > 0))) rfl (qb (qC (qn (qK (qn (qK (qv (L' := L) [sv, .bool (decide (((ss.length : Int) : Int) > 0))] (.tuple #[sv, .bool (decide (((ss.length : Int) : Int) > 0))]) (.tmp rfl (.tmp rfl .nil)) rfl (qj (qj le1 leG1) le2) rF (sD (sD sR)) ?_))))))))))))))))
  exact ⟨⟨_, _, rfl, ⟨_, hsv, ⟨by omega, hsb, fun h9 => ⟨of_decide_eq_true h9, hs16⟩⟩⟩⟩, rfl⟩
 refine qx (qa (qd (x1) rfl (qg (x1) rfl (qb ?_))))
 exact ⟨(x1, t1, F2), _, (qj leG1 le2), rF, ⟨rfl, rfl, rfl, ⟨⟩⟩, (sC (sC sR)), ⟨rfl, (qj leG1 le2), (hr1), (q1.2.2.1 hok9), (q1.2.2.2)⟩, (by have h9 := q1; have h8 := h9.1; have h7 := h9.2.2.1 hok9; (try dsimp only); omega)⟩
theorem l23ImageP_spec {F : FH} {L : List HP} {n : Int} {rsv : Value} {rs : List TranT} (hrs : TransF F rsv rs) {fiv : Value} {fi : List Int} (hfi : IntsF F fiv fi) {f : Int} {ssv : Value} {ss : List (List Int)} (hss : RowsF F ssv ss) (hA9 : ∃ ar, AutoOk ar n rs fi ∧ (ss.length : Int) = ar.getD f.toNat 0) (hsb : ∀ j, j < ss.length → (ss.getD j []).length ≤ 4000000) (hsl4 : ss.length ≤ 4000000) :
    Does prog 53 [.agg #[.int .i64 n, rsv, fiv], .int .i64 f, ssv] F L (fun v F' L' => (∃ (a : Value), (a : Value) = v ∧ (SomesF F' a (fun u => u.length ≤ 300))) ∧ L = L') :=
  (l23Image_spec hrs hfi hss hA9 hsb hsl4).mono (by rintro _ F' L' le ⟨a, os, rfl, h, _, hl, rfl⟩; exact ⟨⟨_, rfl, ⟨_, h, hl⟩⟩, rfl⟩)


/- spec.SureAuto -/
set_option maxHeartbeats 2000000 in
set_option maxRecDepth 20000 in
theorem SureAuto_spec {F : FH} {L : List HP}  {arv : Value} {ar : List Int} (har : IntsF F arv ar) {n : Int} {rsv : Value} {rs : List TranT} (hrs : TransF F rsv rs) {fiv : Value} {fi : List Int} (hfi : IntsF F fiv fi) (hla : ar.length ≤ 4000000) (hlr : rs.length ≤ 4000000) (hrb : ∀ i, i < rs.length → (rs.getD i (0, [], 0)).2.1.length ≤ 4000000) (hlf : fi.length ≤ 4000000) :
    Does prog 20 [.agg #[arv], .agg #[ii (n), rsv, fiv]] F (L) (fun v F' L' => (∃ (a : Value), ∃ (b : Value), ∃ (z : Int), ∃ (os : List TranT), ∃ (gs : List Int), ∃ (ok : Bool), (.tuple #[.agg #[ii (z), a, b], .bool (ok)] : Value) = v ∧ (TransF F' a os) ∧ (IntsF F' b gs) ∧ (0 ≤ z ∧ z ≤ 16) ∧ (autoS 0 os gs) ∧ (Fresh F F' (star [transD 2 68 a os, intsH 2 b gs]))) ∧ L = L') := by
 refine qO func20 rfl rfl rfl (qc (qa (cX (ji [arv] rfl rfl ?_))))
 intro b1
 refine cX (ji [ii (n), rsv, fiv] rfl rfl ?_)
 intro b2
 refine cX (jt [ii (0), sN, sN] jK rfl ?_)
 intro b3
 refine qg (.bool (false)) rfl (qb (qc (qc (qa (cX (qu [arv] qY qI rfl rfl (Rd.ownN [_, _] rfl rfl) (cX (qu [ii (n), rsv, fiv] jc qN rfl rfl (Rd.ownN [_] rfl rfl) (cX (qq (args := [.agg #[arv], .agg #[ii (n), rsv, fiv]]) call13 rfl (sAutoOk_spec har hrs hfi (hla := (by first | assumption | rfl | omega | simp)) (hlr := (by first | assumption | rfl | omega | simp)) (hrb := (hrb)) (hlf := (by first | assumption | rfl | omega | simp))) ?_))))))))))
 rintro _ _ _ _ ⟨rfl, rfl, rfl⟩
 refine cX (jx rfl (qb ?_))
 refine jr (t := !(autoB ar n rs fi)) rfl (fun h1 => ?_) (fun h1 => ?_)
 ·have hA : autoB ar n rs fi = false := Bool.not_inj (y := false) h1
  refine qc (qa (cX (XOp.build [ii (0), sN, sN] [ii (0), sN, sN] [(0, 1), (1, 1), (2, 1)] [] qA jK rfl (.cons rfl qr (.cons rfl jh (.cons rfl qw PlacesAre.nil))) rfl CellsAre.nil (cX (qX [] _ [ii (0), sN, sN] qN rfl rfl rfl (qt rfl (qt rfl (qt rfl qZ))) rfl rfl rfl (qg (.bool (false)) rfl (qb (qC (qn (qv (L' := L) [.agg #[ii (0), sN, sN], .bool (false)] (.tuple #[.agg #[ii (0), sN, sN], .bool (false)]) (.cell rfl (jv [ii (0), sN, sN] jc qN rfl (Rd.ownN [] rfl rfl)) (.tmp rfl .nil)) rfl rF rF (sD (sD (sD sR))) ?_))))))))))
  exact ⟨⟨_, _, _, _, _, _, rfl, SlOf.nilV, IntsF.nilV, by decide, autoS.nil, freshA⟩, rfl⟩
 have hA : autoB ar n rs fi = true := Bool.not_inj (y := true) h1
 have hA2 := auto_iff.1 hA
 have hsg9 := sigOk_spec hA2.sig
 have hfl9 := hA2.sizes
 refine qx (qc (qa (cX (qu [arv] qY qI rfl rfl (Rd.ownN [_, _] rfl rfl) (cX (qu [ii (n), rsv, fiv] jc qN rfl rfl (Rd.ownN [_] rfl rfl) (cX (qq (args := [.agg #[arv], .agg #[ii (n), rsv, fiv]]) call50 rfl (l23Sets_spec har hrs hfi (hA := (hA2))) ?_))))))))
 rintro _ F1 _ le1 ⟨⟨x1, x2, rfl, hr1⟩, rfl⟩
 obtain ⟨t1, hr1, q1⟩ := hr1
 replace har := har.mono le1
 replace hrs := hrs.mono le1
 replace hfi := hfi.mono le1
 show XL _ _ _ _ _ _ _ (cellsH b3 [ii (0), sN, sN] 29 :: cellsH b2 [ii (n), rsv, fiv] 29 :: cellsH b1 [arv] 26 :: L)
 refine qd (.tuple #[x1, .bool (x2)]) rfl (cX (jn (x1) rfl rfl (cX (jn (.bool (x2)) rfl rfl (qg (x1) rfl (qg (.bool (x2)) rfl (qb (qc (qc (qa (qd (.bool (x2)) rfl (cX (jx rfl (qb ?_))))))))))))))
 refine jr (t := !(x2)) rfl (fun h2 => ?_) (fun h2 => ?_)
 ·refine qc (qa (cX (XOp.build [ii (0), sN, sN] [ii (0), sN, sN] [(0, 1), (1, 1), (2, 1)] [] qA jK rfl (.cons rfl qr (.cons rfl jh (.cons rfl qw PlacesAre.nil))) rfl CellsAre.nil (cX (qX [] _ [ii (0), sN, sN] qN rfl rfl rfl (qt rfl (qt rfl (qt rfl qZ))) rfl rfl rfl (qg (.bool (false)) rfl (qb (qC (qn (qv (L' := L) [.agg #[ii (0), sN, sN], .bool (false)] (.tuple #[.agg #[ii (0), sN, sN], .bool (false)]) (.cell rfl (jv [ii (0), sN, sN] jc qN rfl (Rd.ownN [] rfl rfl)) (.tmp rfl .nil)) rfl le1 rF (sD (sD (sD sR))) ?_))))))))))
  exact ⟨⟨_, _, _, _, _, _, rfl, SlOf.nilV, IntsF.nilV, by decide, autoS.nil, freshA⟩, rfl⟩
 have hsok := q1.2.2 (Bool.not_inj (y := true) h2)
 have hsb9 := getD_mem q1.2.1
 refine qx (qc (qa (qd (x1) rfl (cX (qG qz rfl hr1.slv (qg (ii ((t1.length : Int))) rfl (qb (qc (qa (qd (ii ((t1.length : Int))) rfl (cX (XOp.build [ii ((t1.length : Int)), sN, sN] [ii (0), sN, sN] [(0, 1), (1, 1), (2, 1)] [(0, [ii ((t1.length : Int))])] qA jK rfl (.cons rfl qr (.cons rfl jh (.cons rfl qw PlacesAre.nil))) rfl (.cons rfl CellsAre.nil) (cX (jt [ii (0), sN, sN] jK rfl ?_))))))))))))))
 intro b4
 refine cX (qX [] _ [ii ((t1.length : Int)), sN, sN] qN rfl rfl rfl (qt rfl (qt rfl (qt rfl qZ))) rfl rfl rfl (qb (qc (qc (qa (qg (ii (0)) rfl (qb (qF (jg (α := Nat × Value × List TranT × List Value × List HP × Nat × FH) (fun xQ => [(2, ptr b1 0), (3, ptr b2 0), (4, ptr b3 0), (6, x1), (8, ii ((t1.length : Int))), (9, ptr b4 0), (10, ii (((xQ.1 : Nat) : Int)))]) (fun xQ => slH 68 3 xQ.2.1 xQ.2.2.2.2.2.1 xQ.2.2.2.1 :: cellsH b4 [ii ((t1.length : Int)), xQ.2.1, sN] 29 :: cellsH b3 [ii (0), sN, sN] 29 :: cellsH b2 [ii (n), rsv, fiv] 29 :: cellsH b1 [arv] 26 :: L) (fun xQ F' => xQ.2.2.2.2.2.2 = F' ∧ F1 ≤ xQ.2.2.2.2.2.2 ∧ (xQ.1 ≤ ar.length) ∧ (IsSl xQ.2.1) ∧ (TransC xQ.2.2.2.2.2.2 xQ.2.2.2.1 xQ.2.2.1) ∧ (xQ.2.2.2.2.2.1 = xQ.2.2.1.length) ∧ (xQ.2.2.1.length ≤ 300) ∧ (∀ r ∈ xQ.2.2.1, r.2.1.length ≤ 10) ∧ (DeepL 3 (TranO 2) xQ.2.2.2.1 xQ.2.2.1 xQ.2.2.2.2.1) ∧ (Fresh F1 xQ.2.2.2.2.2.2 (star xQ.2.2.2.2.1))) (fun xQ => ar.length - xQ.1) (0, sN, [], [], [], 0, F1) ⟨rfl, rfl, rfl, rfl, rfl, rfl, rfl, ⟨⟩⟩ (jj (Sub.addNil 68 3 _ _) (sC (sC (sC (sC (sC sR)))))) ⟨rfl, FLe.refl _, (Nat.zero_le _), (⟨_, _, _, rfl⟩), (CO.nil), (rfl), (Nat.zero_le _), (fun r hr => absurd hr (by simp)), (DeepL.nil), (Fresh.nilL)⟩ ?_)))))))))
 rintro ⟨f, ov, os, cs, Ls, m, G1⟩ rE _ _ ⟨rfl, leG, hf, hov, hC, hm, ho3, hob, hD, hZ⟩
 show X _ _ _ _ (envs [(2, ptr b1 0), (3, ptr b2 0), (4, ptr b3 0), (6, x1), (8, ii ((t1.length : Int))), (9, ptr b4 0), (10, ii ((f : Int)))] rE) _ (slH 68 3 ov m cs :: cellsH b4 [ii ((t1.length : Int)), ov, sN] 29 :: cellsH b3 [ii (0), sN, sN] 29 :: cellsH b2 [ii (n), rsv, fiv] 29 :: cellsH b1 [arv] 26 :: L)
 replace leG : F1 ≤ G1 := leG
 dsimp only at hf hov hC hm ho3 hob hD hZ
 have haf := fun (h : f < ar.length) => hsg9.2.2 f h
 have leG1 := leG
 replace har := har.mono leG1
 replace hrs := hrs.mono leG1
 replace hfi := hfi.mono leG1
 replace hr1 := hr1.mono leG1
 refine qc (qc (qa (qd (ii ((f : Int))) rfl (cX (ql (0) ja rfl qw (by decide) rfl rfl (cX (qi qT rfl (Rd.own [_, _, _, _] rfl rfl) (cX (qG qf rfl har.slv (cX (qV rfl rfl (qb ?_))))))))))))
 refine qE (p := (f : Int) < (ar.length : Int)) rfl (fun h3 => ?_) (fun h3 => ?_)
 ·refine qx (qc (qF (qc (qa (cX (ql (0) ja rfl qw (by decide) rfl rfl (cX (qi qT rfl (Rd.own [_, _, _, _] rfl rfl) (qd (ii ((f : Int))) rfl (cX (qy f qf qr rfl rfl rfl har.slv (by omega) (Nat.mul_one _) (cX (qi qM rfl (har.rd (by omega)) (cX (XOp.makeSlice (n := (ar.getD f 0).toNat) (bytes := 8) [ii (0)] qf qr typeInfo2 rfl jm rfl rfl (vI (show ar.getD f 0 = (((ar.getD f 0).toNat : Nat) : Int) from by omega)) (vI (show ar.getD f 0 = (((ar.getD f 0).toNat : Nat) : Int) from by omega)) (by omega) (by omega) ?_)))))))))))))))
  intro v1 hv1
  rw [intsH_zeros]
  refine qg (v1) rfl (qb (qc (qa (jz [] _ _ rfl (fun F2 le2 hz1 => ?_)))))
  replace har := har.mono le2
  replace hrs := hrs.mono le2
  replace hfi := hfi.mono le2
  replace hr1 := hr1.mono le2
  replace hC := hC.mono le2
  have hf1 : IntsF F2 v1 ((List.replicate ((ar.getD f 0).toNat) 0)) := intsH.fz (xs := (List.replicate ((ar.getD f 0).toNat) 0)) hz1.fz
  skip
  refine qg (.bool (true)) rfl (qb (qF (jg (α := Value × List Int × Bool × Value × List TranT × List Value × List HP × Nat × FH) (fun xQ => [(2, ptr b1 0), (3, ptr b2 0), (4, ptr b3 0), (6, x1), (8, ii ((t1.length : Int))), (9, ptr b4 0), (10, ii ((f : Int))), (11, xQ.1), (12, .bool (xQ.2.2.1))]) (fun xQ => slH 68 3 xQ.2.2.2.1 xQ.2.2.2.2.2.2.2.1 xQ.2.2.2.2.2.1 :: cellsH b4 [ii ((t1.length : Int)), xQ.2.2.2.1, sN] 29 :: cellsH b3 [ii (0), sN, sN] 29 :: cellsH b2 [ii (n), rsv, fiv] 29 :: cellsH b1 [arv] 26 :: L) (fun xQ F' => xQ.2.2.2.2.2.2.2.2 = F' ∧ F2 ≤ xQ.2.2.2.2.2.2.2.2 ∧ (IntsF xQ.2.2.2.2.2.2.2.2 xQ.1 xQ.2.1) ∧ (xQ.2.2.1 = true → InN t1.length xQ.2.1) ∧ ((xQ.2.1.length : Int) = ar.getD f 0) ∧ (IsSl xQ.2.2.2.1) ∧ (TransC xQ.2.2.2.2.2.2.2.2 xQ.2.2.2.2.2.1 xQ.2.2.2.2.1) ∧ (xQ.2.2.2.2.2.2.2.1 = xQ.2.2.2.2.1.length) ∧ (xQ.2.2.2.2.1.length ≤ 300) ∧ (∀ r ∈ xQ.2.2.2.2.1, r.2.1.length ≤ 10) ∧ (DeepL 3 (TranO 2) xQ.2.2.2.2.2.1 xQ.2.2.2.2.1 xQ.2.2.2.2.2.2.1) ∧ (Fresh F1 xQ.2.2.2.2.2.2.2.2 (star xQ.2.2.2.2.2.2.1))) (fun xQ => muN t1.length xQ.2.1 xQ.2.2.1) (v1, (List.replicate ((ar.getD f 0).toNat) 0), true, ov, os, cs, Ls, m, F2) ⟨rfl, rfl, rfl, rfl, rfl, rfl, rfl, rfl, rfl, ⟨⟩⟩ (sC (sC (sC (sC (sC sR))))) ⟨rfl, FLe.refl _, (hf1), (fun _ => InN.zero (by omega)), (by (try dsimp only); rw [List.length_replicate]; omega), (hov), (hC), (hm), (ho3), (hob), (hD), (hZ.mono le2)⟩ ?_)))
  rintro ⟨lv, l, b, ow, os1, cs1, Ls1, mq, G2⟩ rE _ _ ⟨rfl, leG, hlv, hb, hlg, how, hC1, hm1, ho31, hob1, hD1, hZ1⟩
  show X _ _ _ _ (envs [(2, ptr b1 0), (3, ptr b2 0), (4, ptr b3 0), (6, x1), (8, ii ((t1.length : Int))), (9, ptr b4 0), (10, ii ((f : Int))), (11, lv), (12, .bool (b))] rE) _ (slH 68 3 ow mq cs1 :: cellsH b4 [ii ((t1.length : Int)), ow, sN] 29 :: cellsH b3 [ii (0), sN, sN] 29 :: cellsH b2 [ii (n), rsv, fiv] 29 :: cellsH b1 [arv] 26 :: L)
  replace leG : F2 ≤ G2 := leG
  dsimp only at hlv hb hlg how hC1 hm1 ho31 hob1 hD1 hZ1
  have hll := haf (by omega)
  have leG2 := leG
  replace har := har.mono leG2
  replace hrs := hrs.mono leG2
  replace hfi := hfi.mono leG2
  replace hr1 := hr1.mono leG2
  replace hC := hC.mono leG2
  refine qc (qc (qa (qd (.bool (b)) rfl (qb ?_))))
  refine jr (t := b) rfl (fun h4 => ?_) (fun h4 => ?_)
  ·have hbt : b = true := h4
   have hin := hb hbt
   refine qx (qc (qF (qc (qc (qa (cX (ql (1) qA rfl jh (by decide) rfl rfl (cX (qi jo rfl (Rd.own [_] rfl rfl) (cX (qG qR rfl (SlV.own [] rfl) (cX (XOp.geq rfl rfl (qb ?_))))))))))))))
   refine qE (p := (((mq : Nat) : Int) : Int) ≥ 300) rfl (fun h5 => ?_) (fun h5 => ?_)
   ·refine qc (qa (cX (XOp.build [ii (0), sN, sN] [ii (0), sN, sN] [(0, 1), (1, 1), (2, 1)] [] qA jK rfl (.cons rfl qr (.cons rfl jh (.cons rfl qw PlacesAre.nil))) rfl CellsAre.nil (cX (qX [_, _] _ [ii (0), sN, sN] qN rfl rfl rfl (qt rfl (qt rfl (qt rfl qZ))) rfl rfl rfl (qg (.bool (false)) rfl (qb (qC (qn (qK (qn (qn (qK (qK (qn (qn (qK (qn (qv (L' := L) [.agg #[ii (0), sN, sN], .bool (false)] (.tuple #[.agg #[ii (0), sN, sN], .bool (false)]) (.cell rfl (jv [ii (0), sN, sN] jc qN rfl (Rd.ownN [_, _] rfl rfl)) (.tmp rfl .nil)) rfl (qj (qj (qj le1 leG1) le2) leG2) rF (sD (sD (sD (sD (sD sR))))) ?_)))))))))))))))))))
    exact ⟨⟨_, _, _, _, _, _, rfl, SlOf.nilV, IntsF.nilV, by decide, autoS.nil, freshA⟩, rfl⟩
   refine qx (qc ?_)
   refine X.drawG [slH 68 3 ow mq cs1, cellsH b4 [ii ((t1.length : Int)), ow, sN] 29, cellsH b3 [ii (0), sN, sN] 29, cellsH b2 [ii (n), rsv, fiv] 29, cellsH b1 [arv] 26] L 7 [] [[], [], [], [], [], [3, 4], [1, 2, 5]] [] (phiG [pe x1, pe (.agg #[ii (n), rsv, fiv]), pe (ii ((f : Int)) : Value), pe x1, pe lv, fun FF us v => ((v) : Value) = v ∧ (SomeRowsF FF (v) (fun os => os.length = l.length ∧ ∀ r ∈ os, r.length ≤ 300)), fun FF us v => ((v) : Value) = v ∧ (SomesF FF (v) (fun u => u.length ≤ 300))]) (ownL []) mixed rfl rfl (by kernel_rfl) (by kernel_rfl) (MonoG.get (m1 (m1 (m1 (m1 (m1 (mC (fun le h => ⟨h.1, h.2.mono le⟩) (mC (fun le h => ⟨h.1, h.2.mono le⟩) MonoG.nil)))))))) ?_ ?_
   ·refine gD (fun W Fs R lF z9 => ?_) ?_
    ·refine qh (qk (x1) rfl ?_)
     exact ⟨rfl, rfl⟩
    refine gD (fun W Fs R lF z9 => ?_) ?_
    ·replace har := har.mono lF
     replace hrs := hrs.mono lF
     replace hfi := hfi.mono lF
     replace hr1 := hr1.mono lF
     replace hC := hC.mono lF
     replace hlv := hlv.mono lF
     replace hC1 := hC1.mono lF
     refine qh (qu [ii (n), rsv, fiv] jc qN rfl rfl (Rd.ownN [_, _, _] rfl rfl) ?_)
     exact ⟨rfl, rfl⟩
    refine gD (fun W Fs R lF z9 => ?_) ?_
    ·refine qh (qk (ii ((f : Int))) rfl ?_)
     exact ⟨rfl, rfl⟩
    refine gD (fun W Fs R lF z9 => ?_) ?_
    ·refine qh (qk (x1) rfl ?_)
     exact ⟨rfl, rfl⟩
    refine gD (fun W Fs R lF z9 => ?_) ?_
    ·refine qh (qk (lv) rfl ?_)
     exact ⟨rfl, rfl⟩
    refine gD (fun W Fs R lF z9 => ?_) ?_
    ·replace har := har.mono lF
     replace hrs := hrs.mono lF
     replace hfi := hfi.mono lF
     replace hr1 := hr1.mono lF
     replace hC := hC.mono lF
     replace hlv := hlv.mono lF
     replace hC1 := hC1.mono lF
     rw [zB 3 4 (z9 3 rfl) (z9 4 rfl)]
     refine qh (qq (args := [x1, lv]) call54 rfl (l23Listed_spec hr1 hlv (hin := (hin)) (hml := (by first | assumption | rfl | omega | simp)) (hmb := (fun i _ => hsb9 i)) (hll := (by omega))) ?_)
     rintro _ F5 _ le5 ⟨⟨x5, rfl, hr4⟩, rfl⟩
     replace har := har.mono le5
     replace hrs := hrs.mono le5
     replace hfi := hfi.mono le5
     replace hr1 := hr1.mono le5
     replace hC := hC.mono le5
     replace hlv := hlv.mono le5
     replace hC1 := hC1.mono le5
     exact ⟨⟨rfl, hr4⟩, rfl⟩
    refine gD (fun W Fs R lF z9 => ?_) ?_
    ·obtain ⟨e5, f5_1hp_b⟩ := z9 5 rfl
     obtain ⟨t5X1_b, f5_1hp_b, q5_1_b0, q5_1_b1⟩ := f5_1hp_b
     replace har := har.mono lF
     replace hrs := hrs.mono lF
     replace hfi := hfi.mono lF
     replace hr1 := hr1.mono lF
     replace hC := hC.mono lF
     replace hlv := hlv.mono lF
     replace hC1 := hC1.mono lF
     rw [eS (l := [(1, _), (2, _), (5, ((W 5)))]) ⟨z9 1 rfl, z9 2 rfl, (e5).symm, ⟨⟩⟩]
     refine qh (qq (args := [.agg #[ii (n), rsv, fiv], ii ((f : Int)), ((W 5))]) call53 rfl (l23ImageP_spec (f := (f : Int)) hrs hfi f5_1hp_b (hA9 := (⟨ar, hA2, by (try simp only [Int.toNat_natCast]); omega⟩)) (hsb := (fun j hj => Nat.le_trans (getD_mem (k := 300) (by assumption) j) (by decide))) (hsl4 := (by first | assumption | rfl | omega | simp))) ?_)
     rintro _ F6 _ le6 ⟨⟨x6, rfl, hr5⟩, rfl⟩
     replace har := har.mono le6
     replace hfi := hfi.mono le6
     replace hr1 := hr1.mono le6
     replace hC := hC.mono le6
     replace hlv := hlv.mono le6
     replace hC1 := hC1.mono le6
     replace f5_1hp_b := f5_1hp_b.mono le6
     exact ⟨⟨rfl, hr5⟩, rfl⟩
    exact stepsG.nil
   intro W F7 le7 hphi
   obtain ⟨e5, f5_1hp_b⟩ := hphi 5 (by decide)
   obtain ⟨t5X1_b, f5_1hp_b, q5_1_b0, q5_1_b1⟩ := f5_1hp_b
   obtain ⟨e6, f6_1hp_a⟩ := hphi 6 (by decide)
   obtain ⟨t6X1_a, f6_1hp_a, q6_1_a0⟩ := f6_1hp_a
   generalize hu1 : ((W 5)) = u1 at e5 f5_1hp_b e6 f6_1hp_a
   generalize hu2 : ((W 6)) = u2 at e5 f5_1hp_b e6 f6_1hp_a
   rw [eS (l := [(0, _), (6, u2)]) ⟨(hphi 0 (by decide)), hu2, ⟨⟩⟩]
   replace har := har.mono le7
   replace hfi := hfi.mono le7
   replace hr1 := hr1.mono le7
   replace hC := hC.mono le7
   replace hlv := hlv.mono le7
   replace hC1 := hC1.mono le7
   show XL _ _ _ _ _ _ _ (slH 68 3 ow mq cs1 :: cellsH b4 [ii ((t1.length : Int)), ow, sN] 29 :: cellsH b3 [ii (0), sN, sN] 29 :: cellsH b2 [ii (n), rsv, fiv] 29 :: cellsH b1 [arv] 26 :: L)
   refine cX (qq (args := [x1, u2]) call52 rfl (l1TermPlaceF_spec hr1 f6_1hp_a (hml := (by first | assumption | rfl | omega | simp)) (hmb := (fun j _ => Nat.le_trans (hsb9 j) (by decide))) (hlt := (by omega))) ?_)
   rintro _ _ _ _ ⟨⟨rfl, x7, rfl, hr6⟩, rfl⟩
   show XL _ _ _ _ _ _ _ (slH 68 3 ow mq cs1 :: cellsH b4 [ii ((t1.length : Int)), ow, sN] 29 :: cellsH b3 [ii (0), sN, sN] 29 :: cellsH b2 [ii (n), rsv, fiv] 29 :: cellsH b1 [arv] 26 :: L)
   refine qg (ii (x7)) rfl (qb ?_)
   refine X.drawG [slH 68 3 ow mq cs1, cellsH b4 [ii ((t1.length : Int)), ow, sN] 29, cellsH b3 [ii (0), sN, sN] 29, cellsH b2 [ii (n), rsv, fiv] 29, cellsH b1 [arv] 26] L 8 [[], [], [], [], [], [], [4], [4]] [[], [0], [], [], [3], [], [2, 4, 5], [4, 6]] [] (phiG [pe (ptr b4 1), pe ow, pe (ii ((f : Int)) : Value), pe lv, fun FF us v => ((v) : Value) = v ∧ (IntsF FF (v) (l)) ∧ (FrIntsF F7 FF 2 (v) (l)), pe (ii (x7)), fun FF us v => v = (.agg #[ii ((f : Int)), ((us.getD 0 undef)), ii (x7)] : Value), fun FF us v => ∃ b, v = .slice (some ⟨b, 0, none⟩) 1 1]) (ownL [o0, o0, o0, o0, o0, o0, o0, fun us v => [slH 68 3 v 1 [ii ((f : Int)), ((us.getD 0 undef)), ii (x7)]]]) mixed rfl rfl (by kernel_rfl) (by kernel_rfl) (MonoG.get (m1 (m1 (m1 (m1 (mC (fun le h => ⟨h.1, h.2.1.mono le, h.2.2.mono le⟩) (m1 (mC (fun le h => h) (mC (fun le h => h) MonoG.nil))))))))) ?_ ?_
   ·refine gD (fun W Fs R lF z9 => ?_) ?_
    ·refine qh (ql (1) qA rfl jh (by decide) rfl rfl ?_)
     exact ⟨rfl, rfl⟩
    refine gD (fun W Fs R lF z9 => ?_) ?_
    ·replace har := har.mono lF
     replace hfi := hfi.mono lF
     replace hr1 := hr1.mono lF
     replace hC := hC.mono lF
     replace hlv := hlv.mono lF
     replace hC1 := hC1.mono lF
     rw [zA 0 (z9 0 rfl)]
     refine qh (qi jo rfl (Rd.own [_] rfl rfl) ?_)
     exact ⟨rfl, rfl⟩
    refine gD (fun W Fs R lF z9 => ?_) ?_
    ·refine qh (qk (ii ((f : Int))) rfl ?_)
     exact ⟨rfl, rfl⟩
    refine gD (fun W Fs R lF z9 => ?_) ?_
    ·refine qh (qk (lv) rfl ?_)
     exact ⟨rfl, rfl⟩
    refine gD (fun W Fs R lF z9 => ?_) ?_
    ·replace har := har.mono lF
     replace hfi := hfi.mono lF
     replace hr1 := hr1.mono lF
     replace hC := hC.mono lF
     replace hlv := hlv.mono lF
     replace hC1 := hC1.mono lF
     rw [zA 3 (z9 3 rfl)]
     refine qh (XOp.frzF <| qq (args := [lv]) call31 rfl (l1Copy_spec hlv (hlt := (by first | assumption | rfl | omega | simp))) ?_)
     rintro v4 _ _ _ ⟨rfl, hs2, rfl⟩
     refine ⟨_, _, rfl, fun F9 le9 hz2 => ?_⟩
     replace hfi := hfi.mono le9
     replace hr1 := hr1.mono le9
     replace hC := hC.mono le9
     replace hlv := hlv.mono le9
     replace hC1 := hC1.mono le9
     have hf2 : IntsF F9 v4 ((l)) := intsH.fz (xs := (l)) hz2.fz
     exact ⟨⟨rfl, hf2, (hz2.base lF)⟩, rfl⟩
    refine gD (fun W Fs R lF z9 => ?_) ?_
    ·refine qh (qk (ii (x7)) rfl ?_)
     exact ⟨rfl, rfl⟩
    refine gD (fun W Fs R lF z9 => ?_) ?_
    ·obtain ⟨e4, f4_2ha, f4_2hz⟩ := z9 4 rfl
     replace hfi := hfi.mono lF
     replace hr1 := hr1.mono lF
     replace hC := hC.mono lF
     replace hlv := hlv.mono lF
     replace hC1 := hC1.mono lF
     rw [eS (l := [(2, _), (4, ((W 4))), (5, _)]) ⟨z9 2 rfl, (e4).symm, z9 5 rfl, ⟨⟩⟩]
     refine qh (XOp.build [ii ((f : Int)), ((W 4)), ii (x7)] [ii (0), sN, ii (0)] [(0, 1), (1, 1), (2, 1)] [(0, [ii ((f : Int))]), (1, [((W 4))]), (2, [ii (x7)])] qB jF rfl (.cons rfl qr (.cons rfl qw (.cons rfl qr PlacesAre.nil))) rfl (.cons rfl (.cons (cells_one (qS f4_2ha)) (.cons rfl CellsAre.nil))) ?_)
     exact ⟨rfl, rfl⟩
    refine gD (fun W Fs R lF z9 => ?_) ?_
    ·obtain ⟨e4, f4_2ha, f4_2hz⟩ := z9 4 rfl
     have e6 : W 6 = (.agg #[ii ((f : Int)), ((W 4)), ii (x7)] : Value) := z9 6 rfl
     replace hfi := hfi.mono lF
     replace hr1 := hr1.mono lF
     replace hC := hC.mono lF
     replace hlv := hlv.mono lF
     replace hC1 := hC1.mono lF
     rw [eS (l := [(4, ((W 4))), (6, (.agg #[ii ((f : Int)), ((W 4)), ii (x7)]))]) ⟨(e4).symm, e6, ⟨⟩⟩]
     refine qh (qP (s := 3) [ii ((f : Int)), ((W 4)), ii (x7)] [ii (0), sN, ii (0)] [(0, [ii ((f : Int)), ((W 4)), ii (x7)])] qR jb jF rfl (by decide) rfl (.cons rfl CellsAre.nil) rfl ?_)
     intro v5 hv3
     exact ⟨hv3, rfl⟩
    exact stepsG.nil
   intro W F10 le10 hphi
   obtain ⟨e4, f4_2ha, f4_2hz⟩ := hphi 4 (by decide)
   have e6 : W 6 = (.agg #[ii ((f : Int)), ((W 4)), ii (x7)] : Value) := hphi 6 (by decide)
   have f7 : ∃ b, (W 7) = .slice (some ⟨b, 0, none⟩) 1 1 := hphi 7 (by decide)
   generalize hu3 : ((W 4)) = u3 at e4 f4_2ha f4_2hz e6 f7
   generalize huu7 : W 7 = u4 at e4 f4_2ha f4_2hz e6 f7
   rw [eS (l := [(1, _), (4, u3), (7, u4)]) ⟨(hphi 1 (by decide)), hu3, huu7, ⟨⟩⟩]
   replace hfi := hfi.mono le10
   replace hr1 := hr1.mono le10
   replace hC := hC.mono le10
   replace hlv := hlv.mono le10
   replace hC1 := hC1.mono le10
   show XL _ _ _ _ _ _ _ (slH 68 3 u4 1 [ii ((f : Int)), u3, ii (x7)] :: slH 68 3 ow mq cs1 :: cellsH b4 [ii ((t1.length : Int)), ow, sN] 29 :: cellsH b3 [ii (0), sN, sN] 29 :: cellsH b2 [ii (n), rsv, fiv] 29 :: cellsH b1 [arv] 26 :: L)
   refine cX (jN (m := 1) (bytes := 40) (cs := cs1) [_] _ [ii ((f : Int)), u3, ii (x7)] qR typeInfo68 rfl rfl rfl rfl rfl rfl rfl (SlV.own [] rfl) rfl (Rd.lit [] rfl) (qt rfl (qt (qU (qS f4_2ha)) (qt rfl qZ))) (by (try simp only [List.length_append, List.length_nil, List.length_cons, List.length_singleton]); omega) (by (try simp only [List.length_append, List.length_nil, List.length_cons, List.length_singleton]); omega) ?_)
   intro v6 hs3 hn1 hm1
   have hc1 := TransC.snoc hC1 (y0 := (f : Int)) (y1 := (l)) (y2 := x7) f4_2ha
   refine cX (ql (1) qA rfl jh (by decide) rfl rfl (cX (jC [_, _] _ [ii ((t1.length : Int)), v6, sN] jh rfl rfl (qU hs3) rfl rfl rfl (qb (qa (qd (lv) rfl (qd (ii ((t1.length : Int))) rfl (cX (qq (args := [lv, ii (t1.length : Int)]) call51 rfl (l23NextList_spec (n := (t1).length) hlv (hin := (hin)) (hll := (by omega)) (hn := (by omega))) ?_)))))))))
   rintro _ F11 _ le11 ⟨⟨x8, x9, rfl, hr7⟩, rfl⟩
   obtain ⟨t2, hr7, q2⟩ := hr7
   replace hfi := hfi.mono le11
   replace hr1 := hr1.mono le11
   replace hC := hC.mono le11
   replace hC1 := hC1.mono le11
   replace hc1 := hc1.mono le11
   show XL _ _ _ _ _ _ _ (slH 68 3 u4 1 [ii ((f : Int)), u3, ii (x7)] :: slH 68 3 v6 ((mq) + 1) (cs1 ++ [ii ((f : Int)), u3, ii (x7)]) :: cellsH b4 [ii ((t1.length : Int)), v6, sN] 29 :: cellsH b3 [ii (0), sN, sN] 29 :: cellsH b2 [ii (n), rsv, fiv] 29 :: cellsH b1 [arv] 26 :: L)
   refine qd (.tuple #[x8, .bool (x9)]) rfl (cX (jn (x8) rfl rfl (cX (jn (.bool (x9)) rfl rfl (qg (x8) rfl (qg (.bool (x9)) rfl (qb ?_)))))))
   have hj9 := tran_more (x := (f : Int)) (z := x7) hD1 ((Fresh.app (hZ1.mono le7) (qj (qj (qj leG1 le2) leG2) le7) (Fresh.one f4_2hz) le10).mono le11)
   obtain ⟨L9, hd9, hf9⟩ := hj9
   exact ⟨(x8, t2, x9, v6, os1 ++ [((f : Int), (l), x7)], cs1 ++ [ii ((f : Int)), u3, ii (x7)], L9, (mq) + 1, F11), _, (qj (qj (qj leG2 le7) le10) le11), rF, ⟨rfl, rfl, rfl, rfl, rfl, rfl, rfl, rfl, rfl, ⟨⟩⟩, (sD (sC (sC (sC (sC (sC sR)))))), ⟨rfl, (qj (qj (qj leG2 le7) le10) le11), (hr7), (fun h8 => (q2.2 h8).1), (by (try dsimp only); rw [q2.1]; exact hlg), (hs3), (hc1), (by (try dsimp only); (try rw [List.length_append]); (try simp only [List.length_singleton]); omega), (by (try dsimp only); (try rw [List.length_append]); (try simp only [List.length_singleton]); omega), (trans_snoc hob1 (by (try dsimp only); omega)), (hd9), (hf9)⟩, (by (try dsimp only); rw [hbt]; exact muN_next (hb hbt) q2)⟩
  refine jd (qp (qp (qJ (qa (qd (ii ((f : Int))) rfl (cX (qD (((f + 1 : Nat) : Int)) rfl rfl (by omega) (by omega) (qg (ii (((f + 1 : Nat) : Int))) rfl (qb ?_)))))))))
  exact ⟨(f + 1, ow, os1, cs1, Ls1, mq, G2), _, (qj (qj leG1 le2) leG2), rF, ⟨rfl, rfl, rfl, rfl, rfl, rfl, rfl, ⟨⟩⟩, (sC (sC (sC (sC (sC sR))))), ⟨rfl, (qj (qj leG1 le2) leG2), (by (try dsimp only) <;> omega), (how), (hC1), (hm1), (ho31), (hob1), (hD1), (hZ1)⟩, (by omega)⟩
 refine jd (qp (qp (qJ (qc (qc (qa (qg (ii (0)) rfl (qb (qF (jg (α := Nat × Value × List Int) (fun xQ => [(3, ptr b2 0), (4, ptr b3 0), (6, x1), (8, ii ((t1.length : Int))), (9, ptr b4 0), (14, ii (((xQ.1 : Nat) : Int)))]) (fun xQ => intsH 2 xQ.2.1 xQ.2.2 :: slH 68 3 ov m cs :: cellsH b4 [ii ((t1.length : Int)), ov, xQ.2.1] 29 :: cellsH b3 [ii (0), sN, sN] 29 :: cellsH b2 [ii (n), rsv, fiv] 29 :: cellsH b1 [arv] 26 :: L) (fun xQ F' => G1 = F' ∧ (IsSl xQ.2.1) ∧ (xQ.1 ≤ t1.length) ∧ (xQ.2.2.length ≤ xQ.1)) (fun xQ => t1.length - xQ.1) (0, sN, []) ⟨rfl, rfl, rfl, rfl, rfl, rfl, ⟨⟩⟩ (jj (intsH.addNil 2 none _) (sC (sC (sC (sC (sC (sC sR))))))) ⟨rfl, (⟨_, _, _, rfl⟩), (Nat.zero_le _), (Nat.le_refl _)⟩ ?_))))))))))
 rintro ⟨i, fv, gs⟩ rE _ _ ⟨rfl, hfv, hi, hgl⟩
 show X _ _ _ _ (envs [(3, ptr b2 0), (4, ptr b3 0), (6, x1), (8, ii ((t1.length : Int))), (9, ptr b4 0), (14, ii ((i : Int)))] rE) _ (intsH 2 fv gs :: slH 68 3 ov m cs :: cellsH b4 [ii ((t1.length : Int)), ov, fv] 29 :: cellsH b3 [ii (0), sN, sN] 29 :: cellsH b2 [ii (n), rsv, fiv] 29 :: cellsH b1 [arv] 26 :: L)
 dsimp only at hfv hi hgl
 refine qc (qc (qa (qd (ii ((i : Int))) rfl (qd (ii ((t1.length : Int))) rfl (cX (qV rfl rfl (qb ?_)))))))
 refine qE (p := (i : Int) < (t1.length : Int)) rfl (fun h6 => ?_) (fun h6 => ?_)
 ·refine qx (qc (qF (qc ?_)))
  obtain ⟨a1, ha1, hr8⟩ := hr1.rd (i := i) (by omega)
  refine jq [intsH 2 fv gs, slH 68 3 ov m cs, cellsH b4 [ii ((t1.length : Int)), ov, fv] 29, cellsH b3 [ii (0), sN, sN] 29, cellsH b2 [ii (n), rsv, fiv] 29, cellsH b1 [arv] 26] L 6 [] [[], [], [0, 1], [2], [], [4]] (phiL [qe x1, qe (ii ((i : Int)) : Value), qe (.pointer (some (elemA x1 (i)))), qe a1, qe (ptr b2 2), qe fiv]) (ownL []) mixed rfl rfl (by kernel_rfl) ?_ ?_
  ·refine pD (fun W R z9 => ?_) ?_
   ·refine qh (qk (x1) rfl ?_)
    exact ⟨rfl, rfl, rfl⟩
   refine pD (fun W R z9 => ?_) ?_
   ·refine qh (qk (ii ((i : Int))) rfl ?_)
    exact ⟨rfl, rfl, rfl⟩
   refine pD (fun W R z9 => ?_) ?_
   ·rw [zB 0 1 (z9 0 rfl) (z9 1 rfl)]
    refine qh (qy i qz qw rfl rfl rfl hr1.slv (by omega) (Nat.mul_one _) ?_)
    exact ⟨rfl, rfl, rfl⟩
   refine pD (fun W R z9 => ?_) ?_
   ·rw [zA 2 (z9 2 rfl)]
    refine qh (qi qT rfl (hr8 _) ?_)
    exact ⟨rfl, rfl, rfl⟩
   refine pD (fun W R z9 => ?_) ?_
   ·refine qh (ql (2) qA rfl qw (by decide) rfl rfl ?_)
    exact ⟨rfl, rfl, rfl⟩
   refine pD (fun W R z9 => ?_) ?_
   ·rw [zA 4 (z9 4 rfl)]
    refine qh (qi qT rfl (Rd.own [_, _, _, _] rfl rfl) ?_)
    exact ⟨rfl, rfl, rfl⟩
   exact stepsP.nil
  intro W hphi
  rw [zB 3 5 (hphi 3 (by decide)) (hphi 5 (by decide))]
  show XL _ _ _ _ _ _ _ (intsH 2 fv gs :: slH 68 3 ov m cs :: cellsH b4 [ii ((t1.length : Int)), ov, fv] 29 :: cellsH b3 [ii (0), sN, sN] 29 :: cellsH b2 [ii (n), rsv, fiv] 29 :: cellsH b1 [arv] 26 :: L)
  refine cX (qq (args := [a1, fiv]) call45 rfl (l23Meets_spec ha1 hfi (hlx := (Nat.le_trans (hsb9 _) (by decide))) (hly := (by first | assumption | rfl | omega | simp))) ?_)
  rintro _ _ _ _ ⟨rfl, rfl, rfl⟩
  refine qb ?_
  refine jr (t := meetsB ((t1.getD i [])) fi) rfl (fun h7 => ?_) (fun h7 => ?_)
  ·refine qa (cX (ql (2) qA rfl qw (by decide) rfl rfl (cX (qi qT rfl (Rd.own [_, _] rfl rfl) (qd (ii ((i : Int))) rfl (cX (qP (s := 1) [ii ((i : Int))] [ii (0)] [(0, [ii ((i : Int))])] qf qr jm rfl (by decide) rfl (.cons rfl CellsAre.nil) rfl ?_)))))))
   intro v7 hv4
   refine cX (jL (u := (i : Int)) [_] _ qf typeInfo2 rfl rfl rfl rfl rfl rfl (SlV.own [] rfl) (Rd.sl [] rfl rfl) (by (try simp only [List.length_append, List.length_nil, List.length_cons, List.length_singleton, List.length_take, List.length_drop]); omega) ?_)
   intro v8 hs4 hn2
   refine cX (ql (2) qA rfl qw (by decide) rfl rfl (cX (jC [_, _, _] _ [ii ((t1.length : Int)), ov, v8] qw rfl rfl (qU hs4) rfl rfl rfl (qb (qa (qd (ii ((i : Int))) rfl (cX (qD (((i + 1 : Nat) : Int)) rfl rfl (by omega) (by omega) (qg (ii (((i + 1 : Nat) : Int))) rfl (qb ?_))))))))))
   exact ⟨(i + 1, v8, gs ++ [(i : Int)]), _, FLe.refl _, rF, ⟨rfl, rfl, rfl, rfl, rfl, rfl, ⟨⟩⟩, (sD (sC (sC (sC (sC (sC (sC sR))))))), ⟨rfl, (hs4), (by (try dsimp only) <;> omega), (by (try dsimp only); (try rw [List.length_append]); (try simp only [List.length_singleton]); omega)⟩, (by omega)⟩
  refine qx (qa (qd (ii ((i : Int))) rfl (cX (qD (((i + 1 : Nat) : Int)) rfl rfl (by omega) (by omega) (qg (ii (((i + 1 : Nat) : Int))) rfl (qb ?_))))))
  exact ⟨(i + 1, fv, gs), _, FLe.refl _, rF, ⟨rfl, rfl, rfl, rfl, rfl, rfl, ⟨⟩⟩, (sC (sC (sC (sC (sC (sC sR)))))), ⟨rfl, (hfv), (by (try dsimp only) <;> omega), (by (try dsimp only); (try rw [List.length_append]); (try simp only [List.length_singleton]); omega)⟩, (by omega)⟩
 refine jd (qp (qp (qJ (qc (qa (cX (qu [ii ((t1.length : Int)), ov, fv] jc qN rfl rfl (Rd.ownN [_, _] rfl rfl) (cX (qX [_, _, _] _ [ii ((t1.length : Int)), ov, fv] qN rfl rfl rfl (qt rfl (qt (qU hov) (qt (qU hfv) qZ))) rfl rfl rfl (qg (.bool (true)) rfl (qb (jf [_] _ _ rfl (fun F12 le12 hz3 => ?_)))))))))))))
 replace hC := hC.mono le12
 have hf3 : TransF F12 ov os := CO.fz hC (by first | rfl | omega | (rw [List.length_set]; omega) | (simp; done) | (rw [List.length_append]; simp only [List.length_singleton]; omega) | ((simp only [List.length_append, List.length_singleton, List.length_nil]) <;> omega)) hz3.fz
 refine jf [] _ _ rfl (fun F13 le13 hz4 => ?_)
 replace hf3 := hf3.mono le13
 have hf4 : IntsF F13 fv gs := intsH.fz (xs := gs) hz4.fz
 refine qC (qv (L' := L) [.agg #[ii ((t1.length : Int)), ov, fv], .bool (true)] (.tuple #[.agg #[ii ((t1.length : Int)), ov, fv], .bool (true)]) (.cell rfl (jv [ii ((t1.length : Int)), ov, fv] jc qN rfl (Rd.ownN [_] rfl rfl)) (.tmp rfl .nil)) rfl (qj (qj (qj le1 leG1) le12) le13) rF (sD (sD (sD (sD sR)))) ?_)
 exact ⟨⟨_, _, _, _, _, _, rfl, hf3, hf4, by omega, ⟨by omega, by omega, hob⟩, (Fresh.app ((Fresh.one (Fresh.deep hD hZ leG1 hz3 (by omega) le12)).base le1) (qj (qj le1 leG1) le12) (Fresh.one hz4) le13)⟩, rfl⟩

/- spec.l1New -/
theorem l1New_spec {F : FH} {L : List HP} {bsv : Value} {bs : List Int} (hbs : BytesF F bsv bs) (hlb : bs.length ≤ 4000000) :
    Does prog 17 [bsv] F (L) (fun v F' L' => ∃ cb : Nat, (ptr cb 0 : Value) = v ∧ F = F' ∧ curH .i64 83 cb bsv bs.length :: L = L') := by
 refine qO func17 rfl rfl rfl (qc (qa (qg ((.pointer none)) rfl (qb (qc (qa (qd (bsv) rfl (cX (qG runUnderlying22 rfl hbs.slv (cX (qD (((570029 + ((bs).length) : Nat) : Int)) rfl rfl (by omega) (by omega) (qg (ii (((570029 + ((bs).length) : Nat) : Int))) rfl (qb (qc (qc (qa (qg (ii (0)) rfl ?_)))))))))))))))))
 refine qb (qF (jg (α := Nat × Int) (fun xQ => [(0, bsv), (3, ii (xQ.2)), (4, ii (((xQ.1 : Nat) : Int)))]) (fun xQ => L) (fun xQ F' => F = F' ∧ (xQ.1 ≤ bs.length) ∧ (0 ≤ xQ.2 ∧ xQ.2 ≤ 1073741823)) (fun xQ => bs.length - xQ.1) (0, ((570029 + ((bs).length) : Nat) : Int)) ⟨rfl, rfl, rfl, ⟨⟩⟩ sR ⟨rfl, (Nat.zero_le _), (by (try dsimp only) <;> omega)⟩ ?_))
 rintro ⟨k, h⟩ rE _ _ ⟨rfl, hk, hh⟩
 show X _ _ _ _ (envs [(0, bsv), (3, ii (h)), (4, ii ((k : Int)))] rE) _ (L)
 dsimp only at hk hh
 refine qc (qc (qa (qd (ii ((k : Int))) rfl (qd (bsv) rfl (cX (qG runUnderlying22 rfl hbs.slv (cX (qV rfl rfl (qb ?_)))))))))
 refine qE (p := (k : Int) < (bs.length : Int)) rfl (fun h1 => ?_) (fun h1 => ?_)
 ·have hrg := hbs.range (i := k) (by omega)
  refine qx (qc (qF (qa (qd (ii (h)) rfl (cX (XOp.mulR (h * 317) rfl rfl (by omega) (by omega) (qd (bsv) rfl (qd (ii ((k : Int))) rfl (cX (qy k runUnderlying22 sizeOf5 rfl rfl rfl hbs.slv (by omega) (Nat.mul_one _) (cX (qi isAgg5 rfl (hbs.rd (by omega) _) (cX (XOp.convI (k' := .u8) (a := bs.getD k 0) (bs.getD k 0) runUnderlying5 runUnderlying2 rfl (IntWalk.i64_in _ (by omega)) (cX (qD ((h * 317) + (bs.getD k 0)) rfl rfl (by omega) (by omega) (cX (qD (((h * 317) + (bs.getD k 0)) + 11) rfl rfl (by omega) (by omega) ?_))))))))))))))))))
  refine cX (XOp.andW (a := ((h * 317) + (bs.getD k 0)) + 11) (b := 1073741823) rfl rfl rfl (by decide) ?_)
  intro r1 hr1
  refine qg (ii (r1)) rfl (qb (qa (qd (ii ((k : Int))) rfl (cX (qD (((k + 1 : Nat) : Int)) rfl rfl (by omega) (by omega) (qg (ii (((k + 1 : Nat) : Int))) rfl (qb ?_)))))))
  exact ⟨(k + 1, r1), _, FLe.refl _, rF, ⟨rfl, rfl, rfl, ⟨⟩⟩, sR, ⟨rfl, (by (try dsimp only) <;> omega), (hr1)⟩, (by omega)⟩
 refine jd (qp (qp (qJ (qc (qa (qd (bsv) rfl (qd (ii (h)) rfl (cX (XOp.build [bsv, ii (0), ii (h)] [sN, ii (0), ii (0)] [(0, 1), (1, 1), (2, 1)] [(0, [bsv]), (2, [ii (h)])] jM zeroValue83 rfl (.cons rfl sizeOf22 (.cons rfl sizeOf3 (.cons rfl qr PlacesAre.nil))) rfl (.cons (cells_one (BytesF.isSl hbs)) (.cons rfl CellsAre.nil)) (cX (ji [bsv, ii (0), ii (h)] rfl rfl ?_)))))))))))
 intro b1
 refine qg (ptr b1 0) rfl (qb (qC (qv (L' := curH .i64 83 b1 bsv bs.length :: L) [ptr b1 0] (ptr b1 0) (.tmp rfl .nil) rfl rF rF (Sub.keep (curH.of (by omega) (by omega)) sR) ?_)))
 exact ⟨_, rfl, rfl, rfl⟩

/- spec.l1Byte -/
theorem l1Byte_spec0 {F : FH} {L : List HP} {cb : Nat} {bsv : Value} {bs : List Int} (hbs : BytesF F bsv bs) (hbl : bs.length ≤ 4000000) {i h : Int} (h0 : 0 ≤ i) (h1 : i ≤ bs.length) :
    Does prog 56 [ptr cb 0] F (cellsH cb [bsv, ii (i), ii (h)] 83 :: L) (fun v F' L' => (F = F' ∧ ∃ x : Int, (.int .i64 x : Value) = v ∧ (0 ≤ x ∧ x ≤ 255)) ∧ ∃ i' h' : Int, 0 ≤ i' ∧ i' ≤ bs.length ∧ cellsH cb [bsv, ii (i'), ii (h')] 83 :: L = L') := by
 refine qO func56 rfl rfl rfl (qc (qa (qg (ii (0)) rfl (qb (qc (qa (qd (ptr cb 0) rfl (qd (ptr cb 0) rfl (cX (jk rfl (cX (ql (2) jM rfl qr (by decide) rfl rfl (cX (qi qM rfl (Rd.own [] rfl rfl) (cX (XOp.mulW (a := h) (b := 6364136223846793005) rfl rfl ?_))))))))))))))))
 intro r1
 refine cX (XOp.addW (a := r1) (b := 1442695040888963407) rfl rfl ?_)
 intro r2
 refine cX (jk rfl (cX (ql (2) jM rfl qr (by decide) rfl rfl (cX (jC [] _ [bsv, ii (i), ii (r2)] qr rfl rfl rfl rfl rfl rfl (qb (qc ?_)))))))
 refine X.drawG [cellsH cb [bsv, ii (i), ii (r2)] 83] L 10 [] [[], [0], [1], [2], [3], [], [5], [6], [7], [8]] [] (phiG [pe (ptr cb 0), pe (ptr cb 0), pe (ptr cb 2), pe (ii (r2)), fun FF us v => (ii ((intAt v)) : Value) = v, pe (ptr cb 0), pe (ptr cb 0), pe (ptr cb 2), pe (ii (r2)), fun FF us v => (ii ((intAt v)) : Value) = v]) (ownL []) mixed rfl rfl (by kernel_rfl) (by kernel_rfl) (MonoG.get (m1 (m1 (m1 (m1 (mC (fun le h => h) (m1 (m1 (m1 (m1 (mC (fun le h => h) MonoG.nil))))))))))) ?_ ?_
 ·refine gD (fun W Fs R lF z9 => ?_) ?_
  ·refine qh (qk (ptr cb 0) rfl ?_)
   exact ⟨rfl, rfl⟩
  refine gD (fun W Fs R lF z9 => ?_) ?_
  ·replace hbs := hbs.mono lF
   rw [zA 0 (z9 0 rfl)]
   refine qh (jk rfl ?_)
   exact ⟨rfl, rfl⟩
  refine gD (fun W Fs R lF z9 => ?_) ?_
  ·rw [zA 1 (z9 1 rfl)]
   refine qh (ql (2) jM rfl qr (by decide) rfl rfl ?_)
   exact ⟨rfl, rfl⟩
  refine gD (fun W Fs R lF z9 => ?_) ?_
  ·replace hbs := hbs.mono lF
   rw [zA 2 (z9 2 rfl)]
   refine qh (qi qM rfl (Rd.own [] rfl rfl) ?_)
   exact ⟨rfl, rfl⟩
  refine gD (fun W Fs R lF z9 => ?_) ?_
  ·rw [zA 3 (z9 3 rfl)]
   refine qh (XOp.shrW (a := r2) (b := 33) rfl rfl (by decide) ?_)
   intro r5
   exact ⟨rfl, rfl⟩
  refine gD (fun W Fs R lF z9 => ?_) ?_
  ·refine qh (qk (ptr cb 0) rfl ?_)
   exact ⟨rfl, rfl⟩
  refine gD (fun W Fs R lF z9 => ?_) ?_
  ·replace hbs := hbs.mono lF
   rw [zA 5 (z9 5 rfl)]
   refine qh (jk rfl ?_)
   exact ⟨rfl, rfl⟩
  refine gD (fun W Fs R lF z9 => ?_) ?_
  ·rw [zA 6 (z9 6 rfl)]
   refine qh (ql (2) jM rfl qr (by decide) rfl rfl ?_)
   exact ⟨rfl, rfl⟩
  refine gD (fun W Fs R lF z9 => ?_) ?_
  ·replace hbs := hbs.mono lF
   rw [zA 7 (z9 7 rfl)]
   refine qh (qi qM rfl (Rd.own [] rfl rfl) ?_)
   exact ⟨rfl, rfl⟩
  refine gD (fun W Fs R lF z9 => ?_) ?_
  ·rw [zA 8 (z9 8 rfl)]
   refine qh (XOp.shrW (a := r2) (b := 45) rfl rfl (by decide) ?_)
   intro r6
   exact ⟨rfl, rfl⟩
  exact stepsG.nil
 intro W F1 le1 hphi
 have e4 : (ii ((intAt (W 4))) : Value) = (W 4) := hphi 4 (by decide)
 have e9 : (ii ((intAt (W 9))) : Value) = (W 9) := hphi 9 (by decide)
 generalize hu1 : (intAt (W 4)) = u1 at e4 e9
 generalize hu2 : (intAt (W 9)) = u2 at e4 e9
 rw [eS (l := [(4, (ii (u1))), (9, (ii (u2)))]) ⟨(e4).symm, (e9).symm, ⟨⟩⟩]
 replace hbs := hbs.mono le1
 show XL _ _ _ _ _ _ _ (cellsH cb [bsv, ii (i), ii (r2)] 83 :: L)
 refine cX (XOp.xorW (a := u1) (b := u2) rfl rfl ?_)
 intro r7
 refine cX (XOp.andW (a := r7) (b := 255) rfl rfl rfl (by decide) ?_)
 intro r8 hr1
 refine qg (ii (r8)) rfl (qb (qc (qc ?_)))
 refine jq [cellsH cb [bsv, ii (i), ii (r2)] 83] L 9 [] [[], [0], [1], [2], [], [4], [5], [6], [7]] (phiL [qe (ptr cb 0), qe (ptr cb 0), qe (ptr cb 1), qe (ii (i)), qe (ptr cb 0), qe (ptr cb 0), qe (ptr cb 0), qe bsv, qe (ii ((bs.length : Int)) : Value)]) (ownL []) mixed rfl rfl (by kernel_rfl) ?_ ?_
 ·refine pD (fun W R z9 => ?_) ?_
  ·refine qh (qk (ptr cb 0) rfl ?_)
   exact ⟨rfl, rfl, rfl⟩
  refine pD (fun W R z9 => ?_) ?_
  ·rw [zA 0 (z9 0 rfl)]
   refine qh (jk rfl ?_)
   exact ⟨rfl, rfl, rfl⟩
  refine pD (fun W R z9 => ?_) ?_
  ·rw [zA 1 (z9 1 rfl)]
   refine qh (ql (1) jM rfl sizeOf3 (by decide) rfl rfl ?_)
   exact ⟨rfl, rfl, rfl⟩
  refine pD (fun W R z9 => ?_) ?_
  ·rw [zA 2 (z9 2 rfl)]
   refine qh (qi isAgg3 rfl (Rd.own [] rfl rfl) ?_)
   exact ⟨rfl, rfl, rfl⟩
  refine pD (fun W R z9 => ?_) ?_
  ·refine qh (qk (ptr cb 0) rfl ?_)
   exact ⟨rfl, rfl, rfl⟩
  refine pD (fun W R z9 => ?_) ?_
  ·rw [zA 4 (z9 4 rfl)]
   refine qh (jk rfl ?_)
   exact ⟨rfl, rfl, rfl⟩
  refine pD (fun W R z9 => ?_) ?_
  ·rw [zA 5 (z9 5 rfl)]
   refine qh (ql (0) jM rfl sizeOf22 (by decide) rfl rfl ?_)
   exact ⟨rfl, rfl, rfl⟩
  refine pD (fun W R z9 => ?_) ?_
  ·rw [zA 6 (z9 6 rfl)]
   refine qh (qi isAgg22 rfl (Rd.own [] rfl rfl) ?_)
   exact ⟨rfl, rfl, rfl⟩
  refine pD (fun W R z9 => ?_) ?_
  ·rw [zA 7 (z9 7 rfl)]
   refine qh (qG runUnderlying22 rfl hbs.slv ?_)
   exact ⟨rfl, rfl, rfl⟩
  exact stepsP.nil
 intro W hphi
 rw [zB 3 8 (hphi 3 (by decide)) (hphi 8 (by decide))]
 show XL _ _ _ _ _ _ _ (cellsH cb [bsv, ii (i), ii (r2)] 83 :: L)
 refine cX (qV rfl rfl (qb ?_))
 refine qE (p := (i : Int) < (bs.length : Int)) rfl (fun h1 => ?_) (fun h1 => ?_)
 ·have hrg := hbs.range (i := i.toNat) (by omega)
  refine qc ?_
  refine jq [cellsH cb [bsv, ii (i), ii (r2)] 83] L 12 [] [[], [], [1], [2], [3], [], [5], [6], [7], [4, 8], [9], [10]] (phiL [qe (ii (r8)), qe (ptr cb 0), qe (ptr cb 0), qe (ptr cb 0), qe bsv, qe (ptr cb 0), qe (ptr cb 0), qe (ptr cb 1), qe (ii (i)), qe (.pointer (some (elemA bsv ((i).toNat)))), qe (.int .u8 (bs.getD ((i).toNat) 0)), qe (ii (bs.getD ((i).toNat) 0))]) (ownL []) mixed rfl rfl (by kernel_rfl) ?_ ?_
  ·refine pD (fun W R z9 => ?_) ?_
   ·refine qh (qk (ii (r8)) rfl ?_)
    exact ⟨rfl, rfl, rfl⟩
   refine pD (fun W R z9 => ?_) ?_
   ·refine qh (qk (ptr cb 0) rfl ?_)
    exact ⟨rfl, rfl, rfl⟩
   refine pD (fun W R z9 => ?_) ?_
   ·rw [zA 1 (z9 1 rfl)]
    refine qh (jk rfl ?_)
    exact ⟨rfl, rfl, rfl⟩
   refine pD (fun W R z9 => ?_) ?_
   ·rw [zA 2 (z9 2 rfl)]
    refine qh (ql (0) jM rfl sizeOf22 (by decide) rfl rfl ?_)
    exact ⟨rfl, rfl, rfl⟩
   refine pD (fun W R z9 => ?_) ?_
   ·rw [zA 3 (z9 3 rfl)]
    refine qh (qi isAgg22 rfl (Rd.own [] rfl rfl) ?_)
    exact ⟨rfl, rfl, rfl⟩
   refine pD (fun W R z9 => ?_) ?_
   ·refine qh (qk (ptr cb 0) rfl ?_)
    exact ⟨rfl, rfl, rfl⟩
   refine pD (fun W R z9 => ?_) ?_
   ·rw [zA 5 (z9 5 rfl)]
    refine qh (jk rfl ?_)
    exact ⟨rfl, rfl, rfl⟩
   refine pD (fun W R z9 => ?_) ?_
   ·rw [zA 6 (z9 6 rfl)]
    refine qh (ql (1) jM rfl sizeOf3 (by decide) rfl rfl ?_)
    exact ⟨rfl, rfl, rfl⟩
   refine pD (fun W R z9 => ?_) ?_
   ·rw [zA 7 (z9 7 rfl)]
    refine qh (qi isAgg3 rfl (Rd.own [] rfl rfl) ?_)
    exact ⟨rfl, rfl, rfl⟩
   refine pD (fun W R z9 => ?_) ?_
   ·rw [zB 4 8 (z9 4 rfl) (z9 8 rfl)]
    refine qh (qy ((i).toNat) runUnderlying22 sizeOf5 rfl rfl (by omega) hbs.slv (by omega) (Nat.mul_one _) ?_)
    exact ⟨rfl, rfl, rfl⟩
   refine pD (fun W R z9 => ?_) ?_
   ·rw [zA 9 (z9 9 rfl)]
    refine qh (qi isAgg5 rfl (hbs.rd (by omega) _) ?_)
    exact ⟨rfl, rfl, rfl⟩
   refine pD (fun W R z9 => ?_) ?_
   ·rw [zA 10 (z9 10 rfl)]
    refine qh (XOp.convI (k' := .u8) (a := bs.getD ((i).toNat) 0) (bs.getD ((i).toNat) 0) runUnderlying5 runUnderlying2 rfl (IntWalk.i64_in _ (by omega)) ?_)
    exact ⟨rfl, rfl, rfl⟩
   exact stepsP.nil
  intro W hphi
  rw [zB 0 11 (hphi 0 (by decide)) (hphi 11 (by decide))]
  show XL _ _ _ _ _ _ _ (cellsH cb [bsv, ii (i), ii (r2)] 83 :: L)
  refine cX (qD (r8 + (bs.getD ((i).toNat) 0)) rfl rfl (by omega) (by omega) (cX (XOp.andW (a := r8 + (bs.getD ((i).toNat) 0)) (b := 255) rfl rfl rfl (by decide) ?_)))
  intro r9 hr2
  refine qg (ii (r9)) rfl (qb (qa (qd (ptr cb 0) rfl (qd (ptr cb 0) rfl (cX (jk rfl (cX (ql (1) jM rfl sizeOf3 (by decide) rfl rfl (cX (qi isAgg3 rfl (Rd.own [] rfl rfl) (cX (qD (i + 1) rfl rfl (by omega) (by omega) (cX (jk rfl (cX (ql (1) jM rfl sizeOf3 (by decide) rfl rfl ?_))))))))))))))))
  refine cX (jC [] _ [bsv, ii (i + 1), ii (r2)] sizeOf3 rfl rfl rfl rfl rfl rfl (qb (qc (qa (qd (ii (r9)) rfl (qg (ii (r9)) rfl (qb (qC (qv (L' := cellsH cb [bsv, ii (i + 1), ii (r2)] 83 :: L) [ii (r9)] (ii (r9)) (.tmp rfl .nil) rfl rF le1 (sC sR) ?_)))))))))
  exact ⟨⟨rfl, _, rfl, by omega⟩, _, _, by omega, by omega, rfl⟩
 refine qx (qc (qa (qd (ii (r8)) rfl (qg (ii (r8)) rfl (qb (qC (qv (L' := cellsH cb [bsv, ii (i), ii (r2)] 83 :: L) [ii (r8)] (ii (r8)) (.tmp rfl .nil) rfl rF le1 (sC sR) ?_)))))))
 exact ⟨⟨rfl, _, rfl, by omega⟩, _, _, by omega, by omega, rfl⟩
theorem l1Byte_spec {F : FH} {L : List HP} {cb : Nat} {bsv : Value} {bs : List Int} (hbs : BytesF F bsv bs) (hbl : bs.length ≤ 4000000) : Does prog 56 [ptr cb 0] F (curH .i64 83 cb bsv bs.length :: L) (fun v F' L' => (F = F' ∧ ∃ (x : Int), (.int .i64 x : Value) = v ∧ (0 ≤ x ∧ x ≤ 255)) ∧ curH .i64 83 cb bsv bs.length :: L = L') :=
  Does.cur (Q := fun v F' => F = F' ∧ ∃ (x : Int), (.int .i64 x : Value) = v ∧ (0 ≤ x ∧ x ≤ 255)) fun i h h0 h1 => l1Byte_spec0 hbs hbl h0 h1

/- spec.l1Below -/
theorem l1Below_spec {F : FH} {L : List HP} {cb : Nat} {bsv : Value} {bs : List Int} (hbs : BytesF F bsv bs) (hbl : bs.length ≤ 4000000) {n : Int} (hn : n ≤ 1000000) :
    Does prog 22 [ptr cb 0, ii (n)] F (curH .i64 83 cb bsv bs.length :: L) (fun v F' L' => (F = F' ∧ ∃ (x : Int), (ii (x) : Value) = v ∧ (0 ≤ x ∧ (x < n ∨ x = 0))) ∧ curH .i64 83 cb bsv bs.length :: L = L') := by
 refine qO func22 rfl rfl rfl (qc (qa (qg (ii (0)) rfl (qb (qc (qc (qa (qd (ii (n)) rfl (cX (XOp.leq rfl rfl (qb ?_)))))))))))
 refine qE (p := (n : Int) ≤ 0) rfl (fun h1 => ?_) (fun h1 => ?_)
 ·refine qc (qa (qg (ii (0)) rfl (qb (qC (qn (qv (L' := curH .i64 83 cb bsv bs.length :: L) [ii (0)] (ii (0)) (.tmp rfl .nil) rfl rF rF (sC sR) ?_))))))
  exact ⟨⟨rfl, _, rfl, by omega⟩, rfl⟩
 refine qx (qc (qc (qa (qd (ii (n)) rfl (cX (XOp.leq rfl rfl (qb ?_)))))))
 refine qE (p := (n : Int) ≤ 256) rfl (fun h2 => ?_) (fun h2 => ?_)
 ·refine qc (qa (qd (ptr cb 0) rfl (cX (qq (args := [ptr cb 0]) call56 rfl (jl [] (l1Byte_spec hbs (by omega))) ?_))))
  rintro _ _ _ _ ⟨⟨rfl, x1, rfl, hr1⟩, rfl⟩
  show XL _ _ _ _ _ _ _ (curH .i64 83 cb bsv bs.length :: L)
  refine qd (ii (n)) rfl (cX (XOp.remV (a := x1) (b := n) rfl rfl (by omega) (by omega) ?_))
  intro r1 hr2
  refine qg (ii (r1)) rfl (qb (qC (qn (qv (L' := curH .i64 83 cb bsv bs.length :: L) [ii (r1)] (ii (r1)) (.tmp rfl .nil) rfl rF rF (sC sR) ?_))))
  exact ⟨⟨rfl, _, rfl, by omega⟩, rfl⟩
 refine qx (qc (qa (qd (ptr cb 0) rfl (cX (qq (args := [ptr cb 0]) call56 rfl (jl [] (l1Byte_spec hbs (by omega))) ?_)))))
 rintro _ _ _ _ ⟨⟨rfl, x2, rfl, hr3⟩, rfl⟩
 show XL _ _ _ _ _ _ _ (curH .i64 83 cb bsv bs.length :: L)
 refine qg (ii (x2)) rfl (qb (qc (qa (qd (ptr cb 0) rfl (cX (qq (args := [ptr cb 0]) call56 rfl (jl [] (l1Byte_spec hbs (by omega))) ?_))))))
 rintro _ _ _ _ ⟨⟨rfl, x3, rfl, hr4⟩, rfl⟩
 show XL _ _ _ _ _ _ _ (curH .i64 83 cb bsv bs.length :: L)
 refine qg (ii (x3)) rfl (qb (qc (qa (qd (ptr cb 0) rfl (cX (qq (args := [ptr cb 0]) call56 rfl (jl [] (l1Byte_spec hbs (by omega))) ?_))))))
 rintro _ _ _ _ ⟨⟨rfl, x4, rfl, hr5⟩, rfl⟩
 show XL _ _ _ _ _ _ _ (curH .i64 83 cb bsv bs.length :: L)
 refine qg (ii (x4)) rfl (qb (qc (qa (qd (ptr cb 0) rfl (cX (qq (args := [ptr cb 0]) call56 rfl (jl [] (l1Byte_spec hbs (by omega))) ?_))))))
 rintro _ _ _ _ ⟨⟨rfl, x5, rfl, hr6⟩, rfl⟩
 show XL _ _ _ _ _ _ _ (curH .i64 83 cb bsv bs.length :: L)
 refine qg (ii (x5)) rfl (qb (qc (qa (qd (ii (x2)) rfl (cX (XOp.mulR (x2 * 16777216) rfl rfl (by omega) (by omega) (qd (ii (x3)) rfl (cX (XOp.mulR (x3 * 65536) rfl rfl (by omega) (by omega) (cX (qD ((x2 * 16777216) + (x3 * 65536)) rfl rfl (by omega) (by omega) (qd (ii (x4)) rfl (cX (XOp.mulR (x4 * 256) rfl rfl (by omega) (by omega) (cX (qD (((x2 * 16777216) + (x3 * 65536)) + (x4 * 256)) rfl rfl (by omega) (by omega) ?_))))))))))))))))
 refine qd (ii (x5)) rfl (cX (qD ((((x2 * 16777216) + (x3 * 65536)) + (x4 * 256)) + x5) rfl rfl (by omega) (by omega) (qd (ii (n)) rfl (cX (XOp.remV (a := (((x2 * 16777216) + (x3 * 65536)) + (x4 * 256)) + x5) (b := n) rfl rfl (by omega) (by omega) ?_)))))
 intro r2 hr7
 refine qg (ii (r2)) rfl (qb (qC (qv (L' := curH .i64 83 cb bsv bs.length :: L) [ii (r2)] (ii (r2)) (.tmp rfl .nil) rfl rF rF (sC sR) ?_)))
 exact ⟨⟨rfl, _, rfl, by omega⟩, rfl⟩

/- spec.l1Once -/
theorem l1Once_spec {F : FH} {L : List HP} {cb : Nat} {bsv : Value} {bs : List Int} (hbs : BytesF F bsv bs) (hbl : bs.length ≤ 4000000) {n : Int} (hn : n ≤ 1000000) :
    Does prog 19 [ptr cb 0, ii (n)] F (curH .i64 83 cb bsv bs.length :: L) (fun v F' L' => (F = F' ∧ ∃ (b : Bool), (.bool (b) : Value) = v) ∧ curH .i64 83 cb bsv bs.length :: L = L') := by
 refine qO func19 rfl rfl rfl (qc (qa (qg (.bool (false)) rfl (qb (qc (qa (qd (ptr cb 0) rfl (qd (ii (n)) rfl (cX (qq (args := [ptr cb 0, ii (n)]) call22 rfl (jl [] (l1Below_spec (n := n) hbs (by omega) (hn := (by first | assumption | rfl | omega | simp)))) ?_))))))))))
 rintro _ _ _ _ ⟨⟨rfl, x1, rfl, hr1⟩, rfl⟩
 show XL _ _ _ _ _ _ _ (curH .i64 83 cb bsv bs.length :: L)
 refine cX (jp rfl rfl (qg (.bool (decide ((x1 : Int) = 0))) rfl (qb (qC (qv (L' := curH .i64 83 cb bsv bs.length :: L) [.bool (decide ((x1 : Int) = 0))] (.bool (decide ((x1 : Int) = 0))) (.tmp rfl .nil) rfl rF rF (sC sR) ?_)))))
 exact ⟨⟨rfl, _, rfl⟩, rfl⟩

/- spec.l1From -/
theorem l1From_spec {F : FH} {L : List HP} {cb : Nat} {bsv : Value} {bs : List Int} (hbs : BytesF F bsv bs) (hbl : bs.length ≤ 4000000) {lo : Int} {hi : Int} (hlo : -1000 ≤ lo ∧ lo ≤ 1000 ∧ -1000 ≤ hi ∧ hi ≤ 900000) :
    Does prog 74 [ptr cb 0, ii (lo), ii (hi)] F (curH .i64 83 cb bsv bs.length :: L) (fun v F' L' => (F = F' ∧ ∃ (x : Int), (ii (x) : Value) = v ∧ (lo ≤ x ∧ (x ≤ hi ∨ x = lo))) ∧ curH .i64 83 cb bsv bs.length :: L = L') := by
 refine qO func74 rfl rfl rfl (qc (qa (qg (ii (0)) rfl (qb (qc (qa (qd (ii (lo)) rfl (qd (ptr cb 0) rfl (qd (ii (hi)) rfl (qd (ii (lo)) rfl (cX (js (hi - lo) rfl rfl (by omega) (by omega) (cX (qD ((hi - lo) + 1) rfl rfl (by omega) (by omega) ?_))))))))))))))
 refine cX (qq (args := [ptr cb 0, ii ((hi - lo) + 1)]) call22 rfl (jl [] (l1Below_spec (n := (hi - lo) + 1) hbs (by omega) (hn := (by first | assumption | rfl | omega | simp)))) ?_)
 rintro _ _ _ _ ⟨⟨rfl, x1, rfl, hr1⟩, rfl⟩
 show XL _ _ _ _ _ _ _ (curH .i64 83 cb bsv bs.length :: L)
 refine cX (qD (lo + x1) rfl rfl (by omega) (by omega) (qg (ii (lo + x1)) rfl (qb (qC (qv (L' := curH .i64 83 cb bsv bs.length :: L) [ii (lo + x1)] (ii (lo + x1)) (.tmp rfl .nil) rfl rF rF (sC sR) ?_)))))
 exact ⟨⟨rfl, _, rfl, by omega⟩, rfl⟩

/- spec.l1Odd -/
theorem l1Odd_spec {F : FH} {L : List HP} {cb : Nat} {bsv : Value} {bs : List Int} (hbs : BytesF F bsv bs) (hbl : bs.length ≤ 4000000) :
    Does prog 55 [ptr cb 0] F (curH .i64 83 cb bsv bs.length :: L) (fun v F' L' => (F = F' ∧ ∃ (x : Int), (ii (x) : Value) = v) ∧ curH .i64 83 cb bsv bs.length :: L = L') := by
 refine qO func55 rfl rfl rfl (qc (qa (qg (ii (0)) rfl (qb (qc (qa (cX (qP (s := 1) [ii (-1), ii (0), ii (1), ii (2147483648), ii (-2147483648), ii (1099511627776), ii (4611686018427387904), ii (-4611686018427387904), ii (9223372036854775807), ii (-9223372036854775808)] [ii (0)] [(0, [ii (-1)]), (1, [ii (0)]), (2, [ii (1)]), (3, [ii (2147483648)]), (4, [ii (-2147483648)]), (5, [ii (1099511627776)]), (6, [ii (4611686018427387904)]), (7, [ii (-4611686018427387904)]), (8, [ii (9223372036854775807)]), (9, [ii (-9223372036854775808)])] qf qr jm rfl (by decide) rfl (.cons rfl (.cons rfl (.cons rfl (.cons rfl (.cons rfl (.cons rfl (.cons rfl (.cons rfl (.cons rfl (.cons rfl CellsAre.nil)))))))))) rfl ?_))))))))
 intro v1 hv1
 show XL _ _ _ _ _ _ _ (intsH 2 v1 ([-1, 0, 1, 2147483648, -2147483648, 1099511627776, 4611686018427387904, -4611686018427387904, 9223372036854775807, -9223372036854775808] : List Int) :: curH .i64 83 cb bsv bs.length :: L)
 have hl10 : ([-1, 0, 1, 2147483648, -2147483648, 1099511627776, 4611686018427387904, -4611686018427387904, 9223372036854775807, -9223372036854775808] : List Int).length = 10 := rfl
 refine qd (ptr cb 0) rfl (cX (qq (args := [ptr cb 0, ii (10)]) call22 rfl (jl [_] (l1Below_spec (n := 10) hbs (by omega) (hn := (by first | assumption | rfl | omega | simp)))) ?_))
 rintro _ _ _ _ ⟨⟨rfl, x1, rfl, hr1⟩, rfl⟩
 show XL _ _ _ _ _ _ _ (intsH 2 v1 ([-1, 0, 1, 2147483648, -2147483648, 1099511627776, 4611686018427387904, -4611686018427387904, 9223372036854775807, -9223372036854775808] : List Int) :: curH .i64 83 cb bsv bs.length :: L)
 refine cX (qy ((x1).toNat) qf qr rfl rfl (by omega) (intsH.slv [] rfl) (by omega) (Nat.mul_one _) (cX (qi qM rfl (intsH.rd [] rfl (by omega)) (qg (ii (([-1, 0, 1, 2147483648, -2147483648, 1099511627776, 4611686018427387904, -4611686018427387904, 9223372036854775807, -9223372036854775808]).getD ((x1).toNat) 0)) rfl (qb (qC (qv (L' := curH .i64 83 cb bsv bs.length :: L) [ii (([-1, 0, 1, 2147483648, -2147483648, 1099511627776, 4611686018427387904, -4611686018427387904, 9223372036854775807, -9223372036854775808]).getD ((x1).toNat) 0)] (ii (([-1, 0, 1, 2147483648, -2147483648, 1099511627776, 4611686018427387904, -4611686018427387904, 9223372036854775807, -9223372036854775808]).getD ((x1).toNat) 0)) (.tmp rfl .nil) rfl rF rF (sD (sC sR)) ?_)))))))
 exact ⟨⟨rfl, _, rfl⟩, rfl⟩

/- spec.l1DrawSig -/
theorem l1DrawSig_spec {F : FH} {L : List HP} {cb : Nat} {bsv : Value} {bs : List Int} (hbs : BytesF F bsv bs) (hbl : bs.length ≤ 4000000) :
    Does prog 47 [ptr cb 0] F (curH .i64 83 cb bsv bs.length :: L) (fun v F' L' => ∃ a : Value, ((.agg #[a] : Value) = v ∧ IsSl a) ∧ drawnH 2 a (fun ar => sigOk ar = true) :: curH .i64 83 cb bsv bs.length :: L = L') := by
 refine qO func47 rfl rfl rfl (qc (qa (cX (jt [sN] zeroValue26 rfl ?_))))
 intro b1
 refine qb (qc (qa (cX (qP (s := 1) [ii (2), ii (1), ii (0)] [ii (0)] [(0, [ii (2)]), (1, [ii (1)]), (2, [ii (0)])] qf qr jm rfl (by decide) rfl (.cons rfl (.cons rfl (.cons rfl CellsAre.nil))) rfl ?_))))
 intro v1 hv1
 refine cX (XOp.build [v1] [sN] [(0, 1)] [(0, [v1])] ja zeroValue26 rfl (.cons rfl qw PlacesAre.nil) rfl (.cons (cells_one (jH hv1)) CellsAre.nil) (cX (jt [sN] zeroValue26 rfl ?_)))
 intro b2
 refine cX (qX [] _ [v1] qI rfl rfl rfl (qt (qU (jH hv1)) qZ) rfl rfl rfl (qb (qc (qc (qa (qd (ptr cb 0) rfl (cX (qq (args := [ptr cb 0, ii (4)]) call19 rfl (jl [_, _, _] (l1Once_spec (n := 4) hbs (by omega) (hn := (by first | assumption | rfl | omega | simp)))) ?_))))))))
 rintro _ _ _ _ ⟨⟨rfl, x1, rfl⟩, rfl⟩
 show XL _ _ _ _ _ _ _ (cellsH b2 [v1] 26 :: slH 2 1 v1 3 [ii (2), ii (1), ii (0)] :: cellsH b1 [sN] 26 :: curH .i64 83 cb bsv bs.length :: L)
 refine qb ?_
 refine jr (t := x1) rfl (fun h1 => ?_) (fun h1 => ?_)
 ·refine qc (qa (cX (qP (s := 1) [ii (0)] [ii (0)] [(0, [ii (0)])] qf qr jm rfl (by decide) rfl (.cons rfl CellsAre.nil) rfl ?_)))
  intro v2 hv2
  refine cX (XOp.build [v2] [sN] [(0, 1)] [(0, [v2])] ja zeroValue26 rfl (.cons rfl qw PlacesAre.nil) rfl (.cons (cells_one (jH hv2)) CellsAre.nil) (cX (qX [_] _ [v2] qI rfl rfl rfl (qt (qU (jH hv2)) qZ) rfl rfl rfl (qb (qc (qa ?_))))))
  show XL _ _ _ _ _ _ _ (intsH 2 v2 ([0] : List Int) :: cellsH b2 [v2] 26 :: slH 2 1 v1 3 [ii (2), ii (1), ii (0)] :: cellsH b1 [sN] 26 :: curH .i64 83 cb bsv bs.length :: L)
  skip
  refine qd (ptr cb 0) rfl (cX (qq (args := [ptr cb 0, ii (4)]) call22 rfl (jl [_, _, _, _] (l1Below_spec (n := 4) hbs (by omega) (hn := (by first | assumption | rfl | omega | simp)))) ?_))
  rintro _ _ _ _ ⟨⟨rfl, x2, rfl, hr1⟩, rfl⟩
  show XL _ _ _ _ _ _ _ (intsH 2 v2 ([0] : List Int) :: cellsH b2 [v2] 26 :: slH 2 1 v1 3 [ii (2), ii (1), ii (0)] :: cellsH b1 [sN] 26 :: curH .i64 83 cb bsv bs.length :: L)
  refine qg (ii (x2)) rfl (qb (qF (jg (α := Nat × Value × List Int) (fun xQ => [(0, ptr cb 0), (2, ptr b1 0), (3, ptr b2 0), (4, ii (((xQ.1 : Nat) : Int)))]) (fun xQ => intsH 2 xQ.2.1 xQ.2.2 :: cellsH b2 [xQ.2.1] 26 :: slH 2 1 v1 3 [ii (2), ii (1), ii (0)] :: cellsH b1 [sN] 26 :: curH .i64 83 cb bsv bs.length :: L) (fun xQ F' => F = F' ∧ (IsSl xQ.2.1) ∧ (sigOk xQ.2.2 = true) ∧ (xQ.2.2.length + xQ.1 ≤ 4)) (fun xQ => xQ.1) (x2.toNat, v2, [0]) ⟨rfl, rfl, rfl, (vI (by omega)), ⟨⟩⟩ (sC (sC (sC (sC (sC sR))))) ⟨rfl, ((jH hv2)), ((show sigOk [0] = true from by decide)), (by (try simp only [List.length_cons, List.length_nil]); omega)⟩ ?_)))
  rintro ⟨n, ov, os⟩ rE _ _ ⟨rfl, hov, hso, hon⟩
  show X _ _ _ _ (envs [(0, ptr cb 0), (2, ptr b1 0), (3, ptr b2 0), (4, ii ((n : Int)))] rE) _ (intsH 2 ov os :: cellsH b2 [ov] 26 :: slH 2 1 v1 3 [ii (2), ii (1), ii (0)] :: cellsH b1 [sN] 26 :: curH .i64 83 cb bsv bs.length :: L)
  dsimp only at hov hso hon
  refine qc (qc (qa (qd (ii ((n : Int))) rfl (cX (jw rfl rfl (qb ?_))))))
  refine qE (p := (n : Int) > 0) rfl (fun h2 => ?_) (fun h2 => ?_)
  ·refine qx (qc (qF ?_))
   refine X.drawG [intsH 2 ov os, cellsH b2 [ov] 26, slH 2 1 v1 3 [ii (2), ii (1), ii (0)], cellsH b1 [sN] 26, curH .i64 83 cb bsv bs.length] L 5 [[], [], [], [], [3]] [[], [0], [], [2], [3]] [] (phiG [pe (ptr b2 0), pe ov, pe (ptr cb 0), fun FF us v => (ii (((intAt v))) : Value) = v ∧ (0 ≤ ((intAt v)) ∧ (((intAt v)) < 3 ∨ ((intAt v)) = 0)), fun FF us v => ∃ b, v = .slice (some ⟨b, 0, none⟩) 1 1]) (ownL [o0, o0, o0, o0, fun us v => [slH 2 1 v 1 [ii (((intAt (us.getD 0 undef))))]]]) mixed rfl rfl (by kernel_rfl) (by kernel_rfl) (MonoG.get (m1 (m1 (m1 (mC (fun le h => ⟨h.1, h.2⟩) (mC (fun le h => h) MonoG.nil)))))) ?_ ?_
   ·refine gD (fun W Fs R lF z9 => ?_) ?_
    ·refine qh (ql (0) ja rfl qw (by decide) rfl rfl ?_)
     exact ⟨rfl, rfl⟩
    refine gD (fun W Fs R lF z9 => ?_) ?_
    ·replace hbs := hbs.mono lF
     rw [zA 0 (z9 0 rfl)]
     refine qh (qi qT rfl (Rd.own [_] rfl rfl) ?_)
     exact ⟨rfl, rfl⟩
    refine gD (fun W Fs R lF z9 => ?_) ?_
    ·refine qh (qk (ptr cb 0) rfl ?_)
     exact ⟨rfl, rfl⟩
    refine gD (fun W Fs R lF z9 => ?_) ?_
    ·replace hbs := hbs.mono lF
     rw [zA 2 (z9 2 rfl)]
     refine qh (qq (args := [ptr cb 0, ii (3)]) call22 rfl (jl [_, _, _, _] (l1Below_spec (n := 3) hbs (by omega) (hn := (by first | assumption | rfl | omega | simp)))) ?_)
     rintro _ _ _ _ ⟨⟨rfl, x4, rfl, hr3⟩, rfl⟩
     exact ⟨⟨rfl, hr3⟩, rfl⟩
    refine gD (fun W Fs R lF z9 => ?_) ?_
    ·obtain ⟨e3, f3_1hx⟩ := z9 3 rfl
     rw [eS (l := [(3, (ii (((intAt (W 3))))))]) ⟨(e3).symm, ⟨⟩⟩]
     refine qh (qP (s := 1) [ii (((intAt (W 3))))] [ii (0)] [(0, [ii (((intAt (W 3))))])] qf qr jm rfl (by decide) rfl (.cons rfl CellsAre.nil) rfl ?_)
     intro v4 hv4
     exact ⟨hv4, rfl⟩
    exact stepsG.nil
   intro W F5 le5 hphi
   obtain ⟨e3, f3_1hx⟩ := hphi 3 (by decide)
   have f4 : ∃ b, (W 4) = .slice (some ⟨b, 0, none⟩) 1 1 := hphi 4 (by decide)
   generalize hu1 : (intAt (W 3)) = u1 at e3 f3_1hx f4
   generalize huu4 : W 4 = u2 at e3 f3_1hx f4
   rw [eS (l := [(1, _), (3, (ii ((u1)))), (4, u2)]) ⟨(hphi 1 (by decide)), (e3).symm, huu4, ⟨⟩⟩]
   show XL _ _ _ _ _ _ _ (slH 2 1 u2 1 [ii ((u1))] :: intsH 2 ov os :: cellsH b2 [ov] 26 :: slH 2 1 v1 3 [ii (2), ii (1), ii (0)] :: cellsH b1 [sN] 26 :: curH .i64 83 cb bsv bs.length :: L)
   refine cX (jL (u := (u1)) [_] _ qf typeInfo2 rfl rfl rfl rfl rfl rfl (SlV.own [] rfl) (Rd.sl [] rfl rfl) (by (try simp only [List.length_append, List.length_nil, List.length_cons, List.length_singleton, List.length_take, List.length_drop]); omega) ?_)
   intro v5 hs1 hn1
   refine cX (ql (0) ja rfl qw (by decide) rfl rfl (cX (jC [_, _] _ [v5] qw rfl rfl (qU hs1) rfl rfl rfl (qb (qa (qd (ii ((n : Int))) rfl (cX (js (((n : Int)) - 1) rfl rfl (by omega) (by omega) (qg (ii (((n : Int)) - 1)) rfl (qb ?_))))))))))
   exact ⟨(n - 1, v5, os ++ [(u1)]), _, FLe.refl _, le5, ⟨rfl, rfl, rfl, (vI (by (try dsimp only); omega)), ⟨⟩⟩, (sD (sC (sC (sC (sC (sC sR)))))), ⟨rfl, (hs1), (sigOk_snoc hso (by omega) (by omega)), (by (try dsimp only); rw [List.length_append]; simp only [List.length_singleton]; omega)⟩, (by (try dsimp only); omega)⟩
  refine jd (qp (qp (qJ (qc (qa (cX (qu [ov] qY qI rfl rfl (Rd.ownN [_] rfl rfl) (cX (qX [_, _, _] _ [ov] qI rfl rfl rfl (qt (qU hov) qZ) rfl rfl rfl (qb (qC (qv (L' := drawnH 2 ov (fun ar => sigOk ar = true) :: curH .i64 83 cb bsv bs.length :: L) [.agg #[ov]] (.agg #[ov]) (.cell rfl (jv [ov] qY qI rfl (Rd.ownN [_, _, _] rfl rfl)) .nil) rfl rF rF (jj (sC (sD (sD (sD (sC sR))))) (Sub.keep (drawnH.of (t := os) hso) sR)) ?_))))))))))))
  exact ⟨_, ⟨rfl, hov⟩, rfl⟩
 refine qx (qc (qa (cX (qu [v1] qY qI rfl rfl (Rd.ownN [] rfl rfl) (cX (qX [_, _] _ [v1] qI rfl rfl rfl (qt (qU (jH hv1)) qZ) rfl rfl rfl (qb (qC (qv (L' := drawnH 2 v1 (fun ar => sigOk ar = true) :: curH .i64 83 cb bsv bs.length :: L) [.agg #[v1]] (.agg #[v1]) (.cell rfl (jv [v1] qY qI rfl (Rd.ownN [_, _] rfl rfl)) .nil) rfl rF rF (jj (sD (sC (sD (sC sR)))) (Sub.keep (drawnH.of (t := [2, 1, 0]) ((by decide))) sR)) ?_)))))))))
 exact ⟨_, ⟨rfl, (jH hv1)⟩, rfl⟩

/- spec.l1DrawSigAny -/
theorem l1DrawSigAny_spec {F : FH} {L : List HP} {cb : Nat} {bsv : Value} {bs : List Int} (hbs : BytesF F bsv bs) (hbl : bs.length ≤ 4000000) :
    Does prog 49 [ptr cb 0] F (curH .i64 83 cb bsv bs.length :: L) (fun v F' L' => (∃ (a : Value), ∃ (ar : List Int), (.agg #[a] : Value) = v ∧ (IntsF F' a ar) ∧ (ar.length ≤ 20)) ∧ curH .i64 83 cb bsv bs.length :: L = L') := by
 refine qO func49 rfl rfl rfl (qc (qa (cX (jt [sN] zeroValue26 rfl ?_))))
 intro b1
 refine qb (qc (qa (qd (ptr cb 0) rfl (cX (qq (args := [ptr cb 0]) call47 rfl (Does.atO [_] (l1DrawSig_spec hbs (by omega))) ?_)))))
 rintro _ F1 _ le1 ⟨x2, ⟨rfl, hsl1⟩, rfl⟩
 replace hbs := hbs.mono le1
 show XL _ _ _ _ _ _ _ (drawnH 2 x2 (fun ar => sigOk ar = true) :: cellsH b1 [sN] 26 :: curH .i64 83 cb bsv bs.length :: L)
 refine XL.undraw [] rfl (fun t1 hq9 => ?_)
 have q1 := hq9
 show XL _ _ _ _ _ _ _ (intsH 2 x2 t1 :: cellsH b1 [sN] 26 :: curH .i64 83 cb bsv bs.length :: L)
 have hsl9 := sigOk_spec q1
 refine cX (jt [sN] zeroValue26 rfl ?_)
 intro b2
 refine cX (qX [] _ [x2] qI rfl rfl rfl (qt (qU hsl1) qZ) rfl rfl rfl (qb (qc (qc (qa (qd (ptr cb 0) rfl (cX (qq (args := [ptr cb 0, ii (15)]) call19 rfl (jl [_, _, _] (l1Once_spec (n := 15) hbs (by omega) (hn := (by first | assumption | rfl | omega | simp)))) ?_))))))))
 rintro _ _ _ _ ⟨⟨rfl, x3, rfl⟩, rfl⟩
 show XL _ _ _ _ _ _ _ (cellsH b2 [x2] 26 :: intsH 2 x2 t1 :: cellsH b1 [sN] 26 :: curH .i64 83 cb bsv bs.length :: L)
 refine qb ?_
 refine jr (t := x3) rfl (fun h1 => ?_) (fun h1 => ?_)
 ·refine qc (qa (qd (ptr cb 0) rfl (cX (qq (args := [ptr cb 0, ii (3)]) call22 rfl (jl [_, _, _] (l1Below_spec (n := 3) hbs (by omega) (hn := (by first | assumption | rfl | omega | simp)))) ?_))))
  rintro _ _ _ _ ⟨⟨rfl, x4, rfl, hr1⟩, rfl⟩
  show XL _ _ _ _ _ _ _ (cellsH b2 [x2] 26 :: intsH 2 x2 t1 :: cellsH b1 [sN] 26 :: curH .i64 83 cb bsv bs.length :: L)
  refine qb (qF (qc (qa (cX (jp rfl rfl (qg (.bool (decide ((x4 : Int) = 0))) rfl (qb ?_)))))))
  refine qE (p := (x4 : Int) = 0) rfl (fun h2 => ?_) (fun h2 => ?_)
  ·refine X.drawG [cellsH b2 [x2] 26, intsH 2 x2 t1, cellsH b1 [sN] 26, curH .i64 83 cb bsv bs.length] L 5 [[], [], [], [], [3]] [[], [0], [], [2], [3]] [] (phiG [pe (ptr b2 0), pe x2, pe (ptr cb 0), fun FF us v => (ii (((intAt v))) : Value) = v ∧ ((-1) ≤ ((intAt v)) ∧ (((intAt v)) ≤ 4 ∨ ((intAt v)) = (-1))), fun FF us v => ∃ b, v = .slice (some ⟨b, 0, none⟩) 1 1]) (ownL [o0, o0, o0, o0, fun us v => [slH 2 1 v 1 [ii (((intAt (us.getD 0 undef))))]]]) mixed rfl rfl (by kernel_rfl) (by kernel_rfl) (MonoG.get (m1 (m1 (m1 (mC (fun le h => ⟨h.1, h.2⟩) (mC (fun le h => h) MonoG.nil)))))) ?_ ?_
   ·refine gD (fun W Fs R lF z9 => ?_) ?_
    ·refine qh (ql (0) ja rfl qw (by decide) rfl rfl ?_)
     exact ⟨rfl, rfl⟩
    refine gD (fun W Fs R lF z9 => ?_) ?_
    ·replace hbs := hbs.mono lF
     rw [zA 0 (z9 0 rfl)]
     refine qh (qi qT rfl (Rd.own [] rfl rfl) ?_)
     exact ⟨rfl, rfl⟩
    refine gD (fun W Fs R lF z9 => ?_) ?_
    ·refine qh (qk (ptr cb 0) rfl ?_)
     exact ⟨rfl, rfl⟩
    refine gD (fun W Fs R lF z9 => ?_) ?_
    ·replace hbs := hbs.mono lF
     rw [zA 2 (z9 2 rfl)]
     refine qh (qq (args := [ptr cb 0, ii (-1), ii (4)]) call74 rfl (jl [_, _, _] (l1From_spec (lo := -1) (hi := 4) hbs (by omega) (hlo := (by first | assumption | rfl | omega | simp)))) ?_)
     rintro _ _ _ _ ⟨⟨rfl, x6, rfl, hr3⟩, rfl⟩
     exact ⟨⟨rfl, hr3⟩, rfl⟩
    refine gD (fun W Fs R lF z9 => ?_) ?_
    ·obtain ⟨e3, f3_1hx⟩ := z9 3 rfl
     replace hbs := hbs.mono lF
     rw [eS (l := [(3, (ii (((intAt (W 3))))))]) ⟨(e3).symm, ⟨⟩⟩]
     refine qh (qP (s := 1) [ii (((intAt (W 3))))] [ii (0)] [(0, [ii (((intAt (W 3))))])] qf qr jm rfl (by decide) rfl (.cons rfl CellsAre.nil) rfl ?_)
     intro v2 hv2
     exact ⟨hv2, rfl⟩
    exact stepsG.nil
   intro W F6 le6 hphi
   obtain ⟨e3, f3_1hx⟩ := hphi 3 (by decide)
   have f4 : ∃ b, (W 4) = .slice (some ⟨b, 0, none⟩) 1 1 := hphi 4 (by decide)
   generalize hu1 : (intAt (W 3)) = u1 at e3 f3_1hx f4
   generalize huu4 : W 4 = u2 at e3 f3_1hx f4
   rw [eS (l := [(1, _), (3, (ii ((u1)))), (4, u2)]) ⟨(hphi 1 (by decide)), (e3).symm, huu4, ⟨⟩⟩]
   replace hbs := hbs.mono le6
   show XL _ _ _ _ _ _ _ (slH 2 1 u2 1 [ii ((u1))] :: cellsH b2 [x2] 26 :: intsH 2 x2 t1 :: cellsH b1 [sN] 26 :: curH .i64 83 cb bsv bs.length :: L)
   refine cX (jL (u := (u1)) [_, _] _ qf typeInfo2 rfl rfl rfl rfl rfl rfl (SlV.own [] rfl) (Rd.sl [] rfl rfl) (by (try simp only [List.length_append, List.length_nil, List.length_cons, List.length_singleton, List.length_take, List.length_drop]); omega) ?_)
   intro v3 hs1 hn1
   refine cX (ql (0) ja rfl qw (by decide) rfl rfl (cX (jC [_] _ [v3] qw rfl rfl (qU hs1) rfl rfl rfl (qb (qc (qa (cX (qu [v3] qY qI rfl rfl (Rd.ownN [_] rfl rfl) (cX (qX [_, _, _] _ [v3] qI rfl rfl rfl (qt (qU hs1) qZ) rfl rfl rfl (qb (jf [_, _] _ _ rfl (fun F7 le7 hz1 => ?_)))))))))))))
   replace hbs := hbs.mono le7
   have hf1 : IntsF F7 v3 (t1 ++ [(u1)]) := intsH.fz (xs := t1 ++ [(u1)]) hz1.fz
   refine qC (qv (L' := curH .i64 83 cb bsv bs.length :: L) [.agg #[v3]] (.agg #[v3]) (.cell rfl (jv [v3] qY qI rfl (Rd.ownN [_, _] rfl rfl)) .nil) rfl (qj (qj le1 le6) le7) rF (sD (sD (sD (sC sR)))) ?_)
   exact ⟨⟨_, _, rfl, hf1, by (have h9 := sigOk_spec q1); (try simp only [List.length_append, List.length_cons, List.length_nil, List.length_replicate]); omega⟩, rfl⟩
  refine qc (qa (cX (jp rfl rfl (qg (.bool (decide ((x4 : Int) = 1))) rfl (qb ?_)))))
  refine qE (p := (x4 : Int) = 1) rfl (fun h3 => ?_) (fun h3 => ?_)
  ·refine qa (cX (qP (s := 1) [] [ii (0)] [] qf qr jm rfl (by decide) rfl CellsAre.nil rfl ?_))
   intro v4 hv3
   refine cX (ql (0) ja rfl qw (by decide) rfl rfl (cX (jC [_] _ [v4] qw rfl rfl (qU (jH hv3)) rfl rfl rfl (qb (qc (qa (cX (qu [v4] qY qI rfl rfl (Rd.ownN [_] rfl rfl) (cX (qX [_, _, _] _ [v4] qI rfl rfl rfl (qt (qU (jH hv3)) qZ) rfl rfl rfl (qb ?_)))))))))))
   show X _ _ _ _ _ _ (intsH 2 v4 ([] : List Int) :: cellsH b2 [v4] 26 :: intsH 2 x2 t1 :: cellsH b1 [v4] 26 :: curH .i64 83 cb bsv bs.length :: L)
   refine jf [] _ _ rfl (fun F8 le8 hz2 => ?_)
   replace hbs := hbs.mono le8
   have hf2 : IntsF F8 v4 ([]) := intsH.fz (xs := []) hz2.fz
   refine qC (qv (L' := curH .i64 83 cb bsv bs.length :: L) [.agg #[v4]] (.agg #[v4]) (.cell rfl (jv [v4] qY qI rfl (Rd.ownN [_, _] rfl rfl)) .nil) rfl (qj le1 le8) rF (sD (sD (sD (sC sR)))) ?_)
   exact ⟨⟨_, _, rfl, hf2, by (have h9 := sigOk_spec q1); (try simp only [List.length_append, List.length_cons, List.length_nil, List.length_replicate]); omega⟩, rfl⟩
  refine qc (qa (cX (jp rfl rfl (qg (.bool (decide ((x4 : Int) = 2))) rfl (qb ?_)))))
  refine qE (p := (x4 : Int) = 2) rfl (fun h4 => ?_) (fun h4 => ?_)
  ·refine qa (qd (ptr cb 0) rfl (cX (qq (args := [ptr cb 0, ii (2)]) call22 rfl (jl [_, _, _] (l1Below_spec (n := 2) hbs (by omega) (hn := (by first | assumption | rfl | omega | simp)))) ?_)))
   rintro _ _ _ _ ⟨⟨rfl, x7, rfl, hr4⟩, rfl⟩
   show XL _ _ _ _ _ _ _ (cellsH b2 [x2] 26 :: intsH 2 x2 t1 :: cellsH b1 [sN] 26 :: curH .i64 83 cb bsv bs.length :: L)
   refine cX (qD (((8 + (x7).toNat : Nat) : Int)) rfl rfl (by omega) (by omega) (cX (XOp.makeSlice (n := 8 + (x7).toNat) (bytes := 8) [ii (0)] qf qr typeInfo2 rfl jm rfl rfl rfl rfl (by omega) (by omega) ?_)))
   intro v5 hv4
   rw [intsH_zeros]
   refine cX (ql (0) ja rfl qw (by decide) rfl rfl (cX (jC [_] _ [v5] qw rfl rfl (qU (jH hv4)) rfl rfl rfl (qb (qc (qa (cX (qu [v5] qY qI rfl rfl (Rd.ownN [_] rfl rfl) (cX (qX [_, _, _] _ [v5] qI rfl rfl rfl (qt (qU (jH hv4)) qZ) rfl rfl rfl (qb (jf [] _ _ rfl (fun F10 le10 hz3 => ?_)))))))))))))
   have hf3 : IntsF F10 v5 ((List.replicate (8 + (x7).toNat) 0)) := intsH.fz (xs := (List.replicate (8 + (x7).toNat) 0)) hz3.fz
   refine qC (qv (L' := curH .i64 83 cb bsv bs.length :: L) [.agg #[v5]] (.agg #[v5]) (.cell rfl (jv [v5] qY qI rfl (Rd.ownN [_, _] rfl rfl)) .nil) rfl (qj le1 le10) rF (sD (sD (sD (sC sR)))) ?_)
   exact ⟨⟨_, _, rfl, hf3, by (have h9 := sigOk_spec q1); (try simp only [List.length_append, List.length_cons, List.length_nil, List.length_replicate]); omega⟩, rfl⟩
  refine qx (qc (qa (cX (qu [x2] qY qI rfl rfl (Rd.ownN [] rfl rfl) (cX (qX [_, _] _ [x2] qI rfl rfl rfl (qt (qU hsl1) qZ) rfl rfl rfl (qb (jf [_] _ _ rfl (fun F11 le11 hz4 => ?_)))))))))
  have hf4 : IntsF F11 x2 t1 := intsH.fz (xs := t1) hz4.fz
  refine qC (qv (L' := curH .i64 83 cb bsv bs.length :: L) [.agg #[x2]] (.agg #[x2]) (.cell rfl (jv [x2] qY qI rfl (Rd.ownN [_] rfl rfl)) .nil) rfl (qj le1 le11) rF (sD (sD (sC sR))) ?_)
  exact ⟨⟨_, _, rfl, hf4, by (have h9 := sigOk_spec q1); (try simp only [List.length_append, List.length_cons, List.length_nil, List.length_replicate]); omega⟩, rfl⟩
 refine qx (qc (qa (cX (qu [x2] qY qI rfl rfl (Rd.ownN [] rfl rfl) (cX (qX [_, _] _ [x2] qI rfl rfl rfl (qt (qU hsl1) qZ) rfl rfl rfl (qb (jf [_] _ _ rfl (fun F12 le12 hz5 => ?_)))))))))
 have hf5 : IntsF F12 x2 t1 := intsH.fz (xs := t1) hz5.fz
 refine qC (qv (L' := curH .i64 83 cb bsv bs.length :: L) [.agg #[x2]] (.agg #[x2]) (.cell rfl (jv [x2] qY qI rfl (Rd.ownN [_] rfl rfl)) .nil) rfl (qj le1 le12) rF (sD (sD (sC sR))) ?_)
 exact ⟨⟨_, _, rfl, hf5, by (have h9 := sigOk_spec q1); (try simp only [List.length_append, List.length_cons, List.length_nil, List.length_replicate]); omega⟩, rfl⟩


/- spec.l1Min -/
theorem l1Min_spec {F : FH} {L : List HP} {a : Int} {b : Int} :
    Does prog 35 [ii (a), ii (b)] F (L) (fun v F' L' => (ii (min a b) : Value) = v ∧ F = F' ∧ L = L') := by
 refine qO func35 rfl rfl rfl (qc (qa (qg (ii (0)) rfl (qb (qc (qc (qa (qd (ii (a)) rfl (qd (ii (b)) rfl (cX (qV rfl rfl (qb ?_))))))))))))
 refine qE (p := (a : Int) < b) rfl (fun h1 => ?_) (fun h1 => ?_)
 ·refine qc (qa (qd (ii (a)) rfl (qg (ii (a)) rfl (qb (qC (qn (qv (L' := L) [ii (a)] (ii (a)) (.tmp rfl .nil) rfl rF rF sR ?_)))))))
  exact ⟨(vI (by omega)), rfl, rfl⟩
 refine qx (qc (qa (qd (ii (b)) rfl (qg (ii (b)) rfl (qb (qC (qv (L' := L) [ii (b)] (ii (b)) (.tmp rfl .nil) rfl rF rF sR ?_)))))))
 exact ⟨(vI (by omega)), rfl, rfl⟩

/- spec.l1Num -/
theorem l1Num_spec {F : FH} {L : List HP} {cb : Nat} {bsv : Value} {bs : List Int} (hbs : BytesF F bsv bs) (hbl : bs.length ≤ 4000000) {m : Int} (hm : 0 ≤ m ∧ m ≤ 1000) :
    Does prog 21 [ptr cb 0, ii (m)] F (curH .i64 83 cb bsv bs.length :: L) (fun v F' L' => (F = F' ∧ ∃ (x : Int), (ii (x) : Value) = v) ∧ curH .i64 83 cb bsv bs.length :: L = L') := by
 refine qO func21 rfl rfl rfl (qc (qa (qg (ii (0)) rfl (qb (qc (qc (qa (qd (ptr cb 0) rfl (cX (qq (args := [ptr cb 0, ii (10)]) call19 rfl (jl [] (l1Once_spec (n := 10) hbs (by omega) (hn := (by first | assumption | rfl | omega | simp)))) ?_))))))))))
 rintro _ _ _ _ ⟨⟨rfl, x1, rfl⟩, rfl⟩
 show XL _ _ _ _ _ _ _ (curH .i64 83 cb bsv bs.length :: L)
 refine qb ?_
 refine jr (t := x1) rfl (fun h1 => ?_) (fun h1 => ?_)
 ·refine qc (qa (qd (ii (m)) rfl (qd (ii (m)) rfl (cX (qD (m + 1) rfl rfl (by omega) (by omega) (qd (ptr cb 0) rfl (cX (qq (args := [ptr cb 0]) call55 rfl (jl [] (l1Odd_spec hbs (by omega))) ?_))))))))
  rintro _ _ _ _ ⟨⟨rfl, x2, rfl⟩, rfl⟩
  show XL _ _ _ _ _ _ _ (curH .i64 83 cb bsv bs.length :: L)
  refine cX (qP (s := 1) [ii (-1), ii (m), ii (m + 1), ii (x2)] [ii (0)] [(0, [ii (-1)]), (1, [ii (m)]), (2, [ii (m + 1)]), (3, [ii (x2)])] qf qr jm rfl (by decide) rfl (.cons rfl (.cons rfl (.cons rfl (.cons rfl CellsAre.nil)))) rfl ?_)
  intro v1 hv1
  show XL _ _ _ _ _ _ _ (intsH 2 v1 ([-1, m, m + 1, x2] : List Int) :: curH .i64 83 cb bsv bs.length :: L)
  have hl4 : ([-1, m, m + 1, x2] : List Int).length = 4 := rfl
  refine qd (ptr cb 0) rfl (cX (qq (args := [ptr cb 0, ii (4)]) call22 rfl (jl [_] (l1Below_spec (n := 4) hbs (by omega) (hn := (by first | assumption | rfl | omega | simp)))) ?_))
  rintro _ _ _ _ ⟨⟨rfl, x3, rfl, hr1⟩, rfl⟩
  show XL _ _ _ _ _ _ _ (intsH 2 v1 ([-1, m, m + 1, x2] : List Int) :: curH .i64 83 cb bsv bs.length :: L)
  refine cX (qy ((x3).toNat) qf qr rfl rfl (by omega) (intsH.slv [] rfl) (by omega) (Nat.mul_one _) (cX (qi qM rfl (intsH.rd [] rfl (by omega)) (qg (ii (([-1, m, m + 1, x2]).getD ((x3).toNat) 0)) rfl (qb (qC (qn (qv (L' := curH .i64 83 cb bsv bs.length :: L) [ii (([-1, m, m + 1, x2]).getD ((x3).toNat) 0)] (ii (([-1, m, m + 1, x2]).getD ((x3).toNat) 0)) (.tmp rfl .nil) rfl rF rF (sD (sC sR)) ?_))))))))
  exact ⟨⟨rfl, _, rfl⟩, rfl⟩
 refine qx (qc (qc (qa (qd (ptr cb 0) rfl (cX (qq (args := [ptr cb 0, ii (2)]) call19 rfl (jl [] (l1Once_spec (n := 2) hbs (by omega) (hn := (by first | assumption | rfl | omega | simp)))) ?_))))))
 rintro _ _ _ _ ⟨⟨rfl, x4, rfl⟩, rfl⟩
 show XL _ _ _ _ _ _ _ (curH .i64 83 cb bsv bs.length :: L)
 refine qb ?_
 refine jr (t := x4) rfl (fun h2 => ?_) (fun h2 => ?_)
 ·refine qc (qa (qd (ptr cb 0) rfl (qd (ii (m)) rfl (cX (qq (args := [ii (m), ii (4)]) call35 rfl (l1Min_spec (a := m) (b := 4)) ?_)))))
  rintro _ _ _ _ ⟨rfl, rfl, rfl⟩
  refine cX (qD ((min m 4) + 1) rfl rfl (by omega) (by omega) (cX (qq (args := [ptr cb 0, ii ((min m 4) + 1)]) call22 rfl (jl [] (l1Below_spec (n := (min m 4) + 1) hbs (by omega) (hn := (by first | assumption | rfl | omega | simp)))) ?_)))
  rintro _ _ _ _ ⟨⟨rfl, x5, rfl, hr2⟩, rfl⟩
  show XL _ _ _ _ _ _ _ (curH .i64 83 cb bsv bs.length :: L)
  refine qg (ii (x5)) rfl (qb (qC (qn (qv (L' := curH .i64 83 cb bsv bs.length :: L) [ii (x5)] (ii (x5)) (.tmp rfl .nil) rfl rF rF (sC sR) ?_))))
  exact ⟨⟨rfl, _, rfl⟩, rfl⟩
 refine qx (qc (qa (qd (ptr cb 0) rfl (qd (ii (m)) rfl (cX (qD (m + 1) rfl rfl (by omega) (by omega) (cX (qq (args := [ptr cb 0, ii (m + 1)]) call22 rfl (jl [] (l1Below_spec (n := m + 1) hbs (by omega) (hn := (by first | assumption | rfl | omega | simp)))) ?_))))))))
 rintro _ _ _ _ ⟨⟨rfl, x6, rfl, hr3⟩, rfl⟩
 show XL _ _ _ _ _ _ _ (curH .i64 83 cb bsv bs.length :: L)
 refine qg (ii (x6)) rfl (qb (qC (qv (L' := curH .i64 83 cb bsv bs.length :: L) [ii (x6)] (ii (x6)) (.tmp rfl .nil) rfl rF rF (sC sR) ?_)))
 exact ⟨⟨rfl, _, rfl⟩, rfl⟩
end Go.Proofs.Ytgdcboopbmpdoaa
