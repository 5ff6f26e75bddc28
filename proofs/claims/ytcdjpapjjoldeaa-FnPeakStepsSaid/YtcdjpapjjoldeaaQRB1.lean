/-
  Walks, one after the other (part 2).
-/
import Derived.Test.YtcdjpapjjoldeaaQRL2
import Derived.Test.YtcdjpapjjoldeaaQRB0
import Derived.Recover
import Derived.Tactics
import Derived.Tactics2
set_option linter.unusedSimpArgs false
set_option linter.unusedVariables false
namespace Go.Proofs.Ytcdjpapjjoldeaa
open Go X M Try

/- impl.argsAt -/
theorem argsAt_spec {F : FH} {L : List HP} {arv : Value} {ar : List Int} (har : IntsF F arv ar) {tv : Value} {t : List Int} (ht : IntsF F tv t) {p : Nat} (ho : termOk ar t = true) (hp : p < t.length) :
    Does prog 222 [.agg #[arv], tv, ii ((p : Int))] F (L) (fun v F' L' => F = F' ∧ IsSl v ∧ intsH 3 v (argsL ar t p) :: L = L') := by
 refine ym func222 rfl rfl rfl ?_
 have hsl := sigOk_spec (termOk_sig ho)
 have htl := termOk_len ho
 have hsig := termOk_sig ho
 have hA := arity_le hsig (termOk_lt ho hp)
 have hge := termOk_ge ho hp
 have hlt := termOk_lt ho hp
 refine qX (qH (cX (yD [arv] rfl rfl ?_)))
 intro b1
 refine jc (sN) rfl (qI (qX (qH (jc (sN) rfl (qI (qX (qH (jb (ii ((p : Int))) rfl (cX (yj (((p + 1 : Nat) : Int)) rfl rfl (by omega) (by omega) (jc (ii (((p + 1 : Nat) : Int))) rfl (qI (qX (qX ?_))))))))))))))
 refine yN [cellsH b1 [arv] 29] L 5 [] [[], [], [], [1, 2], [3]] (phiL [qe (.agg #[arv]), qe tv, qe (ii ((p : Int)) : Value), qe (.pointer (some (elemA tv (p)))), qe (ii (t.getD p 0))]) (ownL []) mixed rfl rfl (by kernel_rfl) ?_ ?_
 ·refine pD (fun W R z9 => ?_) ?_
  ·refine je (yc [arv] yF ys rfl rfl (Rd.ownN [] rfl rfl) ?_)
   exact ⟨rfl, rfl, rfl⟩
  refine pD (fun W R z9 => ?_) ?_
  ·refine je (jk (tv) rfl ?_)
   exact ⟨rfl, rfl, rfl⟩
  refine pD (fun W R z9 => ?_) ?_
  ·refine je (jk (ii ((p : Int))) rfl ?_)
   exact ⟨rfl, rfl, rfl⟩
  refine pD (fun W R z9 => ?_) ?_
  ·rw [eS (l := [(1, _), (2, _)]) ⟨z9 1 rfl, z9 2 rfl, ⟨⟩⟩]
   refine je (jq p qU js rfl rfl rfl ht.slv (by omega) (Nat.mul_one _) ?_)
   exact ⟨rfl, rfl, rfl⟩
  refine pD (fun W R z9 => ?_) ?_
  ·rw [eS (l := [(3, _)]) ⟨z9 3 rfl, ⟨⟩⟩]
   refine je (jj yd rfl (ht.rd (by omega)) ?_)
   exact ⟨rfl, rfl, rfl⟩
  exact stepsP.nil
 intro W hphi
 rw [eS (l := [(0, _), (4, _)]) ⟨(hphi 0 (by decide)), (hphi 4 (by decide)), ⟨⟩⟩]
 show XL _ _ _ _ _ _ _ (cellsH b1 [arv] 29 :: L)
 refine cX (jL (args := [.agg #[arv], ii (t.getD p 0)]) call243 rfl (arityAt_spec (n := t.getD p 0) har (hn := (by first | assumption | rfl | omega | simp))) ?_)
 rintro _ _ _ _ ⟨rfl, rfl, rfl⟩
 refine jc (ii (arity ar (t.getD p 0))) rfl (qI (yf (yI (α := Nat × Nat × Value × List Int) (fun xQ => [(1, tv), (3, ptr b1 0), (7, xQ.2.2.1), (8, ii (((xQ.2.1 : Nat) : Int))), (9, ii (((xQ.1 : Nat) : Int)))]) (fun xQ => intsH 3 xQ.2.2.1 xQ.2.2.2 :: cellsH b1 [arv] 29 :: L) (fun xQ F' => F = F' ∧ (IsSl xQ.2.2.1) ∧ (Stand ar t xQ.1 xQ.2.1 (endN ar t p)) ∧ (argsL ar t p = xQ.2.2.2 ++ argsGo ar t xQ.1 xQ.2.1) ∧ (xQ.2.2.2.length + xQ.1 ≤ 3)) (fun xQ => xQ.1) ((arity ar (t.getD p 0)).toNat, p + 1, sN, []) ⟨rfl, rfl, rfl, rfl, (vI (by first | omega | (rw [sArity_eq (by omega)]; omega))), ⟨⟩⟩ (yn (intsH.addNil 3 none _) (sC (sC sR))) ⟨rfl, (⟨_, _, _, rfl⟩), (stand_start ho hp), (rfl), (by rw [List.length_nil]; omega)⟩ ?_)))
 rintro ⟨m, q, ov, os⟩ rE _ _ ⟨rfl, hov, hS, hos, hol⟩
 show X _ _ _ _ (envs [(1, tv), (3, ptr b1 0), (7, ov), (8, ii ((q : Int))), (9, ii ((m : Int)))] rE) _ (intsH 3 ov os :: cellsH b1 [arv] 29 :: L)
 dsimp only at hov hS hos hol
 have hst := fun (h : 1 ≤ m) => stand_step ho (n := m - 1) (by rw [Nat.sub_add_cancel h]; exact hS)
 refine qX (qX (qH (jb (ii ((m : Int))) rfl (cX (Qf rfl rfl (qI ?_))))))
 refine jV (p := (m : Int) > 0) rfl (fun h1 => ?_) (fun h1 => ?_)
 ·refine jU (qX (yf (qX (qH (jb (ov) rfl (jb (ii ((q : Int))) rfl (cX (jQ (s := 1) [ii ((q : Int))] [ii (0)] [(0, [ii ((q : Int))])] Qr Qm zeroValue3 rfl (by decide) rfl (.cons rfl CellsAre.nil) rfl ?_))))))))
  intro v1 hv1
  refine cX (Qi (u := (q : Int)) [_] _ Qr typeInfo3 rfl rfl rfl rfl rfl rfl (SlV.own [] rfl) (Rd.sl [] rfl rfl) (by (try simp only [List.length_append, List.length_nil, List.length_cons, List.length_singleton, List.length_take, List.length_drop]); omega) ?_)
  intro v2 hs1 hn1
  refine jc (v2) rfl (qI (qH (cX (yc [arv] yF ys rfl rfl (Rd.ownN [_, _] rfl rfl) (jb (tv) rfl (jb (ii ((q : Int))) rfl (cX (jL (args := [.agg #[arv], tv, ii (q : Int)]) call150 rfl (endAt_ok (p := q) har ht (ho := (by first | assumption | rfl | omega | (left; simp; done) | (right; simp; done))) (hp := (by first | assumption | rfl | omega | (left; simp; done) | (right; simp; done)))) ?_))))))))
  rintro _ _ _ _ ⟨rfl, rfl, rfl⟩
  refine jc (ii (((endN ar t q : Nat) : Int))) rfl (qI (qH (jb (ii ((m : Int))) rfl (cX (yx (((m : Int)) - 1) rfl rfl (by omega) (by omega) (jc (ii (((m : Int)) - 1)) rfl (qI ?_)))))))
  exact ⟨(m - 1, endN ar t q, v2, os ++ [(q : Int)]), _, FLe.refl _, rF, ⟨rfl, rfl, rfl, rfl, (vI (by omega)), ⟨⟩⟩, (sD (sC (sC sR))), ⟨rfl, (hs1), ((hst (by omega)).2.1), (args_next ho (by omega) hos), (by dsimp only; rw [List.length_append, List.length_singleton]; omega)⟩, (by omega)⟩
 refine yB (jO (jO (yk (qX (qH (jb (ov) rfl (jc (ov) rfl (qI (jW (jR (L' := intsH 3 ov os :: L) [ov] (ov) (.tmp rfl .nil) rfl rF rF (sC (sD sR)) ?_))))))))))
 refine ⟨rfl, hov, ?_⟩
 have hxs : (argsL ar t p : List Int) = os := by rw [hos, show m = 0 from by omega]; simp [argsGo]
 exact congrArg (fun z => intsH 3 _ z :: L) hxs

/- spec.l1Args -/
theorem l1Args_spec {F : FH} {L : List HP} {arv : Value} {ar : List Int} (har : IntsF F arv ar) {tv : Value} {t : List Int} (ht : IntsF F tv t) {p : Nat} (ho : termOk ar t = true) (hp : p < t.length) :
    Does prog 114 [.agg #[arv], tv, ii ((p : Int))] F (L) (fun v F' L' => F = F' ∧ IsSl v ∧ intsH 2 v (argsL ar t p) :: L = L') := by
 refine ym func114 rfl rfl rfl ?_
 have hsl := sigOk_spec (termOk_sig ho)
 have htl := termOk_len ho
 have hsig := termOk_sig ho
 have hA := arity_le hsig (termOk_lt ho hp)
 have hge := termOk_ge ho hp
 have hlt := termOk_lt ho hp
 refine qX (qH (cX (yD [arv] rfl rfl ?_)))
 intro b1
 refine jc (sN) rfl (qI (qX (qH (cX (jQ (s := 1) [] [ii (0)] [] qU js yv rfl (by decide) rfl CellsAre.nil rfl ?_)))))
 intro v1 hv1
 refine jc (v1) rfl (qI (qX (qH (jb (ii ((p : Int))) rfl (cX (yj (((p + 1 : Nat) : Int)) rfl rfl (by omega) (by omega) (jc (ii (((p + 1 : Nat) : Int))) rfl (qI (qX (qX ?_))))))))))
 refine yN [slH 2 1 v1 0 [], cellsH b1 [arv] 29] L 5 [] [[], [], [], [1, 2], [3]] (phiL [qe (.agg #[arv]), qe tv, qe (ii ((p : Int)) : Value), qe (.pointer (some (elemA tv (p)))), qe (ii (t.getD p 0))]) (ownL []) mixed rfl rfl (by kernel_rfl) ?_ ?_
 ·refine pD (fun W R z9 => ?_) ?_
  ·refine je (yc [arv] yF ys rfl rfl (Rd.ownN [_] rfl rfl) ?_)
   exact ⟨rfl, rfl, rfl⟩
  refine pD (fun W R z9 => ?_) ?_
  ·refine je (jk (tv) rfl ?_)
   exact ⟨rfl, rfl, rfl⟩
  refine pD (fun W R z9 => ?_) ?_
  ·refine je (jk (ii ((p : Int))) rfl ?_)
   exact ⟨rfl, rfl, rfl⟩
  refine pD (fun W R z9 => ?_) ?_
  ·rw [eS (l := [(1, _), (2, _)]) ⟨z9 1 rfl, z9 2 rfl, ⟨⟩⟩]
   refine je (jq p qU js rfl rfl rfl ht.slv (by omega) (Nat.mul_one _) ?_)
   exact ⟨rfl, rfl, rfl⟩
  refine pD (fun W R z9 => ?_) ?_
  ·rw [eS (l := [(3, _)]) ⟨z9 3 rfl, ⟨⟩⟩]
   refine je (jj yd rfl (ht.rd (by omega)) ?_)
   exact ⟨rfl, rfl, rfl⟩
  exact stepsP.nil
 intro W hphi
 rw [eS (l := [(0, _), (4, _)]) ⟨(hphi 0 (by decide)), (hphi 4 (by decide)), ⟨⟩⟩]
 show XL _ _ _ _ _ _ _ (slH 2 1 v1 0 [] :: cellsH b1 [arv] 29 :: L)
 refine cX (jL (args := [.agg #[arv], ii (t.getD p 0)]) call176 rfl (l1Arity_spec (n := t.getD p 0) har (hla := (by first | assumption | rfl | omega | simp))) ?_)
 rintro _ _ _ _ ⟨rfl, rfl, rfl⟩
 refine jc (ii (sArity ar (t.getD p 0))) rfl (qI (yf (yI (α := Nat × Nat × Value × List Int) (fun xQ => [(1, tv), (3, ptr b1 0), (7, xQ.2.2.1), (8, ii (((xQ.2.1 : Nat) : Int))), (9, ii (((xQ.1 : Nat) : Int)))]) (fun xQ => intsH 2 xQ.2.2.1 xQ.2.2.2 :: cellsH b1 [arv] 29 :: L) (fun xQ F' => F = F' ∧ (IsSl xQ.2.2.1) ∧ (Stand ar t xQ.1 xQ.2.1 (endN ar t p)) ∧ (argsL ar t p = xQ.2.2.2 ++ argsGo ar t xQ.1 xQ.2.1) ∧ (xQ.2.2.2.length + xQ.1 ≤ 3)) (fun xQ => xQ.1) ((arity ar (t.getD p 0)).toNat, p + 1, v1, []) ⟨rfl, rfl, rfl, rfl, (vI (by first | omega | (rw [sArity_eq (by omega)]; omega))), ⟨⟩⟩ (sC (sC sR)) ⟨rfl, ((yH hv1)), (stand_start ho hp), (rfl), (by rw [List.length_nil]; omega)⟩ ?_)))
 rintro ⟨m, q, ov, os⟩ rE _ _ ⟨rfl, hov, hS, hos, hol⟩
 show X _ _ _ _ (envs [(1, tv), (3, ptr b1 0), (7, ov), (8, ii ((q : Int))), (9, ii ((m : Int)))] rE) _ (intsH 2 ov os :: cellsH b1 [arv] 29 :: L)
 dsimp only at hov hS hos hol
 have hst := fun (h : 1 ≤ m) => stand_step ho (n := m - 1) (by rw [Nat.sub_add_cancel h]; exact hS)
 refine qX (qX (qH (jb (ii ((m : Int))) rfl (cX (Qf rfl rfl (qI ?_))))))
 refine jV (p := (m : Int) > 0) rfl (fun h1 => ?_) (fun h1 => ?_)
 ·refine jU (qX (yf (qX (qH (jb (ov) rfl (jb (ii ((q : Int))) rfl (cX (jQ (s := 1) [ii ((q : Int))] [ii (0)] [(0, [ii ((q : Int))])] qU js yv rfl (by decide) rfl (.cons rfl CellsAre.nil) rfl ?_))))))))
  intro v2 hv2
  refine cX (Qi (u := (q : Int)) [_] _ qU typeInfo2 rfl rfl rfl rfl rfl rfl (SlV.own [] rfl) (Rd.sl [] rfl rfl) (by (try simp only [List.length_append, List.length_nil, List.length_cons, List.length_singleton, List.length_take, List.length_drop]); omega) ?_)
  intro v3 hs1 hn1
  refine jc (v3) rfl (qI (qH (cX (yc [arv] yF ys rfl rfl (Rd.ownN [_, _] rfl rfl) (jb (tv) rfl (jb (ii ((q : Int))) rfl (cX (jL (args := [.agg #[arv], tv, ii (q : Int)]) call152 rfl (l1End_ok (p := q) har ht (ho := (by first | assumption | rfl | omega | (left; simp; done) | (right; simp; done))) (hp := (by first | assumption | rfl | omega | (left; simp; done) | (right; simp; done)))) ?_))))))))
  rintro _ _ _ _ ⟨rfl, rfl, rfl⟩
  refine jc (ii (((endN ar t q : Nat) : Int))) rfl (qI (qH (jb (ii ((m : Int))) rfl (cX (yx (((m : Int)) - 1) rfl rfl (by omega) (by omega) (jc (ii (((m : Int)) - 1)) rfl (qI ?_)))))))
  exact ⟨(m - 1, endN ar t q, v3, os ++ [(q : Int)]), _, FLe.refl _, rF, ⟨rfl, rfl, rfl, rfl, (vI (by omega)), ⟨⟩⟩, (sD (sC (sC sR))), ⟨rfl, (hs1), ((hst (by omega)).2.1), (args_next ho (by omega) hos), (by dsimp only; rw [List.length_append, List.length_singleton]; omega)⟩, (by omega)⟩
 refine yB (jO (jO (yk (qX (qH (jb (ov) rfl (jc (ov) rfl (qI (jW (jR (L' := intsH 2 ov os :: L) [ov] (ov) (.tmp rfl .nil) rfl rF rF (sC (sD sR)) ?_))))))))))
 refine ⟨rfl, hov, ?_⟩
 have hxs : (argsL ar t p : List Int) = os := by rw [hos, show m = 0 from by omega]; simp [argsGo]
 exact congrArg (fun z => intsH 2 _ z :: L) hxs

/- spec.l3Inside -/
theorem l3Inside_spec {F : FH} {L : List HP} {arv : Value} {ar : List Int} (har : IntsF F arv ar) {tv : Value} {t : List Int} (ht : IntsF F tv t) {p : Nat} {q : Int} (ho : termOk ar t = true) (hp : p < t.length) :
    Does prog 177 [.agg #[arv], tv, ii ((p : Int)), ii (q)] F (L) (fun v F' L' => (.bool (decide ((p : Int) ≤ q ∧ q < (endN ar t p : Int))) : Value) = v ∧ F = F' ∧ L = L') := by
 refine ym func177 rfl rfl rfl ?_
 have hsl := sigOk_spec (termOk_sig ho)
 have htl := termOk_len ho
 have hsig := termOk_sig ho
 have hee := endN_spec ho hp
 refine qX (qH (cX (yD [arv] rfl rfl ?_)))
 intro b1
 refine jc (.bool (false)) rfl (qI (qX (qH (jb (ii (q)) rfl (jb (ii ((p : Int))) rfl (cX (yc [arv] yF ys rfl rfl (Rd.ownN [] rfl rfl) (jb (tv) rfl (jb (ii ((p : Int))) rfl (cX (jL (args := [.agg #[arv], tv, ii (p : Int)]) call152 rfl (l1End_ok (p := p) har ht (ho := (by first | assumption | rfl | omega | (left; simp; done) | (right; simp; done))) (hp := (by first | assumption | rfl | omega | (left; simp; done) | (right; simp; done)))) ?_)))))))))))
 rintro _ _ _ _ ⟨rfl, rfl, rfl⟩
 refine cX (yx ((((endN ar t p : Nat) : Int)) - 1) rfl rfl (by omega) (by omega) (cX (jL (args := [ii (q), ii ((p : Int)), ii ((((endN ar t p : Nat) : Int)) - 1)]) call112 rfl (l1In_spec (n := q) (a := (p : Int)) (b := (((endN ar t p : Nat) : Int)) - 1)) ?_)))
 rintro _ _ _ _ ⟨rfl, rfl, rfl⟩
 refine jc (.bool (decide (((p : Int)) ≤ q ∧ q ≤ ((((endN ar t p : Nat) : Int)) - 1)))) rfl (qI (jW (jR (L' := L) [.bool (decide (((p : Int)) ≤ q ∧ q ≤ ((((endN ar t p : Nat) : Int)) - 1)))] (.bool (decide (((p : Int)) ≤ q ∧ q ≤ ((((endN ar t p : Nat) : Int)) - 1)))) (.tmp rfl .nil) rfl rF rF (sD sR) ?_)))
 exact ⟨(vB (decide_eq_decide.2 (by omega))), rfl, rfl⟩

/- spec.l3Path -/
theorem l3Path_spec {F : FH} {L : List HP} {arv : Value} {ar : List Int} (har : IntsF F arv ar) {tv : Value} {t : List Int} (ht : IntsF F tv t) {x : Nat} (ho : termOk ar t = true) (hx : x < t.length) :
    Does prog 116 [.agg #[arv], tv, ii ((x : Int))] F (L) (fun v F' L' => F = F' ∧ IsSl v ∧ intsH 2 v (pathL ar t x) :: L = L') := by
 refine ym func116 rfl rfl rfl ?_
 have hsl := sigOk_spec (termOk_sig ho)
 have htl := termOk_len ho
 have hsig := termOk_sig ho
 have hz0 : endN ar t 0 = t.length := endN_zero ho
 refine qX (qH (cX (yD [arv] rfl rfl ?_)))
 intro b1
 refine jc (sN) rfl (qI (qX (qH (cX (jQ (s := 1) [] [ii (0)] [] qU js yv rfl (by decide) rfl CellsAre.nil rfl ?_)))))
 intro v1 hv1
 refine jc (v1) rfl (qI (qX (qH (jc (ii (0)) rfl (qI (qX (yf (yI (α := Nat × Nat × Value × List Int × FH) (fun xQ => [(1, tv), (2, ii ((x : Int))), (3, ptr b1 0), (7, xQ.2.2.1), (8, ii (((xQ.2.1 : Nat) : Int)))]) (fun xQ => intsH 2 xQ.2.2.1 xQ.2.2.2.1 :: cellsH b1 [arv] 29 :: L) (fun xQ F' => xQ.2.2.2.2 = F' ∧ F ≤ xQ.2.2.2.2 ∧ (IsSl xQ.2.2.1) ∧ (xQ.2.1 ≤ x ∧ x < endN ar t xQ.2.1) ∧ (x - xQ.2.1 ≤ xQ.1) ∧ (pathL ar t x = xQ.2.2.2.1 ++ pathGo ar t x xQ.1 xQ.2.1) ∧ (xQ.2.2.2.1.length + xQ.1 ≤ t.length)) (fun xQ => x - xQ.2.1) (t.length, 0, v1, [], F) ⟨rfl, rfl, rfl, rfl, rfl, ⟨⟩⟩ (sC (sC sR)) ⟨rfl, FLe.refl _, ((yH hv1)), (⟨Nat.zero_le _, by rw [hz0]; exact hx⟩), (by omega), (rfl), (by simp)⟩ ?_))))))))
 rintro ⟨f, p, ov, os, G1⟩ rE _ _ ⟨rfl, leG, hov, hpx, hf, hos, hol⟩
 show X _ _ _ _ (envs [(1, tv), (2, ii ((x : Int))), (3, ptr b1 0), (7, ov), (8, ii ((p : Int)))] rE) _ (intsH 2 ov os :: cellsH b1 [arv] 29 :: L)
 replace leG : F ≤ G1 := leG
 dsimp only at hov hpx hf hos hol
 have leG1 := leG
 replace har := har.mono leG1
 replace ht := ht.mono leG1
 refine qX (qX (qH (jb (ii ((p : Int))) rfl (jb (ii ((x : Int))) rfl (cX (XOp.neq rfl rfl (qI ?_)))))))
 refine jV (p := (p : Int) ≠ (x : Int)) rfl (fun h1 => ?_) (fun h1 => ?_)
 ·refine jU (yf (qX (qH (cX (yc [arv] yF ys rfl rfl (Rd.ownN [_] rfl rfl) (jb (tv) rfl (jb (ii ((p : Int))) rfl (cX (Qo <| jL (args := [.agg #[arv], tv, ii (p : Int)]) call114 rfl (l1Args_spec (p := p) har ht (ho := (by first | assumption | rfl | omega | simp)) (hp := (by first | assumption | rfl | omega | simp))) ?_)))))))))
  rintro v2 _ _ _ ⟨rfl, hs1, rfl⟩
  refine ⟨_, _, rfl, fun F1 le1 hz1 => ?_⟩
  replace har := har.mono le1
  replace ht := ht.mono le1
  have hf1 : IntsF F1 v2 ((argsL ar t p)) := intsH.fz (xs := (argsL ar t p)) hz1.fz
  refine jc (v2) rfl (qI (qX (qH (jc (ii (0)) rfl (qI (yf (yI (α := Nat) (fun k => [(1, tv), (2, ii ((x : Int))), (3, ptr b1 0), (7, ov), (8, ii ((p : Int))), (9, v2), (10, ii ((k : Int)))]) (fun k => intsH 2 ov os :: cellsH b1 [arv] 29 :: L) (fun k F' => F1 = F' ∧ (k ≤ (argsL ar t p).length) ∧ (∀ i, i < k → inAt ar t x ((argsL ar t p).getD i 0) = false)) (fun k => (argsL ar t p).length - k) 0 ⟨rfl, rfl, rfl, rfl, rfl, rfl, rfl, ⟨⟩⟩ (sC (sC sR)) ⟨rfl, (by (try dsimp only) <;> omega), (fun i hi => absurd hi (by omega))⟩ ?_)))))))
  rintro k rE _ _ ⟨rfl, hk, hall⟩
  show X _ _ _ _ (envs [(1, tv), (2, ii ((x : Int))), (3, ptr b1 0), (7, ov), (8, ii ((p : Int))), (9, v2), (10, ii ((k : Int)))] rE) _ (intsH 2 ov os :: cellsH b1 [arv] 29 :: L)
  have hle := argsL_le ho (show p < t.length by omega)
  have hia := fun (h : k < (argsL ar t p).length) => argsL_in ho (by omega) h
  refine qX (qX (qH (jb (ii ((k : Int))) rfl (jb (v2) rfl (cX (jZ qU rfl hf1.slv (cX (yo rfl rfl (qI ?_)))))))))
  refine jV (p := (k : Int) < ((((argsL ar t p)).length : Nat) : Int)) rfl (fun h2 => ?_) (fun h2 => ?_)
  ·refine jU (qX (yf (qX ?_)))
   refine yN [intsH 2 ov os, cellsH b1 [arv] 29] L 7 [] [[], [], [], [], [2, 3], [4]] (phiL [qe (.agg #[arv]), qe tv, qe v2, qe (ii ((k : Int)) : Value), qe (.pointer (some (elemA v2 (k)))), qe (ii (((argsL ar t p)).getD k 0)), qe (ii ((x : Int)) : Value)]) (ownL []) mixed rfl rfl (by kernel_rfl) ?_ ?_
   ·refine pD (fun W R z9 => ?_) ?_
    ·refine je (yc [arv] yF ys rfl rfl (Rd.ownN [_] rfl rfl) ?_)
     exact ⟨rfl, rfl, rfl⟩
    refine pD (fun W R z9 => ?_) ?_
    ·refine je (jk (tv) rfl ?_)
     exact ⟨rfl, rfl, rfl⟩
    refine pD (fun W R z9 => ?_) ?_
    ·refine je (jk (v2) rfl ?_)
     exact ⟨rfl, rfl, rfl⟩
    refine pD (fun W R z9 => ?_) ?_
    ·refine je (jk (ii ((k : Int))) rfl ?_)
     exact ⟨rfl, rfl, rfl⟩
    refine pD (fun W R z9 => ?_) ?_
    ·rw [eS (l := [(2, _), (3, _)]) ⟨z9 2 rfl, z9 3 rfl, ⟨⟩⟩]
     refine je (jq k qU js rfl rfl rfl hf1.slv (by omega) (Nat.mul_one _) ?_)
     exact ⟨rfl, rfl, rfl⟩
    refine pD (fun W R z9 => ?_) ?_
    ·rw [eS (l := [(4, _)]) ⟨z9 4 rfl, ⟨⟩⟩]
     refine je (jj yd rfl (hf1.rd (by omega)) ?_)
     exact ⟨rfl, rfl, rfl⟩
    refine pD (fun W R z9 => ?_) ?_
    ·refine je (jk (ii ((x : Int))) rfl ?_)
     exact ⟨rfl, rfl, rfl⟩
    exact stepsP.nil
   intro W hphi
   rw [eS (l := [(0, _), (1, _), (5, _), (6, _)]) ⟨(hphi 0 (by decide)), (hphi 1 (by decide)), (hphi 5 (by decide)), (hphi 6 (by decide)), ⟨⟩⟩]
   show XL _ _ _ _ _ _ _ (intsH 2 ov os :: cellsH b1 [arv] 29 :: L)
   refine cX (jL (args := [.agg #[arv], tv, ii (((((argsL ar t p)).getD k 0).toNat : Nat) : Int), ii ((x : Int))]) call177 (by rw [show (((((argsL ar t p)).getD k 0).toNat : Nat) : Int) = ((argsL ar t p)).getD k 0 from by omega]; rfl) (l3Inside_spec (p := (((argsL ar t p)).getD k 0).toNat) (q := (x : Int)) har ht (ho := (ho)) (hp := (by have := hia (by omega); omega))) ?_)
   rintro _ _ _ _ ⟨rfl, rfl, rfl⟩
   refine qI ?_
   refine jV (p := (((((argsL ar t p)).getD k 0).toNat) : Int) ≤ ((x : Int)) ∧ ((x : Int)) < (endN ar t ((((argsL ar t p)).getD k 0).toNat) : Int)) rfl (fun h3 => ?_) (fun h3 => ?_)
   ·have hyes : inAt ar t x ((argsL ar t p).getD k 0) = true := inAt_iff.2 (by have := hia (by omega); omega)
    refine qX (qH (jb (ov) rfl (jb (ii ((k : Int))) rfl (cX (jQ (s := 1) [ii ((k : Int))] [ii (0)] [(0, [ii ((k : Int))])] qU js yv rfl (by decide) rfl (.cons rfl CellsAre.nil) rfl ?_)))))
    intro v3 hv2
    refine cX (Qi (u := (k : Int)) [_] _ qU typeInfo2 rfl rfl rfl rfl rfl rfl (SlV.own [] rfl) (Rd.sl [] rfl rfl) (by (try simp only [List.length_append, List.length_nil, List.length_cons, List.length_singleton, List.length_take, List.length_drop]); omega) ?_)
    intro v4 hs2 hn1
    refine jc (v4) rfl (qI (qX (qH (jb (v2) rfl (jb (ii ((k : Int))) rfl (cX (jq k qU js rfl rfl rfl hf1.slv (by omega) (Nat.mul_one _) (cX (jj yd rfl (hf1.rd (by omega)) (jc (ii (((argsL ar t p)).getD k 0)) rfl (qI (yB (blockQ_other (by decide) (jO (jO (yk ?_))))))))))))))))
    exact ⟨(f - 1, ((argsL ar t p).getD k 0).toNat, v4, os ++ [(k : Int)], F1), _, (jl leG1 le1), rF, ⟨rfl, rfl, rfl, rfl, (vI (by have := hia (by omega); dsimp only; omega)), ⟨⟩⟩, (sD (sC (sC sR))), ⟨rfl, (jl leG1 le1), (hs2), ((by have h9 := inAt_iff.1 hyes; have := hia (by omega); dsimp only; constructor <;> omega)), (by have := hia (by omega); dsimp only; omega), (by (try dsimp only); exact path_next hos hf (by omega) (by omega) hyes hall), (by dsimp only; rw [List.length_append, List.length_singleton]; omega)⟩, (by have h9 := inAt_iff.1 hyes; have := hia (by omega); dsimp only; omega)⟩
   have hno : inAt ar t x ((argsL ar t p).getD k 0) = false := by
     rw [Bool.eq_false_iff]; intro h9; have h8 := inAt_iff.1 h9; have := hia (by omega); omega
   refine jU (qH (jb (ii ((k : Int))) rfl (cX (yj (((k + 1 : Nat) : Int)) rfl rfl (by omega) (by omega) (jc (ii (((k + 1 : Nat) : Int))) rfl (qI ?_))))))
   exact ⟨k + 1, _, FLe.refl _, rF, ⟨rfl, rfl, rfl, rfl, rfl, rfl, rfl, ⟨⟩⟩, (sC (sC sR)), ⟨rfl, (by (try dsimp only) <;> omega), (fun i hi => (Nat.lt_or_ge i k).elim (fun h => hall i h) (fun h => by obtain rfl : i = k := (by omega); exact hno))⟩, (by omega)⟩
  exact (args_some ho (by omega) hpx.2 hx (fun i hi => hall i (by omega))).elim
 refine yB (jO (jO (yk (qX (qH (jb (ov) rfl (jc (ov) rfl (qI (jW (jR (L' := intsH 2 ov os :: L) [ov] (ov) (.tmp rfl .nil) rfl rF leG1 (sC (sD sR)) ?_))))))))))
 refine ⟨rfl, hov, ?_⟩
 have hxs : (pathL ar t x : List Int) = os := by have h0 : p = x := (by omega); rw [h0] at hos; exact path_end hos
 exact congrArg (fun z => intsH 2 _ z :: L) hxs

/- spec.l3Right -/
theorem l3Right_spec {F : FH} {L : List HP} {arv : Value} {ar : List Int} (har : IntsF F arv ar) {tv : Value} {t : List Int} (ht : IntsF F tv t) {n : Int} (hla : ar.length ≤ 4000000) (hlt : t.length ≤ 4000000) :
    Does prog 115 [.agg #[arv], tv, ii (n)] F (L) (fun v F' L' => (.bool (posOk ar t n) : Value) = v ∧ F = F' ∧ L = L') := by
 refine ym func115 rfl rfl rfl (qX (qH (cX (yD [arv] rfl rfl ?_))))
 intro b1
 refine jc (.bool (false)) rfl (qI (qX (qH (cX (yc [arv] yF ys rfl rfl (Rd.ownN [] rfl rfl) (jb (tv) rfl (cX (jL (args := [.agg #[arv], tv]) call81 rfl (sTermOk_spec har ht (hla := (by first | assumption | rfl | omega | simp)) (hlt := (by first | assumption | rfl | omega | simp))) ?_))))))))
 rintro _ _ _ _ ⟨rfl, rfl, rfl⟩
 refine jb (.bool (termOk ar t)) rfl ?_
 by_cases h1 : (termOk ar t) = true
 ·refine jB (t := 10) rfl (vB h1) (jk (tv) rfl (jB (t := 10) rfl (vB h1) (jk (ii (n)) rfl (jB (t := 10) rfl (vB h1) (jL (args := [tv, ii (n)]) call111 rfl (l1There_spec (n := n) ht (hbd := (by first | assumption | rfl | omega | simp))) ?_)))))
  rintro _ _ _ _ ⟨rfl, rfl, rfl⟩
  refine cX (yp (.bool (decide (0 ≤ n ∧ n < (t.length : Int)))) (vB h1) rfl (jc (.bool (decide (0 ≤ n ∧ n < (t.length : Int)))) rfl (qI (jW (jR (L' := L) [.bool (decide (0 ≤ n ∧ n < (t.length : Int)))] (.bool (decide (0 ≤ n ∧ n < (t.length : Int)))) (.tmp rfl .nil) rfl rF rF (sD sR) ?_)))))
  exact ⟨((by unfold posOk; simp_all)), rfl, rfl⟩
 rw [Bool.not_eq_true] at h1
 refine jA (t := 10) rfl (vB h1) (jA (t := 10) rfl (vB h1) (jA (t := 10) rfl (vB h1) (cX (yl (.bool (false)) (vB h1) rfl (jc (.bool (false)) rfl (qI (jW (jR (L' := L) [.bool (false)] (.bool (false)) (.tmp rfl .nil) rfl rF rF (sD sR) ?_))))))))
 exact ⟨((by unfold posOk; simp_all)), rfl, rfl⟩

/- spec.PathOf -/
theorem sPathOf_spec {F : FH} {L : List HP} {arv : Value} {ar : List Int} (har : IntsF F arv ar) {tv : Value} {t : List Int} (ht : IntsF F tv t) {n : Int} (ho : termOk ar t = true) (hn : 0 ≤ n ∧ n < (t.length : Int)) :
    Does prog 51 [.agg #[arv], tv, ii (n)] F (L) (fun v F' L' => F = F' ∧ IsSl v ∧ intsH 2 v (pathL ar t n.toNat) :: L = L') := by
 refine ym func51 rfl rfl rfl ?_
 have hsl := sigOk_spec (termOk_sig ho)
 have htl := termOk_len ho
 have hsig := termOk_sig ho
 have hpo : posOk ar t n = true := posOk_iff.2 ⟨ho, hn⟩
 refine qX (qH (cX (yD [arv] rfl rfl ?_)))
 intro b1
 refine jc (sN) rfl (qI (qX (qX (qH (cX (yc [arv] yF ys rfl rfl (Rd.ownN [] rfl rfl) (jb (tv) rfl (jb (ii (n)) rfl (cX (jL (args := [.agg #[arv], tv, ii (n)]) call115 rfl (l3Right_spec (n := n) har ht (hla := (by first | assumption | rfl | omega | simp)) (hlt := (by first | assumption | rfl | omega | simp))) ?_))))))))))
 rintro _ _ _ _ ⟨rfl, rfl, rfl⟩
 refine cX (yR rfl (qI ?_))
 refine X.cond (t := !(posOk ar t n)) rfl (fun h1 => ?_) (fun h1 => ?_)
 ·exact absurd h1 (by simp [hpo])
 refine jU (qX (qH (cX (yc [arv] yF ys rfl rfl (Rd.ownN [] rfl rfl) (jb (tv) rfl (jb (ii (n)) rfl (cX (jL (args := [.agg #[arv], tv, ii (((n).toNat : Nat) : Int)]) call116 (by rw [show (((n).toNat : Nat) : Int) = n from by omega]; rfl) (l3Path_spec (x := (n).toNat) har ht (ho := (by first | assumption | rfl | omega | simp)) (hx := (by first | assumption | rfl | omega | simp))) ?_))))))))
 rintro v1 _ _ _ ⟨rfl, hs1, rfl⟩
 refine jc (v1) rfl (qI (jW (jR (L' := intsH 2 v1 ((pathL ar t ((n).toNat))) :: L) [v1] (v1) (.tmp rfl .nil) rfl rF rF (sC (sD sR)) ?_)))
 refine ⟨rfl, hs1, ?_⟩
 have hxs : (pathL ar t n.toNat : List Int) = (pathL ar t ((n).toNat)) := rfl
 exact congrArg (fun z => intsH 2 _ z :: L) hxs

/- spec.PlaceOf -/
theorem sPlaceOf_spec {F : FH} {L : List HP} {arv : Value} {ar : List Int} (har : IntsF F arv ar) {tv : Value} {t : List Int} (ht : IntsF F tv t) {pathv : Value} {path : List Int} (hpath : IntsF F pathv path) (hlp : path.length ≤ 4000000) (hla : ar.length ≤ 4000000) (hlt : t.length ≤ 4000000) :
    Does prog 50 [.agg #[arv], tv, pathv] F (L) (fun v F' L' => (ii (placeL ar t path) : Value) = v ∧ F = F' ∧ L = L') := by
 refine ym func50 rfl rfl rfl (qX (qH (cX (yD [arv] rfl rfl ?_))))
 intro b1
 refine jc (ii (0)) rfl (qI (qX (qX (qH (cX (yc [arv] yF ys rfl rfl (Rd.ownN [] rfl rfl) (jb (tv) rfl (cX (jL (args := [.agg #[arv], tv]) call81 rfl (sTermOk_spec har ht (hla := (by first | assumption | rfl | omega | simp)) (hlt := (by first | assumption | rfl | omega | simp))) ?_)))))))))
 rintro _ _ _ _ ⟨rfl, rfl, rfl⟩
 refine cX (yR rfl (qI ?_))
 refine X.cond (t := !(termOk ar t)) rfl (fun h1 => ?_) (fun h1 => ?_)
 ·refine qX (qH (jc (ii (-1)) rfl (qI (jW (jw (jR (L' := L) [ii (-1)] (ii (-1)) (.tmp rfl .nil) rfl rF rF (sD sR) ?_))))))
  exact ⟨(vI (by unfold placeL; rw [if_neg (by simp_all)])), rfl, rfl⟩
 have ho : termOk ar t = true := by simpa using h1
 have hsl := sigOk_spec (termOk_sig ho)
 have htl := termOk_len ho
 have hsig := termOk_sig ho
 refine jU (qX (qH (jc (ii (0)) rfl (qI (qX (qX (qH (jc (ii (0)) rfl (qI (yf (yI (α := Nat × Nat × FH) (fun xQ => [(1, tv), (2, pathv), (3, ptr b1 0), (7, ii (((xQ.2.1 : Nat) : Int))), (8, ii (((xQ.1 : Nat) : Int)))]) (fun xQ => cellsH b1 [arv] 29 :: L) (fun xQ F' => xQ.2.2 = F' ∧ F ≤ xQ.2.2 ∧ (xQ.1 ≤ path.length) ∧ (xQ.2.1 < t.length) ∧ (placeGo ar t path 0 = placeGo ar t (path.drop xQ.1) xQ.2.1)) (fun xQ => path.length - xQ.1) (0, 0, F) ⟨rfl, rfl, rfl, rfl, rfl, ⟨⟩⟩ (sC sR) ⟨rfl, FLe.refl _, (by (try dsimp only) <;> omega), (by (try dsimp only) <;> omega), (rfl)⟩ ?_)))))))))))
 rintro ⟨k, q, G1⟩ rE _ _ ⟨rfl, leG, hk, hq, hos⟩
 show X _ _ _ _ (envs [(1, tv), (2, pathv), (3, ptr b1 0), (7, ii ((q : Int))), (8, ii ((k : Int)))] rE) _ (cellsH b1 [arv] 29 :: L)
 replace leG : F ≤ G1 := leG
 dsimp only at hk hq hos
 have hle := argsL_le ho hq
 have hia := fun (i : Nat) (h : i < (argsL ar t q).length) => argsL_in ho hq h
 have leG1 := leG
 replace har := har.mono leG1
 replace ht := ht.mono leG1
 replace hpath := hpath.mono leG1
 refine qX (qX (qH (jb (ii ((k : Int))) rfl (jb (pathv) rfl (cX (jZ qU rfl hpath.slv (cX (yo rfl rfl (qI ?_)))))))))
 refine jV (p := (k : Int) < (path.length : Int)) rfl (fun h2 => ?_) (fun h2 => ?_)
 ·refine jU (qX (yf (qX (qH (cX (yc [arv] yF ys rfl rfl (Rd.ownN [] rfl rfl) (jb (tv) rfl (jb (ii ((q : Int))) rfl (cX (Qo <| jL (args := [.agg #[arv], tv, ii (q : Int)]) call114 rfl (l1Args_spec (p := q) har ht (ho := (ho)) (hp := (hq))) ?_))))))))))
  rintro v1 _ _ _ ⟨rfl, hs1, rfl⟩
  refine ⟨_, _, rfl, fun F1 le1 hz1 => ?_⟩
  replace hpath := hpath.mono le1
  have hf1 : IntsF F1 v1 ((argsL ar t q)) := intsH.fz (xs := (argsL ar t q)) hz1.fz
  refine jc (v1) rfl (qI (qX (qX (qH (jb (pathv) rfl (jb (ii ((k : Int))) rfl (cX (jq k qU js rfl rfl rfl hpath.slv (by omega) (Nat.mul_one _) (cX (jj yd rfl (hpath.rd (by omega)) (jb (v1) rfl (cX (jZ qU rfl hf1.slv (cX (yx ((((((argsL ar t q)).length : Nat) : Int)) - 1) rfl rfl (by omega) (by omega) (cX (jL (args := [ii (path.getD k 0), ii (0), ii ((((((argsL ar t q)).length : Nat) : Int)) - 1)]) call112 rfl (l1In_spec (n := path.getD k 0) (a := 0) (b := (((((argsL ar t q)).length : Nat) : Int)) - 1)) ?_)))))))))))))))))
  rintro _ _ _ _ ⟨rfl, rfl, rfl⟩
  refine cX (Qw rfl (qI ?_))
  refine jV (p := ¬(0 ≤ (path.getD k 0) ∧ (path.getD k 0) ≤ ((((((argsL ar t q)).length : Nat) : Int)) - 1))) rfl (fun h3 => ?_) (fun h3 => ?_)
  ·refine qX (qH (jc (ii (-1)) rfl (qI (jW (jw (ya (jw (jw (ya (jw (jR (L' := L) [ii (-1)] (ii (-1)) (.tmp rfl .nil) rfl rF (jl leG1 le1) (sD sR) ?_)))))))))))
   exact ⟨(vI (by unfold placeL; rw [if_pos ho, hos]; exact place_out (by omega) (by omega))), rfl, rfl⟩
  refine jU (qH (jb (v1) rfl (jb (pathv) rfl (jb (ii ((k : Int))) rfl (cX (jq k qU js rfl rfl rfl hpath.slv (by omega) (Nat.mul_one _) (cX (jj yd rfl (hpath.rd (by omega)) (cX (jq ((path.getD k 0).toNat) qU js rfl rfl (by omega) hf1.slv (by omega) (Nat.mul_one _) (cX (jj yd rfl (hf1.rd (by omega)) (jc (ii (((argsL ar t q)).getD ((path.getD k 0).toNat) 0)) rfl (qI (qH ?_)))))))))))))))
  refine jb (ii ((k : Int))) rfl (cX (yj (((k + 1 : Nat) : Int)) rfl rfl (by omega) (by omega) (jc (ii (((k + 1 : Nat) : Int))) rfl (qI ?_))))
  exact ⟨(k + 1, ((argsL ar t q).getD (path.getD k 0).toNat 0).toNat, F1), _, (jl leG1 le1), rF, ⟨rfl, rfl, rfl, (vI (by have := hia (path.getD k 0).toNat (by omega); dsimp only; omega)), rfl, ⟨⟩⟩, (sC sR), ⟨rfl, (jl leG1 le1), (by (try dsimp only) <;> omega), (by have := hia (path.getD k 0).toNat (by omega); dsimp only; omega), (by dsimp only; exact hos.trans (place_next (by omega) (by omega)))⟩, (by omega)⟩
 refine yB (jO (jO (yk (qX (qH (jb (ii ((q : Int))) rfl (jc (ii ((q : Int))) rfl (qI (jW (jR (L' := L) [ii ((q : Int))] (ii ((q : Int))) (.tmp rfl .nil) rfl rF leG1 (sD sR) ?_))))))))))
 exact ⟨(vI (by unfold placeL; rw [if_pos ho, hos]; exact place_end (by omega))), rfl, rfl⟩

/- impl.ruleIn -/
theorem ruleIn_spec {F : FH} {L : List HP} {arv : Value} {ar : List Int} (har : IntsF F arv ar) {rsv : Value} {rs : List (List Int × List Int)} (hrs : PairsF F rsv rs) {n : Int} :
    Does prog 118 [.agg #[arv, rsv], ii (n)] F (L) (fun v F' L' => (.bool (decide (0 ≤ n ∧ n < (rs.length : Int))) : Value) = v ∧ F = F' ∧ L = L') := by
 refine ym func118 rfl rfl rfl (qX (qH (cX (yD [arv, rsv] rfl rfl ?_))))
 intro b1
 refine jc (.bool (false)) rfl (qI (qX (qH (jb (ii (n)) rfl (cX (XOp.geq rfl rfl (jb (.bool (decide ((n : Int) ≥ 0))) rfl ?_)))))))
 by_cases h1 : (n : Int) ≥ 0
 ·refine jB (t := 7) rfl (vT h1) (jk (ii (n)) rfl (jB (t := 7) rfl (vT h1) (jE (1) yq rfl yZ (by decide) rfl rfl (jB (t := 7) rfl (vT h1) (jj Qj rfl (Rd.own [] rfl rfl) (jB (t := 7) rfl (vT h1) (jZ yy rfl hrs.slv (jB (t := 7) rfl (vT h1) (yo rfl rfl (cX (yp (.bool (decide ((n : Int) < (rs.length : Int)))) (vT h1) rfl (jc (.bool (decide ((n : Int) < (rs.length : Int)))) rfl (qI (jW (jR (L' := L) [.bool (decide ((n : Int) < (rs.length : Int)))] (.bool (decide ((n : Int) < (rs.length : Int)))) (.tmp rfl .nil) rfl rF rF (sD sR) ?_)))))))))))))))
  exact ⟨(vB (decide_eq_decide.2 (by omega))), rfl, rfl⟩
 refine jA (t := 7) rfl (vF h1) (jA (t := 7) rfl (vF h1) (jA (t := 7) rfl (vF h1) (jA (t := 7) rfl (vF h1) (jA (t := 7) rfl (vF h1) (cX (yl (.bool (false)) (vF h1) rfl (jc (.bool (false)) rfl (qI (jW (jR (L' := L) [.bool (false)] (.bool (false)) (.tmp rfl .nil) rfl rF rF (sD sR) ?_))))))))))
 exact ⟨(vB (decide_eq_false (by omega))), rfl, rfl⟩

/- spec.l11Rule -/
theorem l11Rule_spec {F : FH} {L : List HP} {arv : Value} {ar : List Int} (har : IntsF F arv ar) {rsv : Value} {rs : List (List Int × List Int)} (hrs : PairsF F rsv rs) {n : Int} (hlr : rs.length ≤ 4000000) :
    Does prog 125 [.agg #[arv, rsv], ii (n)] F (L) (fun v F' L' => (.bool (decide (0 ≤ n ∧ n < (rs.length : Int))) : Value) = v ∧ F = F' ∧ L = L') := by
 refine ym func125 rfl rfl rfl (qX (qH (cX (yD [arv, rsv] rfl rfl ?_))))
 intro b1
 refine jc (.bool (false)) rfl (qI (qX (qH (jb (ii (n)) rfl (cX (jE (1) yq rfl yZ (by decide) rfl rfl (cX (jj Qj rfl (Rd.own [] rfl rfl) (cX (jZ yy rfl hrs.slv (cX (yx (((rs.length : Int)) - 1) rfl rfl (by omega) (by omega) (cX (jL (args := [ii (n), ii (0), ii (((rs.length : Int)) - 1)]) call112 rfl (l1In_spec (n := n) (a := 0) (b := ((rs.length : Int)) - 1)) ?_))))))))))))))
 rintro _ _ _ _ ⟨rfl, rfl, rfl⟩
 refine jc (.bool (decide (0 ≤ n ∧ n ≤ (((rs.length : Int)) - 1)))) rfl (qI (jW (jR (L' := L) [.bool (decide (0 ≤ n ∧ n ≤ (((rs.length : Int)) - 1)))] (.bool (decide (0 ≤ n ∧ n ≤ (((rs.length : Int)) - 1)))) (.tmp rfl .nil) rfl rF rF (sD sR) ?_)))
 exact ⟨(vB (decide_eq_decide.2 (by omega))), rfl, rfl⟩

/- spec.PeakOk -/
set_option maxRecDepth 20000 in
theorem sPeakOk_spec {F : FH} {L : List HP} {arv : Value} {ar : List Int} (har : IntsF F arv ar) {rsv : Value} {rs : List (List Int × List Int)} (hrs : PairsF F rsv rs) {tpv : Value} {tp : List Int} (htp : IntsF F tpv tp) {lfv : Value} {lf : List Int} (hlf : IntsF F lfv lf) {rtv : Value} {rt : List Int} (hrt : IntsF F rtv rt) {a : Int} {u : Int} {o : Int} (hla : ar.length ≤ 4000000) (hlr : rs.length ≤ 4000000) (hrb : ∀ i, i < rs.length → (rs.getD i ([], [])).1.length ≤ 4000000 ∧ (rs.getD i ([], [])).2.length ≤ 4000000) (hlt0 : tp.length ≤ 4000000) (hll0 : lf.length ≤ 4000000) (hlr0 : rt.length ≤ 4000000) :
    Does prog 58 [.agg #[arv, rsv], .agg #[tpv, lfv, rtv, ii (a), ii (u), ii (o)]] F (L) (fun v F' L' => (.bool (peakL ar rs tp lf rt a u o) : Value) = v ∧ F = F' ∧ L = L') := by
 refine ym func58 rfl rfl rfl (qX (qH (cX (yD [arv, rsv] rfl rfl ?_))))
 intro b1
 refine cX (yD [tpv, lfv, rtv, ii (a), ii (u), ii (o)] rfl rfl ?_)
 intro b2
 refine jc (.bool (false)) rfl (qI (qX (qX (qH (cX (yc [arv, rsv] yY yP rfl rfl (Rd.ownN [_] rfl rfl) (cX (jL (args := [.agg #[arv, rsv]]) call95 rfl (sSystemOk_spec har hrs (hla := (by first | assumption | rfl | omega | simp)) (hlr := (by first | assumption | rfl | omega | simp)) (hrb := (by first | assumption | rfl | omega | simp))) ?_))))))))
 rintro _ _ _ _ ⟨rfl, rfl, rfl⟩
 refine cX (yR rfl (jb (.bool (!(sysOk ar rs))) rfl ?_))
 by_cases h1 : (!(sysOk ar rs)) = true
 ·refine jA (t := 13) rfl (vB h1) (jA (t := 13) rfl (vB h1) (jA (t := 13) rfl (vB h1) (jA (t := 13) rfl (vB h1) (jA (t := 13) rfl (vB h1) (cX (yp (.bool (true)) (vB h1) rfl (jb (.bool (true)) rfl (jA (t := 20) rfl rfl (jA (t := 20) rfl rfl (jA (t := 20) rfl rfl ?_))))))))))
  refine jA (t := 20) rfl rfl (jA (t := 20) rfl rfl (cX (yp (.bool (true)) rfl rfl (qI (yX rfl (qX (qH (jc (.bool (false)) rfl (qI (jW (jw (jR (L' := L) [.bool (false)] (.bool (false)) (.tmp rfl .nil) rfl rF rF (sD (sD sR)) ?_))))))))))))
  exact ⟨(vB (by refine peakL_no (fun h => ?_); obtain ⟨h1, h2, h3, h4⟩ := h; have h5 := peakArgs_iff.1 h2; first | omega | simp_all | (simp_all; done) | (exfalso; simp_all; omega))), rfl, rfl⟩
 rw [Bool.not_eq_true] at h1
 refine jB (t := 13) rfl (vB h1) (yc [arv, rsv] yY yP rfl rfl (Rd.ownN [_] rfl rfl) (jB (t := 13) rfl (vB h1) (jE (5) yg rfl js (by decide) rfl rfl (jB (t := 13) rfl (vB h1) (jj yd rfl (Rd.own [] rfl rfl) (jB (t := 13) rfl (vB h1) (jL (args := [.agg #[arv, rsv], ii (o)]) call125 rfl (l11Rule_spec (n := o) har hrs (hlr := (by first | assumption | rfl | omega | simp))) ?_)))))))
 rintro _ _ _ _ ⟨rfl, rfl, rfl⟩
 refine jB (t := 13) rfl (vB h1) (Qw rfl (cX (yl (.bool (decide (¬(0 ≤ o ∧ o < (rs.length : Int))))) (vB h1) rfl (jb (.bool (decide (¬(0 ≤ o ∧ o < (rs.length : Int))))) rfl ?_))))
 by_cases h2 : ¬(0 ≤ o ∧ o < (rs.length : Int))
 ·refine jA (t := 20) rfl (vT h2) (jA (t := 20) rfl (vT h2) (jA (t := 20) rfl (vT h2) (jA (t := 20) rfl (vT h2) (jA (t := 20) rfl (vT h2) (cX (yp (.bool (true)) (vT h2) rfl (qI (yX rfl (qX (qH (jc (.bool (false)) rfl ?_)))))))))))
  refine qI (jW (jw (jR (L' := L) [.bool (false)] (.bool (false)) (.tmp rfl .nil) rfl rF rF (sD (sD sR)) ?_)))
  exact ⟨(vB (by refine peakL_no (fun h => ?_); obtain ⟨h1, h2, h3, h4⟩ := h; have h5 := peakArgs_iff.1 h2; first | omega | simp_all | (simp_all; done) | (exfalso; simp_all; omega))), rfl, rfl⟩
 refine jB (t := 20) rfl (vF h2) (yc [arv, rsv] yY yP rfl rfl (Rd.ownN [_] rfl rfl) (jB (t := 20) rfl (vF h2) (jE (4) yg rfl js (by decide) rfl rfl (jB (t := 20) rfl (vF h2) (jj yd rfl (Rd.own [] rfl rfl) (jB (t := 20) rfl (vF h2) (jL (args := [.agg #[arv, rsv], ii (u)]) call125 rfl (l11Rule_spec (n := u) har hrs (hlr := (by first | assumption | rfl | omega | simp))) ?_)))))))
 rintro _ _ _ _ ⟨rfl, rfl, rfl⟩
 refine jB (t := 20) rfl (vF h2) (Qw rfl (cX (yl (.bool (decide (¬(0 ≤ u ∧ u < (rs.length : Int))))) (vF h2) rfl (qI ?_))))
 refine jV (p := ¬(0 ≤ u ∧ u < (rs.length : Int))) rfl (fun h3 => ?_) (fun h3 => ?_)
 ·refine qX (qH (jc (.bool (false)) rfl (qI (jW (jw (jR (L' := L) [.bool (false)] (.bool (false)) (.tmp rfl .nil) rfl rF rF (sD (sD sR)) ?_))))))
  exact ⟨(vB (by refine peakL_no (fun h => ?_); obtain ⟨h1, h2, h3, h4⟩ := h; have h5 := peakArgs_iff.1 h2; first | omega | simp_all | (simp_all; done) | (exfalso; simp_all; omega))), rfl, rfl⟩
 refine jU (qX (qH ?_))
 have hsys : sysOk ar rs = true := by simp_all
 have hRL := fun (h : 0 ≤ o ∧ o < (rs.length : Int)) => (ruleOk_iff.1 ((sysOk_iff.1 hsys).2.2 o.toNat (by omega))).left
 have hRl := fun (h : 0 ≤ o ∧ o < (rs.length : Int)) => termOk_len (hRL h)
 refine cX (jE (1) yq rfl yZ (by decide) rfl rfl (cX (jj Qj rfl (Rd.own [_] rfl rfl) (cX (jE (5) yg rfl js (by decide) rfl rfl (cX (jj yd rfl (Rd.own [] rfl rfl) (cX (jq ((o).toNat) yy yS rfl rfl (by omega) hrs.slv (by omega) rfl (cX (Qh (((o).toNat) * 2) yu rfl jF (by decide) rfl rfl ?_)))))))))))
 obtain ⟨a1, a2, ha1, ha2, hr1, hr2⟩ := hrs.rd (i := (o).toNat) (by omega)
 refine cX (jj yt rfl (hr1 _) (jc (a1) rfl (qI (qX (qX (qH (cX (jE (3) yg rfl js (by decide) rfl rfl (cX (jj yd rfl (Rd.own [] rfl rfl) (jb (a1) rfl (cX (jZ qU rfl ha1.slv (cX (yx ((((((rs.getD ((o).toNat) ([], [])).1).length : Nat) : Int)) - 1) rfl rfl (by omega) (by omega) (cX (jL (args := [ii (a), ii (0), ii ((((((rs.getD ((o).toNat) ([], [])).1).length : Nat) : Int)) - 1)]) call112 rfl (l1In_spec (n := a) (a := 0) (b := (((((rs.getD ((o).toNat) ([], [])).1).length : Nat) : Int)) - 1)) ?_)))))))))))))))))
 rintro _ _ _ _ ⟨rfl, rfl, rfl⟩
 refine cX (Qw rfl (jb (.bool (decide (¬(0 ≤ a ∧ a ≤ ((((((rs.getD ((o).toNat) ([], [])).1).length : Nat) : Int)) - 1))))) rfl ?_))
 by_cases h4 : ¬(0 ≤ a ∧ a ≤ ((((((rs.getD ((o).toNat) ([], [])).1).length : Nat) : Int)) - 1))
 ·refine jA (t := 41) rfl (vT h4) (jA (t := 41) rfl (vT h4) (jA (t := 41) rfl (vT h4) (jA (t := 41) rfl (vT h4) (jA (t := 41) rfl (vT h4) (jA (t := 41) rfl (vT h4) (cX (yp (.bool (true)) (vT h4) rfl (jb (.bool (true)) rfl (jA (t := 49) rfl rfl (jA (t := 49) rfl rfl ?_))))))))))
  refine jA (t := 49) rfl rfl (jA (t := 49) rfl rfl (XL.noU (t := 53) rfl rfl (XL.noU (t := 53) rfl rfl (XL.noU (t := 53) rfl rfl (XL.noU (t := 53) rfl rfl (XL.noU (t := 53) rfl rfl (jA (t := 49) rfl rfl (cX (yp (.bool (true)) rfl rfl (qI ?_))))))))))
  refine yX rfl (qX (qH (jc (.bool (false)) rfl (qI (jW (jw (jR (L' := L) [.bool (false)] (.bool (false)) (.tmp rfl .nil) rfl rF rF (sD (sD sR)) ?_)))))))
  exact ⟨(vB (by refine peakL_no (fun h => ?_); obtain ⟨h1, h2, h3, h4⟩ := h; have h5 := peakArgs_iff.1 h2; first | omega | simp_all | (simp_all; done) | (exfalso; simp_all; omega))), rfl, rfl⟩
 refine jB (t := 41) rfl (vF h4) (jk (a1) rfl (jB (t := 41) rfl (vF h4) (jE (3) yg rfl js (by decide) rfl rfl (jB (t := 41) rfl (vF h4) (jj yd rfl (Rd.own [] rfl rfl) (jB (t := 41) rfl (vF h4) (jq ((a).toNat) qU js rfl rfl (by omega) ha1.slv (by omega) (Nat.mul_one _) (jB (t := 41) rfl (vF h4) (jj yd rfl (ha1.rd (by omega)) (jB (t := 41) rfl (vF h4) (yo rfl rfl (cX (yl (.bool (decide ((((rs.getD ((o).toNat) ([], [])).1).getD ((a).toNat) 0 : Int) < 0))) (vF h4) rfl (jb (.bool (decide ((((rs.getD ((o).toNat) ([], [])).1).getD ((a).toNat) 0 : Int) < 0))) rfl ?_))))))))))))))
 by_cases h5 : (((rs.getD ((o).toNat) ([], [])).1).getD ((a).toNat) 0 : Int) < 0
 ·refine jA (t := 49) rfl (vT h5) (jA (t := 49) rfl (vT h5) (jA (t := 49) rfl (vT h5) (jA (t := 49) rfl (vT h5) (XL.noU (t := 53) rfl rfl (XL.noU (t := 53) rfl rfl (XL.noU (t := 53) rfl rfl (XL.noU (t := 53) rfl rfl (XL.noU (t := 53) rfl rfl (jA (t := 49) rfl (vT h5) ?_)))))))))
  refine cX (yp (.bool (true)) (vT h5) rfl (qI (yX rfl (qX (qH (jc (.bool (false)) rfl (qI (jW (jw (jR (L' := L) [.bool (false)] (.bool (false)) (.tmp rfl .nil) rfl rF rF (sD (sD sR)) ?_))))))))))
  exact ⟨(vB (by refine peakL_no (fun h => ?_); obtain ⟨h1, h2, h3, h4⟩ := h; have h5 := peakArgs_iff.1 h2; first | omega | simp_all | (simp_all; done) | (exfalso; simp_all; omega))), rfl, rfl⟩
 refine jB (t := 49) rfl (vF h5) (jE (3) yg rfl js (by decide) rfl rfl (jB (t := 49) rfl (vF h5) (jj yd rfl (Rd.own [] rfl rfl) (jB (t := 49) rfl (vF h5) (yU rfl rfl (jB (t := 49) rfl (vF h5) (jk (.bool (decide ((a : Int) = 0))) rfl ?_)))))))
 by_cases h6 : (a : Int) = 0
 ·refine jB (t := 53) rfl (vT h6) (jE (5) yg rfl js (by decide) rfl rfl (jB (t := 53) rfl (vT h6) (jj yd rfl (Rd.own [] rfl rfl) (jB (t := 53) rfl (vT h6) (jE (4) yg rfl js (by decide) rfl rfl (jB (t := 53) rfl (vT h6) (jj yd rfl (Rd.own [] rfl rfl) (jB (t := 53) rfl (vT h6) (yU rfl rfl (jB (t := 49) rfl (vF h5) (yp (.bool (decide ((o : Int) = u))) (vT h6) rfl (cX (yl (.bool (decide ((o : Int) = u))) (vF h5) rfl (qI ?_))))))))))))))
  refine jV (p := (o : Int) = u) rfl (fun h7 => ?_) (fun h7 => ?_)
  ·refine qX (qH (jc (.bool (false)) rfl (qI (jW (jw (jR (L' := L) [.bool (false)] (.bool (false)) (.tmp rfl .nil) rfl rF rF (sD (sD sR)) ?_))))))
   exact ⟨(vB (by refine peakL_no (fun h => ?_); obtain ⟨h1, h2, h3, h4⟩ := h; have h5 := peakArgs_iff.1 h2; first | omega | simp_all | (simp_all; done) | (exfalso; simp_all; omega))), rfl, rfl⟩
  refine jU (qX (qH (cX (yc [arv, rsv] yY yP rfl rfl (Rd.ownN [_] rfl rfl) (cX (jE (0) yg rfl jF (by decide) rfl rfl (cX (jj yt rfl (Rd.own [] rfl rfl) (cX (jE (5) yg rfl js (by decide) rfl rfl (cX (jj yd rfl (Rd.own [] rfl rfl) (cX (jL (args := [.agg #[arv, rsv], tpv, ii (0), ii (o)]) call49 rfl (sStepAt_spec (p := 0) (r := o) har hrs htp (hla := (by first | assumption | rfl | omega | simp)) (hlr := (by first | assumption | rfl | omega | simp)) (hrb := (by first | assumption | rfl | omega | simp)) (hlt := (by first | assumption | rfl | omega | simp))) ?_))))))))))))))
  rintro _ F1 _ le1 ⟨x1, rfl, hr3, rfl⟩
  replace har := har.mono le1
  replace hrs := hrs.mono le1
  replace htp := htp.mono le1
  replace hlf := hlf.mono le1
  replace hrt := hrt.mono le1
  replace ha1 := ha1.mono le1
  refine jb (.tuple #[x1, .bool ((stepAtL ar rs tp 0 o).isSome)]) rfl (cX (yr (x1) rfl rfl (cX (yr (.bool ((stepAtL ar rs tp 0 o).isSome)) rfl rfl (jc (x1) rfl (jc (.bool ((stepAtL ar rs tp 0 o).isSome)) rfl (qI (qX (qX (qH (jb (.bool ((stepAtL ar rs tp 0 o).isSome)) rfl (cX (yR rfl (jb (.bool (!((stepAtL ar rs tp 0 o).isSome))) rfl ?_))))))))))))))
  by_cases h8 : (!((stepAtL ar rs tp 0 o).isSome)) = true
  ·have hst1 : (stepAtL ar rs tp 0 o).isSome = false := by simpa using h8
   refine jA (t := 72) rfl (vB h8) (jA (t := 72) rfl (vB h8) (jA (t := 72) rfl (vB h8) (jA (t := 72) rfl (vB h8) (jA (t := 72) rfl (vB h8) (cX (yp (.bool (true)) (vB h8) rfl (qI (yX rfl (qX (qH (jc (.bool (false)) rfl ?_)))))))))))
   refine qI (jW (jw (jR (L' := L) [.bool (false)] (.bool (false)) (.tmp rfl .nil) rfl rF le1 (sD (sD sR)) ?_)))
   exact ⟨(vB (peakL_no (fun h => by first | exact opt_no1 hst1 h.2.2.1 | exact opt_no2 hst2 h.2.2.1))), rfl, rfl⟩
  rw [Bool.not_eq_true] at h8
  have hst1 : (stepAtL ar rs tp 0 o).isSome = true := by simpa using h8
  refine jB (t := 72) rfl (vB h8) (jk (x1) rfl (jB (t := 72) rfl (vB h8) (jE (2) yg rfl jF (by decide) rfl rfl (jB (t := 72) rfl (vB h8) (jj yt rfl (Rd.own [] rfl rfl) (jB (t := 72) rfl (vB h8) (jL (args := [x1, rtv]) call126 rfl (SameTerm_spec hr3 hrt (hbd := (by first | assumption | rfl | omega | (left; simp; done) | (right; simp; done)))) ?_)))))))
  rintro _ _ _ _ ⟨rfl, rfl, rfl⟩
  refine jB (t := 72) rfl (vB h8) (Qw rfl (cX (yl (.bool (decide (¬(((stepAtL ar rs tp 0 o).getD []) = rt)))) (vB h8) rfl (qI ?_))))
  refine jV (p := ¬(((stepAtL ar rs tp 0 o).getD []) = rt)) rfl (fun h9 => ?_) (fun h9 => ?_)
  ·have hst2 : (stepAtL ar rs tp 0 o).getD [] ≠ rt := h9
   refine qX (qH (jc (.bool (false)) rfl (qI (jW (jw (jR (L' := L) [.bool (false)] (.bool (false)) (.tmp rfl .nil) rfl rF le1 (sD (sD sR)) ?_))))))
   exact ⟨(vB (peakL_no (fun h => by first | exact opt_no1 hst1 h.2.2.1 | exact opt_no2 hst2 h.2.2.1))), rfl, rfl⟩
  have hst2 : (stepAtL ar rs tp 0 o).getD [] = rt := Classical.not_not.1 h9
  refine jU (qX ?_)
  refine X.drawG [cellsH b2 [tpv, lfv, rtv, ii (a), ii (u), ii (o)] 76, cellsH b1 [arv, rsv] 32] L 21 [[], [], [], [], [], [], [], [], [], [], [], [], [], [], [], [], [], [16], [16], [], [16]] [[], [], [1], [], [3], [], [5], [], [7], [], [], [10], [8, 9, 11], [4, 6, 12], [], [14], [0, 2, 13, 15], [16], [16, 17], [16, 17], [16, 18]] [] (phiG [pe (.agg #[arv, rsv]), pe (ptr b2 0), pe tpv, pe (ptr b1 0), pe (.agg #[arv]), pe (ptr b2 0), pe tpv, pe (ptr b1 0), pe (.agg #[arv]), pe a1, pe (ptr b2 3), pe (ii (a)), fun FF us v => ((v) : Value) = v ∧ (IntsF FF (v) (pathL ar ((rs.getD ((o).toNat) ([], [])).1) a.toNat)), pe (ii (placeL ar tp ((pathL ar ((rs.getD ((o).toNat) ([], [])).1) a.toNat)))), pe (ptr b2 4), pe (ii (u)), fun FF us v => (.tuple #[((tupAt v 0)), .bool ((stepAtL ar rs tp (placeL ar tp ((pathL ar ((rs.getD ((o).toNat) ([], [])).1) a.toNat))) u).isSome)] : Value) = v ∧ (IntsF FF ((tupAt v 0)) ((stepAtL ar rs tp (placeL ar tp ((pathL ar ((rs.getD ((o).toNat) ([], [])).1) a.toNat))) u).getD [])), fun FF us v => v = (.tuple #[((tupAt (us.getD 0 undef) 0)), .bool ((stepAtL ar rs tp (placeL ar tp ((pathL ar ((rs.getD ((o).toNat) ([], [])).1) a.toNat))) u).isSome)] : Value), fun FF us v => v = ((tupAt (us.getD 0 undef) 0)), pe (.bool ((stepAtL ar rs tp (placeL ar tp ((pathL ar ((rs.getD ((o).toNat) ([], [])).1) a.toNat))) u).isSome)), fun FF us v => v = ((tupAt (us.getD 0 undef) 0))]) (ownL []) mixed rfl rfl (by kernel_rfl) (by kernel_rfl) (MonoG.get (m1 (m1 (m1 (m1 (m1 (m1 (m1 (m1 (m1 (m1 (m1 (m1 (mC (fun le h => ⟨h.1, h.2.mono le⟩) (m1 (m1 (m1 (mC (fun le h => ⟨h.1, h.2.mono le⟩) (mC (fun le h => h) (mC (fun le h => h) (m1 (mC (fun le h => h) MonoG.nil)))))))))))))))))))))) ?_ ?_
  ·refine gD (fun W Fs R lF z9 => ?_) ?_
   ·replace har := har.mono lF
    replace hrs := hrs.mono lF
    replace htp := htp.mono lF
    replace hlf := hlf.mono lF
    replace hrt := hrt.mono lF
    replace ha1 := ha1.mono lF
    refine je (yc [arv, rsv] yY yP rfl rfl (Rd.ownN [_] rfl rfl) ?_)
    exact ⟨rfl, rfl⟩
   refine gD (fun W Fs R lF z9 => ?_) ?_
   ·refine je (jE (0) yg rfl jF (by decide) rfl rfl ?_)
    exact ⟨rfl, rfl⟩
   refine gD (fun W Fs R lF z9 => ?_) ?_
   ·replace har := har.mono lF
    replace hrs := hrs.mono lF
    replace htp := htp.mono lF
    replace hlf := hlf.mono lF
    replace hrt := hrt.mono lF
    replace ha1 := ha1.mono lF
    rw [eS (l := [(1, _)]) ⟨z9 1 rfl, ⟨⟩⟩]
    refine je (jj yt rfl (Rd.own [] rfl rfl) ?_)
    exact ⟨rfl, rfl⟩
   refine gD (fun W Fs R lF z9 => ?_) ?_
   ·refine je (jE (0) yq rfl ys (by decide) rfl rfl ?_)
    exact ⟨rfl, rfl⟩
   refine gD (fun W Fs R lF z9 => ?_) ?_
   ·replace har := har.mono lF
    replace hrs := hrs.mono lF
    replace htp := htp.mono lF
    replace hlf := hlf.mono lF
    replace hrt := hrt.mono lF
    replace ha1 := ha1.mono lF
    rw [eS (l := [(3, _)]) ⟨z9 3 rfl, ⟨⟩⟩]
    refine je (yc [arv] yF ys rfl rfl (Rd.ownN [_] rfl rfl) ?_)
    exact ⟨rfl, rfl⟩
   refine gD (fun W Fs R lF z9 => ?_) ?_
   ·refine je (jE (0) yg rfl jF (by decide) rfl rfl ?_)
    exact ⟨rfl, rfl⟩
   refine gD (fun W Fs R lF z9 => ?_) ?_
   ·replace har := har.mono lF
    replace hrs := hrs.mono lF
    replace htp := htp.mono lF
    replace hlf := hlf.mono lF
    replace hrt := hrt.mono lF
    replace ha1 := ha1.mono lF
    rw [eS (l := [(5, _)]) ⟨z9 5 rfl, ⟨⟩⟩]
    refine je (jj yt rfl (Rd.own [] rfl rfl) ?_)
    exact ⟨rfl, rfl⟩
   refine gD (fun W Fs R lF z9 => ?_) ?_
   ·refine je (jE (0) yq rfl ys (by decide) rfl rfl ?_)
    exact ⟨rfl, rfl⟩
   refine gD (fun W Fs R lF z9 => ?_) ?_
   ·replace har := har.mono lF
    replace hrs := hrs.mono lF
    replace htp := htp.mono lF
    replace hlf := hlf.mono lF
    replace hrt := hrt.mono lF
    replace ha1 := ha1.mono lF
    rw [eS (l := [(7, _)]) ⟨z9 7 rfl, ⟨⟩⟩]
    refine je (yc [arv] yF ys rfl rfl (Rd.ownN [_] rfl rfl) ?_)
    exact ⟨rfl, rfl⟩
   refine gD (fun W Fs R lF z9 => ?_) ?_
   ·refine je (jk (a1) rfl ?_)
    exact ⟨rfl, rfl⟩
   refine gD (fun W Fs R lF z9 => ?_) ?_
   ·refine je (jE (3) yg rfl js (by decide) rfl rfl ?_)
    exact ⟨rfl, rfl⟩
   refine gD (fun W Fs R lF z9 => ?_) ?_
   ·replace har := har.mono lF
    replace hrs := hrs.mono lF
    replace htp := htp.mono lF
    replace hlf := hlf.mono lF
    replace hrt := hrt.mono lF
    replace ha1 := ha1.mono lF
    rw [eS (l := [(10, _)]) ⟨z9 10 rfl, ⟨⟩⟩]
    refine je (jj yd rfl (Rd.own [] rfl rfl) ?_)
    exact ⟨rfl, rfl⟩
   refine gD (fun W Fs R lF z9 => ?_) ?_
   ·replace har := har.mono lF
    replace hrs := hrs.mono lF
    replace htp := htp.mono lF
    replace hlf := hlf.mono lF
    replace hrt := hrt.mono lF
    replace ha1 := ha1.mono lF
    rw [eS (l := [(8, _), (9, _), (11, _)]) ⟨z9 8 rfl, z9 9 rfl, z9 11 rfl, ⟨⟩⟩]
    refine je (Qo <| jL (args := [.agg #[arv], a1, ii (a)]) call51 rfl (sPathOf_spec (n := a) har ha1 (ho := (hRL (by omega))) (hn := (by omega))) ?_)
    rintro v2 _ _ _ ⟨rfl, hs2, rfl⟩
    refine ⟨_, _, rfl, fun F3 le3 hz1 => ?_⟩
    replace har := har.mono le3
    replace hrs := hrs.mono le3
    replace htp := htp.mono le3
    replace hlf := hlf.mono le3
    replace hrt := hrt.mono le3
    replace ha1 := ha1.mono le3
    have hf1 : IntsF F3 v2 ((pathL ar ((rs.getD ((o).toNat) ([], [])).1) a.toNat)) := intsH.fz (xs := (pathL ar ((rs.getD ((o).toNat) ([], [])).1) a.toNat)) hz1.fz
    exact ⟨⟨rfl, hf1⟩, rfl⟩
   refine gD (fun W Fs R lF z9 => ?_) ?_
   ·obtain ⟨e12, f12_1ha⟩ := z9 12 rfl
    replace har := har.mono lF
    replace hrs := hrs.mono lF
    replace htp := htp.mono lF
    replace hlf := hlf.mono lF
    replace hrt := hrt.mono lF
    replace ha1 := ha1.mono lF
    rw [eS (l := [(4, _), (6, _), (12, ((W 12)))]) ⟨z9 4 rfl, z9 6 rfl, (e12).symm, ⟨⟩⟩]
    refine je (jL (args := [.agg #[arv], tpv, ((W 12))]) call50 rfl (sPlaceOf_spec har htp f12_1ha (hlp := (by have := pathL_len ar (rs.getD o.toNat ([], [])).1 a.toNat; have := hRl (by omega); omega)) (hla := (by first | assumption | rfl | omega | simp)) (hlt := (by first | assumption | rfl | omega | simp))) ?_)
    rintro _ _ _ _ ⟨rfl, rfl, rfl⟩
    exact ⟨rfl, rfl⟩
   refine gD (fun W Fs R lF z9 => ?_) ?_
   ·refine je (jE (4) yg rfl js (by decide) rfl rfl ?_)
    exact ⟨rfl, rfl⟩
   refine gD (fun W Fs R lF z9 => ?_) ?_
   ·replace har := har.mono lF
    replace hrs := hrs.mono lF
    replace htp := htp.mono lF
    replace hlf := hlf.mono lF
    replace hrt := hrt.mono lF
    replace ha1 := ha1.mono lF
    rw [eS (l := [(14, _)]) ⟨z9 14 rfl, ⟨⟩⟩]
    refine je (jj yd rfl (Rd.own [] rfl rfl) ?_)
    exact ⟨rfl, rfl⟩
   refine gD (fun W Fs R lF z9 => ?_) ?_
   ·replace har := har.mono lF
    replace hrs := hrs.mono lF
    replace htp := htp.mono lF
    replace hlf := hlf.mono lF
    replace hrt := hrt.mono lF
    replace ha1 := ha1.mono lF
    rw [eS (l := [(0, _), (2, _), (13, _), (15, _)]) ⟨z9 0 rfl, z9 2 rfl, z9 13 rfl, z9 15 rfl, ⟨⟩⟩]
    refine je (jL (args := [.agg #[arv, rsv], tpv, ii (placeL ar tp ((pathL ar ((rs.getD ((o).toNat) ([], [])).1) a.toNat))), ii (u)]) call49 rfl (sStepAt_spec (p := placeL ar tp ((pathL ar ((rs.getD ((o).toNat) ([], [])).1) a.toNat))) (r := u) har hrs htp (hla := (by first | assumption | rfl | omega | simp)) (hlr := (by first | assumption | rfl | omega | simp)) (hrb := (by first | assumption | rfl | omega | simp)) (hlt := (by first | assumption | rfl | omega | simp))) ?_)
    rintro _ F4 _ le4 ⟨x3, rfl, hr5, rfl⟩
    replace har := har.mono le4
    replace hrs := hrs.mono le4
    replace htp := htp.mono le4
    replace hlf := hlf.mono le4
    replace hrt := hrt.mono le4
    replace ha1 := ha1.mono le4
    exact ⟨⟨rfl, hr5⟩, rfl⟩
   refine gD (fun W Fs R lF z9 => ?_) ?_
   ·obtain ⟨e16, f16_1hr⟩ := z9 16 rfl
    rw [eS (l := [(16, (.tuple #[((tupAt (W 16) 0)), .bool ((stepAtL ar rs tp (placeL ar tp ((pathL ar ((rs.getD ((o).toNat) ([], [])).1) a.toNat))) u).isSome)]))]) ⟨(e16).symm, ⟨⟩⟩]
    refine je (jk (.tuple #[((tupAt (W 16) 0)), .bool ((stepAtL ar rs tp (placeL ar tp ((pathL ar ((rs.getD ((o).toNat) ([], [])).1) a.toNat))) u).isSome)]) rfl ?_)
    exact ⟨rfl, rfl⟩
   refine gD (fun W Fs R lF z9 => ?_) ?_
   ·obtain ⟨e16, f16_1hr⟩ := z9 16 rfl
    have e17 : W 17 = (.tuple #[((tupAt (W 16) 0)), .bool ((stepAtL ar rs tp (placeL ar tp ((pathL ar ((rs.getD ((o).toNat) ([], [])).1) a.toNat))) u).isSome)] : Value) := z9 17 rfl
    rw [eS (l := [(16, (.tuple #[((tupAt (W 16) 0)), .bool ((stepAtL ar rs tp (placeL ar tp ((pathL ar ((rs.getD ((o).toNat) ([], [])).1) a.toNat))) u).isSome)])), (17, (.tuple #[((tupAt (W 16) 0)), .bool ((stepAtL ar rs tp (placeL ar tp ((pathL ar ((rs.getD ((o).toNat) ([], [])).1) a.toNat))) u).isSome)]))]) ⟨(e16).symm, e17, ⟨⟩⟩]
    refine je (yr (((tupAt (W 16) 0))) rfl rfl ?_)
    exact ⟨rfl, rfl⟩
   refine gD (fun W Fs R lF z9 => ?_) ?_
   ·obtain ⟨e16, f16_1hr⟩ := z9 16 rfl
    have e17 : W 17 = (.tuple #[((tupAt (W 16) 0)), .bool ((stepAtL ar rs tp (placeL ar tp ((pathL ar ((rs.getD ((o).toNat) ([], [])).1) a.toNat))) u).isSome)] : Value) := z9 17 rfl
    rw [eS (l := [(16, (.tuple #[((tupAt (W 16) 0)), .bool ((stepAtL ar rs tp (placeL ar tp ((pathL ar ((rs.getD ((o).toNat) ([], [])).1) a.toNat))) u).isSome)])), (17, (.tuple #[((tupAt (W 16) 0)), .bool ((stepAtL ar rs tp (placeL ar tp ((pathL ar ((rs.getD ((o).toNat) ([], [])).1) a.toNat))) u).isSome)]))]) ⟨(e16).symm, e17, ⟨⟩⟩]
    refine je (yr (.bool ((stepAtL ar rs tp (placeL ar tp ((pathL ar ((rs.getD ((o).toNat) ([], [])).1) a.toNat))) u).isSome)) rfl rfl ?_)
    exact ⟨rfl, rfl⟩
   refine gD (fun W Fs R lF z9 => ?_) ?_
   ·obtain ⟨e16, f16_1hr⟩ := z9 16 rfl
    have e18 : W 18 = ((tupAt (W 16) 0)) := z9 18 rfl
    rw [eS (l := [(16, (.tuple #[((tupAt (W 16) 0)), .bool ((stepAtL ar rs tp (placeL ar tp ((pathL ar ((rs.getD ((o).toNat) ([], [])).1) a.toNat))) u).isSome)])), (18, ((tupAt (W 16) 0)))]) ⟨(e16).symm, e18, ⟨⟩⟩]
    refine je (XOp.assign (((tupAt (W 16) 0))) rfl ?_)
    exact ⟨rfl, rfl⟩
   exact stepsG.nil
  intro W F5 le5 hphi
  obtain ⟨e12, f12_1ha⟩ := hphi 12 (by decide)
  obtain ⟨e16, f16_1hr⟩ := hphi 16 (by decide)
  have e17 : W 17 = (.tuple #[((tupAt (W 16) 0)), .bool ((stepAtL ar rs tp (placeL ar tp ((pathL ar ((rs.getD ((o).toNat) ([], [])).1) a.toNat))) u).isSome)] : Value) := hphi 17 (by decide)
  have e18 : W 18 = ((tupAt (W 16) 0)) := hphi 18 (by decide)
  have e20 : W 20 = ((tupAt (W 16) 0)) := hphi 20 (by decide)
  generalize hu1 : ((W 12)) = u1 at e12 f12_1ha e16 f16_1hr e17 e18 e20
  generalize hu2 : ((tupAt (W 16) 0)) = u2 at e12 f12_1ha e16 f16_1hr e17 e18 e20
  rw [eS (l := [(16, (.tuple #[u2, .bool ((stepAtL ar rs tp (placeL ar tp ((pathL ar ((rs.getD ((o).toNat) ([], [])).1) a.toNat))) u).isSome)])), (19, _), (20, u2)]) ⟨(e16).symm, (hphi 19 (by decide)), e20, ⟨⟩⟩]
  replace har := har.mono le5
  replace hrs := hrs.mono le5
  replace htp := htp.mono le5
  replace hlf := hlf.mono le5
  replace hrt := hrt.mono le5
  replace ha1 := ha1.mono le5
  show XL _ _ _ _ _ _ _ (cellsH b2 [tpv, lfv, rtv, ii (a), ii (u), ii (o)] 76 :: cellsH b1 [arv, rsv] 32 :: L)
  refine jc (.bool ((stepAtL ar rs tp (placeL ar tp ((pathL ar ((rs.getD ((o).toNat) ([], [])).1) a.toNat))) u).isSome)) rfl (qI (qX (qH (jb (.bool ((stepAtL ar rs tp (placeL ar tp ((pathL ar ((rs.getD ((o).toNat) ([], [])).1) a.toNat))) u).isSome)) rfl (jb (.bool ((stepAtL ar rs tp (placeL ar tp ((pathL ar ((rs.getD ((o).toNat) ([], [])).1) a.toNat))) u).isSome)) rfl ?_)))))
  by_cases h10 : ((stepAtL ar rs tp (placeL ar tp ((pathL ar ((rs.getD ((o).toNat) ([], [])).1) a.toNat))) u).isSome) = true
  ·refine jB (t := 100) rfl (vB h10) (jk (u2) rfl (jB (t := 100) rfl (vB h10) (jE (1) yg rfl jF (by decide) rfl rfl (jB (t := 100) rfl (vB h10) (jj yt rfl (Rd.own [] rfl rfl) (jB (t := 100) rfl (vB h10) (jL (args := [u2, lfv]) call126 rfl (SameTerm_spec f16_1hr hlf (hbd := (by first | assumption | rfl | omega | (left; simp; done) | (right; simp; done)))) ?_)))))))
   rintro _ _ _ _ ⟨rfl, rfl, rfl⟩
   refine cX (yp (.bool (decide (((stepAtL ar rs tp (placeL ar tp ((pathL ar ((rs.getD ((o).toNat) ([], [])).1) a.toNat))) u).getD []) = lf))) (vB h10) rfl (jc (.bool (decide (((stepAtL ar rs tp (placeL ar tp ((pathL ar ((rs.getD ((o).toNat) ([], [])).1) a.toNat))) u).getD []) = lf))) rfl (qI (jW (jR (L' := L) [.bool (decide (((stepAtL ar rs tp (placeL ar tp ((pathL ar ((rs.getD ((o).toNat) ([], [])).1) a.toNat))) u).getD []) = lf))] (.bool (decide (((stepAtL ar rs tp (placeL ar tp ((pathL ar ((rs.getD ((o).toNat) ([], [])).1) a.toNat))) u).getD []) = lf))) (.tmp rfl .nil) rfl rF (jl le1 le5) (sD (sD sR)) ?_)))))
   exact ⟨(vB (by rw [Bool.eq_iff_iff, peakL_iff, decide_eq_true_eq]; exact ⟨fun h => (getD_some (by assumption)).1 h.2.2.2, fun h => ⟨hsys, peakArgs_iff.2 (by omega), (getD_some hst1).2 hst2, (getD_some (by assumption)).2 h⟩⟩)), rfl, rfl⟩
  rw [Bool.not_eq_true] at h10
  refine jA (t := 100) rfl (vB h10) (jA (t := 100) rfl (vB h10) (jA (t := 100) rfl (vB h10) (jA (t := 100) rfl (vB h10) (cX (yl (.bool (false)) (vB h10) rfl (jc (.bool (false)) rfl (qI (jW (jR (L' := L) [.bool (false)] (.bool (false)) (.tmp rfl .nil) rfl rF (jl le1 le5) (sD (sD sR)) ?_)))))))))
  exact ⟨(vB (peakL_no (fun h => opt_no1 (by assumption) h.2.2.2))), rfl, rfl⟩
 refine jA (t := 53) rfl (vF h6) (jA (t := 53) rfl (vF h6) (jA (t := 53) rfl (vF h6) (jA (t := 53) rfl (vF h6) (jA (t := 53) rfl (vF h6) (jB (t := 49) rfl (vF h5) (yl (.bool (false)) (vF h6) rfl (cX (yl (.bool (false)) (vF h5) rfl (qI (yV rfl (jU (qX (qH ?_)))))))))))))
 refine cX (yc [arv, rsv] yY yP rfl rfl (Rd.ownN [_] rfl rfl) (cX (jE (0) yg rfl jF (by decide) rfl rfl (cX (jj yt rfl (Rd.own [] rfl rfl) (cX (jE (5) yg rfl js (by decide) rfl rfl (cX (jj yd rfl (Rd.own [] rfl rfl) (cX (jL (args := [.agg #[arv, rsv], tpv, ii (0), ii (o)]) call49 rfl (sStepAt_spec (p := 0) (r := o) har hrs htp (hla := (by first | assumption | rfl | omega | simp)) (hlr := (by first | assumption | rfl | omega | simp)) (hrb := (by first | assumption | rfl | omega | simp)) (hlt := (by first | assumption | rfl | omega | simp))) ?_)))))))))))
 rintro _ F6 _ le6 ⟨x4, rfl, hr6, rfl⟩
 replace har := har.mono le6
 replace hrs := hrs.mono le6
 replace htp := htp.mono le6
 replace hlf := hlf.mono le6
 replace hrt := hrt.mono le6
 replace ha1 := ha1.mono le6
 refine jb (.tuple #[x4, .bool ((stepAtL ar rs tp 0 o).isSome)]) rfl (cX (yr (x4) rfl rfl (cX (yr (.bool ((stepAtL ar rs tp 0 o).isSome)) rfl rfl (jc (x4) rfl (jc (.bool ((stepAtL ar rs tp 0 o).isSome)) rfl (qI (qX (qX (qH (jb (.bool ((stepAtL ar rs tp 0 o).isSome)) rfl (cX (yR rfl (jb (.bool (!((stepAtL ar rs tp 0 o).isSome))) rfl ?_))))))))))))))
 by_cases h11 : (!((stepAtL ar rs tp 0 o).isSome)) = true
 ·have hst1 : (stepAtL ar rs tp 0 o).isSome = false := by simpa using h11
  refine jA (t := 72) rfl (vB h11) (jA (t := 72) rfl (vB h11) (jA (t := 72) rfl (vB h11) (jA (t := 72) rfl (vB h11) (jA (t := 72) rfl (vB h11) (cX (yp (.bool (true)) (vB h11) rfl (qI (yX rfl (qX (qH (jc (.bool (false)) rfl ?_)))))))))))
  refine qI (jW (jw (jR (L' := L) [.bool (false)] (.bool (false)) (.tmp rfl .nil) rfl rF le6 (sD (sD sR)) ?_)))
  exact ⟨(vB (peakL_no (fun h => by first | exact opt_no1 hst1 h.2.2.1 | exact opt_no2 hst2 h.2.2.1))), rfl, rfl⟩
 rw [Bool.not_eq_true] at h11
 have hst1 : (stepAtL ar rs tp 0 o).isSome = true := by simpa using h11
 refine jB (t := 72) rfl (vB h11) (jk (x4) rfl (jB (t := 72) rfl (vB h11) (jE (2) yg rfl jF (by decide) rfl rfl (jB (t := 72) rfl (vB h11) (jj yt rfl (Rd.own [] rfl rfl) (jB (t := 72) rfl (vB h11) (jL (args := [x4, rtv]) call126 rfl (SameTerm_spec hr6 hrt (hbd := (by first | assumption | rfl | omega | (left; simp; done) | (right; simp; done)))) ?_)))))))
 rintro _ _ _ _ ⟨rfl, rfl, rfl⟩
 refine jB (t := 72) rfl (vB h11) (Qw rfl (cX (yl (.bool (decide (¬(((stepAtL ar rs tp 0 o).getD []) = rt)))) (vB h11) rfl (qI ?_))))
 refine jV (p := ¬(((stepAtL ar rs tp 0 o).getD []) = rt)) rfl (fun h12 => ?_) (fun h12 => ?_)
 ·have hst2 : (stepAtL ar rs tp 0 o).getD [] ≠ rt := h12
  refine qX (qH (jc (.bool (false)) rfl (qI (jW (jw (jR (L' := L) [.bool (false)] (.bool (false)) (.tmp rfl .nil) rfl rF le6 (sD (sD sR)) ?_))))))
  exact ⟨(vB (peakL_no (fun h => by first | exact opt_no1 hst1 h.2.2.1 | exact opt_no2 hst2 h.2.2.1))), rfl, rfl⟩
 have hst2 : (stepAtL ar rs tp 0 o).getD [] = rt := Classical.not_not.1 h12
 refine jU (qX ?_)
 refine X.drawG [cellsH b2 [tpv, lfv, rtv, ii (a), ii (u), ii (o)] 76, cellsH b1 [arv, rsv] 32] L 21 [[], [], [], [], [], [], [], [], [], [], [], [], [], [], [], [], [], [16], [16], [], [16]] [[], [], [1], [], [3], [], [5], [], [7], [], [], [10], [8, 9, 11], [4, 6, 12], [], [14], [0, 2, 13, 15], [16], [16, 17], [16, 17], [16, 18]] [] (phiG [pe (.agg #[arv, rsv]), pe (ptr b2 0), pe tpv, pe (ptr b1 0), pe (.agg #[arv]), pe (ptr b2 0), pe tpv, pe (ptr b1 0), pe (.agg #[arv]), pe a1, pe (ptr b2 3), pe (ii (a)), fun FF us v => ((v) : Value) = v ∧ (IntsF FF (v) (pathL ar ((rs.getD ((o).toNat) ([], [])).1) a.toNat)), pe (ii (placeL ar tp ((pathL ar ((rs.getD ((o).toNat) ([], [])).1) a.toNat)))), pe (ptr b2 4), pe (ii (u)), fun FF us v => (.tuple #[((tupAt v 0)), .bool ((stepAtL ar rs tp (placeL ar tp ((pathL ar ((rs.getD ((o).toNat) ([], [])).1) a.toNat))) u).isSome)] : Value) = v ∧ (IntsF FF ((tupAt v 0)) ((stepAtL ar rs tp (placeL ar tp ((pathL ar ((rs.getD ((o).toNat) ([], [])).1) a.toNat))) u).getD [])), fun FF us v => v = (.tuple #[((tupAt (us.getD 0 undef) 0)), .bool ((stepAtL ar rs tp (placeL ar tp ((pathL ar ((rs.getD ((o).toNat) ([], [])).1) a.toNat))) u).isSome)] : Value), fun FF us v => v = ((tupAt (us.getD 0 undef) 0)), pe (.bool ((stepAtL ar rs tp (placeL ar tp ((pathL ar ((rs.getD ((o).toNat) ([], [])).1) a.toNat))) u).isSome)), fun FF us v => v = ((tupAt (us.getD 0 undef) 0))]) (ownL []) mixed rfl rfl (by kernel_rfl) (by kernel_rfl) (MonoG.get (m1 (m1 (m1 (m1 (m1 (m1 (m1 (m1 (m1 (m1 (m1 (m1 (mC (fun le h => ⟨h.1, h.2.mono le⟩) (m1 (m1 (m1 (mC (fun le h => ⟨h.1, h.2.mono le⟩) (mC (fun le h => h) (mC (fun le h => h) (m1 (mC (fun le h => h) MonoG.nil)))))))))))))))))))))) ?_ ?_
 ·refine gD (fun W Fs R lF z9 => ?_) ?_
  ·replace har := har.mono lF
   replace hrs := hrs.mono lF
   replace htp := htp.mono lF
   replace hlf := hlf.mono lF
   replace ha1 := ha1.mono lF
   refine je (yc [arv, rsv] yY yP rfl rfl (Rd.ownN [_] rfl rfl) ?_)
   exact ⟨rfl, rfl⟩
  refine gD (fun W Fs R lF z9 => ?_) ?_
  ·refine je (jE (0) yg rfl jF (by decide) rfl rfl ?_)
   exact ⟨rfl, rfl⟩
  refine gD (fun W Fs R lF z9 => ?_) ?_
  ·replace har := har.mono lF
   replace hrs := hrs.mono lF
   replace htp := htp.mono lF
   replace hlf := hlf.mono lF
   replace ha1 := ha1.mono lF
   rw [eS (l := [(1, _)]) ⟨z9 1 rfl, ⟨⟩⟩]
   refine je (jj yt rfl (Rd.own [] rfl rfl) ?_)
   exact ⟨rfl, rfl⟩
  refine gD (fun W Fs R lF z9 => ?_) ?_
  ·refine je (jE (0) yq rfl ys (by decide) rfl rfl ?_)
   exact ⟨rfl, rfl⟩
  refine gD (fun W Fs R lF z9 => ?_) ?_
  ·replace har := har.mono lF
   replace hrs := hrs.mono lF
   replace htp := htp.mono lF
   replace hlf := hlf.mono lF
   replace ha1 := ha1.mono lF
   rw [eS (l := [(3, _)]) ⟨z9 3 rfl, ⟨⟩⟩]
   refine je (yc [arv] yF ys rfl rfl (Rd.ownN [_] rfl rfl) ?_)
   exact ⟨rfl, rfl⟩
  refine gD (fun W Fs R lF z9 => ?_) ?_
  ·refine je (jE (0) yg rfl jF (by decide) rfl rfl ?_)
   exact ⟨rfl, rfl⟩
  refine gD (fun W Fs R lF z9 => ?_) ?_
  ·replace har := har.mono lF
   replace hrs := hrs.mono lF
   replace htp := htp.mono lF
   replace hlf := hlf.mono lF
   replace ha1 := ha1.mono lF
   rw [eS (l := [(5, _)]) ⟨z9 5 rfl, ⟨⟩⟩]
   refine je (jj yt rfl (Rd.own [] rfl rfl) ?_)
   exact ⟨rfl, rfl⟩
  refine gD (fun W Fs R lF z9 => ?_) ?_
  ·refine je (jE (0) yq rfl ys (by decide) rfl rfl ?_)
   exact ⟨rfl, rfl⟩
  refine gD (fun W Fs R lF z9 => ?_) ?_
  ·replace har := har.mono lF
   replace hrs := hrs.mono lF
   replace htp := htp.mono lF
   replace hlf := hlf.mono lF
   replace ha1 := ha1.mono lF
   rw [eS (l := [(7, _)]) ⟨z9 7 rfl, ⟨⟩⟩]
   refine je (yc [arv] yF ys rfl rfl (Rd.ownN [_] rfl rfl) ?_)
   exact ⟨rfl, rfl⟩
  refine gD (fun W Fs R lF z9 => ?_) ?_
  ·refine je (jk (a1) rfl ?_)
   exact ⟨rfl, rfl⟩
  refine gD (fun W Fs R lF z9 => ?_) ?_
  ·refine je (jE (3) yg rfl js (by decide) rfl rfl ?_)
   exact ⟨rfl, rfl⟩
  refine gD (fun W Fs R lF z9 => ?_) ?_
  ·replace har := har.mono lF
   replace hrs := hrs.mono lF
   replace htp := htp.mono lF
   replace hlf := hlf.mono lF
   replace ha1 := ha1.mono lF
   rw [eS (l := [(10, _)]) ⟨z9 10 rfl, ⟨⟩⟩]
   refine je (jj yd rfl (Rd.own [] rfl rfl) ?_)
   exact ⟨rfl, rfl⟩
  refine gD (fun W Fs R lF z9 => ?_) ?_
  ·replace har := har.mono lF
   replace hrs := hrs.mono lF
   replace htp := htp.mono lF
   replace hlf := hlf.mono lF
   replace ha1 := ha1.mono lF
   rw [eS (l := [(8, _), (9, _), (11, _)]) ⟨z9 8 rfl, z9 9 rfl, z9 11 rfl, ⟨⟩⟩]
   refine je (Qo <| jL (args := [.agg #[arv], a1, ii (a)]) call51 rfl (sPathOf_spec (n := a) har ha1 (ho := (hRL (by omega))) (hn := (by omega))) ?_)
   rintro v4 _ _ _ ⟨rfl, hs4, rfl⟩
   refine ⟨_, _, rfl, fun F8 le8 hz2 => ?_⟩
   replace har := har.mono le8
   replace hrs := hrs.mono le8
   replace htp := htp.mono le8
   replace hlf := hlf.mono le8
   have hf2 : IntsF F8 v4 ((pathL ar ((rs.getD ((o).toNat) ([], [])).1) a.toNat)) := intsH.fz (xs := (pathL ar ((rs.getD ((o).toNat) ([], [])).1) a.toNat)) hz2.fz
   exact ⟨⟨rfl, hf2⟩, rfl⟩
  refine gD (fun W Fs R lF z9 => ?_) ?_
  ·obtain ⟨e12, f12_2ha⟩ := z9 12 rfl
   replace har := har.mono lF
   replace hrs := hrs.mono lF
   replace htp := htp.mono lF
   replace hlf := hlf.mono lF
   rw [eS (l := [(4, _), (6, _), (12, ((W 12)))]) ⟨z9 4 rfl, z9 6 rfl, (e12).symm, ⟨⟩⟩]
   refine je (jL (args := [.agg #[arv], tpv, ((W 12))]) call50 rfl (sPlaceOf_spec har htp f12_2ha (hlp := (by have := pathL_len ar (rs.getD o.toNat ([], [])).1 a.toNat; have := hRl (by omega); omega)) (hla := (by first | assumption | rfl | omega | simp)) (hlt := (by first | assumption | rfl | omega | simp))) ?_)
   rintro _ _ _ _ ⟨rfl, rfl, rfl⟩
   exact ⟨rfl, rfl⟩
  refine gD (fun W Fs R lF z9 => ?_) ?_
  ·refine je (jE (4) yg rfl js (by decide) rfl rfl ?_)
   exact ⟨rfl, rfl⟩
  refine gD (fun W Fs R lF z9 => ?_) ?_
  ·replace har := har.mono lF
   replace hrs := hrs.mono lF
   replace htp := htp.mono lF
   replace hlf := hlf.mono lF
   rw [eS (l := [(14, _)]) ⟨z9 14 rfl, ⟨⟩⟩]
   refine je (jj yd rfl (Rd.own [] rfl rfl) ?_)
   exact ⟨rfl, rfl⟩
  refine gD (fun W Fs R lF z9 => ?_) ?_
  ·replace har := har.mono lF
   replace hrs := hrs.mono lF
   replace htp := htp.mono lF
   replace hlf := hlf.mono lF
   rw [eS (l := [(0, _), (2, _), (13, _), (15, _)]) ⟨z9 0 rfl, z9 2 rfl, z9 13 rfl, z9 15 rfl, ⟨⟩⟩]
   refine je (jL (args := [.agg #[arv, rsv], tpv, ii (placeL ar tp ((pathL ar ((rs.getD ((o).toNat) ([], [])).1) a.toNat))), ii (u)]) call49 rfl (sStepAt_spec (p := placeL ar tp ((pathL ar ((rs.getD ((o).toNat) ([], [])).1) a.toNat))) (r := u) har hrs htp (hla := (by first | assumption | rfl | omega | simp)) (hlr := (by first | assumption | rfl | omega | simp)) (hrb := (by first | assumption | rfl | omega | simp)) (hlt := (by first | assumption | rfl | omega | simp))) ?_)
   rintro _ F9 _ le9 ⟨x6, rfl, hr8, rfl⟩
   replace hlf := hlf.mono le9
   exact ⟨⟨rfl, hr8⟩, rfl⟩
  refine gD (fun W Fs R lF z9 => ?_) ?_
  ·obtain ⟨e16, f16_2hr⟩ := z9 16 rfl
   rw [eS (l := [(16, (.tuple #[((tupAt (W 16) 0)), .bool ((stepAtL ar rs tp (placeL ar tp ((pathL ar ((rs.getD ((o).toNat) ([], [])).1) a.toNat))) u).isSome)]))]) ⟨(e16).symm, ⟨⟩⟩]
   refine je (jk (.tuple #[((tupAt (W 16) 0)), .bool ((stepAtL ar rs tp (placeL ar tp ((pathL ar ((rs.getD ((o).toNat) ([], [])).1) a.toNat))) u).isSome)]) rfl ?_)
   exact ⟨rfl, rfl⟩
  refine gD (fun W Fs R lF z9 => ?_) ?_
  ·obtain ⟨e16, f16_2hr⟩ := z9 16 rfl
   have e17 : W 17 = (.tuple #[((tupAt (W 16) 0)), .bool ((stepAtL ar rs tp (placeL ar tp ((pathL ar ((rs.getD ((o).toNat) ([], [])).1) a.toNat))) u).isSome)] : Value) := z9 17 rfl
   rw [eS (l := [(16, (.tuple #[((tupAt (W 16) 0)), .bool ((stepAtL ar rs tp (placeL ar tp ((pathL ar ((rs.getD ((o).toNat) ([], [])).1) a.toNat))) u).isSome)])), (17, (.tuple #[((tupAt (W 16) 0)), .bool ((stepAtL ar rs tp (placeL ar tp ((pathL ar ((rs.getD ((o).toNat) ([], [])).1) a.toNat))) u).isSome)]))]) ⟨(e16).symm, e17, ⟨⟩⟩]
   refine je (yr (((tupAt (W 16) 0))) rfl rfl ?_)
   exact ⟨rfl, rfl⟩
  refine gD (fun W Fs R lF z9 => ?_) ?_
  ·obtain ⟨e16, f16_2hr⟩ := z9 16 rfl
   have e17 : W 17 = (.tuple #[((tupAt (W 16) 0)), .bool ((stepAtL ar rs tp (placeL ar tp ((pathL ar ((rs.getD ((o).toNat) ([], [])).1) a.toNat))) u).isSome)] : Value) := z9 17 rfl
   rw [eS (l := [(16, (.tuple #[((tupAt (W 16) 0)), .bool ((stepAtL ar rs tp (placeL ar tp ((pathL ar ((rs.getD ((o).toNat) ([], [])).1) a.toNat))) u).isSome)])), (17, (.tuple #[((tupAt (W 16) 0)), .bool ((stepAtL ar rs tp (placeL ar tp ((pathL ar ((rs.getD ((o).toNat) ([], [])).1) a.toNat))) u).isSome)]))]) ⟨(e16).symm, e17, ⟨⟩⟩]
   refine je (yr (.bool ((stepAtL ar rs tp (placeL ar tp ((pathL ar ((rs.getD ((o).toNat) ([], [])).1) a.toNat))) u).isSome)) rfl rfl ?_)
   exact ⟨rfl, rfl⟩
  refine gD (fun W Fs R lF z9 => ?_) ?_
  ·obtain ⟨e16, f16_2hr⟩ := z9 16 rfl
   have e18 : W 18 = ((tupAt (W 16) 0)) := z9 18 rfl
   rw [eS (l := [(16, (.tuple #[((tupAt (W 16) 0)), .bool ((stepAtL ar rs tp (placeL ar tp ((pathL ar ((rs.getD ((o).toNat) ([], [])).1) a.toNat))) u).isSome)])), (18, ((tupAt (W 16) 0)))]) ⟨(e16).symm, e18, ⟨⟩⟩]
   refine je (XOp.assign (((tupAt (W 16) 0))) rfl ?_)
   exact ⟨rfl, rfl⟩
  exact stepsG.nil
 intro W F10 le10 hphi
 obtain ⟨e12, f12_2ha⟩ := hphi 12 (by decide)
 obtain ⟨e16, f16_2hr⟩ := hphi 16 (by decide)
 have e17 : W 17 = (.tuple #[((tupAt (W 16) 0)), .bool ((stepAtL ar rs tp (placeL ar tp ((pathL ar ((rs.getD ((o).toNat) ([], [])).1) a.toNat))) u).isSome)] : Value) := hphi 17 (by decide)
 have e18 : W 18 = ((tupAt (W 16) 0)) := hphi 18 (by decide)
 have e20 : W 20 = ((tupAt (W 16) 0)) := hphi 20 (by decide)
 generalize hu3 : ((W 12)) = u3 at e12 f12_2ha e16 f16_2hr e17 e18 e20
 generalize hu4 : ((tupAt (W 16) 0)) = u4 at e12 f12_2ha e16 f16_2hr e17 e18 e20
 rw [eS (l := [(16, (.tuple #[u4, .bool ((stepAtL ar rs tp (placeL ar tp ((pathL ar ((rs.getD ((o).toNat) ([], [])).1) a.toNat))) u).isSome)])), (19, _), (20, u4)]) ⟨(e16).symm, (hphi 19 (by decide)), e20, ⟨⟩⟩]
 replace hlf := hlf.mono le10
 show XL _ _ _ _ _ _ _ (cellsH b2 [tpv, lfv, rtv, ii (a), ii (u), ii (o)] 76 :: cellsH b1 [arv, rsv] 32 :: L)
 refine jc (.bool ((stepAtL ar rs tp (placeL ar tp ((pathL ar ((rs.getD ((o).toNat) ([], [])).1) a.toNat))) u).isSome)) rfl (qI (qX (qH (jb (.bool ((stepAtL ar rs tp (placeL ar tp ((pathL ar ((rs.getD ((o).toNat) ([], [])).1) a.toNat))) u).isSome)) rfl (jb (.bool ((stepAtL ar rs tp (placeL ar tp ((pathL ar ((rs.getD ((o).toNat) ([], [])).1) a.toNat))) u).isSome)) rfl ?_)))))
 by_cases h13 : ((stepAtL ar rs tp (placeL ar tp ((pathL ar ((rs.getD ((o).toNat) ([], [])).1) a.toNat))) u).isSome) = true
 ·refine jB (t := 100) rfl (vB h13) (jk (u4) rfl (jB (t := 100) rfl (vB h13) (jE (1) yg rfl jF (by decide) rfl rfl (jB (t := 100) rfl (vB h13) (jj yt rfl (Rd.own [] rfl rfl) (jB (t := 100) rfl (vB h13) (jL (args := [u4, lfv]) call126 rfl (SameTerm_spec f16_2hr hlf (hbd := (by first | assumption | rfl | omega | (left; simp; done) | (right; simp; done)))) ?_)))))))
  rintro _ _ _ _ ⟨rfl, rfl, rfl⟩
  refine cX (yp (.bool (decide (((stepAtL ar rs tp (placeL ar tp ((pathL ar ((rs.getD ((o).toNat) ([], [])).1) a.toNat))) u).getD []) = lf))) (vB h13) rfl (jc (.bool (decide (((stepAtL ar rs tp (placeL ar tp ((pathL ar ((rs.getD ((o).toNat) ([], [])).1) a.toNat))) u).getD []) = lf))) rfl (qI (jW (jR (L' := L) [.bool (decide (((stepAtL ar rs tp (placeL ar tp ((pathL ar ((rs.getD ((o).toNat) ([], [])).1) a.toNat))) u).getD []) = lf))] (.bool (decide (((stepAtL ar rs tp (placeL ar tp ((pathL ar ((rs.getD ((o).toNat) ([], [])).1) a.toNat))) u).getD []) = lf))) (.tmp rfl .nil) rfl rF (jl le6 le10) (sD (sD sR)) ?_)))))
  exact ⟨(vB (by rw [Bool.eq_iff_iff, peakL_iff, decide_eq_true_eq]; exact ⟨fun h => (getD_some (by assumption)).1 h.2.2.2, fun h => ⟨hsys, peakArgs_iff.2 (by omega), (getD_some hst1).2 hst2, (getD_some (by assumption)).2 h⟩⟩)), rfl, rfl⟩
 rw [Bool.not_eq_true] at h13
 refine jA (t := 100) rfl (vB h13) (jA (t := 100) rfl (vB h13) (jA (t := 100) rfl (vB h13) (jA (t := 100) rfl (vB h13) (cX (yl (.bool (false)) (vB h13) rfl (jc (.bool (false)) rfl (qI (jW (jR (L' := L) [.bool (false)] (.bool (false)) (.tmp rfl .nil) rfl rF (jl le6 le10) (sD (sD sR)) ?_)))))))))
 exact ⟨(vB (peakL_no (fun h => opt_no1 (by assumption) h.2.2.2))), rfl, rfl⟩

theorem endAtW_ok {F : FH} {L : List HP} {p : Nat} {arv : Value} {ar : List Int} (har : IntsF F arv ar) {tv : Value} {t : List Int} (ht : IntsF F tv t) (ho : TermW ar t) (hp : p < t.length) :
    Does prog 150 [.agg #[arv], tv, ii (p : Int)] F L (fun v F' L' => (ii ((endN ar t p : Nat) : Int) : Value) = v ∧ F = F' ∧ L = L') := by
  have hl := ho.len
  have h := endAt_spec (F := F) (L := L) (p := p) har ht ho.sig (by omega) (by omega)
  rw [ho.endZ hp] at h
  exact h


/- impl.subAt -/
theorem subAtW_spec {F : FH} {L : List HP} {arv : Value} {ar : List Int} (har : IntsF F arv ar) {tv : Value} {t : List Int} (ht : IntsF F tv t) {p : Nat} (ho : TermW ar t) (hp : p < t.length) (hnn : isNil tv = false) :
    Does prog 224 [.agg #[arv], tv, ii ((p : Int))] F (L) (fun v F' L' => F = F' ∧ L = L' ∧ IntsF F v (sub ar t p) ∧ isNil v = false) := by
 refine ym func224 rfl rfl rfl ?_
 have hsl := sigOk_spec ho.sig
 have htl := ho.len
 have hsig := ho.sig
 have hee := ho.endN hp
 refine qX (qH (cX (yD [arv] rfl rfl ?_)))
 intro b1
 refine jc (sN) rfl (qI (qX (qH (jb (tv) rfl (jb (ii ((p : Int))) rfl (cX (yc [arv] yF ys rfl rfl (Rd.ownN [] rfl rfl) (jb (tv) rfl (jb (ii ((p : Int))) rfl (cX (jL (args := [.agg #[arv], tv, ii (p : Int)]) call150 rfl (endAtW_ok (p := p) har ht (ho := (by first | assumption | rfl | omega | (left; simp; done) | (right; simp; done))) (hp := (by first | assumption | rfl | omega | (left; simp; done) | (right; simp; done)))) ?_)))))))))))
 rintro _ _ _ _ ⟨rfl, rfl, rfl⟩
 refine cX (Qp p (endN ar t p) qU js rfl ht ⟨_, rfl⟩ ⟨_, rfl⟩ (by omega) (by omega) ?_)
 intro v1 hv1 hn1
 refine jc (v1) rfl (qI (jW (jR (L' := L) [v1] (v1) (.tmp rfl .nil) rfl rF rF (sD sR) ?_)))
 exact ⟨rfl, rfl, hv1, by rw [hn1]; exact hnn⟩

/- impl.argsAt -/
theorem argsAtW_spec {F : FH} {L : List HP} {arv : Value} {ar : List Int} (har : IntsF F arv ar) {tv : Value} {t : List Int} (ht : IntsF F tv t) {p : Nat} (ho : TermW ar t) (hp : p < t.length) :
    Does prog 222 [.agg #[arv], tv, ii ((p : Int))] F (L) (fun v F' L' => F = F' ∧ IsSl v ∧ intsH 3 v (argsL ar t p) :: L = L') := by
 refine ym func222 rfl rfl rfl ?_
 have hsl := sigOk_spec ho.sig
 have htl := ho.len
 have hsig := ho.sig
 have hA := arity_le hsig (ho.lt hp)
 have hge := ho.geD hp
 have hlt := ho.lt hp
 refine qX (qH (cX (yD [arv] rfl rfl ?_)))
 intro b1
 refine jc (sN) rfl (qI (qX (qH (jc (sN) rfl (qI (qX (qH (jb (ii ((p : Int))) rfl (cX (yj (((p + 1 : Nat) : Int)) rfl rfl (by omega) (by omega) (jc (ii (((p + 1 : Nat) : Int))) rfl (qI (qX (qX ?_))))))))))))))
 refine yN [cellsH b1 [arv] 29] L 5 [] [[], [], [], [1, 2], [3]] (phiL [qe (.agg #[arv]), qe tv, qe (ii ((p : Int)) : Value), qe (.pointer (some (elemA tv (p)))), qe (ii (t.getD p 0))]) (ownL []) mixed rfl rfl (by kernel_rfl) ?_ ?_
 ·refine pD (fun W R z9 => ?_) ?_
  ·refine je (yc [arv] yF ys rfl rfl (Rd.ownN [] rfl rfl) ?_)
   exact ⟨rfl, rfl, rfl⟩
  refine pD (fun W R z9 => ?_) ?_
  ·refine je (jk (tv) rfl ?_)
   exact ⟨rfl, rfl, rfl⟩
  refine pD (fun W R z9 => ?_) ?_
  ·refine je (jk (ii ((p : Int))) rfl ?_)
   exact ⟨rfl, rfl, rfl⟩
  refine pD (fun W R z9 => ?_) ?_
  ·rw [eS (l := [(1, _), (2, _)]) ⟨z9 1 rfl, z9 2 rfl, ⟨⟩⟩]
   refine je (jq p qU js rfl rfl rfl ht.slv (by omega) (Nat.mul_one _) ?_)
   exact ⟨rfl, rfl, rfl⟩
  refine pD (fun W R z9 => ?_) ?_
  ·rw [eS (l := [(3, _)]) ⟨z9 3 rfl, ⟨⟩⟩]
   refine je (jj yd rfl (ht.rd (by omega)) ?_)
   exact ⟨rfl, rfl, rfl⟩
  exact stepsP.nil
 intro W hphi
 rw [eS (l := [(0, _), (4, _)]) ⟨(hphi 0 (by decide)), (hphi 4 (by decide)), ⟨⟩⟩]
 show XL _ _ _ _ _ _ _ (cellsH b1 [arv] 29 :: L)
 refine cX (jL (args := [.agg #[arv], ii (t.getD p 0)]) call243 rfl (arityAt_spec (n := t.getD p 0) har (hn := (by first | assumption | rfl | omega | simp))) ?_)
 rintro _ _ _ _ ⟨rfl, rfl, rfl⟩
 refine jc (ii (arity ar (t.getD p 0))) rfl (qI (yf (yI (α := Nat × Nat × Value × List Int) (fun xQ => [(1, tv), (3, ptr b1 0), (7, xQ.2.2.1), (8, ii (((xQ.2.1 : Nat) : Int))), (9, ii (((xQ.1 : Nat) : Int)))]) (fun xQ => intsH 3 xQ.2.2.1 xQ.2.2.2 :: cellsH b1 [arv] 29 :: L) (fun xQ F' => F = F' ∧ (IsSl xQ.2.2.1) ∧ (Stand ar t xQ.1 xQ.2.1 (endN ar t p)) ∧ (argsL ar t p = xQ.2.2.2 ++ argsGo ar t xQ.1 xQ.2.1) ∧ (xQ.2.2.2.length + xQ.1 ≤ 3)) (fun xQ => xQ.1) ((arity ar (t.getD p 0)).toNat, p + 1, sN, []) ⟨rfl, rfl, rfl, rfl, (vI (by first | omega | (rw [sArity_eq (by omega)]; omega))), ⟨⟩⟩ (yn (intsH.addNil 3 none _) (sC (sC sR))) ⟨rfl, (⟨_, _, _, rfl⟩), (ho.stand0 hp), (rfl), (by rw [List.length_nil]; omega)⟩ ?_)))
 rintro ⟨m, q, ov, os⟩ rE _ _ ⟨rfl, hov, hS, hos, hol⟩
 show X _ _ _ _ (envs [(1, tv), (3, ptr b1 0), (7, ov), (8, ii ((q : Int))), (9, ii ((m : Int)))] rE) _ (intsH 3 ov os :: cellsH b1 [arv] 29 :: L)
 dsimp only at hov hS hos hol
 have hst := fun (h : 1 ≤ m) => ho.stand (n := m - 1) (by rw [Nat.sub_add_cancel h]; exact hS)
 refine qX (qX (qH (jb (ii ((m : Int))) rfl (cX (Qf rfl rfl (qI ?_))))))
 refine jV (p := (m : Int) > 0) rfl (fun h1 => ?_) (fun h1 => ?_)
 ·refine jU (qX (yf (qX (qH (jb (ov) rfl (jb (ii ((q : Int))) rfl (cX (jQ (s := 1) [ii ((q : Int))] [ii (0)] [(0, [ii ((q : Int))])] Qr Qm zeroValue3 rfl (by decide) rfl (.cons rfl CellsAre.nil) rfl ?_))))))))
  intro v1 hv1
  refine cX (Qi (u := (q : Int)) [_] _ Qr typeInfo3 rfl rfl rfl rfl rfl rfl (SlV.own [] rfl) (Rd.sl [] rfl rfl) (by (try simp only [List.length_append, List.length_nil, List.length_cons, List.length_singleton, List.length_take, List.length_drop]); omega) ?_)
  intro v2 hs1 hn1
  refine jc (v2) rfl (qI (qH (cX (yc [arv] yF ys rfl rfl (Rd.ownN [_, _] rfl rfl) (jb (tv) rfl (jb (ii ((q : Int))) rfl (cX (jL (args := [.agg #[arv], tv, ii (q : Int)]) call150 rfl (endAtW_ok (p := q) har ht (ho := (by first | assumption | rfl | omega | (left; simp; done) | (right; simp; done))) (hp := (hst (by omega)).1)) ?_))))))))
  rintro _ _ _ _ ⟨rfl, rfl, rfl⟩
  refine jc (ii (((endN ar t q : Nat) : Int))) rfl (qI (qH (jb (ii ((m : Int))) rfl (cX (yx (((m : Int)) - 1) rfl rfl (by omega) (by omega) (jc (ii (((m : Int)) - 1)) rfl (qI ?_)))))))
  exact ⟨(m - 1, endN ar t q, v2, os ++ [(q : Int)]), _, FLe.refl _, rF, ⟨rfl, rfl, rfl, rfl, (vI (by omega)), ⟨⟩⟩, (sD (sC (sC sR))), ⟨rfl, (hs1), ((hst (by omega)).2.1), (args_nextW (by omega) hos), (by dsimp only; rw [List.length_append, List.length_singleton]; omega)⟩, (by omega)⟩
 refine yB (jO (jO (yk (qX (qH (jb (ov) rfl (jc (ov) rfl (qI (jW (jR (L' := intsH 3 ov os :: L) [ov] (ov) (.tmp rfl .nil) rfl rF rF (sC (sD sR)) ?_))))))))))
 refine ⟨rfl, hov, ?_⟩
 have hxs : (argsL ar t p : List Int) = os := by rw [hos, show m = 0 from by omega]; simp [argsGo]
 exact congrArg (fun z => intsH 3 _ z :: L) hxs

/- (*impl.unifier).root -/
theorem root_spec {F : FH} {L : List HP} {ub : Nat} {arv : Value} {ar : List Int} {bs : List Value} {bl : RowL} (har : IntsF F arv ar) (hbc : BindC F bs bl) (hb : BOk ar bl) {tv : Value} {t : List Int} (ht : IntsF F tv t) (ho : TermW ar t) (hnn : isNil tv = false) :
    Does prog 248 [ptr ub 0, tv] F (cellsH ub (arv :: bs) 200 :: L) (fun v F' L' => ∃ u : List Int, IntsF F v u ∧ isNil v = false ∧ Root ar bl t u ∧ F = F' ∧ cellsH ub (arv :: bs) 200 :: L = L') := by
 refine ym func248 rfl rfl rfl ?_
 obtain ⟨ρ, hρ⟩ := hb.acyc
 have hbl := hb.len
 refine qX (qH (jc (sN) rfl (qI (qX (yf (yI (α := Value × List Int) (fun xQ => [(0, ptr ub 0), (1, xQ.1)]) (fun xQ => cellsH ub (arv :: bs) 200 :: L) (fun xQ F' => F = F' ∧ (IntsF F xQ.1 xQ.2) ∧ (isNil xQ.1 = false) ∧ (RootTo ar bl t xQ.2)) (fun xQ => rootMu ρ xQ.2) (tv, t) ⟨rfl, rfl, ⟨⟩⟩ (sC sR) ⟨rfl, (ht), (hnn), (RootTo.refl ho)⟩ ?_))))))
 rintro ⟨uv, u⟩ rE _ _ ⟨rfl, huv, hun, hrt⟩
 show X _ _ _ _ (envs [(0, ptr ub 0), (1, uv)] rE) _ (cellsH ub (arv :: bs) 200 :: L)
 dsimp only at huv hun hrt
 have hul := hrt.1.len
 have hug := hrt.1.geD (p := 0) (by omega)
 refine qX (qX ?_)
 by_cases h1 : (u.getD 0 0 : Int) < 0
 ·have hx0 : u.getD 0 0 < 0 := h1
  refine yN [cellsH ub (arv :: bs) 200] L 12 [] [[], [0], [1], [2], [3], [4], [4], [4, 6], [4, 7], [4, 8], [4, 5], [4, 10]] (phiL [qe uv, qe (.pointer (some (elemA uv (0)))), qe (ii (u.getD 0 0)), qe (.bool (decide ((u.getD 0 0 : Int) < 0)) : Value), qe (.bool (decide ((u.getD 0 0 : Int) < 0)) : Value), qe (ptr ub 0), qe uv, qe (.pointer (some (elemA uv (0)))), qe (ii (u.getD 0 0)), qe (ii ((-1) - (u.getD 0 0))), qe (ptr ub 0), qe (ptr ub 1)]) (ownL []) mixed rfl rfl (by kernel_rfl) ?_ ?_
  ·refine pD (fun W R z9 => ?_) ?_
   ·refine je (jk (uv) rfl ?_)
    exact ⟨rfl, rfl, rfl⟩
   refine pD (fun W R z9 => ?_) ?_
   ·rw [eS (l := [(0, _)]) ⟨z9 0 rfl, ⟨⟩⟩]
    refine je (jq 0 qU js rfl rfl rfl huv.slv (by omega) (Nat.mul_one _) ?_)
    exact ⟨rfl, rfl, rfl⟩
   refine pD (fun W R z9 => ?_) ?_
   ·rw [eS (l := [(1, _)]) ⟨z9 1 rfl, ⟨⟩⟩]
    refine je (jj yd rfl (huv.rd (by omega)) ?_)
    exact ⟨rfl, rfl, rfl⟩
   refine pD (fun W R z9 => ?_) ?_
   ·rw [eS (l := [(2, _)]) ⟨z9 2 rfl, ⟨⟩⟩]
    refine je (yo rfl rfl ?_)
    exact ⟨rfl, rfl, rfl⟩
   refine pD (fun W R z9 => ?_) ?_
   ·rw [eS (l := [(3, _)]) ⟨z9 3 rfl, ⟨⟩⟩]
    refine je (jk (.bool (decide ((u.getD 0 0 : Int) < 0))) rfl ?_)
    exact ⟨rfl, rfl, rfl⟩
   refine pD (fun W R z9 => ?_) ?_
   ·rw [eS (l := [(4, _)]) ⟨z9 4 rfl, ⟨⟩⟩]
    refine yh (t := 9) rfl (vT h1) (jk (ptr ub 0) rfl ?_)
    exact ⟨rfl, rfl, rfl⟩
   refine pD (fun W R z9 => ?_) ?_
   ·rw [eS (l := [(4, _)]) ⟨z9 4 rfl, ⟨⟩⟩]
    refine yh (t := 9) rfl (vT h1) (jk (uv) rfl ?_)
    exact ⟨rfl, rfl, rfl⟩
   refine pD (fun W R z9 => ?_) ?_
   ·rw [eS (l := [(4, _), (6, _)]) ⟨z9 4 rfl, z9 6 rfl, ⟨⟩⟩]
    refine yh (t := 9) rfl (vT h1) (jq 0 qU js rfl rfl rfl huv.slv (by omega) (Nat.mul_one _) ?_)
    exact ⟨rfl, rfl, rfl⟩
   refine pD (fun W R z9 => ?_) ?_
   ·rw [eS (l := [(4, _), (7, _)]) ⟨z9 4 rfl, z9 7 rfl, ⟨⟩⟩]
    refine yh (t := 9) rfl (vT h1) (jj yd rfl (huv.rd (by omega)) ?_)
    exact ⟨rfl, rfl, rfl⟩
   refine pD (fun W R z9 => ?_) ?_
   ·rw [eS (l := [(4, _), (8, _)]) ⟨z9 4 rfl, z9 8 rfl, ⟨⟩⟩]
    refine yh (t := 9) rfl (vT h1) (yx ((-1) - (u.getD 0 0)) rfl rfl (by omega) (by omega) ?_)
    exact ⟨rfl, rfl, rfl⟩
   refine pD (fun W R z9 => ?_) ?_
   ·rw [eS (l := [(4, _), (5, _)]) ⟨z9 4 rfl, z9 5 rfl, ⟨⟩⟩]
    refine yh (t := 9) rfl (vT h1) (yw rfl ?_)
    exact ⟨rfl, rfl, rfl⟩
   refine pD (fun W R z9 => ?_) ?_
   ·rw [eS (l := [(4, _), (10, _)]) ⟨z9 4 rfl, z9 10 rfl, ⟨⟩⟩]
    refine yh (t := 9) rfl (vT h1) (jE (1) Qa rfl sizeOf198 (by decide) rfl rfl ?_)
    exact ⟨rfl, rfl, rfl⟩
   exact stepsP.nil
  intro W hphi
  rw [eS (l := [(4, _), (9, _), (11, _)]) ⟨(hphi 4 (by decide)), (hphi 9 (by decide)), (hphi 11 (by decide)), ⟨⟩⟩]
  show XL _ _ _ _ _ _ _ (cellsH ub (arv :: bs) 200 :: L)
  refine jB (t := 9) rfl (vT h1) (XOp.indexA (i := (-1) - (u.getD 0 0)) (((-1) - (u.getD 0 0)).toNat) (1 + (((-1) - (u.getD 0 0)).toNat)) Qs jF rfl rfl (by omega) (by omega) (by omega) ?_)
  obtain ⟨a1, ha1, hn1, he1⟩ := hbc.get (i := ((-1) - (u.getD 0 0)).toNat) (by omega)
  refine jB (t := 9) rfl (vT h1) (jj yt rfl (Rd.own [] rfl (get_1 he1)) (jB (t := 9) rfl (vT h1) (XOp.neNil qU rfl rfl (yi ha1) (cX (yp (.bool (!isNil a1)) (vT h1) rfl (qI ?_))))))
  refine X.cond (t := !isNil a1) rfl (fun h2 => ?_) (fun h2 => ?_)
  ·have hbn := ne_of_notNil hn1 h2
   have hnb : isNil a1 = false := by rw [hn1]; exact decide_eq_false hbn
   refine jU (yf ?_)
   refine yN [cellsH ub (arv :: bs) 200] L 7 [] [[], [], [1], [2], [3], [0], [5]] (phiL [qe (ptr ub 0), qe uv, qe (.pointer (some (elemA uv (0)))), qe (ii (u.getD 0 0)), qe (ii ((-1) - (u.getD 0 0))), qe (ptr ub 0), qe (ptr ub 1)]) (ownL []) mixed rfl rfl (by kernel_rfl) ?_ ?_
   ·refine pD (fun W R z9 => ?_) ?_
    ·refine je (jk (ptr ub 0) rfl ?_)
     exact ⟨rfl, rfl, rfl⟩
    refine pD (fun W R z9 => ?_) ?_
    ·refine je (jk (uv) rfl ?_)
     exact ⟨rfl, rfl, rfl⟩
    refine pD (fun W R z9 => ?_) ?_
    ·rw [eS (l := [(1, _)]) ⟨z9 1 rfl, ⟨⟩⟩]
     refine je (jq 0 qU js rfl rfl rfl huv.slv (by omega) (Nat.mul_one _) ?_)
     exact ⟨rfl, rfl, rfl⟩
    refine pD (fun W R z9 => ?_) ?_
    ·rw [eS (l := [(2, _)]) ⟨z9 2 rfl, ⟨⟩⟩]
     refine je (jj yd rfl (huv.rd (by omega)) ?_)
     exact ⟨rfl, rfl, rfl⟩
    refine pD (fun W R z9 => ?_) ?_
    ·rw [eS (l := [(3, _)]) ⟨z9 3 rfl, ⟨⟩⟩]
     refine je (yx ((-1) - (u.getD 0 0)) rfl rfl (by omega) (by omega) ?_)
     exact ⟨rfl, rfl, rfl⟩
    refine pD (fun W R z9 => ?_) ?_
    ·rw [eS (l := [(0, _)]) ⟨z9 0 rfl, ⟨⟩⟩]
     refine je (yw rfl ?_)
     exact ⟨rfl, rfl, rfl⟩
    refine pD (fun W R z9 => ?_) ?_
    ·rw [eS (l := [(5, _)]) ⟨z9 5 rfl, ⟨⟩⟩]
     refine je (jE (1) Qa rfl sizeOf198 (by decide) rfl rfl ?_)
     exact ⟨rfl, rfl, rfl⟩
    exact stepsP.nil
   intro W hphi
   rw [eS (l := [(4, _), (6, _)]) ⟨(hphi 4 (by decide)), (hphi 6 (by decide)), ⟨⟩⟩]
   show XL _ _ _ _ _ _ _ (cellsH ub (arv :: bs) 200 :: L)
   refine cX (XOp.indexA (i := (-1) - (u.getD 0 0)) (((-1) - (u.getD 0 0)).toNat) (1 + (((-1) - (u.getD 0 0)).toNat)) Qs jF rfl rfl (by omega) (by omega) (by omega) (cX (jj yt rfl (Rd.own [] rfl (get_1 he1)) (jc (a1) rfl (qI ?_)))))
   exact ⟨(a1, (bl.getD (((-1) - (u.getD 0 0)).toNat) [])), _, FLe.refl _, rF, ⟨rfl, rfl, ⟨⟩⟩, (sC sR), ⟨rfl, (ha1), (hnb), (hrt.next hb hx0 hbn)⟩, (rootMu_lt hρ hb hx0 hbn)⟩
  have hbe := eq_of_isNil hn1 h2
  have htop : 0 ≤ u.getD 0 0 ∨ bl.getD (varIx (u.getD 0 0)) [] = [] := .inr hbe
  refine yB (jO (jO (yk (qX (qH (jb (uv) rfl (jc (uv) rfl (qI (jW (jR (L' := cellsH ub (arv :: bs) 200 :: L) [uv] (uv) (.tmp rfl .nil) rfl rF rF (sC sR) ?_))))))))))
  exact ⟨_, huv, hun, hrt.done htop, rfl, rfl⟩
 have htop : 0 ≤ u.getD 0 0 ∨ bl.getD (varIx (u.getD 0 0)) [] = [] := .inl (by omega)
 refine yN [cellsH ub (arv :: bs) 200] L 12 [] [[], [0], [1], [2], [3], [4], [4], [4, 6], [4, 7], [4, 8], [4, 5], [4, 10]] (phiL [qe uv, qe (.pointer (some (elemA uv (0)))), qe (ii (u.getD 0 0)), qe (.bool (decide ((u.getD 0 0 : Int) < 0)) : Value), qe (.bool (decide ((u.getD 0 0 : Int) < 0)) : Value), qe undef, qe undef, qe undef, qe undef, qe undef, qe undef, qe undef]) (ownL []) mixed rfl rfl (by kernel_rfl) ?_ ?_
 ·refine pD (fun W R z9 => ?_) ?_
  ·refine je (jk (uv) rfl ?_)
   exact ⟨rfl, rfl, rfl⟩
  refine pD (fun W R z9 => ?_) ?_
  ·rw [eS (l := [(0, _)]) ⟨z9 0 rfl, ⟨⟩⟩]
   refine je (jq 0 qU js rfl rfl rfl huv.slv (by omega) (Nat.mul_one _) ?_)
   exact ⟨rfl, rfl, rfl⟩
  refine pD (fun W R z9 => ?_) ?_
  ·rw [eS (l := [(1, _)]) ⟨z9 1 rfl, ⟨⟩⟩]
   refine je (jj yd rfl (huv.rd (by omega)) ?_)
   exact ⟨rfl, rfl, rfl⟩
  refine pD (fun W R z9 => ?_) ?_
  ·rw [eS (l := [(2, _)]) ⟨z9 2 rfl, ⟨⟩⟩]
   refine je (yo rfl rfl ?_)
   exact ⟨rfl, rfl, rfl⟩
  refine pD (fun W R z9 => ?_) ?_
  ·rw [eS (l := [(3, _)]) ⟨z9 3 rfl, ⟨⟩⟩]
   refine je (jk (.bool (decide ((u.getD 0 0 : Int) < 0))) rfl ?_)
   exact ⟨rfl, rfl, rfl⟩
  refine pD (fun W R z9 => ?_) ?_
  ·rw [eS (l := [(4, _)]) ⟨z9 4 rfl, ⟨⟩⟩]
   exact yA (t := 9) rfl (vF h1) ⟨rfl, rfl, rfl⟩
  refine pD (fun W R z9 => ?_) ?_
  ·rw [eS (l := [(4, _)]) ⟨z9 4 rfl, ⟨⟩⟩]
   exact yA (t := 9) rfl (vF h1) ⟨rfl, rfl, rfl⟩
  refine pD (fun W R z9 => ?_) ?_
  ·rw [eS (l := [(4, _), (6, undef)]) ⟨z9 4 rfl, z9 6 rfl, ⟨⟩⟩]
   exact yA (t := 9) rfl (vF h1) ⟨rfl, rfl, rfl⟩
  refine pD (fun W R z9 => ?_) ?_
  ·rw [eS (l := [(4, _), (7, undef)]) ⟨z9 4 rfl, z9 7 rfl, ⟨⟩⟩]
   exact yA (t := 9) rfl (vF h1) ⟨rfl, rfl, rfl⟩
  refine pD (fun W R z9 => ?_) ?_
  ·rw [eS (l := [(4, _), (8, undef)]) ⟨z9 4 rfl, z9 8 rfl, ⟨⟩⟩]
   exact yA (t := 9) rfl (vF h1) ⟨rfl, rfl, rfl⟩
  refine pD (fun W R z9 => ?_) ?_
  ·rw [eS (l := [(4, _), (5, undef)]) ⟨z9 4 rfl, z9 5 rfl, ⟨⟩⟩]
   exact yA (t := 9) rfl (vF h1) ⟨rfl, rfl, rfl⟩
  refine pD (fun W R z9 => ?_) ?_
  ·rw [eS (l := [(4, _), (10, undef)]) ⟨z9 4 rfl, z9 10 rfl, ⟨⟩⟩]
   exact yA (t := 9) rfl (vF h1) ⟨rfl, rfl, rfl⟩
  exact stepsP.nil
 intro W hphi
 rw [eS (l := [(4, _), (9, undef), (11, undef)]) ⟨(hphi 4 (by decide)), (hphi 9 (by decide)), (hphi 11 (by decide)), ⟨⟩⟩]
 show XL _ _ _ _ _ _ _ (cellsH ub (arv :: bs) 200 :: L)
 refine jA (t := 9) rfl (vF h1) (jA (t := 9) rfl (vF h1) (jA (t := 9) rfl (vF h1) (cX (yl (.bool (false)) (vF h1) rfl (qI (yV rfl (yB (jO (jO (yk (qX (qH (jb (uv) rfl (jc (uv) rfl ?_))))))))))))))
 refine qI (jW (jR (L' := cellsH ub (arv :: bs) 200 :: L) [uv] (uv) (.tmp rfl .nil) rfl rF rF (sC sR) ?_))
 exact ⟨_, huv, hun, hrt.done htop, rfl, rfl⟩

/- (*impl.unifier).occurs -/
set_option maxHeartbeats 1000000 in
theorem occurs_step {k : Nat} (ih : ∀ k9 : Nat, k9 < k → ∀ {F : FH} {L : List HP} {ub : Nat} {arv : Value} {ar : List Int} {bs : List Value} {bl : RowL} (har : IntsF F arv ar) (hbc : BindC F bs bl) (hb : BOk ar bl) {sb : Nat} {σ : Sbs} {ρ : Int → Nat} {n : Int} {tv : Value} {t : List Int} (ht : IntsF F tv t) {sn : List Bool} (hσ : Sol bl σ) (hρ : Acyc bl ρ) (hn : n < 0) (hnf : lkN bl n = []) (htk : ∀ m ∈ t, m < 0 → ρ m < k9) (htg : ∀ i, i < t.length → -48 ≤ t.getD i 0) (htl : t.length ≤ 60) (hsl : sn.length = 48) (hcl : ClearM σ ρ n k9 sn), Does prog 249 [ptr ub 0, ii (n), tv, ptr sb 0] F (cellsH ub (arv :: bs) 200 :: cellsH sb (bools sn) 241 :: L) (fun v F' L' => ∃ s9 : List Bool, (.bool (decide (n ∈ ap σ t)) : Value) = v ∧ s9.length = 48 ∧ (n ∉ ap σ t → MarkR σ n sn s9) ∧ F = F' ∧ cellsH ub (arv :: bs) 200 :: cellsH sb (bools s9) 241 :: L = L')) {F : FH} {L : List HP} {ub : Nat} {arv : Value} {ar : List Int} {bs : List Value} {bl : RowL} (har : IntsF F arv ar) (hbc : BindC F bs bl) (hb : BOk ar bl) {sb : Nat} {σ : Sbs} {ρ : Int → Nat} {n : Int} {tv : Value} {t : List Int} (ht : IntsF F tv t) {sn : List Bool} (hσ : Sol bl σ) (hρ : Acyc bl ρ) (hn : n < 0) (hnf : lkN bl n = []) (htk : ∀ m ∈ t, m < 0 → ρ m < k) (htg : ∀ i, i < t.length → -48 ≤ t.getD i 0) (htl : t.length ≤ 60) (hsl : sn.length = 48) (hcl : ClearM σ ρ n k sn) :
    Does prog 249 [ptr ub 0, ii (n), tv, ptr sb 0] F (cellsH ub (arv :: bs) 200 :: cellsH sb (bools sn) 241 :: L) (fun v F' L' => ∃ s9 : List Bool, (.bool (decide (n ∈ ap σ t)) : Value) = v ∧ s9.length = 48 ∧ (n ∉ ap σ t → MarkR σ n sn s9) ∧ F = F' ∧ cellsH ub (arv :: bs) 200 :: cellsH sb (bools s9) 241 :: L = L') := by
 refine ym func249 rfl rfl rfl ?_
 have hbl := hb.len
 refine qX (qH (jc (.bool (false)) rfl (qI (qX (qX (qH (jb (tv) rfl (cX (jZ qU rfl ht.slv (jb (ii (0)) rfl (qI (yf (yI (α := Nat × List Bool) (fun xQ => [(0, ptr ub 0), (1, ii (n)), (3, ptr sb 0), (12, tv), (13, ii ((t.length : Int))), (14, ii (((xQ.1 : Nat) : Int)))]) (fun xQ => cellsH ub (arv :: bs) 200 :: cellsH sb (bools xQ.2) 241 :: L) (fun xQ F' => F = F' ∧ (xQ.1 ≤ t.length) ∧ (xQ.2.length = 48) ∧ (MarkR σ n sn xQ.2) ∧ (∀ i, i < xQ.1 → n ∉ σ (t.getD i 0))) (fun xQ => t.length - xQ.1) (0, sn) ⟨rfl, rfl, rfl, rfl, rfl, rfl, ⟨⟩⟩ (sC (sC sR)) ⟨rfl, (by (try dsimp only) <;> omega), (hsl), (MarkR.refl), (fun i hi => absurd hi (by omega))⟩ ?_)))))))))))))
 rintro ⟨j, sm⟩ rE _ _ ⟨rfl, hj, hml, hmr, hno⟩
 show X _ _ _ _ (envs [(0, ptr ub 0), (1, ii (n)), (3, ptr sb 0), (12, tv), (13, ii ((t.length : Int))), (14, ii ((j : Int)))] rE) _ (cellsH ub (arv :: bs) 200 :: cellsH sb (bools sm) 241 :: L)
 dsimp only at hj hml hmr hno
 have hgj := fun h : j < t.length => htg j h
 refine qX (qH (cX (yo rfl rfl (qI (qX ?_)))))
 refine jV (p := (j : Int) < (t.length : Int)) rfl (fun h1 => ?_) (fun h1 => ?_)
 ·refine jU (qX (yf (qX (qH (cX (jq j qU js rfl rfl rfl ht.slv (by omega) (Nat.mul_one _) (cX (jj yd rfl (ht.rd (by omega)) (jc (ii (t.getD j 0)) rfl (qI (qX (qX (qH (jb (ii (t.getD j 0)) rfl (jb (ii (n)) rfl (cX (yU rfl rfl (qI ?_))))))))))))))))))
  refine jV (p := (t.getD j 0 : Int) = n) rfl (fun h2 => ?_) (fun h2 => ?_)
  ·refine qX (qH (jc (.bool (true)) rfl (qI (jW (jw (ya (jw (jw (ya (jw (jR (L' := cellsH ub (arv :: bs) 200 :: cellsH sb (bools sm) 241 :: L) [.bool (true)] (.bool (true)) (.tmp rfl .nil) rfl rF rF (sC (sC sR)) ?_)))))))))))
   have hnt : decide (n ∈ ap σ t) = true := decide_eq_true (occ_here (j := j) hnf hσ (by omega) (by assumption))
   exact ⟨_, congrArg Value.bool hnt, hml, fun h9 => absurd (of_decide_eq_true hnt) h9, rfl, rfl⟩
  have hne : t.getD j 0 ≠ n := h2
  refine jU (qX (qX (qH (jb (ii (t.getD j 0)) rfl (cX (XOp.geq rfl rfl (jb (.bool (decide ((t.getD j 0 : Int) ≥ 0))) rfl ?_)))))))
  by_cases h3 : (t.getD j 0 : Int) ≥ 0
  ·have hnx : n ∉ σ (t.getD j 0) := sym_no hσ hn (by omega)
   have hmk := hmr
   refine jA (t := 23) rfl (vT h3) (jA (t := 23) rfl (vT h3) (jA (t := 23) rfl (vT h3) (jA (t := 23) rfl (vT h3) (jA (t := 23) rfl (vT h3) (jA (t := 23) rfl (vT h3) (cX (yp (.bool (true)) (vT h3) rfl (qI (yX rfl (yB (jO (yk ?_))))))))))))
   refine qH (cX (yj (((j + 1 : Nat) : Int)) rfl rfl (by omega) (by omega) (jb (ii (((j + 1 : Nat) : Int))) rfl (qI ?_))))
   exact ⟨(j + 1, sm), _, FLe.refl _, rF, ⟨rfl, rfl, rfl, rfl, rfl, rfl, ⟨⟩⟩, (sC (sC sR)), ⟨rfl, (by (try dsimp only) <;> omega), (hml), (hmk), (fun i hi => (Nat.lt_or_ge i j).elim (fun h => hno i h) (fun h => by obtain rfl : i = j := (by omega); exact hnx))⟩, (by omega)⟩
  have hj0 : t.getD j 0 < 0 := by omega
  have hgj2 := hgj (by omega)
  have hrj := htk _ (mem_of_getD (k := j) (by omega) rfl) hj0
  refine jB (t := 23) rfl (vF h3) (jk (ptr sb 0) rfl (jB (t := 23) rfl (vF h3) (jk (ii (t.getD j 0)) rfl (jB (t := 23) rfl (vF h3) (yx ((-1) - (t.getD j 0)) rfl rfl (by omega) (by omega) (jB (t := 23) rfl (vF h3) (yw rfl (jB (t := 23) rfl (vF h3) (XOp.indexA (i := (-1) - (t.getD j 0)) (((-1) - (t.getD j 0)).toNat) (((-1) - (t.getD j 0)).toNat) runUnderlying241 sizeOf4 rfl rfl (by omega) (by omega) (by omega) (jB (t := 23) rfl (vF h3) (jj isAgg4 rfl (Rd.own [_] rfl (bools_get (by rw [hml]; omega))) (cX (yl (.bool (sm.getD (((-1) - (t.getD j 0)).toNat) false)) (vF h3) rfl (qI ?_))))))))))))))
  refine X.cond (t := sm.getD (((-1) - (t.getD j 0)).toNat) false) rfl (fun h4 => ?_) (fun h4 => ?_)
  ·have hnx : n ∉ σ (t.getD j 0) := hcl.seen hmr hj0 h4 hrj
   have hmk := hmr
   refine yB (jO (yk (qH (cX (yj (((j + 1 : Nat) : Int)) rfl rfl (by omega) (by omega) (jb (ii (((j + 1 : Nat) : Int))) rfl (qI ?_)))))))
   exact ⟨(j + 1, sm), _, FLe.refl _, rF, ⟨rfl, rfl, rfl, rfl, rfl, rfl, ⟨⟩⟩, (sC (sC sR)), ⟨rfl, (by (try dsimp only) <;> omega), (hml), (hmk), (fun i hi => (Nat.lt_or_ge i j).elim (fun h => hno i h) (fun h => by obtain rfl : i = j := (by omega); exact hnx))⟩, (by omega)⟩
  have hun := h4
  refine jU (qX (qH (jb (ptr sb 0) rfl (jb (ii (t.getD j 0)) rfl (cX (yx ((-1) - (t.getD j 0)) rfl rfl (by omega) (by omega) (cX (yw rfl (cX (XOp.indexA (i := (-1) - (t.getD j 0)) (((-1) - (t.getD j 0)).toNat) (((-1) - (t.getD j 0)).toNat) runUnderlying241 sizeOf4 rfl rfl (by omega) (by omega) (by omega) (cX (Qb [_] _ (bools (sm.set (((-1) - (t.getD j 0)).toNat) true)) sizeOf4 rfl rfl rfl rfl (bools_blt (by rw [hml]; omega)) bools_set ?_))))))))))))
  have hl1 : (sm.set (((-1) - (t.getD j 0)).toNat) true).length = 48 := by rw [List.length_set]; exact hml
  refine qI (qX (qH (jb (ptr ub 0) rfl (jb (ii (t.getD j 0)) rfl (cX (yx ((-1) - (t.getD j 0)) rfl rfl (by omega) (by omega) (cX (yw rfl (cX (jE (1) Qa rfl sizeOf198 (by decide) rfl rfl (cX (XOp.indexA (i := (-1) - (t.getD j 0)) (((-1) - (t.getD j 0)).toNat) (1 + (((-1) - (t.getD j 0)).toNat)) Qs jF rfl rfl (by omega) (by omega) (by omega) ?_))))))))))))
  obtain ⟨a1, ha1, hn1, he1⟩ := hbc.get (i := ((-1) - (t.getD j 0)).toNat) (by omega)
  refine cX (jj yt rfl (Rd.own [] rfl (get_1 he1)) (jc (a1) rfl (qI (qX (qH (jb (a1) rfl (cX (XOp.neNil qU rfl rfl (yi ha1) (jb (.bool (!isNil a1)) rfl ?_)))))))))
  by_cases h5 : (!isNil a1) = true
  ·have hbn := ne_of_notNil hn1 h5
   have hnb : isNil a1 = false := by rw [hn1]; exact decide_eq_false hbn
   have hlj : lkN bl (t.getD j 0) ≠ [] := by rw [lkN_get hj0]; exact hbn
   have hwj := hb.wt _ hj0 hlj
   rw [lkN_get hj0] at hwj
   refine jB (t := 45) rfl (vB h5) (jk (ptr ub 0) rfl (jB (t := 45) rfl (vB h5) (jk (ii (n)) rfl (jB (t := 45) rfl (vB h5) (jk (a1) rfl (jB (t := 45) rfl (vB h5) (jk (ptr sb 0) rfl (yK (ye (A := [_])) ?_))))))))
   show XL _ _ _ _ _ _ _ (cellsH sb (bools ((sm.set (((-1) - (t.getD j 0)).toNat) true))) 241 :: cellsH ub (arv :: bs) 200 :: L)
   refine yK (ye (A := [_])) ?_
   show XL _ _ _ _ _ _ _ (cellsH ub (arv :: bs) 200 :: cellsH sb (bools ((sm.set (((-1) - (t.getD j 0)).toNat) true))) 241 :: L)
   refine jB (t := 45) rfl (vB h5) (jL (args := [ptr ub 0, ii (n), a1, ptr sb 0]) call249 rfl (ih _ hrj har hbc (by assumption) ha1 hσ hρ hn hnf (fun m hm h0 => by have := hρ _ hj0 m (by rw [lkN_get hj0]; exact hm) h0; exact this) (fun i hi => hwj.geD hi) hwj.len.2 hl1 (hcl.down hmr hml hj0 hgj2 hrj)) ?_)
   rintro _ _ _ _ ⟨s1, rfl, hs1, hm1, rfl, rfl⟩
   refine cX (yp (.bool (decide (n ∈ ap σ ((bl.getD (((-1) - (t.getD j 0)).toNat) []))))) (vB h5) rfl (qI ?_))
   refine jV (p := n ∈ ap σ ((bl.getD (((-1) - (t.getD j 0)).toNat) []))) rfl (fun h6 => ?_) (fun h6 => ?_)
   ·have hoc := h6
    refine qX (qH (jc (.bool (true)) rfl (qI (jW (ya (jw (jw (ya (jw (jR (L' := cellsH ub (arv :: bs) 200 :: cellsH sb (bools s1) 241 :: L) [.bool (true)] (.bool (true)) (.tmp rfl .nil) rfl rF rF (sC (sC sR)) ?_))))))))))
    have hnt : decide (n ∈ ap σ t) = true := decide_eq_true (occ_in (j := j) hσ (by omega) rfl hlj (by rw [lkN_get hj0]; exact hoc))
    exact ⟨_, congrArg Value.bool hnt, hs1, fun h9 => absurd (of_decide_eq_true hnt) h9, rfl, rfl⟩
   have hnx : n ∉ σ (t.getD j 0) := bound_no hσ hlj (by rw [lkN_get hj0]; exact h6)
   have hmk := hmr.step hml hj0 hgj2 (hm1 h6) hnx
   refine jU (qH (cX (yj (((j + 1 : Nat) : Int)) rfl rfl (by omega) (by omega) (jb (ii (((j + 1 : Nat) : Int))) rfl (qI ?_)))))
   exact ⟨(j + 1, s1), _, FLe.refl _, rF, ⟨rfl, rfl, rfl, rfl, rfl, rfl, ⟨⟩⟩, (sC (sC sR)), ⟨rfl, (by (try dsimp only) <;> omega), (hs1), (hmk), (fun i hi => (Nat.lt_or_ge i j).elim (fun h => hno i h) (fun h => by obtain rfl : i = j := (by omega); exact hnx))⟩, (by omega)⟩
  rw [Bool.not_eq_true] at h5
  have hbe := eq_of_isNil hn1 h5
  have hnx : n ∉ σ (t.getD j 0) := free_no hσ hne (by rw [lkN_get hj0]; exact hbe)
  have hmk := hmr.set hml hj0 hgj2 hnx
  refine jA (t := 45) rfl (vB h5) (jA (t := 45) rfl (vB h5) (jA (t := 45) rfl (vB h5) (jA (t := 45) rfl (vB h5) (jA (t := 45) rfl (vB h5) (cX (yl (.bool (false)) (vB h5) rfl (qI (yV rfl (jU (qH (cX (yj (((j + 1 : Nat) : Int)) rfl rfl (by omega) (by omega) ?_))))))))))))
  refine jb (ii (((j + 1 : Nat) : Int))) rfl (qI ?_)
  exact ⟨(j + 1, (sm.set (((-1) - (t.getD j 0)).toNat) true)), _, FLe.refl _, rF, ⟨rfl, rfl, rfl, rfl, rfl, rfl, ⟨⟩⟩, (sC (sC sR)), ⟨rfl, (by (try dsimp only) <;> omega), (hl1), (hmk), (fun i hi => (Nat.lt_or_ge i j).elim (fun h => hno i h) (fun h => by obtain rfl : i = j := (by omega); exact hnx))⟩, (by omega)⟩
 refine yB (jO (jO (yk (qX (qH (jc (.bool (false)) rfl (qI (jW (jR (L' := cellsH ub (arv :: bs) 200 :: cellsH sb (bools sm) 241 :: L) [.bool (false)] (.bool (false)) (.tmp rfl .nil) rfl rF rF (sC (sC sR)) ?_)))))))))
 have hnt : n ∉ ap σ t := occ_not (fun i hi => hno i (by omega))
 exact ⟨_, congrArg Value.bool (decide_eq_false hnt), hml, fun _ => hmr, rfl, rfl⟩

theorem occurs_spec (k : Nat) : ∀ {F : FH} {L : List HP} {ub : Nat} {arv : Value} {ar : List Int} {bs : List Value} {bl : RowL} (har : IntsF F arv ar) (hbc : BindC F bs bl) (hb : BOk ar bl) {sb : Nat} {σ : Sbs} {ρ : Int → Nat} {n : Int} {tv : Value} {t : List Int} (ht : IntsF F tv t) {sn : List Bool} (hσ : Sol bl σ) (hρ : Acyc bl ρ) (hn : n < 0) (hnf : lkN bl n = []) (htk : ∀ m ∈ t, m < 0 → ρ m < k) (htg : ∀ i, i < t.length → -48 ≤ t.getD i 0) (htl : t.length ≤ 60) (hsl : sn.length = 48) (hcl : ClearM σ ρ n k sn), Does prog 249 [ptr ub 0, ii (n), tv, ptr sb 0] F (cellsH ub (arv :: bs) 200 :: cellsH sb (bools sn) 241 :: L) (fun v F' L' => ∃ s9 : List Bool, (.bool (decide (n ∈ ap σ t)) : Value) = v ∧ s9.length = 48 ∧ (n ∉ ap σ t → MarkR σ n sn s9) ∧ F = F' ∧ cellsH ub (arv :: bs) 200 :: cellsH sb (bools s9) 241 :: L = L') := by
  induction k using Nat.strongRecOn with
  | _ k ih =>
    intros
    exact occurs_step ih (by assumption) (by assumption) (by assumption) (by assumption) (by assumption) (by assumption) (by assumption) (by assumption) (by assumption) (by assumption) (by assumption) (by assumption) (by assumption)


/- (*impl.unifier).equate -/
set_option maxHeartbeats 2000000 in
set_option maxRecDepth 20000 in
theorem equate_step {k N : Nat} (ih : ∀ (k1 N1 : Nat), (k1 < k ∨ k1 = k ∧ N1 < N) → ∀ {F : FH} {L : List HP} {ub : Nat} {arv : Value} {ar : List Int} {bs : List Value} {bl : RowL} (har : IntsF F arv ar) (hbc : BindC F bs bl) (hb : BOk ar bl) {σ : Sbs} {av : Value} {a : List Int} (ha : IntsF F av a) {cv : Value} {c : List Int} (hc : IntsF F cv c) (hσ : Sol bl σ) (hoa : TermW ar a) (hoc : TermW ar c) (hna : isNil av = false) (hnc : isNil cv = false) (hk : unb bl ≤ k1) (hN : (ap σ a).length ≤ N1), DoesP prog 237 [ptr ub 0, av, cv] F (cellsH ub (arv :: bs) 200 :: L) (fun v F' L' => ∃ (b9 : List Value) (l9 : RowL), (.tuple #[] : Value) = v ∧ BindC F' b9 l9 ∧ Solves ar bl l9 (fun θ => ap θ a = ap θ c) ∧ cellsH ub (arv :: b9) 200 :: L = L') (fun ch F' L' => ∃ (b9 : List Value) (l9 : RowL), ch = [{ v := .iface 230 (.agg #[]), recovered := false }] ∧ BindC F' b9 l9 ∧ (∀ θ, GoodS ar θ → SatB bl θ → ap θ a ≠ ap θ c) ∧ cellsH ub (arv :: b9) 200 :: L = L')) {F : FH} {L : List HP} {ub : Nat} {arv : Value} {ar : List Int} {bs : List Value} {bl : RowL} (har : IntsF F arv ar) (hbc : BindC F bs bl) (hb : BOk ar bl) {σ : Sbs} {av : Value} {a : List Int} (ha : IntsF F av a) {cv : Value} {c : List Int} (hc : IntsF F cv c) (hσ : Sol bl σ) (hoa : TermW ar a) (hoc : TermW ar c) (hna : isNil av = false) (hnc : isNil cv = false) (hk : unb bl ≤ k) (hN : (ap σ a).length ≤ N) :
    DoesP prog 237 [ptr ub 0, av, cv] F (cellsH ub (arv :: bs) 200 :: L) (fun v F' L' => ∃ (b9 : List Value) (l9 : RowL), (.tuple #[] : Value) = v ∧ BindC F' b9 l9 ∧ Solves ar bl l9 (fun θ => ap θ a = ap θ c) ∧ cellsH ub (arv :: b9) 200 :: L = L') (fun ch F' L' => ∃ (b9 : List Value) (l9 : RowL), ch = [{ v := .iface 230 (.agg #[]), recovered := false }] ∧ BindC F' b9 l9 ∧ (∀ θ, GoodS ar θ → SatB bl θ → ap θ a ≠ ap θ c) ∧ cellsH ub (arv :: b9) 200 :: L = L') := by
 refine DoesP.of_X func237 rfl rfl rfl (qX (qH (jb (ptr ub 0) rfl (jb (av) rfl (cX (jL (args := [ptr ub 0, av]) call248 rfl (root_spec har hbc (by assumption) ha (ho := by assumption) (hnn := by assumption)) ?_))))))
 rintro v1 _ _ _ ⟨u1, hv1, hn1, hru1, rfl, rfl⟩
 refine jb (ptr ub 0) rfl (jb (cv) rfl (cX (jL (args := [ptr ub 0, cv]) call248 rfl (root_spec har hbc (by assumption) hc (ho := by assumption) (hnn := by assumption)) ?_)))
 rintro v2 _ _ _ ⟨u2, hv2, hn2, hru2, rfl, rfl⟩
 refine jc (v1) rfl (jc (v2) rfl ?_)
 have hl1 := hru1.w.len
 have hl2 := hru2.w.len
 refine qI (qX (qX ?_))
 refine yN [cellsH ub (arv :: bs) 200] L 6 [] [[], [0], [1], [], [3], [4]] (phiL [qe v1, qe (.pointer (some (elemA v1 (0)))), qe (ii (u1.getD 0 0)), qe v2, qe (.pointer (some (elemA v2 (0)))), qe (ii (u2.getD 0 0))]) (ownL []) mixed rfl rfl (by kernel_rfl) ?_ ?_
 ·refine pD (fun W R z9 => ?_) ?_
  ·refine je (jk (v1) rfl ?_)
   exact ⟨rfl, rfl, rfl⟩
  refine pD (fun W R z9 => ?_) ?_
  ·rw [eS (l := [(0, _)]) ⟨z9 0 rfl, ⟨⟩⟩]
   refine je (jq 0 qU js rfl rfl rfl hv1.slv (by omega) (Nat.mul_one _) ?_)
   exact ⟨rfl, rfl, rfl⟩
  refine pD (fun W R z9 => ?_) ?_
  ·rw [eS (l := [(1, _)]) ⟨z9 1 rfl, ⟨⟩⟩]
   refine je (jj yd rfl (hv1.rd (by omega)) ?_)
   exact ⟨rfl, rfl, rfl⟩
  refine pD (fun W R z9 => ?_) ?_
  ·refine je (jk (v2) rfl ?_)
   exact ⟨rfl, rfl, rfl⟩
  refine pD (fun W R z9 => ?_) ?_
  ·rw [eS (l := [(3, _)]) ⟨z9 3 rfl, ⟨⟩⟩]
   refine je (jq 0 qU js rfl rfl rfl hv2.slv (by omega) (Nat.mul_one _) ?_)
   exact ⟨rfl, rfl, rfl⟩
  refine pD (fun W R z9 => ?_) ?_
  ·rw [eS (l := [(4, _)]) ⟨z9 4 rfl, ⟨⟩⟩]
   refine je (jj yd rfl (hv2.rd (by omega)) ?_)
   exact ⟨rfl, rfl, rfl⟩
  exact stepsP.nil
 intro W hphi
 rw [eS (l := [(2, _), (5, _)]) ⟨(hphi 2 (by decide)), (hphi 5 (by decide)), ⟨⟩⟩]
 show XL _ _ _ _ _ _ _ (cellsH ub (arv :: bs) 200 :: L)
 refine cX (yU rfl rfl (jb (.bool (decide ((u1.getD 0 0 : Int) = u2.getD 0 0))) rfl ?_))
 by_cases h1 : (u1.getD 0 0 : Int) = u2.getD 0 0
 ·refine jB (t := 22) rfl (vT h1) (jk (v1) rfl (jB (t := 22) rfl (vT h1) (jq 0 qU js rfl rfl rfl hv1.slv (by omega) (Nat.mul_one _) (jB (t := 22) rfl (vT h1) (jj yd rfl (hv1.rd (by omega)) (jB (t := 22) rfl (vT h1) (yo rfl rfl (cX (yp (.bool (decide ((u1.getD 0 0 : Int) < 0))) (vT h1) rfl (qI ?_))))))))))
  refine jV (p := (u1.getD 0 0 : Int) < 0) rfl (fun h2 => ?_) (fun h2 => ?_)
  ·refine jW (jw (retEndP (L' := cellsH ub (arv :: bs) 200 :: L) [] (.tuple #[]) (by exact .nil) rfl rF rF (sC sR) ?_))
   exact ⟨_, _, rfl, hbc, same_eq hb hru1 hru2 (by omega) (by omega), rfl⟩
  refine jU (qX (qX ?_))
  by_cases h3 : (u2.getD 0 0 : Int) < 0
  ·exfalso
   omega
  refine yN [cellsH ub (arv :: bs) 200] L 16 [] [[], [0], [1], [2], [3], [4], [4, 5], [4, 6], [4, 7], [4, 8], [9], [9, 10], [9, 11], [9], [9, 13], [9, 14]] (phiL [qe v2, qe (.pointer (some (elemA v2 (0)))), qe (ii (u2.getD 0 0)), qe (.bool (decide ((u2.getD 0 0 : Int) < 0)) : Value), qe (.bool (decide ((u2.getD 0 0 : Int) < 0)) : Value), qe undef, qe undef, qe undef, qe undef, qe undef, qe undef, qe undef, qe undef, qe undef, qe undef, qe undef]) (ownL []) mixed rfl rfl (by kernel_rfl) ?_ ?_
  ·refine pD (fun W R z9 => ?_) ?_
   ·refine je (jk (v2) rfl ?_)
    exact ⟨rfl, rfl, rfl⟩
   refine pD (fun W R z9 => ?_) ?_
   ·rw [eS (l := [(0, _)]) ⟨z9 0 rfl, ⟨⟩⟩]
    refine je (jq 0 qU js rfl rfl rfl hv2.slv (by omega) (Nat.mul_one _) ?_)
    exact ⟨rfl, rfl, rfl⟩
   refine pD (fun W R z9 => ?_) ?_
   ·rw [eS (l := [(1, _)]) ⟨z9 1 rfl, ⟨⟩⟩]
    refine je (jj yd rfl (hv2.rd (by omega)) ?_)
    exact ⟨rfl, rfl, rfl⟩
   refine pD (fun W R z9 => ?_) ?_
   ·rw [eS (l := [(2, _)]) ⟨z9 2 rfl, ⟨⟩⟩]
    refine je (yo rfl rfl ?_)
    exact ⟨rfl, rfl, rfl⟩
   refine pD (fun W R z9 => ?_) ?_
   ·rw [eS (l := [(3, _)]) ⟨z9 3 rfl, ⟨⟩⟩]
    refine je (jk (.bool (decide ((u2.getD 0 0 : Int) < 0))) rfl ?_)
    exact ⟨rfl, rfl, rfl⟩
   refine pD (fun W R z9 => ?_) ?_
   ·rw [eS (l := [(4, _)]) ⟨z9 4 rfl, ⟨⟩⟩]
    exact yA (t := 32) rfl (vF h3) ⟨rfl, rfl, rfl⟩
   refine pD (fun W R z9 => ?_) ?_
   ·rw [eS (l := [(4, _), (5, undef)]) ⟨z9 4 rfl, z9 5 rfl, ⟨⟩⟩]
    exact yA (t := 32) rfl (vF h3) ⟨rfl, rfl, rfl⟩
   refine pD (fun W R z9 => ?_) ?_
   ·rw [eS (l := [(4, _), (6, undef)]) ⟨z9 4 rfl, z9 6 rfl, ⟨⟩⟩]
    exact yA (t := 32) rfl (vF h3) ⟨rfl, rfl, rfl⟩
   refine pD (fun W R z9 => ?_) ?_
   ·rw [eS (l := [(4, _), (7, undef)]) ⟨z9 4 rfl, z9 7 rfl, ⟨⟩⟩]
    exact yA (t := 32) rfl (vF h3) ⟨rfl, rfl, rfl⟩
   refine pD (fun W R z9 => ?_) ?_
   ·rw [eS (l := [(4, _), (8, undef)]) ⟨z9 4 rfl, z9 8 rfl, ⟨⟩⟩]
    exact yA (t := 32) rfl (vF h3) ⟨rfl, rfl, rfl⟩
   refine pD (fun W R z9 => ?_) ?_
   ·rw [eS (l := [(9, undef)]) ⟨z9 9 rfl, ⟨⟩⟩]
    exact XG.noU (t := 37) rfl rfl ⟨rfl, rfl, rfl⟩
   refine pD (fun W R z9 => ?_) ?_
   ·rw [eS (l := [(9, undef), (10, undef)]) ⟨z9 9 rfl, z9 10 rfl, ⟨⟩⟩]
    exact XG.noU (t := 37) rfl rfl ⟨rfl, rfl, rfl⟩
   refine pD (fun W R z9 => ?_) ?_
   ·rw [eS (l := [(9, undef), (11, undef)]) ⟨z9 9 rfl, z9 11 rfl, ⟨⟩⟩]
    exact XG.noU (t := 37) rfl rfl ⟨rfl, rfl, rfl⟩
   refine pD (fun W R z9 => ?_) ?_
   ·rw [eS (l := [(9, undef)]) ⟨z9 9 rfl, ⟨⟩⟩]
    exact XG.noU (t := 37) rfl rfl ⟨rfl, rfl, rfl⟩
   refine pD (fun W R z9 => ?_) ?_
   ·rw [eS (l := [(9, undef), (13, undef)]) ⟨z9 9 rfl, z9 13 rfl, ⟨⟩⟩]
    exact XG.noU (t := 37) rfl rfl ⟨rfl, rfl, rfl⟩
   refine pD (fun W R z9 => ?_) ?_
   ·rw [eS (l := [(9, undef), (14, undef)]) ⟨z9 9 rfl, z9 14 rfl, ⟨⟩⟩]
    exact XG.noU (t := 37) rfl rfl ⟨rfl, rfl, rfl⟩
   exact stepsP.nil
  intro W hphi
  rw [eS (l := [(4, _), (9, undef), (12, undef), (15, undef)]) ⟨(hphi 4 (by decide)), (hphi 9 (by decide)), (hphi 12 (by decide)), (hphi 15 (by decide)), ⟨⟩⟩]
  show XL _ _ _ _ _ _ _ (cellsH ub (arv :: bs) 200 :: L)
  refine XL.noU (t := 37) rfl rfl (jA (t := 32) rfl (vF h3) (cX (yl (.bool (false)) (vF h3) rfl (qI (yV rfl (jU (qX (qX (qH ?_)))))))))
  have hrx := hru1
  have hry := hru2
  have hnx := hn1
  have hny := hn2
  have hwx := hrx.w
  have hwy := hry.w
  have hxl := hrx.w.len
  have hyl := hry.w.len
  have hxg := hrx.w.geD (p := 0) (by omega)
  have hyg := hry.w.geD (p := 0) (by omega)
  have hbl := hb.len
  skip
  refine jb (v1) rfl (cX (jq 0 qU js rfl rfl rfl hv1.slv (by omega) (Nat.mul_one _) (cX (jj yd rfl (hv1.rd (by omega)) (cX (yo rfl rfl (qI (yV (vF h2) (jU (qX (qX ?_)))))))))))
  refine yN [cellsH ub (arv :: bs) 200] L 6 [] [[], [0], [1], [], [3], [4]] (phiL [qe v1, qe (.pointer (some (elemA v1 (0)))), qe (ii (u1.getD 0 0)), qe v2, qe (.pointer (some (elemA v2 (0)))), qe (ii (u2.getD 0 0))]) (ownL []) mixed rfl rfl (by kernel_rfl) ?_ ?_
  ·refine pD (fun W R z9 => ?_) ?_
   ·refine je (jk (v1) rfl ?_)
    exact ⟨rfl, rfl, rfl⟩
   refine pD (fun W R z9 => ?_) ?_
   ·rw [eS (l := [(0, _)]) ⟨z9 0 rfl, ⟨⟩⟩]
    refine je (jq 0 qU js rfl rfl rfl hv1.slv (by omega) (Nat.mul_one _) ?_)
    exact ⟨rfl, rfl, rfl⟩
   refine pD (fun W R z9 => ?_) ?_
   ·rw [eS (l := [(1, _)]) ⟨z9 1 rfl, ⟨⟩⟩]
    refine je (jj yd rfl (hv1.rd (by omega)) ?_)
    exact ⟨rfl, rfl, rfl⟩
   refine pD (fun W R z9 => ?_) ?_
   ·refine je (jk (v2) rfl ?_)
    exact ⟨rfl, rfl, rfl⟩
   refine pD (fun W R z9 => ?_) ?_
   ·rw [eS (l := [(3, _)]) ⟨z9 3 rfl, ⟨⟩⟩]
    refine je (jq 0 qU js rfl rfl rfl hv2.slv (by omega) (Nat.mul_one _) ?_)
    exact ⟨rfl, rfl, rfl⟩
   refine pD (fun W R z9 => ?_) ?_
   ·rw [eS (l := [(4, _)]) ⟨z9 4 rfl, ⟨⟩⟩]
    refine je (jj yd rfl (hv2.rd (by omega)) ?_)
    exact ⟨rfl, rfl, rfl⟩
   exact stepsP.nil
  intro W hphi
  rw [eS (l := [(2, _), (5, _)]) ⟨(hphi 2 (by decide)), (hphi 5 (by decide)), ⟨⟩⟩]
  show XL _ _ _ _ _ _ _ (cellsH ub (arv :: bs) 200 :: L)
  refine cX (XOp.neq rfl rfl (qI ?_))
  refine jV (p := (u1.getD 0 0 : Int) ≠ u2.getD 0 0) rfl (fun h4 => ?_) (fun h4 => ?_)
  ·refine qH ?_
   skip
   refine cX (yJ [] [] [] [] Qt zeroValue230 rfl PlacesAre.nil rfl CellsAre.nil (cX (XOp.iface Qt rfl (yK ((sC sR)) (XL.panicI rfl ?_)))))
   exact .inr ⟨_, rfl, _, _, rfl, hbc, (heads_ne hrx hry (by omega) (by omega) (by omega)), rfl⟩
  have hhd : u1.getD 0 0 = u2.getD 0 0 := by omega
  refine jU (qX ?_)
  refine X.drawG [cellsH ub (arv :: bs) 200] L 11 [] [[], [0], [1], [2], [], [3, 4], [], [6], [7], [8]] [] (phiG [pe (ptr ub 0), pe (ptr ub 0), pe (ptr ub 0), pe (.agg #[arv]), pe v1, fun FF us v => ((v) : Value) = v ∧ (IntsF FF (v) (argsL ar u1 0)), pe (ptr ub 0), pe (ptr ub 0), pe (ptr ub 0), pe (.agg #[arv]), pe v2]) (ownL []) mixed rfl rfl (by kernel_rfl) (by kernel_rfl) (MonoG.get (m1 (m1 (m1 (m1 (m1 (mC (fun le h => ⟨h.1, h.2.mono le⟩) (m1 (m1 (m1 (m1 (m1 MonoG.nil)))))))))))) ?_ ?_
  ·refine gD (fun W Fs R lF z9 => ?_) ?_
   ·refine je (jk (ptr ub 0) rfl ?_)
    exact ⟨rfl, rfl⟩
   refine gD (fun W Fs R lF z9 => ?_) ?_
   ·replace har := har.mono lF
    replace hbc := hbc.mono lF
    replace hv1 := hv1.mono lF
    replace hv2 := hv2.mono lF
    rw [eS (l := [(0, _)]) ⟨z9 0 rfl, ⟨⟩⟩]
    refine je (yw rfl ?_)
    exact ⟨rfl, rfl⟩
   refine gD (fun W Fs R lF z9 => ?_) ?_
   ·rw [eS (l := [(1, _)]) ⟨z9 1 rfl, ⟨⟩⟩]
    refine je (jE (0) Qa rfl ys (by decide) rfl rfl ?_)
    exact ⟨rfl, rfl⟩
   refine gD (fun W Fs R lF z9 => ?_) ?_
   ·replace har := har.mono lF
    replace hbc := hbc.mono lF
    replace hv1 := hv1.mono lF
    replace hv2 := hv2.mono lF
    rw [eS (l := [(2, _)]) ⟨z9 2 rfl, ⟨⟩⟩]
    refine je (yc [arv] yF ys rfl rfl (Rd.ownN [] rfl rfl) ?_)
    exact ⟨rfl, rfl⟩
   refine gD (fun W Fs R lF z9 => ?_) ?_
   ·refine je (jk (v1) rfl ?_)
    exact ⟨rfl, rfl⟩
   refine gD (fun W Fs R lF z9 => ?_) ?_
   ·replace har := har.mono lF
    replace hbc := hbc.mono lF
    replace hv1 := hv1.mono lF
    replace hv2 := hv2.mono lF
    rw [eS (l := [(3, _), (4, _)]) ⟨z9 3 rfl, z9 4 rfl, ⟨⟩⟩]
    refine je (Qo <| jL (args := [.agg #[arv], v1, ii ((0 : Nat) : Int)]) call222 rfl (argsAtW_spec (p := 0) har hv1 (ho := (by first | assumption | rfl | omega | simp)) (hp := (by first | assumption | rfl | omega | simp))) ?_)
    rintro v4 _ _ _ ⟨rfl, hs2, rfl⟩
    refine ⟨_, _, rfl, fun F1 le1 hz1 => ?_⟩
    replace har := har.mono le1
    replace hbc := hbc.mono le1
    replace hv1 := hv1.mono le1
    replace hv2 := hv2.mono le1
    have hf1 : IntsF F1 v4 ((argsL ar u1 0)) := intsH.fz (xs := (argsL ar u1 0)) hz1.fz
    exact ⟨⟨rfl, hf1⟩, rfl⟩
   refine gD (fun W Fs R lF z9 => ?_) ?_
   ·refine je (jk (ptr ub 0) rfl ?_)
    exact ⟨rfl, rfl⟩
   refine gD (fun W Fs R lF z9 => ?_) ?_
   ·replace har := har.mono lF
    replace hbc := hbc.mono lF
    replace hv1 := hv1.mono lF
    replace hv2 := hv2.mono lF
    rw [eS (l := [(6, _)]) ⟨z9 6 rfl, ⟨⟩⟩]
    refine je (yw rfl ?_)
    exact ⟨rfl, rfl⟩
   refine gD (fun W Fs R lF z9 => ?_) ?_
   ·rw [eS (l := [(7, _)]) ⟨z9 7 rfl, ⟨⟩⟩]
    refine je (jE (0) Qa rfl ys (by decide) rfl rfl ?_)
    exact ⟨rfl, rfl⟩
   refine gD (fun W Fs R lF z9 => ?_) ?_
   ·replace har := har.mono lF
    replace hbc := hbc.mono lF
    replace hv1 := hv1.mono lF
    replace hv2 := hv2.mono lF
    rw [eS (l := [(8, _)]) ⟨z9 8 rfl, ⟨⟩⟩]
    refine je (yc [arv] yF ys rfl rfl (Rd.ownN [] rfl rfl) ?_)
    exact ⟨rfl, rfl⟩
   refine gD (fun W Fs R lF z9 => ?_) ?_
   ·refine je (jk (v2) rfl ?_)
    exact ⟨rfl, rfl⟩
   exact stepsG.nil
  intro W F2 le2 hphi
  obtain ⟨e5, f5_5ha⟩ := hphi 5 (by decide)
  generalize hu1 : ((W 5)) = u3 at e5 f5_5ha
  rw [eS (l := [(5, u3), (9, _), (10, _)]) ⟨hu1, (hphi 9 (by decide)), (hphi 10 (by decide)), ⟨⟩⟩]
  replace har := har.mono le2
  replace hbc := hbc.mono le2
  replace hv1 := hv1.mono le2
  replace hv2 := hv2.mono le2
  show XL _ _ _ _ _ _ _ (cellsH ub (arv :: bs) 200 :: L)
  refine cX (Qo <| jL (args := [.agg #[arv], v2, ii ((0 : Nat) : Int)]) call222 rfl (argsAtW_spec (p := 0) har hv2 (ho := (by first | assumption | rfl | omega | simp)) (hp := (by first | assumption | rfl | omega | simp))) ?_)
  rintro v5 _ _ _ ⟨rfl, hs3, rfl⟩
  refine ⟨_, _, rfl, fun F3 le3 hz2 => ?_⟩
  replace har := har.mono le3
  replace hbc := hbc.mono le3
  replace hv1 := hv1.mono le3
  replace hv2 := hv2.mono le3
  replace f5_5ha := f5_5ha.mono le3
  have hf2 : IntsF F3 v5 ((argsL ar u2 0)) := intsH.fz (xs := (argsL ar u2 0)) hz2.fz
  refine jc (u3) rfl (jc (v5) rfl (qI (qX (qH (jb (u3) rfl (cX (jZ Qr rfl f5_5ha.slv (jb (ii (0)) rfl (qI (yf (yI (α := Nat × List Value × RowL × FH) (fun xQ => [(0, ptr ub 0), (1, v1), (2, v2), (6, u3), (7, v5), (100, ii (((((argsL ar u1 0)).length : Nat) : Int))), (101, ii (((xQ.1 : Nat) : Int)))]) (fun xQ => cellsH ub (arv :: xQ.2.1) 200 :: L) (fun xQ F' => xQ.2.2.2 = F' ∧ F3 ≤ xQ.2.2.2 ∧ (BindC xQ.2.2.2 xQ.2.1 xQ.2.2.1) ∧ (xQ.1 ≤ (argsL ar u1 0).length) ∧ (Solves ar bl xQ.2.2.1 (EqTo ar u1 u2 xQ.1))) (fun xQ => (argsL ar u1 0).length - xQ.1) (0, bs, bl, F3) ⟨rfl, rfl, rfl, rfl, rfl, rfl, rfl, ⟨⟩⟩ (sC sR) ⟨rfl, FLe.refl _, (hbc), (Nat.zero_le _), (EqTo.start hb)⟩ ?_)))))))))))
  rintro ⟨j, bj, lj, G1⟩ rE _ _ ⟨rfl, leG, hbj, hj, hso⟩
  show X _ _ _ _ (envs [(0, ptr ub 0), (1, v1), (2, v2), (6, u3), (7, v5), (100, ii (((((argsL ar u1 0)).length : Nat) : Int))), (101, ii ((j : Int)))] rE) _ (cellsH ub (arv :: bj) 200 :: L)
  replace leG : F3 ≤ G1 := leG
  dsimp only at hbj hj hso
  have hajx := fun h : j < (argsL ar u1 0).length => hrx.w.args_in (p := 0) (by omega) h
  have hajy := fun h : j < (argsL ar u2 0).length => hry.w.args_in (p := 0) (by omega) h
  have hlax := args_same (ar := ar) hhd
  have hla3 := hrx.w.args_le (p := 0) (by omega)
  have hex0 := hrx.w.end0
  have hey0 := hry.w.end0
  have leG1 := leG
  replace har := har.mono leG1
  replace hbc := hbc.mono leG1
  replace hv1 := hv1.mono leG1
  replace hv2 := hv2.mono leG1
  replace f5_5ha := f5_5ha.mono leG1
  replace hf2 := hf2.mono leG1
  refine qX (qH (cX (yo rfl rfl (qI (qX ?_)))))
  refine jV (p := (j : Int) < ((((argsL ar u1 0)).length : Nat) : Int)) rfl (fun h5 => ?_) (fun h5 => ?_)
  ·have hjx : j < (argsL ar u1 0).length := by omega
   have hjy : j < (argsL ar u2 0).length := by omega
   obtain ⟨σ1, k1, N1, hσ1, hk1, hN1, hless⟩ := EqTo.less hso hb hσ hrx (by rw [parts_args]; exact hjx) hk hN
   have hpx := parts_W hrx.w hjx
   have hpy := parts_W hry.w hjy
   have hb2 := hso.ok
   rw [parts_get hjx] at hpx hN1
   rw [parts_get hjy] at hpy
   refine jU (qX (yf (qX (qH (jb (ii ((j : Int))) rfl (jc (ii ((j : Int))) rfl (qI ?_)))))))
   refine X.drawG [cellsH ub (arv :: bj) 200] L 21 [] [[], [], [1], [2], [3], [], [], [], [6, 7], [8], [4, 5, 9], [], [11], [12], [13], [], [], [], [16, 17], [18], [14, 15, 19]] [] (phiG [pe (ptr ub 0), pe (ptr ub 0), pe (ptr ub 0), pe (ptr ub 0), pe (.agg #[arv]), pe v1, pe u3, pe (ii ((j : Int)) : Value), pe (.pointer (some (elemA u3 (j)))), pe (ii (((argsL ar u1 0)).getD j 0)), fun FF us v => ((v) : Value) = v ∧ (IntsF FF (v) (sub ar u1 ((((argsL ar u1 0)).getD j 0).toNat))) ∧ (isNil (v) = false), pe (ptr ub 0), pe (ptr ub 0), pe (ptr ub 0), pe (.agg #[arv]), pe v2, pe v5, pe (ii ((j : Int)) : Value), pe (.pointer (some (elemA v5 (j)))), pe (ii (((argsL ar u2 0)).getD j 0)), fun FF us v => ((v) : Value) = v ∧ (IntsF FF (v) (sub ar u2 ((((argsL ar u2 0)).getD j 0).toNat))) ∧ (isNil (v) = false)]) (ownL []) mixed rfl rfl (by kernel_rfl) (by kernel_rfl) (MonoG.get (m1 (m1 (m1 (m1 (m1 (m1 (m1 (m1 (m1 (m1 (mC (fun le h => ⟨h.1, h.2.1.mono le, h.2.2⟩) (m1 (m1 (m1 (m1 (m1 (m1 (m1 (m1 (m1 (mC (fun le h => ⟨h.1, h.2.1.mono le, h.2.2⟩) MonoG.nil)))))))))))))))))))))) ?_ ?_
   ·refine gD (fun W Fs R lF z9 => ?_) ?_
    ·refine je (jk (ptr ub 0) rfl ?_)
     exact ⟨rfl, rfl⟩
    refine gD (fun W Fs R lF z9 => ?_) ?_
    ·refine je (jk (ptr ub 0) rfl ?_)
     exact ⟨rfl, rfl⟩
    refine gD (fun W Fs R lF z9 => ?_) ?_
    ·replace har := har.mono lF
     replace hbc := hbc.mono lF
     replace hv1 := hv1.mono lF
     replace hv2 := hv2.mono lF
     replace f5_5ha := f5_5ha.mono lF
     replace hf2 := hf2.mono lF
     replace hbj := hbj.mono lF
     rw [eS (l := [(1, _)]) ⟨z9 1 rfl, ⟨⟩⟩]
     refine je (yw rfl ?_)
     exact ⟨rfl, rfl⟩
    refine gD (fun W Fs R lF z9 => ?_) ?_
    ·rw [eS (l := [(2, _)]) ⟨z9 2 rfl, ⟨⟩⟩]
     refine je (jE (0) Qa rfl ys (by decide) rfl rfl ?_)
     exact ⟨rfl, rfl⟩
    refine gD (fun W Fs R lF z9 => ?_) ?_
    ·replace har := har.mono lF
     replace hbc := hbc.mono lF
     replace hv1 := hv1.mono lF
     replace hv2 := hv2.mono lF
     replace f5_5ha := f5_5ha.mono lF
     replace hf2 := hf2.mono lF
     replace hbj := hbj.mono lF
     rw [eS (l := [(3, _)]) ⟨z9 3 rfl, ⟨⟩⟩]
     refine je (yc [arv] yF ys rfl rfl (Rd.ownN [] rfl rfl) ?_)
     exact ⟨rfl, rfl⟩
    refine gD (fun W Fs R lF z9 => ?_) ?_
    ·refine je (jk (v1) rfl ?_)
     exact ⟨rfl, rfl⟩
    refine gD (fun W Fs R lF z9 => ?_) ?_
    ·refine je (jk (u3) rfl ?_)
     exact ⟨rfl, rfl⟩
    refine gD (fun W Fs R lF z9 => ?_) ?_
    ·refine je (jk (ii ((j : Int))) rfl ?_)
     exact ⟨rfl, rfl⟩
    refine gD (fun W Fs R lF z9 => ?_) ?_
    ·replace har := har.mono lF
     replace hbc := hbc.mono lF
     replace hv1 := hv1.mono lF
     replace hv2 := hv2.mono lF
     replace f5_5ha := f5_5ha.mono lF
     replace hf2 := hf2.mono lF
     replace hbj := hbj.mono lF
     rw [eS (l := [(6, _), (7, _)]) ⟨z9 6 rfl, z9 7 rfl, ⟨⟩⟩]
     refine je (jq j Qr Qm rfl rfl rfl f5_5ha.slv (by omega) (Nat.mul_one _) ?_)
     exact ⟨rfl, rfl⟩
    refine gD (fun W Fs R lF z9 => ?_) ?_
    ·replace har := har.mono lF
     replace hbc := hbc.mono lF
     replace hv1 := hv1.mono lF
     replace hv2 := hv2.mono lF
     replace f5_5ha := f5_5ha.mono lF
     replace hf2 := hf2.mono lF
     replace hbj := hbj.mono lF
     rw [eS (l := [(8, _)]) ⟨z9 8 rfl, ⟨⟩⟩]
     refine je (jj isAgg3 rfl (f5_5ha.rd (by omega)) ?_)
     exact ⟨rfl, rfl⟩
    refine gD (fun W Fs R lF z9 => ?_) ?_
    ·replace har := har.mono lF
     replace hbc := hbc.mono lF
     replace hv1 := hv1.mono lF
     replace hv2 := hv2.mono lF
     replace hf2 := hf2.mono lF
     replace hbj := hbj.mono lF
     rw [eS (l := [(4, _), (5, _), (9, _)]) ⟨z9 4 rfl, z9 5 rfl, z9 9 rfl, ⟨⟩⟩]
     refine je (jL (args := [.agg #[arv], v1, ii (((((argsL ar u1 0)).getD j 0).toNat : Nat) : Int)]) call224 (by rw [show (((((argsL ar u1 0)).getD j 0).toNat : Nat) : Int) = ((argsL ar u1 0)).getD j 0 from by omega]; rfl) (subAtW_spec (p := (((argsL ar u1 0)).getD j 0).toNat) har hv1 (ho := (by first | assumption | rfl | omega | simp)) (hp := (by first | assumption | rfl | omega | simp)) (hnn := (by first | assumption | rfl | omega | simp))) ?_)
     rintro v8 _ _ _ ⟨rfl, rfl, hv5, hn5⟩
     exact ⟨⟨rfl, hv5, hn5⟩, rfl⟩
    refine gD (fun W Fs R lF z9 => ?_) ?_
    ·refine je (jk (ptr ub 0) rfl ?_)
     exact ⟨rfl, rfl⟩
    refine gD (fun W Fs R lF z9 => ?_) ?_
    ·replace har := har.mono lF
     replace hbc := hbc.mono lF
     replace hv1 := hv1.mono lF
     replace hv2 := hv2.mono lF
     replace hf2 := hf2.mono lF
     replace hbj := hbj.mono lF
     rw [eS (l := [(11, _)]) ⟨z9 11 rfl, ⟨⟩⟩]
     refine je (yw rfl ?_)
     exact ⟨rfl, rfl⟩
    refine gD (fun W Fs R lF z9 => ?_) ?_
    ·rw [eS (l := [(12, _)]) ⟨z9 12 rfl, ⟨⟩⟩]
     refine je (jE (0) Qa rfl ys (by decide) rfl rfl ?_)
     exact ⟨rfl, rfl⟩
    refine gD (fun W Fs R lF z9 => ?_) ?_
    ·replace har := har.mono lF
     replace hbc := hbc.mono lF
     replace hv1 := hv1.mono lF
     replace hv2 := hv2.mono lF
     replace hf2 := hf2.mono lF
     replace hbj := hbj.mono lF
     rw [eS (l := [(13, _)]) ⟨z9 13 rfl, ⟨⟩⟩]
     refine je (yc [arv] yF ys rfl rfl (Rd.ownN [] rfl rfl) ?_)
     exact ⟨rfl, rfl⟩
    refine gD (fun W Fs R lF z9 => ?_) ?_
    ·refine je (jk (v2) rfl ?_)
     exact ⟨rfl, rfl⟩
    refine gD (fun W Fs R lF z9 => ?_) ?_
    ·refine je (jk (v5) rfl ?_)
     exact ⟨rfl, rfl⟩
    refine gD (fun W Fs R lF z9 => ?_) ?_
    ·refine je (jk (ii ((j : Int))) rfl ?_)
     exact ⟨rfl, rfl⟩
    refine gD (fun W Fs R lF z9 => ?_) ?_
    ·replace har := har.mono lF
     replace hbc := hbc.mono lF
     replace hv1 := hv1.mono lF
     replace hv2 := hv2.mono lF
     replace hf2 := hf2.mono lF
     replace hbj := hbj.mono lF
     rw [eS (l := [(16, _), (17, _)]) ⟨z9 16 rfl, z9 17 rfl, ⟨⟩⟩]
     refine je (jq j Qr Qm rfl rfl rfl hf2.slv (by omega) (Nat.mul_one _) ?_)
     exact ⟨rfl, rfl⟩
    refine gD (fun W Fs R lF z9 => ?_) ?_
    ·replace har := har.mono lF
     replace hbc := hbc.mono lF
     replace hv1 := hv1.mono lF
     replace hv2 := hv2.mono lF
     replace hf2 := hf2.mono lF
     replace hbj := hbj.mono lF
     rw [eS (l := [(18, _)]) ⟨z9 18 rfl, ⟨⟩⟩]
     refine je (jj isAgg3 rfl (hf2.rd (by omega)) ?_)
     exact ⟨rfl, rfl⟩
    refine gD (fun W Fs R lF z9 => ?_) ?_
    ·replace har := har.mono lF
     replace hbc := hbc.mono lF
     replace hv1 := hv1.mono lF
     replace hv2 := hv2.mono lF
     replace hbj := hbj.mono lF
     rw [eS (l := [(14, _), (15, _), (19, _)]) ⟨z9 14 rfl, z9 15 rfl, z9 19 rfl, ⟨⟩⟩]
     refine je (jL (args := [.agg #[arv], v2, ii (((((argsL ar u2 0)).getD j 0).toNat : Nat) : Int)]) call224 (by rw [show (((((argsL ar u2 0)).getD j 0).toNat : Nat) : Int) = ((argsL ar u2 0)).getD j 0 from by omega]; rfl) (subAtW_spec (p := (((argsL ar u2 0)).getD j 0).toNat) har hv2 (ho := (by first | assumption | rfl | omega | simp)) (hp := (by first | assumption | rfl | omega | simp)) (hnn := (by first | assumption | rfl | omega | simp))) ?_)
     rintro v9 _ _ _ ⟨rfl, rfl, hv6, hn6⟩
     exact ⟨⟨rfl, hv6, hn6⟩, rfl⟩
    exact stepsG.nil
   intro W F4 le4 hphi
   obtain ⟨e10, f10_6ha, f10_6hn⟩ := hphi 10 (by decide)
   obtain ⟨e20, f20_6ha, f20_6hn⟩ := hphi 20 (by decide)
   generalize hu2 : ((W 10)) = u4 at e10 f10_6ha f10_6hn e20 f20_6ha f20_6hn
   generalize hu3 : ((W 20)) = u5 at e10 f10_6ha f10_6hn e20 f20_6ha f20_6hn
   rw [eS (l := [(0, _), (10, u4), (20, u5)]) ⟨(hphi 0 (by decide)), hu2, hu3, ⟨⟩⟩]
   replace har := har.mono le4
   replace hbc := hbc.mono le4
   replace hv1 := hv1.mono le4
   replace hv2 := hv2.mono le4
   replace hbj := hbj.mono le4
   show XL _ _ _ _ _ _ _ (cellsH ub (arv :: bj) 200 :: L)
   refine XL.callP [ptr ub 0, u4, u5] call237 rfl (ih k1 N1 hless har hbj hb2 f10_6ha f20_6ha hσ1 hpx hpy (by assumption) (by assumption) hk1 hN1) ?_ ?_
   ·rintro _ _ _ _ ⟨b9, l9, rfl, hb9, hne9, rfl⟩
    rw [← parts_get hjx, ← parts_get hjy] at hne9
    exact .inr ⟨_, rfl, b9, l9, rfl, hb9, (EqTo.stop hso hrx hry (by rw [parts_args]; exact hjx) (by omega) hhd hne9), rfl⟩
   rintro _ F5 _ le5 ⟨b1, l1, rfl, hb1, hso1, rfl⟩
   replace har := har.mono le5
   replace hbc := hbc.mono le5
   replace hv1 := hv1.mono le5
   replace hv2 := hv2.mono le5
   replace hbj := hbj.mono le5
   rw [← parts_get hjx, ← parts_get hjy] at hso1
   have hso2 := EqTo.next hso hso1
   refine qI (qH (cX (yj (((j + 1 : Nat) : Int)) rfl rfl (by omega) (by omega) (jb (ii (((j + 1 : Nat) : Int))) rfl (qI ?_)))))
   exact ⟨(j + 1, b1, l1, F5), _, (jl (jl leG1 le4) le5), rF, ⟨rfl, rfl, rfl, rfl, rfl, rfl, rfl, ⟨⟩⟩, (sC sR), ⟨rfl, (jl (jl leG1 le4) le5), (hb1), (by (try dsimp only) <;> omega), (hso2)⟩, (by omega)⟩
  refine yB (jO (jO (yk (id (retEndNP (L' := cellsH ub (arv :: bj) 200 :: L) [] (.tuple #[]) (by exact .nil) rfl (jl (jl le2 le3) leG1) rF (sC sR) ?_)))))
  exact ⟨_, _, rfl, hbj, (EqTo.done hso hrx hry (by rw [parts_args]; omega) (by omega) hhd), rfl⟩
 refine jA (t := 22) rfl (vF h1) (jA (t := 22) rfl (vF h1) (jA (t := 22) rfl (vF h1) (jA (t := 22) rfl (vF h1) (cX (yl (.bool (false)) (vF h1) rfl (qI (yV rfl (jU (qX (qX ?_))))))))))
 by_cases h6 : (u2.getD 0 0 : Int) < 0
 ·by_cases h7 : (u1.getD 0 0 : Int) ≥ 0
  ·refine yN [cellsH ub (arv :: bs) 200] L 16 [] [[], [0], [1], [2], [3], [4], [4, 5], [4, 6], [4, 7], [4, 8], [9], [9, 10], [9, 11], [9], [9, 13], [9, 14]] (phiL [qe v2, qe (.pointer (some (elemA v2 (0)))), qe (ii (u2.getD 0 0)), qe (.bool (decide ((u2.getD 0 0 : Int) < 0)) : Value), qe (.bool (decide ((u2.getD 0 0 : Int) < 0)) : Value), qe v1, qe (.pointer (some (elemA v1 (0)))), qe (ii (u1.getD 0 0)), qe (.bool (decide ((u1.getD 0 0 : Int) ≥ 0)) : Value), qe (.bool (decide ((u1.getD 0 0 : Int) ≥ 0)) : Value), qe undef, qe undef, qe undef, qe undef, qe undef, qe undef]) (ownL []) mixed rfl rfl (by kernel_rfl) ?_ ?_
   ·refine pD (fun W R z9 => ?_) ?_
    ·refine je (jk (v2) rfl ?_)
     exact ⟨rfl, rfl, rfl⟩
    refine pD (fun W R z9 => ?_) ?_
    ·rw [eS (l := [(0, _)]) ⟨z9 0 rfl, ⟨⟩⟩]
     refine je (jq 0 qU js rfl rfl rfl hv2.slv (by omega) (Nat.mul_one _) ?_)
     exact ⟨rfl, rfl, rfl⟩
    refine pD (fun W R z9 => ?_) ?_
    ·rw [eS (l := [(1, _)]) ⟨z9 1 rfl, ⟨⟩⟩]
     refine je (jj yd rfl (hv2.rd (by omega)) ?_)
     exact ⟨rfl, rfl, rfl⟩
    refine pD (fun W R z9 => ?_) ?_
    ·rw [eS (l := [(2, _)]) ⟨z9 2 rfl, ⟨⟩⟩]
     refine je (yo rfl rfl ?_)
     exact ⟨rfl, rfl, rfl⟩
    refine pD (fun W R z9 => ?_) ?_
    ·rw [eS (l := [(3, _)]) ⟨z9 3 rfl, ⟨⟩⟩]
     refine je (jk (.bool (decide ((u2.getD 0 0 : Int) < 0))) rfl ?_)
     exact ⟨rfl, rfl, rfl⟩
    refine pD (fun W R z9 => ?_) ?_
    ·rw [eS (l := [(4, _)]) ⟨z9 4 rfl, ⟨⟩⟩]
     refine yh (t := 32) rfl (vT h6) (jk (v1) rfl ?_)
     exact ⟨rfl, rfl, rfl⟩
    refine pD (fun W R z9 => ?_) ?_
    ·rw [eS (l := [(4, _), (5, _)]) ⟨z9 4 rfl, z9 5 rfl, ⟨⟩⟩]
     refine yh (t := 32) rfl (vT h6) (jq 0 qU js rfl rfl rfl hv1.slv (by omega) (Nat.mul_one _) ?_)
     exact ⟨rfl, rfl, rfl⟩
    refine pD (fun W R z9 => ?_) ?_
    ·rw [eS (l := [(4, _), (6, _)]) ⟨z9 4 rfl, z9 6 rfl, ⟨⟩⟩]
     refine yh (t := 32) rfl (vT h6) (jj yd rfl (hv1.rd (by omega)) ?_)
     exact ⟨rfl, rfl, rfl⟩
    refine pD (fun W R z9 => ?_) ?_
    ·rw [eS (l := [(4, _), (7, _)]) ⟨z9 4 rfl, z9 7 rfl, ⟨⟩⟩]
     refine yh (t := 32) rfl (vT h6) (XOp.geq rfl rfl ?_)
     exact ⟨rfl, rfl, rfl⟩
    refine pD (fun W R z9 => ?_) ?_
    ·rw [eS (l := [(4, _), (8, _)]) ⟨z9 4 rfl, z9 8 rfl, ⟨⟩⟩]
     refine yh (t := 32) rfl (vT h6) (jk (.bool (decide ((u1.getD 0 0 : Int) ≥ 0))) rfl ?_)
     exact ⟨rfl, rfl, rfl⟩
    refine pD (fun W R z9 => ?_) ?_
    ·rw [eS (l := [(9, _)]) ⟨z9 9 rfl, ⟨⟩⟩]
     exact yA (t := 37) rfl (vT h7) ⟨rfl, rfl, rfl⟩
    refine pD (fun W R z9 => ?_) ?_
    ·rw [eS (l := [(9, _), (10, undef)]) ⟨z9 9 rfl, z9 10 rfl, ⟨⟩⟩]
     exact yA (t := 37) rfl (vT h7) ⟨rfl, rfl, rfl⟩
    refine pD (fun W R z9 => ?_) ?_
    ·rw [eS (l := [(9, _), (11, undef)]) ⟨z9 9 rfl, z9 11 rfl, ⟨⟩⟩]
     exact yA (t := 37) rfl (vT h7) ⟨rfl, rfl, rfl⟩
    refine pD (fun W R z9 => ?_) ?_
    ·rw [eS (l := [(9, _)]) ⟨z9 9 rfl, ⟨⟩⟩]
     exact yA (t := 37) rfl (vT h7) ⟨rfl, rfl, rfl⟩
    refine pD (fun W R z9 => ?_) ?_
    ·rw [eS (l := [(9, _), (13, undef)]) ⟨z9 9 rfl, z9 13 rfl, ⟨⟩⟩]
     exact yA (t := 37) rfl (vT h7) ⟨rfl, rfl, rfl⟩
    refine pD (fun W R z9 => ?_) ?_
    ·rw [eS (l := [(9, _), (14, undef)]) ⟨z9 9 rfl, z9 14 rfl, ⟨⟩⟩]
     exact yA (t := 37) rfl (vT h7) ⟨rfl, rfl, rfl⟩
    exact stepsP.nil
   intro W hphi
   rw [eS (l := [(4, _), (9, _), (12, undef), (15, undef)]) ⟨(hphi 4 (by decide)), (hphi 9 (by decide)), (hphi 12 (by decide)), (hphi 15 (by decide)), ⟨⟩⟩]
   show XL _ _ _ _ _ _ _ (cellsH ub (arv :: bs) 200 :: L)
   refine jA (t := 37) rfl (vT h7) (jB (t := 32) rfl (vT h6) (yp (.bool (true)) (vT h7) rfl (cX (yp (.bool (true)) (vT h6) rfl (qI (yX rfl (qH (jb (v2) rfl (jb (v1) rfl (jc (v2) rfl (jc (v1) rfl ?_)))))))))))
   refine qI (qX (qX (qH ?_)))
   have hrx := hru2
   have hry := hru1
   have hnx := hn2
   have hny := hn1
   have hwx := hrx.w
   have hwy := hry.w
   have hxl := hrx.w.len
   have hyl := hry.w.len
   have hxg := hrx.w.geD (p := 0) (by omega)
   have hyg := hry.w.geD (p := 0) (by omega)
   have hbl := hb.len
   skip
   refine jb (v2) rfl (cX (jq 0 qU js rfl rfl rfl hv2.slv (by omega) (Nat.mul_one _) (cX (jj yd rfl (hv2.rd (by omega)) (cX (yo rfl rfl (qI (yX (vT h6) (qX (qX (qH (jb (v1) rfl (cX (jq 0 qU js rfl rfl rfl hv1.slv (by omega) (Nat.mul_one _) (cX (jj yd rfl (hv1.rd (by omega)) ?_))))))))))))))))
   refine cX (XOp.geq rfl rfl (jb (.bool (decide ((u1.getD 0 0 : Int) ≥ 0))) rfl (jB (t := 57) rfl (vT h7) (jk (ptr ub 0) rfl (jB (t := 57) rfl (vT h7) (jk (v2) rfl (jB (t := 57) rfl (vT h7) (jq 0 qU js rfl rfl rfl hv2.slv (by omega) (Nat.mul_one _) (jB (t := 57) rfl (vT h7) (jj yd rfl (hv2.rd (by omega)) (jB (t := 57) rfl (vT h7) (jk (v1) rfl (jB (t := 57) rfl (vT h7) (XOp.build0 (bools (List.replicate 48 false)) runUnderlying241 ⟨_, sizeOf4⟩ zeroValue241 rfl (jB (t := 57) rfl (vT h7) (yD (bools (List.replicate 48 false)) rfl rfl ?_))))))))))))))))
   intro b2
   have hl1 : (List.replicate 48 false).length = 48 := rfl
   have hx0 : u2.getD 0 0 < 0 := by omega
   obtain ⟨ρ9, hρ9⟩ := hb.acyc
   obtain ⟨k9, hk9⟩ := maxRank u1 ρ9
   refine yK (ye (A := [_])) ?_
   show XL _ _ _ _ _ _ _ (cellsH ub (arv :: bs) 200 :: cellsH b2 (bools ((List.replicate 48 false))) 241 :: L)
   refine jB (t := 57) rfl (vT h7) (jL (args := [ptr ub 0, ii (u2.getD 0 0), v1, ptr b2 0]) call249 rfl (occurs_spec k9 har hbc (by assumption) hv1 hσ hρ9 hx0 (hrx.top.resolve_left (by omega)) (fun m hm _ => hk9 m hm) (fun i hi => hry.w.geD hi) hyl.2 hl1 ClearM.nils) ?_)
   rintro _ _ _ _ ⟨s1, rfl, hs4, hm1, rfl, rfl⟩
   refine cX (yp (.bool (decide (u2.getD 0 0 ∈ ap σ u1))) (vT h7) rfl (qI ?_))
   refine jV (p := u2.getD 0 0 ∈ ap σ u1) rfl (fun h8 => ?_) (fun h8 => ?_)
   ·have hoy := h8
    refine qH ?_
    skip
    refine cX (yJ [] [] [] [] Qt zeroValue230 rfl PlacesAre.nil rfl CellsAre.nil (cX (XOp.iface Qt rfl (yK ((sC (sD sR))) (XL.panicI rfl ?_)))))
    exact .inr ⟨_, rfl, _, _, rfl, hbc, (no_swap (occ_eq hb hσ hrx hry (by omega) (by omega) hoy)), rfl⟩
   have hoy := h8
   refine jU (qX ?_)
   refine yN [cellsH ub (arv :: bs) 200, cellsH b2 (bools s1) 241] L 8 [] [[], [], [1], [2], [3], [], [0], [6]] (phiL [qe (ptr ub 0), qe v2, qe (.pointer (some (elemA v2 (0)))), qe (ii (u2.getD 0 0)), qe (ii ((-1) - (u2.getD 0 0))), qe v1, qe (ptr ub 0), qe (ptr ub 1)]) (ownL []) mixed rfl rfl (by kernel_rfl) ?_ ?_
   ·refine pD (fun W R z9 => ?_) ?_
    ·refine je (jk (ptr ub 0) rfl ?_)
     exact ⟨rfl, rfl, rfl⟩
    refine pD (fun W R z9 => ?_) ?_
    ·refine je (jk (v2) rfl ?_)
     exact ⟨rfl, rfl, rfl⟩
    refine pD (fun W R z9 => ?_) ?_
    ·rw [eS (l := [(1, _)]) ⟨z9 1 rfl, ⟨⟩⟩]
     refine je (jq 0 qU js rfl rfl rfl hv2.slv (by omega) (Nat.mul_one _) ?_)
     exact ⟨rfl, rfl, rfl⟩
    refine pD (fun W R z9 => ?_) ?_
    ·rw [eS (l := [(2, _)]) ⟨z9 2 rfl, ⟨⟩⟩]
     refine je (jj yd rfl (hv2.rd (by omega)) ?_)
     exact ⟨rfl, rfl, rfl⟩
    refine pD (fun W R z9 => ?_) ?_
    ·rw [eS (l := [(3, _)]) ⟨z9 3 rfl, ⟨⟩⟩]
     refine je (yx ((-1) - (u2.getD 0 0)) rfl rfl (by omega) (by omega) ?_)
     exact ⟨rfl, rfl, rfl⟩
    refine pD (fun W R z9 => ?_) ?_
    ·refine je (jk (v1) rfl ?_)
     exact ⟨rfl, rfl, rfl⟩
    refine pD (fun W R z9 => ?_) ?_
    ·rw [eS (l := [(0, _)]) ⟨z9 0 rfl, ⟨⟩⟩]
     refine je (yw rfl ?_)
     exact ⟨rfl, rfl, rfl⟩
    refine pD (fun W R z9 => ?_) ?_
    ·rw [eS (l := [(6, _)]) ⟨z9 6 rfl, ⟨⟩⟩]
     refine je (jE (1) Qa rfl sizeOf198 (by decide) rfl rfl ?_)
     exact ⟨rfl, rfl, rfl⟩
    exact stepsP.nil
   intro W hphi
   rw [eS (l := [(4, _), (5, _), (7, _)]) ⟨(hphi 4 (by decide)), (hphi 5 (by decide)), (hphi 7 (by decide)), ⟨⟩⟩]
   show XL _ _ _ _ _ _ _ (cellsH ub (arv :: bs) 200 :: cellsH b2 (bools s1) 241 :: L)
   refine cX (XOp.indexA (i := (-1) - (u2.getD 0 0)) (((-1) - (u2.getD 0 0)).toNat) (1 + (((-1) - (u2.getD 0 0)).toNat)) Qs jF rfl rfl (by omega) (by omega) (by omega) (cX (Qb [] _ (arv :: (bs.set (((-1) - (u2.getD 0 0)).toNat) v1)) jF rfl rfl (yE (yi hv1)) rfl (blt_1 (by have := CO.len hbc; (try simp only [List.length_set, List.length_replicate] at this ⊢) <;> omega)) set_1 ?_)))
   have hc1 := hbc.set (((-1) - (u2.getD 0 0)).toNat) hv1 (by rw [hny]; exact (decide_eq_false hry.w.ne).symm)
   refine qI (jW (jw (retEndP (L' := cellsH ub (arv :: ((bs.set (((-1) - (u2.getD 0 0)).toNat) v1))) 200 :: L) [] (.tuple #[]) (by exact .nil) rfl rF rF (sC (sD sR)) ?_)))
   exact ⟨_, _, rfl, hc1, (Solves.swap (bind_eq hb hσ hrx hry (by omega) (by first | exact hoy | exact bind_var hσ hry (by omega) (by omega)))), rfl⟩
  refine yN [cellsH ub (arv :: bs) 200] L 16 [] [[], [0], [1], [2], [3], [4], [4, 5], [4, 6], [4, 7], [4, 8], [9], [9, 10], [9, 11], [9], [9, 13], [9, 14]] (phiL [qe v2, qe (.pointer (some (elemA v2 (0)))), qe (ii (u2.getD 0 0)), qe (.bool (decide ((u2.getD 0 0 : Int) < 0)) : Value), qe (.bool (decide ((u2.getD 0 0 : Int) < 0)) : Value), qe v1, qe (.pointer (some (elemA v1 (0)))), qe (ii (u1.getD 0 0)), qe (.bool (decide ((u1.getD 0 0 : Int) ≥ 0)) : Value), qe (.bool (decide ((u1.getD 0 0 : Int) ≥ 0)) : Value), qe v2, qe (.pointer (some (elemA v2 (0)))), qe (ii (u2.getD 0 0)), qe v1, qe (.pointer (some (elemA v1 (0)))), qe (ii (u1.getD 0 0))]) (ownL []) mixed rfl rfl (by kernel_rfl) ?_ ?_
  ·refine pD (fun W R z9 => ?_) ?_
   ·refine je (jk (v2) rfl ?_)
    exact ⟨rfl, rfl, rfl⟩
   refine pD (fun W R z9 => ?_) ?_
   ·rw [eS (l := [(0, _)]) ⟨z9 0 rfl, ⟨⟩⟩]
    refine je (jq 0 qU js rfl rfl rfl hv2.slv (by omega) (Nat.mul_one _) ?_)
    exact ⟨rfl, rfl, rfl⟩
   refine pD (fun W R z9 => ?_) ?_
   ·rw [eS (l := [(1, _)]) ⟨z9 1 rfl, ⟨⟩⟩]
    refine je (jj yd rfl (hv2.rd (by omega)) ?_)
    exact ⟨rfl, rfl, rfl⟩
   refine pD (fun W R z9 => ?_) ?_
   ·rw [eS (l := [(2, _)]) ⟨z9 2 rfl, ⟨⟩⟩]
    refine je (yo rfl rfl ?_)
    exact ⟨rfl, rfl, rfl⟩
   refine pD (fun W R z9 => ?_) ?_
   ·rw [eS (l := [(3, _)]) ⟨z9 3 rfl, ⟨⟩⟩]
    refine je (jk (.bool (decide ((u2.getD 0 0 : Int) < 0))) rfl ?_)
    exact ⟨rfl, rfl, rfl⟩
   refine pD (fun W R z9 => ?_) ?_
   ·rw [eS (l := [(4, _)]) ⟨z9 4 rfl, ⟨⟩⟩]
    refine yh (t := 32) rfl (vT h6) (jk (v1) rfl ?_)
    exact ⟨rfl, rfl, rfl⟩
   refine pD (fun W R z9 => ?_) ?_
   ·rw [eS (l := [(4, _), (5, _)]) ⟨z9 4 rfl, z9 5 rfl, ⟨⟩⟩]
    refine yh (t := 32) rfl (vT h6) (jq 0 qU js rfl rfl rfl hv1.slv (by omega) (Nat.mul_one _) ?_)
    exact ⟨rfl, rfl, rfl⟩
   refine pD (fun W R z9 => ?_) ?_
   ·rw [eS (l := [(4, _), (6, _)]) ⟨z9 4 rfl, z9 6 rfl, ⟨⟩⟩]
    refine yh (t := 32) rfl (vT h6) (jj yd rfl (hv1.rd (by omega)) ?_)
    exact ⟨rfl, rfl, rfl⟩
   refine pD (fun W R z9 => ?_) ?_
   ·rw [eS (l := [(4, _), (7, _)]) ⟨z9 4 rfl, z9 7 rfl, ⟨⟩⟩]
    refine yh (t := 32) rfl (vT h6) (XOp.geq rfl rfl ?_)
    exact ⟨rfl, rfl, rfl⟩
   refine pD (fun W R z9 => ?_) ?_
   ·rw [eS (l := [(4, _), (8, _)]) ⟨z9 4 rfl, z9 8 rfl, ⟨⟩⟩]
    refine yh (t := 32) rfl (vT h6) (jk (.bool (decide ((u1.getD 0 0 : Int) ≥ 0))) rfl ?_)
    exact ⟨rfl, rfl, rfl⟩
   refine pD (fun W R z9 => ?_) ?_
   ·rw [eS (l := [(9, _)]) ⟨z9 9 rfl, ⟨⟩⟩]
    refine yh (t := 37) rfl (vF h7) (jk (v2) rfl ?_)
    exact ⟨rfl, rfl, rfl⟩
   refine pD (fun W R z9 => ?_) ?_
   ·rw [eS (l := [(9, _), (10, _)]) ⟨z9 9 rfl, z9 10 rfl, ⟨⟩⟩]
    refine yh (t := 37) rfl (vF h7) (jq 0 qU js rfl rfl rfl hv2.slv (by omega) (Nat.mul_one _) ?_)
    exact ⟨rfl, rfl, rfl⟩
   refine pD (fun W R z9 => ?_) ?_
   ·rw [eS (l := [(9, _), (11, _)]) ⟨z9 9 rfl, z9 11 rfl, ⟨⟩⟩]
    refine yh (t := 37) rfl (vF h7) (jj yd rfl (hv2.rd (by omega)) ?_)
    exact ⟨rfl, rfl, rfl⟩
   refine pD (fun W R z9 => ?_) ?_
   ·rw [eS (l := [(9, _)]) ⟨z9 9 rfl, ⟨⟩⟩]
    refine yh (t := 37) rfl (vF h7) (jk (v1) rfl ?_)
    exact ⟨rfl, rfl, rfl⟩
   refine pD (fun W R z9 => ?_) ?_
   ·rw [eS (l := [(9, _), (13, _)]) ⟨z9 9 rfl, z9 13 rfl, ⟨⟩⟩]
    refine yh (t := 37) rfl (vF h7) (jq 0 qU js rfl rfl rfl hv1.slv (by omega) (Nat.mul_one _) ?_)
    exact ⟨rfl, rfl, rfl⟩
   refine pD (fun W R z9 => ?_) ?_
   ·rw [eS (l := [(9, _), (14, _)]) ⟨z9 9 rfl, z9 14 rfl, ⟨⟩⟩]
    refine yh (t := 37) rfl (vF h7) (jj yd rfl (hv1.rd (by omega)) ?_)
    exact ⟨rfl, rfl, rfl⟩
   exact stepsP.nil
  intro W hphi
  rw [eS (l := [(4, _), (9, _), (12, _), (15, _)]) ⟨(hphi 4 (by decide)), (hphi 9 (by decide)), (hphi 12 (by decide)), (hphi 15 (by decide)), ⟨⟩⟩]
  show XL _ _ _ _ _ _ _ (cellsH ub (arv :: bs) 200 :: L)
  refine jB (t := 37) rfl (vF h7) (yo rfl rfl (jB (t := 32) rfl (vT h6) (yl (.bool (decide ((u2.getD 0 0 : Int) < u1.getD 0 0))) (vF h7) rfl (cX (yp (.bool (decide ((u2.getD 0 0 : Int) < u1.getD 0 0))) (vT h6) rfl (qI ?_))))))
  refine jV (p := (u2.getD 0 0 : Int) < u1.getD 0 0) rfl (fun h9 => ?_) (fun h9 => ?_)
  ·refine qH (jb (v2) rfl (jb (v1) rfl (jc (v2) rfl (jc (v1) rfl (qI (qX (qX (qH ?_))))))))
   have hrx := hru2
   have hry := hru1
   have hnx := hn2
   have hny := hn1
   have hwx := hrx.w
   have hwy := hry.w
   have hxl := hrx.w.len
   have hyl := hry.w.len
   have hxg := hrx.w.geD (p := 0) (by omega)
   have hyg := hry.w.geD (p := 0) (by omega)
   have hbl := hb.len
   skip
   refine jb (v2) rfl (cX (jq 0 qU js rfl rfl rfl hv2.slv (by omega) (Nat.mul_one _) (cX (jj yd rfl (hv2.rd (by omega)) (cX (yo rfl rfl (qI (yX (vT h6) (qX (qX (qH (jb (v1) rfl (cX (jq 0 qU js rfl rfl rfl hv1.slv (by omega) (Nat.mul_one _) (cX (jj yd rfl (hv1.rd (by omega)) ?_))))))))))))))))
   refine cX (XOp.geq rfl rfl (jb (.bool (decide ((u1.getD 0 0 : Int) ≥ 0))) rfl (jA (t := 57) rfl (vF h7) (jA (t := 57) rfl (vF h7) (jA (t := 57) rfl (vF h7) (jA (t := 57) rfl (vF h7) (jA (t := 57) rfl (vF h7) (jA (t := 57) rfl (vF h7) (jA (t := 57) rfl (vF h7) (jA (t := 57) rfl (vF h7) ?_))))))))))
   refine cX (yl (.bool (false)) (vF h7) rfl (qI (yV rfl (jU (qX ?_)))))
   refine yN [cellsH ub (arv :: bs) 200] L 8 [] [[], [], [1], [2], [3], [], [0], [6]] (phiL [qe (ptr ub 0), qe v2, qe (.pointer (some (elemA v2 (0)))), qe (ii (u2.getD 0 0)), qe (ii ((-1) - (u2.getD 0 0))), qe v1, qe (ptr ub 0), qe (ptr ub 1)]) (ownL []) mixed rfl rfl (by kernel_rfl) ?_ ?_
   ·refine pD (fun W R z9 => ?_) ?_
    ·refine je (jk (ptr ub 0) rfl ?_)
     exact ⟨rfl, rfl, rfl⟩
    refine pD (fun W R z9 => ?_) ?_
    ·refine je (jk (v2) rfl ?_)
     exact ⟨rfl, rfl, rfl⟩
    refine pD (fun W R z9 => ?_) ?_
    ·rw [eS (l := [(1, _)]) ⟨z9 1 rfl, ⟨⟩⟩]
     refine je (jq 0 qU js rfl rfl rfl hv2.slv (by omega) (Nat.mul_one _) ?_)
     exact ⟨rfl, rfl, rfl⟩
    refine pD (fun W R z9 => ?_) ?_
    ·rw [eS (l := [(2, _)]) ⟨z9 2 rfl, ⟨⟩⟩]
     refine je (jj yd rfl (hv2.rd (by omega)) ?_)
     exact ⟨rfl, rfl, rfl⟩
    refine pD (fun W R z9 => ?_) ?_
    ·rw [eS (l := [(3, _)]) ⟨z9 3 rfl, ⟨⟩⟩]
     refine je (yx ((-1) - (u2.getD 0 0)) rfl rfl (by omega) (by omega) ?_)
     exact ⟨rfl, rfl, rfl⟩
    refine pD (fun W R z9 => ?_) ?_
    ·refine je (jk (v1) rfl ?_)
     exact ⟨rfl, rfl, rfl⟩
    refine pD (fun W R z9 => ?_) ?_
    ·rw [eS (l := [(0, _)]) ⟨z9 0 rfl, ⟨⟩⟩]
     refine je (yw rfl ?_)
     exact ⟨rfl, rfl, rfl⟩
    refine pD (fun W R z9 => ?_) ?_
    ·rw [eS (l := [(6, _)]) ⟨z9 6 rfl, ⟨⟩⟩]
     refine je (jE (1) Qa rfl sizeOf198 (by decide) rfl rfl ?_)
     exact ⟨rfl, rfl, rfl⟩
    exact stepsP.nil
   intro W hphi
   rw [eS (l := [(4, _), (5, _), (7, _)]) ⟨(hphi 4 (by decide)), (hphi 5 (by decide)), (hphi 7 (by decide)), ⟨⟩⟩]
   show XL _ _ _ _ _ _ _ (cellsH ub (arv :: bs) 200 :: L)
   refine cX (XOp.indexA (i := (-1) - (u2.getD 0 0)) (((-1) - (u2.getD 0 0)).toNat) (1 + (((-1) - (u2.getD 0 0)).toNat)) Qs jF rfl rfl (by omega) (by omega) (by omega) (cX (Qb [] _ (arv :: (bs.set (((-1) - (u2.getD 0 0)).toNat) v1)) jF rfl rfl (yE (yi hv1)) rfl (blt_1 (by have := CO.len hbc; (try simp only [List.length_set, List.length_replicate] at this ⊢) <;> omega)) set_1 ?_)))
   have hc2 := hbc.set (((-1) - (u2.getD 0 0)).toNat) hv1 (by rw [hny]; exact (decide_eq_false hry.w.ne).symm)
   refine qI (jW (jw (retEndP (L' := cellsH ub (arv :: ((bs.set (((-1) - (u2.getD 0 0)).toNat) v1))) 200 :: L) [] (.tuple #[]) (by exact .nil) rfl rF rF (sC sR) ?_)))
   exact ⟨_, _, rfl, hc2, (Solves.swap (bind_eq hb hσ hrx hry (by omega) (by first | exact hoy | exact bind_var hσ hry (by omega) (by omega)))), rfl⟩
  refine jU (qX (qX (qH ?_)))
  have hrx := hru1
  have hry := hru2
  have hnx := hn1
  have hny := hn2
  have hwx := hrx.w
  have hwy := hry.w
  have hxl := hrx.w.len
  have hyl := hry.w.len
  have hxg := hrx.w.geD (p := 0) (by omega)
  have hyg := hry.w.geD (p := 0) (by omega)
  have hbl := hb.len
  skip
  refine jb (v1) rfl (cX (jq 0 qU js rfl rfl rfl hv1.slv (by omega) (Nat.mul_one _) (cX (jj yd rfl (hv1.rd (by omega)) (cX (yo rfl rfl (qI ?_)))))))
  refine jV (p := (u1.getD 0 0 : Int) < 0) rfl (fun h10 => ?_) (fun h10 => ?_)
  ·refine qX (qX (qH (jb (v2) rfl (cX (jq 0 qU js rfl rfl rfl hv2.slv (by omega) (Nat.mul_one _) (cX (jj yd rfl (hv2.rd (by omega)) (cX (XOp.geq rfl rfl (jb (.bool (decide ((u2.getD 0 0 : Int) ≥ 0))) rfl ?_))))))))))
   by_cases h11 : (u2.getD 0 0 : Int) ≥ 0
   ·refine jB (t := 57) rfl (vT h11) (jk (ptr ub 0) rfl (jB (t := 57) rfl (vT h11) (jk (v1) rfl (jB (t := 57) rfl (vT h11) (jq 0 qU js rfl rfl rfl hv1.slv (by omega) (Nat.mul_one _) (jB (t := 57) rfl (vT h11) (jj yd rfl (hv1.rd (by omega)) (jB (t := 57) rfl (vT h11) (jk (v2) rfl (jB (t := 57) rfl (vT h11) (XOp.build0 (bools (List.replicate 48 false)) runUnderlying241 ⟨_, sizeOf4⟩ zeroValue241 rfl (jB (t := 57) rfl (vT h11) (yD (bools (List.replicate 48 false)) rfl rfl ?_)))))))))))))
    intro b3
    have hl2 : (List.replicate 48 false).length = 48 := rfl
    have hx0 : u1.getD 0 0 < 0 := by omega
    obtain ⟨ρ9, hρ9⟩ := hb.acyc
    obtain ⟨k9, hk9⟩ := maxRank u2 ρ9
    refine yK (ye (A := [_])) ?_
    show XL _ _ _ _ _ _ _ (cellsH ub (arv :: bs) 200 :: cellsH b3 (bools ((List.replicate 48 false))) 241 :: L)
    refine jB (t := 57) rfl (vT h11) (jL (args := [ptr ub 0, ii (u1.getD 0 0), v2, ptr b3 0]) call249 rfl (occurs_spec k9 har hbc (by assumption) hv2 hσ hρ9 hx0 (hrx.top.resolve_left (by omega)) (fun m hm _ => hk9 m hm) (fun i hi => hry.w.geD hi) hyl.2 hl2 ClearM.nils) ?_)
    rintro _ _ _ _ ⟨s2, rfl, hs5, hm2, rfl, rfl⟩
    refine cX (yp (.bool (decide (u1.getD 0 0 ∈ ap σ u2))) (vT h11) rfl (qI ?_))
    refine jV (p := u1.getD 0 0 ∈ ap σ u2) rfl (fun h12 => ?_) (fun h12 => ?_)
    ·have hoy := h12
     refine qH ?_
     skip
     refine cX (yJ [] [] [] [] Qt zeroValue230 rfl PlacesAre.nil rfl CellsAre.nil (cX (XOp.iface Qt rfl (yK ((sC (sD sR))) (XL.panicI rfl ?_)))))
     exact .inr ⟨_, rfl, _, _, rfl, hbc, (occ_eq hb hσ hrx hry (by omega) (by omega) hoy), rfl⟩
    have hoy := h12
    refine jU (qX ?_)
    refine yN [cellsH ub (arv :: bs) 200, cellsH b3 (bools s2) 241] L 8 [] [[], [], [1], [2], [3], [], [0], [6]] (phiL [qe (ptr ub 0), qe v1, qe (.pointer (some (elemA v1 (0)))), qe (ii (u1.getD 0 0)), qe (ii ((-1) - (u1.getD 0 0))), qe v2, qe (ptr ub 0), qe (ptr ub 1)]) (ownL []) mixed rfl rfl (by kernel_rfl) ?_ ?_
    ·refine pD (fun W R z9 => ?_) ?_
     ·refine je (jk (ptr ub 0) rfl ?_)
      exact ⟨rfl, rfl, rfl⟩
     refine pD (fun W R z9 => ?_) ?_
     ·refine je (jk (v1) rfl ?_)
      exact ⟨rfl, rfl, rfl⟩
     refine pD (fun W R z9 => ?_) ?_
     ·rw [eS (l := [(1, _)]) ⟨z9 1 rfl, ⟨⟩⟩]
      refine je (jq 0 qU js rfl rfl rfl hv1.slv (by omega) (Nat.mul_one _) ?_)
      exact ⟨rfl, rfl, rfl⟩
     refine pD (fun W R z9 => ?_) ?_
     ·rw [eS (l := [(2, _)]) ⟨z9 2 rfl, ⟨⟩⟩]
      refine je (jj yd rfl (hv1.rd (by omega)) ?_)
      exact ⟨rfl, rfl, rfl⟩
     refine pD (fun W R z9 => ?_) ?_
     ·rw [eS (l := [(3, _)]) ⟨z9 3 rfl, ⟨⟩⟩]
      refine je (yx ((-1) - (u1.getD 0 0)) rfl rfl (by omega) (by omega) ?_)
      exact ⟨rfl, rfl, rfl⟩
     refine pD (fun W R z9 => ?_) ?_
     ·refine je (jk (v2) rfl ?_)
      exact ⟨rfl, rfl, rfl⟩
     refine pD (fun W R z9 => ?_) ?_
     ·rw [eS (l := [(0, _)]) ⟨z9 0 rfl, ⟨⟩⟩]
      refine je (yw rfl ?_)
      exact ⟨rfl, rfl, rfl⟩
     refine pD (fun W R z9 => ?_) ?_
     ·rw [eS (l := [(6, _)]) ⟨z9 6 rfl, ⟨⟩⟩]
      refine je (jE (1) Qa rfl sizeOf198 (by decide) rfl rfl ?_)
      exact ⟨rfl, rfl, rfl⟩
     exact stepsP.nil
    intro W hphi
    rw [eS (l := [(4, _), (5, _), (7, _)]) ⟨(hphi 4 (by decide)), (hphi 5 (by decide)), (hphi 7 (by decide)), ⟨⟩⟩]
    show XL _ _ _ _ _ _ _ (cellsH ub (arv :: bs) 200 :: cellsH b3 (bools s2) 241 :: L)
    refine cX (XOp.indexA (i := (-1) - (u1.getD 0 0)) (((-1) - (u1.getD 0 0)).toNat) (1 + (((-1) - (u1.getD 0 0)).toNat)) Qs jF rfl rfl (by omega) (by omega) (by omega) (cX (Qb [] _ (arv :: (bs.set (((-1) - (u1.getD 0 0)).toNat) v2)) jF rfl rfl (yE (yi hv2)) rfl (blt_1 (by have := CO.len hbc; (try simp only [List.length_set, List.length_replicate] at this ⊢) <;> omega)) set_1 ?_)))
    have hc3 := hbc.set (((-1) - (u1.getD 0 0)).toNat) hv2 (by rw [hny]; exact (decide_eq_false hry.w.ne).symm)
    refine qI (jW (jw (retEndP (L' := cellsH ub (arv :: ((bs.set (((-1) - (u1.getD 0 0)).toNat) v2))) 200 :: L) [] (.tuple #[]) (by exact .nil) rfl rF rF (sC (sD sR)) ?_)))
    exact ⟨_, _, rfl, hc3, (bind_eq hb hσ hrx hry (by omega) (by first | exact hoy | exact bind_var hσ hry (by omega) (by omega))), rfl⟩
   refine jA (t := 57) rfl (vF h11) (jA (t := 57) rfl (vF h11) (jA (t := 57) rfl (vF h11) (jA (t := 57) rfl (vF h11) (jA (t := 57) rfl (vF h11) (jA (t := 57) rfl (vF h11) (jA (t := 57) rfl (vF h11) (jA (t := 57) rfl (vF h11) (cX (yl (.bool (false)) (vF h11) rfl (qI ?_))))))))))
   refine yV rfl (jU (qX ?_))
   refine yN [cellsH ub (arv :: bs) 200] L 8 [] [[], [], [1], [2], [3], [], [0], [6]] (phiL [qe (ptr ub 0), qe v1, qe (.pointer (some (elemA v1 (0)))), qe (ii (u1.getD 0 0)), qe (ii ((-1) - (u1.getD 0 0))), qe v2, qe (ptr ub 0), qe (ptr ub 1)]) (ownL []) mixed rfl rfl (by kernel_rfl) ?_ ?_
   ·refine pD (fun W R z9 => ?_) ?_
    ·refine je (jk (ptr ub 0) rfl ?_)
     exact ⟨rfl, rfl, rfl⟩
    refine pD (fun W R z9 => ?_) ?_
    ·refine je (jk (v1) rfl ?_)
     exact ⟨rfl, rfl, rfl⟩
    refine pD (fun W R z9 => ?_) ?_
    ·rw [eS (l := [(1, _)]) ⟨z9 1 rfl, ⟨⟩⟩]
     refine je (jq 0 qU js rfl rfl rfl hv1.slv (by omega) (Nat.mul_one _) ?_)
     exact ⟨rfl, rfl, rfl⟩
    refine pD (fun W R z9 => ?_) ?_
    ·rw [eS (l := [(2, _)]) ⟨z9 2 rfl, ⟨⟩⟩]
     refine je (jj yd rfl (hv1.rd (by omega)) ?_)
     exact ⟨rfl, rfl, rfl⟩
    refine pD (fun W R z9 => ?_) ?_
    ·rw [eS (l := [(3, _)]) ⟨z9 3 rfl, ⟨⟩⟩]
     refine je (yx ((-1) - (u1.getD 0 0)) rfl rfl (by omega) (by omega) ?_)
     exact ⟨rfl, rfl, rfl⟩
    refine pD (fun W R z9 => ?_) ?_
    ·refine je (jk (v2) rfl ?_)
     exact ⟨rfl, rfl, rfl⟩
    refine pD (fun W R z9 => ?_) ?_
    ·rw [eS (l := [(0, _)]) ⟨z9 0 rfl, ⟨⟩⟩]
     refine je (yw rfl ?_)
     exact ⟨rfl, rfl, rfl⟩
    refine pD (fun W R z9 => ?_) ?_
    ·rw [eS (l := [(6, _)]) ⟨z9 6 rfl, ⟨⟩⟩]
     refine je (jE (1) Qa rfl sizeOf198 (by decide) rfl rfl ?_)
     exact ⟨rfl, rfl, rfl⟩
    exact stepsP.nil
   intro W hphi
   rw [eS (l := [(4, _), (5, _), (7, _)]) ⟨(hphi 4 (by decide)), (hphi 5 (by decide)), (hphi 7 (by decide)), ⟨⟩⟩]
   show XL _ _ _ _ _ _ _ (cellsH ub (arv :: bs) 200 :: L)
   refine cX (XOp.indexA (i := (-1) - (u1.getD 0 0)) (((-1) - (u1.getD 0 0)).toNat) (1 + (((-1) - (u1.getD 0 0)).toNat)) Qs jF rfl rfl (by omega) (by omega) (by omega) (cX (Qb [] _ (arv :: (bs.set (((-1) - (u1.getD 0 0)).toNat) v2)) jF rfl rfl (yE (yi hv2)) rfl (blt_1 (by have := CO.len hbc; (try simp only [List.length_set, List.length_replicate] at this ⊢) <;> omega)) set_1 ?_)))
   have hc4 := hbc.set (((-1) - (u1.getD 0 0)).toNat) hv2 (by rw [hny]; exact (decide_eq_false hry.w.ne).symm)
   refine qI (jW (jw (retEndP (L' := cellsH ub (arv :: ((bs.set (((-1) - (u1.getD 0 0)).toNat) v2))) 200 :: L) [] (.tuple #[]) (by exact .nil) rfl rF rF (sC sR) ?_)))
   exact ⟨_, _, rfl, hc4, (bind_eq hb hσ hrx hry (by omega) (by first | exact hoy | exact bind_var hσ hry (by omega) (by omega))), rfl⟩
  exfalso
  omega
 refine yN [cellsH ub (arv :: bs) 200] L 16 [] [[], [0], [1], [2], [3], [4], [4, 5], [4, 6], [4, 7], [4, 8], [9], [9, 10], [9, 11], [9], [9, 13], [9, 14]] (phiL [qe v2, qe (.pointer (some (elemA v2 (0)))), qe (ii (u2.getD 0 0)), qe (.bool (decide ((u2.getD 0 0 : Int) < 0)) : Value), qe (.bool (decide ((u2.getD 0 0 : Int) < 0)) : Value), qe undef, qe undef, qe undef, qe undef, qe undef, qe undef, qe undef, qe undef, qe undef, qe undef, qe undef]) (ownL []) mixed rfl rfl (by kernel_rfl) ?_ ?_
 ·refine pD (fun W R z9 => ?_) ?_
  ·refine je (jk (v2) rfl ?_)
   exact ⟨rfl, rfl, rfl⟩
  refine pD (fun W R z9 => ?_) ?_
  ·rw [eS (l := [(0, _)]) ⟨z9 0 rfl, ⟨⟩⟩]
   refine je (jq 0 qU js rfl rfl rfl hv2.slv (by omega) (Nat.mul_one _) ?_)
   exact ⟨rfl, rfl, rfl⟩
  refine pD (fun W R z9 => ?_) ?_
  ·rw [eS (l := [(1, _)]) ⟨z9 1 rfl, ⟨⟩⟩]
   refine je (jj yd rfl (hv2.rd (by omega)) ?_)
   exact ⟨rfl, rfl, rfl⟩
  refine pD (fun W R z9 => ?_) ?_
  ·rw [eS (l := [(2, _)]) ⟨z9 2 rfl, ⟨⟩⟩]
   refine je (yo rfl rfl ?_)
   exact ⟨rfl, rfl, rfl⟩
  refine pD (fun W R z9 => ?_) ?_
  ·rw [eS (l := [(3, _)]) ⟨z9 3 rfl, ⟨⟩⟩]
   refine je (jk (.bool (decide ((u2.getD 0 0 : Int) < 0))) rfl ?_)
   exact ⟨rfl, rfl, rfl⟩
  refine pD (fun W R z9 => ?_) ?_
  ·rw [eS (l := [(4, _)]) ⟨z9 4 rfl, ⟨⟩⟩]
   exact yA (t := 32) rfl (vF h6) ⟨rfl, rfl, rfl⟩
  refine pD (fun W R z9 => ?_) ?_
  ·rw [eS (l := [(4, _), (5, undef)]) ⟨z9 4 rfl, z9 5 rfl, ⟨⟩⟩]
   exact yA (t := 32) rfl (vF h6) ⟨rfl, rfl, rfl⟩
  refine pD (fun W R z9 => ?_) ?_
  ·rw [eS (l := [(4, _), (6, undef)]) ⟨z9 4 rfl, z9 6 rfl, ⟨⟩⟩]
   exact yA (t := 32) rfl (vF h6) ⟨rfl, rfl, rfl⟩
  refine pD (fun W R z9 => ?_) ?_
  ·rw [eS (l := [(4, _), (7, undef)]) ⟨z9 4 rfl, z9 7 rfl, ⟨⟩⟩]
   exact yA (t := 32) rfl (vF h6) ⟨rfl, rfl, rfl⟩
  refine pD (fun W R z9 => ?_) ?_
  ·rw [eS (l := [(4, _), (8, undef)]) ⟨z9 4 rfl, z9 8 rfl, ⟨⟩⟩]
   exact yA (t := 32) rfl (vF h6) ⟨rfl, rfl, rfl⟩
  refine pD (fun W R z9 => ?_) ?_
  ·rw [eS (l := [(9, undef)]) ⟨z9 9 rfl, ⟨⟩⟩]
   exact XG.noU (t := 37) rfl rfl ⟨rfl, rfl, rfl⟩
  refine pD (fun W R z9 => ?_) ?_
  ·rw [eS (l := [(9, undef), (10, undef)]) ⟨z9 9 rfl, z9 10 rfl, ⟨⟩⟩]
   exact XG.noU (t := 37) rfl rfl ⟨rfl, rfl, rfl⟩
  refine pD (fun W R z9 => ?_) ?_
  ·rw [eS (l := [(9, undef), (11, undef)]) ⟨z9 9 rfl, z9 11 rfl, ⟨⟩⟩]
   exact XG.noU (t := 37) rfl rfl ⟨rfl, rfl, rfl⟩
  refine pD (fun W R z9 => ?_) ?_
  ·rw [eS (l := [(9, undef)]) ⟨z9 9 rfl, ⟨⟩⟩]
   exact XG.noU (t := 37) rfl rfl ⟨rfl, rfl, rfl⟩
  refine pD (fun W R z9 => ?_) ?_
  ·rw [eS (l := [(9, undef), (13, undef)]) ⟨z9 9 rfl, z9 13 rfl, ⟨⟩⟩]
   exact XG.noU (t := 37) rfl rfl ⟨rfl, rfl, rfl⟩
  refine pD (fun W R z9 => ?_) ?_
  ·rw [eS (l := [(9, undef), (14, undef)]) ⟨z9 9 rfl, z9 14 rfl, ⟨⟩⟩]
   exact XG.noU (t := 37) rfl rfl ⟨rfl, rfl, rfl⟩
  exact stepsP.nil
 intro W hphi
 rw [eS (l := [(4, _), (9, undef), (12, undef), (15, undef)]) ⟨(hphi 4 (by decide)), (hphi 9 (by decide)), (hphi 12 (by decide)), (hphi 15 (by decide)), ⟨⟩⟩]
 show XL _ _ _ _ _ _ _ (cellsH ub (arv :: bs) 200 :: L)
 refine XL.noU (t := 37) rfl rfl (jA (t := 32) rfl (vF h6) (cX (yl (.bool (false)) (vF h6) rfl (qI (yV rfl (jU (qX (qX (qH ?_)))))))))
 have hrx := hru1
 have hry := hru2
 have hnx := hn1
 have hny := hn2
 have hwx := hrx.w
 have hwy := hry.w
 have hxl := hrx.w.len
 have hyl := hry.w.len
 have hxg := hrx.w.geD (p := 0) (by omega)
 have hyg := hry.w.geD (p := 0) (by omega)
 have hbl := hb.len
 skip
 refine jb (v1) rfl (cX (jq 0 qU js rfl rfl rfl hv1.slv (by omega) (Nat.mul_one _) (cX (jj yd rfl (hv1.rd (by omega)) (cX (yo rfl rfl (qI ?_)))))))
 refine jV (p := (u1.getD 0 0 : Int) < 0) rfl (fun h13 => ?_) (fun h13 => ?_)
 ·refine qX (qX (qH (jb (v2) rfl (cX (jq 0 qU js rfl rfl rfl hv2.slv (by omega) (Nat.mul_one _) (cX (jj yd rfl (hv2.rd (by omega)) (cX (XOp.geq rfl rfl (jb (.bool (decide ((u2.getD 0 0 : Int) ≥ 0))) rfl ?_))))))))))
  by_cases h14 : (u2.getD 0 0 : Int) ≥ 0
  ·refine jB (t := 57) rfl (vT h14) (jk (ptr ub 0) rfl (jB (t := 57) rfl (vT h14) (jk (v1) rfl (jB (t := 57) rfl (vT h14) (jq 0 qU js rfl rfl rfl hv1.slv (by omega) (Nat.mul_one _) (jB (t := 57) rfl (vT h14) (jj yd rfl (hv1.rd (by omega)) (jB (t := 57) rfl (vT h14) (jk (v2) rfl (jB (t := 57) rfl (vT h14) (XOp.build0 (bools (List.replicate 48 false)) runUnderlying241 ⟨_, sizeOf4⟩ zeroValue241 rfl (jB (t := 57) rfl (vT h14) (yD (bools (List.replicate 48 false)) rfl rfl ?_)))))))))))))
   intro b4
   have hl3 : (List.replicate 48 false).length = 48 := rfl
   have hx0 : u1.getD 0 0 < 0 := by omega
   obtain ⟨ρ9, hρ9⟩ := hb.acyc
   obtain ⟨k9, hk9⟩ := maxRank u2 ρ9
   refine yK (ye (A := [_])) ?_
   show XL _ _ _ _ _ _ _ (cellsH ub (arv :: bs) 200 :: cellsH b4 (bools ((List.replicate 48 false))) 241 :: L)
   refine jB (t := 57) rfl (vT h14) (jL (args := [ptr ub 0, ii (u1.getD 0 0), v2, ptr b4 0]) call249 rfl (occurs_spec k9 har hbc (by assumption) hv2 hσ hρ9 hx0 (hrx.top.resolve_left (by omega)) (fun m hm _ => hk9 m hm) (fun i hi => hry.w.geD hi) hyl.2 hl3 ClearM.nils) ?_)
   rintro _ _ _ _ ⟨s3, rfl, hs6, hm3, rfl, rfl⟩
   refine cX (yp (.bool (decide (u1.getD 0 0 ∈ ap σ u2))) (vT h14) rfl (qI ?_))
   refine jV (p := u1.getD 0 0 ∈ ap σ u2) rfl (fun h15 => ?_) (fun h15 => ?_)
   ·have hoy := h15
    refine qH ?_
    skip
    refine cX (yJ [] [] [] [] Qt zeroValue230 rfl PlacesAre.nil rfl CellsAre.nil (cX (XOp.iface Qt rfl (yK ((sC (sD sR))) (XL.panicI rfl ?_)))))
    exact .inr ⟨_, rfl, _, _, rfl, hbc, (occ_eq hb hσ hrx hry (by omega) (by omega) hoy), rfl⟩
   have hoy := h15
   refine jU (qX ?_)
   refine yN [cellsH ub (arv :: bs) 200, cellsH b4 (bools s3) 241] L 8 [] [[], [], [1], [2], [3], [], [0], [6]] (phiL [qe (ptr ub 0), qe v1, qe (.pointer (some (elemA v1 (0)))), qe (ii (u1.getD 0 0)), qe (ii ((-1) - (u1.getD 0 0))), qe v2, qe (ptr ub 0), qe (ptr ub 1)]) (ownL []) mixed rfl rfl (by kernel_rfl) ?_ ?_
   ·refine pD (fun W R z9 => ?_) ?_
    ·refine je (jk (ptr ub 0) rfl ?_)
     exact ⟨rfl, rfl, rfl⟩
    refine pD (fun W R z9 => ?_) ?_
    ·refine je (jk (v1) rfl ?_)
     exact ⟨rfl, rfl, rfl⟩
    refine pD (fun W R z9 => ?_) ?_
    ·rw [eS (l := [(1, _)]) ⟨z9 1 rfl, ⟨⟩⟩]
     refine je (jq 0 qU js rfl rfl rfl hv1.slv (by omega) (Nat.mul_one _) ?_)
     exact ⟨rfl, rfl, rfl⟩
    refine pD (fun W R z9 => ?_) ?_
    ·rw [eS (l := [(2, _)]) ⟨z9 2 rfl, ⟨⟩⟩]
     refine je (jj yd rfl (hv1.rd (by omega)) ?_)
     exact ⟨rfl, rfl, rfl⟩
    refine pD (fun W R z9 => ?_) ?_
    ·rw [eS (l := [(3, _)]) ⟨z9 3 rfl, ⟨⟩⟩]
     refine je (yx ((-1) - (u1.getD 0 0)) rfl rfl (by omega) (by omega) ?_)
     exact ⟨rfl, rfl, rfl⟩
    refine pD (fun W R z9 => ?_) ?_
    ·refine je (jk (v2) rfl ?_)
     exact ⟨rfl, rfl, rfl⟩
    refine pD (fun W R z9 => ?_) ?_
    ·rw [eS (l := [(0, _)]) ⟨z9 0 rfl, ⟨⟩⟩]
     refine je (yw rfl ?_)
     exact ⟨rfl, rfl, rfl⟩
    refine pD (fun W R z9 => ?_) ?_
    ·rw [eS (l := [(6, _)]) ⟨z9 6 rfl, ⟨⟩⟩]
     refine je (jE (1) Qa rfl sizeOf198 (by decide) rfl rfl ?_)
     exact ⟨rfl, rfl, rfl⟩
    exact stepsP.nil
   intro W hphi
   rw [eS (l := [(4, _), (5, _), (7, _)]) ⟨(hphi 4 (by decide)), (hphi 5 (by decide)), (hphi 7 (by decide)), ⟨⟩⟩]
   show XL _ _ _ _ _ _ _ (cellsH ub (arv :: bs) 200 :: cellsH b4 (bools s3) 241 :: L)
   refine cX (XOp.indexA (i := (-1) - (u1.getD 0 0)) (((-1) - (u1.getD 0 0)).toNat) (1 + (((-1) - (u1.getD 0 0)).toNat)) Qs jF rfl rfl (by omega) (by omega) (by omega) (cX (Qb [] _ (arv :: (bs.set (((-1) - (u1.getD 0 0)).toNat) v2)) jF rfl rfl (yE (yi hv2)) rfl (blt_1 (by have := CO.len hbc; (try simp only [List.length_set, List.length_replicate] at this ⊢) <;> omega)) set_1 ?_)))
   have hc5 := hbc.set (((-1) - (u1.getD 0 0)).toNat) hv2 (by rw [hny]; exact (decide_eq_false hry.w.ne).symm)
   refine qI (jW (jw (retEndP (L' := cellsH ub (arv :: ((bs.set (((-1) - (u1.getD 0 0)).toNat) v2))) 200 :: L) [] (.tuple #[]) (by exact .nil) rfl rF rF (sC (sD sR)) ?_)))
   exact ⟨_, _, rfl, hc5, (bind_eq hb hσ hrx hry (by omega) (by first | exact hoy | exact bind_var hσ hry (by omega) (by omega))), rfl⟩
  refine jA (t := 57) rfl (vF h14) (jA (t := 57) rfl (vF h14) (jA (t := 57) rfl (vF h14) (jA (t := 57) rfl (vF h14) (jA (t := 57) rfl (vF h14) (jA (t := 57) rfl (vF h14) (jA (t := 57) rfl (vF h14) (jA (t := 57) rfl (vF h14) (cX (yl (.bool (false)) (vF h14) rfl (qI ?_))))))))))
  refine yV rfl (jU (qX ?_))
  refine yN [cellsH ub (arv :: bs) 200] L 8 [] [[], [], [1], [2], [3], [], [0], [6]] (phiL [qe (ptr ub 0), qe v1, qe (.pointer (some (elemA v1 (0)))), qe (ii (u1.getD 0 0)), qe (ii ((-1) - (u1.getD 0 0))), qe v2, qe (ptr ub 0), qe (ptr ub 1)]) (ownL []) mixed rfl rfl (by kernel_rfl) ?_ ?_
  ·refine pD (fun W R z9 => ?_) ?_
   ·refine je (jk (ptr ub 0) rfl ?_)
    exact ⟨rfl, rfl, rfl⟩
   refine pD (fun W R z9 => ?_) ?_
   ·refine je (jk (v1) rfl ?_)
    exact ⟨rfl, rfl, rfl⟩
   refine pD (fun W R z9 => ?_) ?_
   ·rw [eS (l := [(1, _)]) ⟨z9 1 rfl, ⟨⟩⟩]
    refine je (jq 0 qU js rfl rfl rfl hv1.slv (by omega) (Nat.mul_one _) ?_)
    exact ⟨rfl, rfl, rfl⟩
   refine pD (fun W R z9 => ?_) ?_
   ·rw [eS (l := [(2, _)]) ⟨z9 2 rfl, ⟨⟩⟩]
    refine je (jj yd rfl (hv1.rd (by omega)) ?_)
    exact ⟨rfl, rfl, rfl⟩
   refine pD (fun W R z9 => ?_) ?_
   ·rw [eS (l := [(3, _)]) ⟨z9 3 rfl, ⟨⟩⟩]
    refine je (yx ((-1) - (u1.getD 0 0)) rfl rfl (by omega) (by omega) ?_)
    exact ⟨rfl, rfl, rfl⟩
   refine pD (fun W R z9 => ?_) ?_
   ·refine je (jk (v2) rfl ?_)
    exact ⟨rfl, rfl, rfl⟩
   refine pD (fun W R z9 => ?_) ?_
   ·rw [eS (l := [(0, _)]) ⟨z9 0 rfl, ⟨⟩⟩]
    refine je (yw rfl ?_)
    exact ⟨rfl, rfl, rfl⟩
   refine pD (fun W R z9 => ?_) ?_
   ·rw [eS (l := [(6, _)]) ⟨z9 6 rfl, ⟨⟩⟩]
    refine je (jE (1) Qa rfl sizeOf198 (by decide) rfl rfl ?_)
    exact ⟨rfl, rfl, rfl⟩
   exact stepsP.nil
  intro W hphi
  rw [eS (l := [(4, _), (5, _), (7, _)]) ⟨(hphi 4 (by decide)), (hphi 5 (by decide)), (hphi 7 (by decide)), ⟨⟩⟩]
  show XL _ _ _ _ _ _ _ (cellsH ub (arv :: bs) 200 :: L)
  refine cX (XOp.indexA (i := (-1) - (u1.getD 0 0)) (((-1) - (u1.getD 0 0)).toNat) (1 + (((-1) - (u1.getD 0 0)).toNat)) Qs jF rfl rfl (by omega) (by omega) (by omega) (cX (Qb [] _ (arv :: (bs.set (((-1) - (u1.getD 0 0)).toNat) v2)) jF rfl rfl (yE (yi hv2)) rfl (blt_1 (by have := CO.len hbc; (try simp only [List.length_set, List.length_replicate] at this ⊢) <;> omega)) set_1 ?_)))
  have hc6 := hbc.set (((-1) - (u1.getD 0 0)).toNat) hv2 (by rw [hny]; exact (decide_eq_false hry.w.ne).symm)
  refine qI (jW (jw (retEndP (L' := cellsH ub (arv :: ((bs.set (((-1) - (u1.getD 0 0)).toNat) v2))) 200 :: L) [] (.tuple #[]) (by exact .nil) rfl rF rF (sC sR) ?_)))
  exact ⟨_, _, rfl, hc6, (bind_eq hb hσ hrx hry (by omega) (by first | exact hoy | exact bind_var hσ hry (by omega) (by omega))), rfl⟩
 refine jU (qX (qX ?_))
 refine yN [cellsH ub (arv :: bs) 200] L 6 [] [[], [0], [1], [], [3], [4]] (phiL [qe v1, qe (.pointer (some (elemA v1 (0)))), qe (ii (u1.getD 0 0)), qe v2, qe (.pointer (some (elemA v2 (0)))), qe (ii (u2.getD 0 0))]) (ownL []) mixed rfl rfl (by kernel_rfl) ?_ ?_
 ·refine pD (fun W R z9 => ?_) ?_
  ·refine je (jk (v1) rfl ?_)
   exact ⟨rfl, rfl, rfl⟩
  refine pD (fun W R z9 => ?_) ?_
  ·rw [eS (l := [(0, _)]) ⟨z9 0 rfl, ⟨⟩⟩]
   refine je (jq 0 qU js rfl rfl rfl hv1.slv (by omega) (Nat.mul_one _) ?_)
   exact ⟨rfl, rfl, rfl⟩
  refine pD (fun W R z9 => ?_) ?_
  ·rw [eS (l := [(1, _)]) ⟨z9 1 rfl, ⟨⟩⟩]
   refine je (jj yd rfl (hv1.rd (by omega)) ?_)
   exact ⟨rfl, rfl, rfl⟩
  refine pD (fun W R z9 => ?_) ?_
  ·refine je (jk (v2) rfl ?_)
   exact ⟨rfl, rfl, rfl⟩
  refine pD (fun W R z9 => ?_) ?_
  ·rw [eS (l := [(3, _)]) ⟨z9 3 rfl, ⟨⟩⟩]
   refine je (jq 0 qU js rfl rfl rfl hv2.slv (by omega) (Nat.mul_one _) ?_)
   exact ⟨rfl, rfl, rfl⟩
  refine pD (fun W R z9 => ?_) ?_
  ·rw [eS (l := [(4, _)]) ⟨z9 4 rfl, ⟨⟩⟩]
   refine je (jj yd rfl (hv2.rd (by omega)) ?_)
   exact ⟨rfl, rfl, rfl⟩
  exact stepsP.nil
 intro W hphi
 rw [eS (l := [(2, _), (5, _)]) ⟨(hphi 2 (by decide)), (hphi 5 (by decide)), ⟨⟩⟩]
 show XL _ _ _ _ _ _ _ (cellsH ub (arv :: bs) 200 :: L)
 refine cX (XOp.neq rfl rfl (qI ?_))
 refine jV (p := (u1.getD 0 0 : Int) ≠ u2.getD 0 0) rfl (fun h16 => ?_) (fun h16 => ?_)
 ·refine qH ?_
  skip
  refine cX (yJ [] [] [] [] Qt zeroValue230 rfl PlacesAre.nil rfl CellsAre.nil (cX (XOp.iface Qt rfl (yK ((sC sR)) (XL.panicI rfl ?_)))))
  exact .inr ⟨_, rfl, _, _, rfl, hbc, (heads_ne hrx hry (by omega) (by omega) (by omega)), rfl⟩
 exfalso
 omega

theorem equate_spec (k N : Nat) : ∀ {F : FH} {L : List HP} {ub : Nat} {arv : Value} {ar : List Int} {bs : List Value} {bl : RowL} (har : IntsF F arv ar) (hbc : BindC F bs bl) (hb : BOk ar bl) {σ : Sbs} {av : Value} {a : List Int} (ha : IntsF F av a) {cv : Value} {c : List Int} (hc : IntsF F cv c) (hσ : Sol bl σ) (hoa : TermW ar a) (hoc : TermW ar c) (hna : isNil av = false) (hnc : isNil cv = false) (hk : unb bl ≤ k) (hN : (ap σ a).length ≤ N), DoesP prog 237 [ptr ub 0, av, cv] F (cellsH ub (arv :: bs) 200 :: L) (fun v F' L' => ∃ (b9 : List Value) (l9 : RowL), (.tuple #[] : Value) = v ∧ BindC F' b9 l9 ∧ Solves ar bl l9 (fun θ => ap θ a = ap θ c) ∧ cellsH ub (arv :: b9) 200 :: L = L') (fun ch F' L' => ∃ (b9 : List Value) (l9 : RowL), ch = [{ v := .iface 230 (.agg #[]), recovered := false }] ∧ BindC F' b9 l9 ∧ (∀ θ, GoodS ar θ → SatB bl θ → ap θ a ≠ ap θ c) ∧ cellsH ub (arv :: b9) 200 :: L = L') := by
  induction k using Nat.strongRecOn generalizing N with
  | _ k ihk =>
    induction N using Nat.strongRecOn with
    | _ N ihN =>
      intros
      refine equate_step (fun k1 N1 h => ?_) (by assumption) (by assumption) (by assumption) (by assumption) (by assumption) (by assumption) (by assumption) (by assumption) (by assumption) (by assumption) (by assumption) (by assumption)
      rcases h with h | ⟨rfl, h⟩
      · exact ihk k1 h N1
      · exact ihN N1 h


set_option maxRecDepth 20000 in
theorem solve_catch {F : FH} {L : List HP} {b : Nat} {x : Bool} {w : World} (H : Holds F (cellsH b [.bool x] 4 :: L) w) :
    CallsD prog 236 #[.pointer (some ⟨b, 0, none⟩)] (.panicking [{ v := .iface 230 (.agg #[]), recovered := false }]) w fun e u' w' =>
      e = .returned (.tuple #[]) ∧ u' = .panicking [{ v := .iface 230 (.agg #[]), recovered := true }] ∧ Holds F (cellsH b [.bool false] 4 :: L) w' := by
  refine callsD_of_wpS func236 rfl fun c₀ cs hu => ?_
  apply wpS_seq
  apply wpS_region
  simp [wpOpsS, go_sem, recoverD, hu, ntmps236, Exit.thenS]
  apply wpS_seq
  apply wpS_region
  simp [wpOpsS, go_sem, recoverD, hu, ntmps236, Exit.thenS]
  refine wpS_cond (t := true) (by simp [Act.eval, Array.replicate]) ?_
  simp only [if_true]
  refine wpS_of_wp (Code.wp_mono ?_ (wp_of_X (n := 15) (Q := fun e ρ F' L' => e = .normal ∧ Sub L' (cellsH b [.bool false] 4 :: L)) [(0, ptr b 0), (1, .iface 230 (.agg #[]))] (by simp) rfl ⟨by simp, by simp [Array.replicate], ⟨⟩⟩ rfl (fun rE => ?_) H))
  · rintro e a' w' ⟨ρ, F', L', r, le, H', rfl, s⟩
    exact ⟨r.defers, _, rfl, _, results_none rfl _ _ _, rfl, rfl, s.holds (H'.forget le)⟩
  · skip
    refine qX (qX (qH (jb ((.iface 230 (.agg #[]))) rfl (cX (XOp.assertOk Qt rfl (jb (.tuple #[.agg #[], .bool (true)]) rfl (cX (yr (.agg #[]) rfl rfl (cX (yr (.bool (true)) rfl rfl (cX (Qe [] zeroValue230 rfl ?_))))))))))))
    intro b1
    refine cX (yL [] _ [] sizeOf230 rfl rfl rfl yM rfl rfl rfl (jc (.bool (true)) rfl (qI (qX (qH (jb (.bool (true)) rfl (cX (yR rfl (qI (yV rfl (jU (qH (cX (Qb [_] _ [.bool (false)] sizeOf4 rfl rfl rfl rfl rfl rfl (qI ?_)))))))))))))))
    exact ⟨rfl, (sD (sC sR))⟩


theorem solve_idle {p : Value} {w : World} :
    CallsD prog 236 #[p] .returning w fun e u' w' => e = .returned (.tuple #[]) ∧ u' = .returning ∧ w' = w := by
  refine callsD_of_wpS func236 rfl fun c₀ cs hu => ?_
  apply wpS_seq
  apply wpS_region
  simp [wpOpsS, go_sem, recoverD, hu, ntmps236, Exit.thenS]
  apply wpS_seq
  apply wpS_region
  simp [wpOpsS, go_sem, recoverD, hu, ntmps236, Exit.thenS]
  refine wpS_cond (t := false) (by simp [Act.eval, Array.replicate]) ?_
  simp only [Bool.false_eq_true, if_false]
  refine wpS_of_wp (wp_skip ?_)
  cases c₀
  simp_all [bodyPostS, results, results236]


set_option maxRecDepth 20000 in
theorem solve_spec {F : FH} {L : List HP} {ub : Nat} {arv : Value} {ar : List Int} {bs : List Value} {bl : RowL} (har : IntsF F arv ar) (hbc : BindC F bs bl) (hb : BOk ar bl) {av : Value} {a : List Int} (ha : IntsF F av a) {cv : Value} {c : List Int} (hc : IntsF F cv c) (hoa : TermW ar a) (hoc : TermW ar c) (hna : isNil av = false) (hnc : isNil cv = false) :
    Does prog 208 [ptr ub 0, av, cv] F (cellsH ub (arv :: bs) 200 :: L) (fun v F' L' => ∃ (ok : Bool) (b9 : List Value) (l9 : RowL), (.bool ok : Value) = v ∧ BindC F' b9 l9 ∧ (ok = true → Solves ar bl l9 (fun θ => ap θ a = ap θ c)) ∧ (ok = false → ∀ θ, GoodS ar θ → SatB bl θ → ap θ a ≠ ap θ c) ∧ cellsH ub (arv :: b9) 200 :: L = L') := by
  obtain ⟨σ, hσ⟩ := hb.sol
  intro w H
  have hmf : ∀ (fn : Go.Fn) (first cap : Array Value) (w : World), (Instr.makeFunc fn first cap).run prog w = .ok (.func fn first cap) w := fun _ _ _ _ => rfl
  refine (?_ : ∀ R : Ending → World → Prop, (∀ v F' L' w', F ≤ F' → Holds F' L' w' → (∃ (ok : Bool) (b9 : List Value) (l9 : RowL), (.bool ok : Value) = v ∧ BindC F' b9 l9 ∧ (ok = true → Solves ar bl l9 (fun θ => ap θ a = ap θ c)) ∧ (ok = false → ∀ θ, GoodS ar θ → SatB bl θ → ap θ a ≠ ap θ c) ∧ cellsH ub (arv :: b9) 200 :: L = L') → R (.returned v) w') → Calls prog 208 #[ptr ub 0, av, cv] w R) _ fun v F' L' w' le H' q => ⟨v, F', L', rfl, le, H', q⟩
  intro R hR
  go_enter_defers func208, ntmps208
  refine wp_seq (wp_region_lit (wpList_one rfl ?_))
  simp only [Oper.wp, execOp]
  simp [wpList, go_sem, Exit.then]
  refine wp_seq (wp_region_lit (wpList_one rfl ?_))
  simp [go_sem, hmf]
  refine wpList_one rfl ?_
  simp [go_sem, hmf]
  show Code.wp _ _ _ _ _
  refine wp_seq (wp_region_lit (wpList_one rfl ?_))
  simp [go_sem]
  refine wpList_one rfl ?_
  simp [go_sem]
  refine wpList_one rfl ?_
  simp [go_sem]
  refine wpList_one rfl ?_
  simp [go_sem, Oper.upon]
  have H1 : Holds F (cellsH w.heap.size [.bool false] 4 :: cellsH ub (arv :: bs) 200 :: L) (w.alloc (.cells #[.bool false] 4)) := H.new _
  have H2 : Holds F (cellsH ub (arv :: bs) 200 :: cellsH w.heap.size [.bool false] 4 :: L) (w.alloc (.cells #[.bool false] 4)) := (Sub.perm (List.Perm.swap ..)).holds H1
  refine (equate_spec _ _ har hbc hb ha hc hσ hoa hoc hna hnc (Nat.le_refl _) (Nat.le_refl _) _ H2).mono ?_
  rintro e w2 (⟨v, F2, L2, rfl, le, H3, b9, l9, rfl, hb9, hso, rfl⟩ | ⟨ch, F2, L2, rfl, le, H3, b9, l9, rfl, hb9, hne, rfl⟩)
  · show Code.wp _ _ _ _ _
    refine wp_seq (wp_region_lit (wpList_one rfl (wp_XOp_raw (F := F2) (K := fun v F' L' => F' = F2 ∧ L' = [cellsH ub (arv :: b9) 200] ++ cellsH w.heap.size [.bool true] 4 :: L) (Qb (b := w.heap.size) (o := 0) (v := .bool true) [_] _ [.bool true] sizeOf4 rfl rfl rfl rfl rfl rfl ⟨rfl, rfl⟩) H3 ?_)))
    rintro v F' L' w3 _ H4 ⟨rfl, rfl⟩
    show Code.wp _ _ _ _ _
    refine wp_ret ?_
    show Leaves _ _ _ _ _ _ _
    refine leaves_cons (f := 236) (args := #[.pointer (some ⟨w.heap.size, 0, none⟩)]) (by simp) (by simp [go_sem]) (solve_idle.mono ?_)
    rintro e u' w'' ⟨rfl, rfl, rfl⟩
    have hcell : w''.cell? ⟨w.heap.size, 0, none⟩ = some (.bool true) := cell_of_heap H4.getCells rfl
    exact ⟨.bool true, by simp [results, results208, go_sem, hcell], hR (.bool true) F' _ _ le ((sC (sD sR)).holds H4) ⟨true, b9, l9, rfl, hb9, fun _ => hso, fun h => (by cases h), rfl⟩⟩
  · show Leaves _ _ _ _ _ _ _
    refine leaves_cons (f := 236) (args := #[.pointer (some ⟨w.heap.size, 0, none⟩)]) (by simp) (by simp [go_sem]) ?_
    have H3' := (Sub.perm (List.Perm.swap ..)).holds H3
    refine (solve_catch H3').mono ?_
    rintro e u' w3 ⟨rfl, rfl, H4⟩
    have hcell : w3.cell? ⟨w.heap.size, 0, none⟩ = some (.bool false) := cell_of_heap (H4.getCells (A := [])) rfl
    exact ⟨.bool false, by simp [results, results208, go_sem, hcell], hR (.bool false) F2 _ _ le ((sD sR).holds H4) ⟨false, b9, l9, rfl, hb9, fun h => (by cases h), fun _ => hne, rfl⟩⟩


/- (*impl.unifier).resolve -/
set_option maxHeartbeats 1000000 in
theorem resolve_step {k : Nat} (ih : ∀ k9 : Nat, k9 < k → ∀ {F : FH} {L : List HP} {ub : Nat} {arv : Value} {ar : List Int} {bs : List Value} {bl : RowL} (har : IntsF F arv ar) (hbc : BindC F bs bl) (hb : BOk ar bl) {σ : Sbs} {ρ : Int → Nat} {ov : Value} {os : List Int} {tv : Value} {t : List Int} (ht : IntsF F tv t) (hov : IsSl ov) (hol : os.length ≤ 60) (hσ : Sol bl σ) (hρ : Acyc bl ρ) (htk : ∀ m ∈ t, m < 0 → ρ m < k9) (htg : ∀ i, i < t.length → -48 ≤ t.getD i 0) (htl : t.length ≤ 60), Does prog 182 [ptr ub 0, ov, tv] F (intsH 2 ov os :: cellsH ub (arv :: bs) 200 :: L) (fun v F' L' => ∃ a9 : Value, (.tuple #[a9, .bool (resOk σ os t)] : Value) = v ∧ IsSl a9 ∧ F = F' ∧ intsH 2 a9 ((resX σ os t)) :: cellsH ub (arv :: bs) 200 :: L = L')) {F : FH} {L : List HP} {ub : Nat} {arv : Value} {ar : List Int} {bs : List Value} {bl : RowL} (har : IntsF F arv ar) (hbc : BindC F bs bl) (hb : BOk ar bl) {σ : Sbs} {ρ : Int → Nat} {ov : Value} {os : List Int} {tv : Value} {t : List Int} (ht : IntsF F tv t) (hov : IsSl ov) (hol : os.length ≤ 60) (hσ : Sol bl σ) (hρ : Acyc bl ρ) (htk : ∀ m ∈ t, m < 0 → ρ m < k) (htg : ∀ i, i < t.length → -48 ≤ t.getD i 0) (htl : t.length ≤ 60) :
    Does prog 182 [ptr ub 0, ov, tv] F (intsH 2 ov os :: cellsH ub (arv :: bs) 200 :: L) (fun v F' L' => ∃ a9 : Value, (.tuple #[a9, .bool (resOk σ os t)] : Value) = v ∧ IsSl a9 ∧ F = F' ∧ intsH 2 a9 ((resX σ os t)) :: cellsH ub (arv :: bs) 200 :: L = L') := by
 refine ym func182 rfl rfl rfl ?_
 have hbl := hb.len
 refine qX (qH (jc (sN) rfl (jc (.bool (false)) rfl (qI (qX (qX (qH (jb (tv) rfl (cX (jZ qU rfl ht.slv (jb (ii (0)) rfl (qI (yf (yI (α := Nat × Value × List Int) (fun xQ => [(0, ptr ub 0), (1, xQ.2.1), (11, tv), (12, ii ((t.length : Int))), (13, ii (((xQ.1 : Nat) : Int)))]) (fun xQ => intsH 2 xQ.2.1 xQ.2.2 :: cellsH ub (arv :: bs) 200 :: L) (fun xQ F' => F = F' ∧ (IsSl xQ.2.1) ∧ (xQ.1 ≤ t.length) ∧ (xQ.2.2 = os ++ ap σ (t.take xQ.1)) ∧ (xQ.2.2.length ≤ 60)) (fun xQ => t.length - xQ.1) (0, ov, os) ⟨rfl, rfl, rfl, rfl, rfl, ⟨⟩⟩ (sC (sC sR)) ⟨rfl, (hov), (by (try dsimp only) <;> omega), (by simp [ap]), (hol)⟩ ?_))))))))))))))
 rintro ⟨j, wv, ws⟩ rE _ _ ⟨rfl, hwv, hj, hws, hwl⟩
 show X _ _ _ _ (envs [(0, ptr ub 0), (1, wv), (11, tv), (12, ii ((t.length : Int))), (13, ii ((j : Int)))] rE) _ (intsH 2 wv ws :: cellsH ub (arv :: bs) 200 :: L)
 dsimp only at hwv hj hws hwl
 have hgj := fun h : j < t.length => htg j h
 have hwl2 : ws.length = os.length + (ap σ (t.take j)).length := by rw [hws, List.length_append]
 refine qX (qH (cX (yo rfl rfl (qI (qX ?_)))))
 refine jV (p := (j : Int) < (t.length : Int)) rfl (fun h1 => ?_) (fun h1 => ?_)
 ·refine jU (qX (yf (qX (qH (cX (jq j qU js rfl rfl rfl ht.slv (by omega) (Nat.mul_one _) (cX (jj yd rfl (ht.rd (by omega)) (jc (ii (t.getD j 0)) rfl (qI (qX (qX (qH (jb (ii (t.getD j 0)) rfl (cX (yo rfl rfl (jb (.bool (decide ((t.getD j 0 : Int) < 0))) rfl ?_)))))))))))))))))
  by_cases h2 : (t.getD j 0 : Int) < 0
  ·have hj0 : t.getD j 0 < 0 := h2
   have hgj2 := hgj (by omega)
   have hrj := htk _ (mem_of_getD (k := j) (by omega) rfl) hj0
   refine jB (t := 19) rfl (vT h2) (jk (ptr ub 0) rfl (jB (t := 19) rfl (vT h2) (jk (ii (t.getD j 0)) rfl (jB (t := 19) rfl (vT h2) (yx ((-1) - (t.getD j 0)) rfl rfl (by omega) (by omega) (jB (t := 19) rfl (vT h2) (yw rfl (jB (t := 19) rfl (vT h2) (jE (1) Qa rfl sizeOf198 (by decide) rfl rfl (jB (t := 19) rfl (vT h2) (XOp.indexA (i := (-1) - (t.getD j 0)) (((-1) - (t.getD j 0)).toNat) (1 + (((-1) - (t.getD j 0)).toNat)) Qs jF rfl rfl (by omega) (by omega) (by omega) ?_)))))))))))
   obtain ⟨a1, ha1, hn1, he1⟩ := hbc.get (i := ((-1) - (t.getD j 0)).toNat) (by omega)
   refine jB (t := 19) rfl (vT h2) (jj yt rfl (Rd.own [_] rfl (get_1 he1)) (jB (t := 19) rfl (vT h2) (XOp.neNil qU rfl rfl (yi ha1) (cX (yp (.bool (!isNil a1)) (vT h2) rfl (qI ?_))))))
   refine X.cond (t := !isNil a1) rfl (fun h3 => ?_) (fun h3 => ?_)
   ·have hbn := ne_of_notNil hn1 h3
    have hnb : isNil a1 = false := by rw [hn1]; exact decide_eq_false hbn
    have hlj : lkN bl (t.getD j 0) ≠ [] := by rw [lkN_get hj0]; exact hbn
    have hwj := hb.wt _ hj0 hlj
    rw [lkN_get hj0] at hwj
    have hsj : σ (t.getD j 0) = ap σ (bl.getD (varIx (t.getD j 0)) []) := by rw [hσ.bound hlj, lkN_get hj0]
    refine qX (qH (jc (.bool (false)) rfl (qI (qX (qX (qH (jb (ptr ub 0) rfl (jb (wv) rfl (jb (ptr ub 0) rfl (jb (ii (t.getD j 0)) rfl (cX (yx ((-1) - (t.getD j 0)) rfl rfl (by omega) (by omega) (cX (yw rfl (cX (jE (1) Qa rfl sizeOf198 (by decide) rfl rfl ?_))))))))))))))))
    refine cX (XOp.indexA (i := (-1) - (t.getD j 0)) (((-1) - (t.getD j 0)).toNat) (1 + (((-1) - (t.getD j 0)).toNat)) Qs jF rfl rfl (by omega) (by omega) (by omega) (cX (jj yt rfl (Rd.own [_] rfl (get_1 he1)) (yK (ye (A := [_])) ?_))))
    show XL _ _ _ _ _ _ _ (cellsH ub (arv :: bs) 200 :: intsH 2 wv ws :: L)
    refine yK (ye (A := [_])) ?_
    show XL _ _ _ _ _ _ _ (intsH 2 wv ws :: cellsH ub (arv :: bs) 200 :: L)
    refine cX (jL (args := [ptr ub 0, wv, a1]) call182 rfl (ih _ hrj har hbc (by assumption) (os := ws) ha1 hwv hwl hσ hρ (fun m hm h0 => hρ _ hj0 m (by rw [lkN_get hj0]; exact hm) h0) (fun i hi => hwj.geD hi) hwj.len.2) ?_)
    rintro _ _ _ _ ⟨v1, rfl, hs1, rfl, rfl⟩
    refine jb (.tuple #[v1, .bool (resOk σ ws ((bl.getD (((-1) - (t.getD j 0)).toNat) [])))]) rfl (cX (yr (v1) rfl rfl (cX (yr (.bool (resOk σ ws ((bl.getD (((-1) - (t.getD j 0)).toNat) [])))) rfl rfl (jc (v1) rfl (jc (.bool (resOk σ ws ((bl.getD (((-1) - (t.getD j 0)).toNat) [])))) rfl (qI (qX (qH (jb (.bool (resOk σ ws ((bl.getD (((-1) - (t.getD j 0)).toNat) [])))) rfl (cX (yR rfl (qI ?_)))))))))))))
    refine X.cond (t := !(resOk σ ws ((bl.getD (((-1) - (t.getD j 0)).toNat) [])))) rfl (fun h4 => ?_) (fun h4 => ?_)
    ·have hro : resOk σ ws (bl.getD (varIx (t.getD j 0)) []) = false := Bool.not_inj (y := false) h4
     have hrn := of_decide_eq_false hro
     refine qX (qH (jc (sN) rfl (jc (.bool (false)) rfl (qI (jW (jw (jw (ya (jw (jw (ya (jw (jR (L' := intsH 2 (sN) ([]) :: cellsH ub (arv :: bs) 200 :: L) [sN, .bool (false)] (.tuple #[sN, .bool (false)]) (.tmp rfl (.tmp rfl .nil)) rfl rF rF (yn (intsH.addNil 2 none _) (sC (sD (sC sR)))) ?_)))))))))))))
     have e9 : resOk σ os t = false := res_no (j := j) (by omega) (by rw [hsj]; first | omega | (rw [List.length_singleton]; omega))
     have e8 : resX σ os t = [] := by unfold resX; rw [if_neg (by rw [e9]; simp)]
     rw [e9, e8]
     exact ⟨_, rfl, ⟨_, _, _, rfl⟩, rfl, rfl⟩
    have hro : resOk σ ws (bl.getD (varIx (t.getD j 0)) []) = true := Bool.not_inj (y := true) h4
    have hrn := of_decide_eq_true hro
    have hnext : resX σ ws (bl.getD (varIx (t.getD j 0)) []) = ws ++ σ (t.getD j 0) := by unfold resX; rw [if_pos hro, hsj]
    have hnlen : (resX σ ws (bl.getD (varIx (t.getD j 0)) [])).length ≤ 60 := by rw [hnext, List.length_append, hsj]; exact hrn
    refine jU (yB (jO (yk (qH (cX (yj (((j + 1 : Nat) : Int)) rfl rfl (by omega) (by omega) (jb (ii (((j + 1 : Nat) : Int))) rfl (qI ?_))))))))
    exact ⟨(j + 1, v1, (resX σ ws ((bl.getD (((-1) - (t.getD j 0)).toNat) [])))), _, FLe.refl _, rF, ⟨rfl, rfl, rfl, rfl, rfl, ⟨⟩⟩, (sC (sC sR)), ⟨rfl, (hs1), (by (try dsimp only) <;> omega), (by (try dsimp only); rw [ap_take (by omega), ← List.append_assoc, ← hws]; exact hnext), (by (try dsimp only); exact hnlen)⟩, (by omega)⟩
   have hbe := eq_of_isNil hn1 h3
   have hsj : σ (t.getD j 0) = [(t.getD j 0)] := hσ.free (by rw [lkN_get hj0]; exact hbe)
   refine jU (qX (qX (qH (jb (wv) rfl (cX (jZ qU rfl (intsH.slv [] rfl) (cX (yU rfl rfl (qI ?_)))))))))
   refine jV (p := ((ws.length : Int) : Int) = 60) rfl (fun h5 => ?_) (fun h5 => ?_)
   ·refine qX (qH (jc (sN) rfl (jc (.bool (false)) rfl (qI (jW (jw (ya (jw (jw (ya (jw (jR (L' := intsH 2 (sN) ([]) :: cellsH ub (arv :: bs) 200 :: L) [sN, .bool (false)] (.tuple #[sN, .bool (false)]) (.tmp rfl (.tmp rfl .nil)) rfl rF rF (yn (intsH.addNil 2 none _) (sC (sD (sC sR)))) ?_))))))))))))
    have e9 : resOk σ os t = false := res_no (j := j) (by omega) (by rw [hsj]; first | omega | (rw [List.length_singleton]; omega))
    have e8 : resX σ os t = [] := by unfold resX; rw [if_neg (by rw [e9]; simp)]
    rw [e9, e8]
    exact ⟨_, rfl, ⟨_, _, _, rfl⟩, rfl, rfl⟩
   have hnext : ws ++ [(t.getD j 0)] = ws ++ σ (t.getD j 0) := by rw [hsj]
   have hnlen : (ws ++ [(t.getD j 0)]).length ≤ 60 := by rw [List.length_append, List.length_singleton]; omega
   refine jU (qH (jb (wv) rfl (jb (ii (t.getD j 0)) rfl (cX (jQ (s := 1) [ii (t.getD j 0)] [ii (0)] [(0, [ii (t.getD j 0)])] qU js yv rfl (by decide) rfl (.cons rfl CellsAre.nil) rfl ?_)))))
   intro v2 hv1
   refine cX (Qi (u := t.getD j 0) [_] _ qU typeInfo2 rfl rfl rfl rfl rfl rfl (SlV.own [] rfl) (Rd.sl [] rfl rfl) (by (try simp only [List.length_append, List.length_nil, List.length_cons, List.length_singleton, List.length_take, List.length_drop]); omega) ?_)
   intro v3 hs2 hn2
   refine jc (v3) rfl (qI (qH (cX (yj (((j + 1 : Nat) : Int)) rfl rfl (by omega) (by omega) (jb (ii (((j + 1 : Nat) : Int))) rfl (qI ?_))))))
   exact ⟨(j + 1, v3, ws ++ [t.getD j 0]), _, FLe.refl _, rF, ⟨rfl, rfl, rfl, rfl, rfl, ⟨⟩⟩, (sD (sC (sC sR))), ⟨rfl, (hs2), (by (try dsimp only) <;> omega), (by (try dsimp only); rw [ap_take (by omega), ← List.append_assoc, ← hws]; exact hnext), (by (try dsimp only); exact hnlen)⟩, (by omega)⟩
  have hsj : σ (t.getD j 0) = [(t.getD j 0)] := hσ.sym (by omega)
  refine jA (t := 19) rfl (vF h2) (jA (t := 19) rfl (vF h2) (jA (t := 19) rfl (vF h2) (jA (t := 19) rfl (vF h2) (jA (t := 19) rfl (vF h2) (jA (t := 19) rfl (vF h2) (jA (t := 19) rfl (vF h2) (jA (t := 19) rfl (vF h2) (cX (yl (.bool (false)) (vF h2) rfl (qI ?_))))))))))
  refine yV rfl (jU (qX (qX (qH (jb (wv) rfl (cX (jZ qU rfl (intsH.slv [] rfl) (cX (yU rfl rfl (qI ?_))))))))))
  refine jV (p := ((ws.length : Int) : Int) = 60) rfl (fun h6 => ?_) (fun h6 => ?_)
  ·refine qX (qH (jc (sN) rfl (jc (.bool (false)) rfl (qI (jW (jw (ya (jw (jw (ya (jw (jR (L' := intsH 2 (sN) ([]) :: cellsH ub (arv :: bs) 200 :: L) [sN, .bool (false)] (.tuple #[sN, .bool (false)]) (.tmp rfl (.tmp rfl .nil)) rfl rF rF (yn (intsH.addNil 2 none _) (sC (sD (sC sR)))) ?_))))))))))))
   have e9 : resOk σ os t = false := res_no (j := j) (by omega) (by rw [hsj]; first | omega | (rw [List.length_singleton]; omega))
   have e8 : resX σ os t = [] := by unfold resX; rw [if_neg (by rw [e9]; simp)]
   rw [e9, e8]
   exact ⟨_, rfl, ⟨_, _, _, rfl⟩, rfl, rfl⟩
  have hnext : ws ++ [(t.getD j 0)] = ws ++ σ (t.getD j 0) := by rw [hsj]
  have hnlen : (ws ++ [(t.getD j 0)]).length ≤ 60 := by rw [List.length_append, List.length_singleton]; omega
  refine jU (qH (jb (wv) rfl (jb (ii (t.getD j 0)) rfl (cX (jQ (s := 1) [ii (t.getD j 0)] [ii (0)] [(0, [ii (t.getD j 0)])] qU js yv rfl (by decide) rfl (.cons rfl CellsAre.nil) rfl ?_)))))
  intro v4 hv2
  refine cX (Qi (u := t.getD j 0) [_] _ qU typeInfo2 rfl rfl rfl rfl rfl rfl (SlV.own [] rfl) (Rd.sl [] rfl rfl) (by (try simp only [List.length_append, List.length_nil, List.length_cons, List.length_singleton, List.length_take, List.length_drop]); omega) ?_)
  intro v5 hs3 hn3
  refine jc (v5) rfl (qI (qH (cX (yj (((j + 1 : Nat) : Int)) rfl rfl (by omega) (by omega) (jb (ii (((j + 1 : Nat) : Int))) rfl (qI ?_))))))
  exact ⟨(j + 1, v5, ws ++ [t.getD j 0]), _, FLe.refl _, rF, ⟨rfl, rfl, rfl, rfl, rfl, ⟨⟩⟩, (sD (sC (sC sR))), ⟨rfl, (hs3), (by (try dsimp only) <;> omega), (by (try dsimp only); rw [ap_take (by omega), ← List.append_assoc, ← hws]; exact hnext), (by (try dsimp only); exact hnlen)⟩, (by omega)⟩
 refine yB (jO (jO (yk (qX (qH (jb (wv) rfl (jc (wv) rfl (jc (.bool (true)) rfl (qI (jW (jR (L' := intsH 2 wv ws :: cellsH ub (arv :: bs) 200 :: L) [wv, .bool (true)] (.tuple #[wv, .bool (true)]) (.tmp rfl (.tmp rfl .nil)) rfl rF rF (sC (sC sR)) ?_)))))))))))
 obtain ⟨e9, e8⟩ := res_end (σ := σ) (os := os) (t := t) (j := j) (by omega) (by omega)
 rw [e9, e8, ← hws]
 exact ⟨_, rfl, hwv, rfl, rfl⟩

theorem resolve_spec (k : Nat) : ∀ {F : FH} {L : List HP} {ub : Nat} {arv : Value} {ar : List Int} {bs : List Value} {bl : RowL} (har : IntsF F arv ar) (hbc : BindC F bs bl) (hb : BOk ar bl) {σ : Sbs} {ρ : Int → Nat} {ov : Value} {os : List Int} {tv : Value} {t : List Int} (ht : IntsF F tv t) (hov : IsSl ov) (hol : os.length ≤ 60) (hσ : Sol bl σ) (hρ : Acyc bl ρ) (htk : ∀ m ∈ t, m < 0 → ρ m < k) (htg : ∀ i, i < t.length → -48 ≤ t.getD i 0) (htl : t.length ≤ 60), Does prog 182 [ptr ub 0, ov, tv] F (intsH 2 ov os :: cellsH ub (arv :: bs) 200 :: L) (fun v F' L' => ∃ a9 : Value, (.tuple #[a9, .bool (resOk σ os t)] : Value) = v ∧ IsSl a9 ∧ F = F' ∧ intsH 2 a9 ((resX σ os t)) :: cellsH ub (arv :: bs) 200 :: L = L') := by
  induction k using Nat.strongRecOn with
  | _ k ih =>
    intros
    exact resolve_step ih (by assumption) (by assumption) (by assumption) (by assumption) (by assumption) (by assumption) (by assumption) (by assumption) (by assumption) (by assumption) (by assumption)


/- impl.away -/
theorem away_spec {F : FH} {L : List HP} {tv : Value} {t : List Int} (ht : IntsF F tv t) (hlt : t.length ≤ 4000000) (htg : ∀ i, i < t.length → -4000000 ≤ t.getD i 0) :
    Does prog 183 [tv] F (L) (fun v F' L' => F = F' ∧ IsSl v ∧ intsH 2 v (awayL t) :: L = L') := by
 refine ym func183 rfl rfl rfl (qX (qH (jc (sN) rfl (qI (qX (qH (jb (tv) rfl (cX (jL (args := [tv]) call188 rfl (Clone_spec ht (hlt := (by first | assumption | rfl | omega | simp))) ?_)))))))))
 rintro v1 _ _ _ ⟨rfl, hs1, rfl⟩
 refine jc (v1) rfl (qI (qX (qX (qH (jb (v1) rfl (cX (jZ qU rfl (intsH.slv [] rfl) (jb (ii (0)) rfl (qI (yf (yI (α := Nat × List Int) (fun xQ => [(3, v1), (8, v1), (9, ii (((((t)).length : Nat) : Int))), (10, ii (((xQ.1 : Nat) : Int)))]) (fun xQ => intsH 2 v1 xQ.2 :: L) (fun xQ F' => F = F' ∧ (xQ.1 ≤ t.length) ∧ (xQ.2 = awayL (t.take xQ.1) ++ t.drop xQ.1)) (fun xQ => t.length - xQ.1) (0, t) ⟨rfl, rfl, rfl, rfl, ⟨⟩⟩ (sC sR) ⟨rfl, (by (try dsimp only) <;> omega), (by simp [awayL])⟩ ?_)))))))))))
 rintro ⟨k, ws⟩ rE _ _ ⟨rfl, hk, hws⟩
 show X _ _ _ _ (envs [(3, v1), (8, v1), (9, ii (((((t)).length : Nat) : Int))), (10, ii ((k : Int)))] rE) _ (intsH 2 v1 ws :: L)
 dsimp only at hk hws
 have hwl : ws.length = t.length := by rw [hws]; simp [awayL]; omega
 have hgk := htg k
 have hwk : k < t.length → ws.getD k 0 = t.getD k 0 := fun h => by rw [hws]; exact away_at h
 refine qX (qH (cX (yo rfl rfl (qI (qX ?_)))))
 refine jV (p := (k : Int) < ((((t)).length : Nat) : Int)) rfl (fun h1 => ?_) (fun h1 => ?_)
 ·refine jU (qX (yf (qX (qH (jb (ii ((k : Int))) rfl (cX (jq k qU js rfl rfl rfl (intsH.slv [] rfl) (by omega) (Nat.mul_one _) (cX (jj yd rfl (intsH.rd [] rfl (by omega)) (jc (ii ((k : Int))) rfl (jc (ii (ws.getD k 0)) rfl (qI (qX (qH (jb (ii (ws.getD k 0)) rfl (cX (yo rfl rfl (qI ?_))))))))))))))))))
  refine jV (p := (ws.getD k 0 : Int) < 0) rfl (fun h2 => ?_) (fun h2 => ?_)
  ·refine qH (jb (v1) rfl (jb (ii ((k : Int))) rfl (jb (ii (ws.getD k 0)) rfl (cX (yx ((ws.getD k 0) - 24) rfl rfl (by omega) (by omega) (cX (jq k qU js rfl rfl rfl (intsH.slv [] rfl) (by omega) (Nat.mul_one _) (cX (intsH.storeX (i := k) (v := v1) [] _ (ws.set k ((ws.getD k 0) - 24)) js rfl rfl rfl (by omega) rfl (qI (qH (cX (yj (((k + 1 : Nat) : Int)) rfl rfl (by omega) (by omega) (jb (ii (((k + 1 : Nat) : Int))) rfl ?_))))))))))))))
   refine qI ?_
   exact ⟨(k + 1, (ws.set k ((ws.getD k 0) - 24))), _, FLe.refl _, rF, ⟨rfl, rfl, rfl, rfl, ⟨⟩⟩, (sC sR), ⟨rfl, (by (try dsimp only) <;> omega), (away_next (by omega) hws (by first | (right; exact ⟨rfl, by omega⟩) | (left; exact ⟨by rw [hwk (by omega)], by omega⟩)))⟩, (by omega)⟩
  refine jU (qH (cX (yj (((k + 1 : Nat) : Int)) rfl rfl (by omega) (by omega) (jb (ii (((k + 1 : Nat) : Int))) rfl (qI ?_)))))
  exact ⟨(k + 1, ws), _, FLe.refl _, rF, ⟨rfl, rfl, rfl, rfl, ⟨⟩⟩, (sC sR), ⟨rfl, (by (try dsimp only) <;> omega), (away_next (by omega) hws (by first | (right; exact ⟨rfl, by omega⟩) | (left; exact ⟨by rw [hwk (by omega)], by omega⟩)))⟩, (by omega)⟩
 refine yB (jO (jO (yk (qX (qH (jb (v1) rfl (jc (v1) rfl (qI (jW (jR (L' := intsH 2 v1 ws :: L) [v1] (v1) (.tmp rfl .nil) rfl rF rF (sC sR) ?_))))))))))
 refine ⟨rfl, hs1, ?_⟩
 have hxs : (awayL t : List Int) = ws := by rw [hws, show k = t.length from by omega]; simp
 exact congrArg (fun z => intsH 2 _ z :: L) hxs
end Go.Proofs.Ytcdjpapjjoldeaa
