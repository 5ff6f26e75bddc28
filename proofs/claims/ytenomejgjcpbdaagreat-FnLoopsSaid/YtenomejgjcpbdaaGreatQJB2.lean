/-
  Walks, one after the other (part 3).
-/
import Derived.Test.YtenomejgjcpbdaaGreatQJL1
import Derived.Test.YtenomejgjcpbdaaGreatQJB1
set_option linter.unusedSimpArgs false
set_option linter.unusedVariables false
namespace Go.Proofs.YtenomejgjcpbdaaGreat
open Go X M Tryz

/- impl.redexSteps -/
theorem redexSteps_spec {F : FH} {L : List HP} {arv : Value} {ar : List Int} (har : IntsF F arv ar) {rsv : Value} {rs : List (List Int × List Int)} (hrs : PairsF F rsv rs) {tv : Value} {t : List Int} (ht : IntsF F tv t) :
    Does prog 284 [.agg #[arv, rsv], tv] F (L) (fun v F' L' => ∃ (bt bs : Nat), (.func (.func 321) #[] #[ptr bt 0, ptr bs 0] : Value) = v ∧ FzC F' bt [tv] ∧ FzC F' bs [arv, rsv] ∧ L = L') := by
 refine qL func284 rfl rfl rfl (qc (qa (cX (jd [arv, rsv] rfl rfl ?_))))
 intro b1
 refine cX (jd [tv] rfl (cells_one (qF ht)) ?_)
 intro b2
 refine qg (.nilFunc) rfl (qb (qc (qa (cX (XOp.makeFuncL [] [ptr b2 0, ptr b1 0] rfl rfl (qg (.func (.func 321) #[] #[ptr b2 0, ptr b1 0]) rfl (qb (X.freeze [] _ _ rfl (fun F1 le1 hz1 => ?_)))))))))
 have hf1 : FzC F1 b2 [tv] := Fz.cells hz1
 refine X.freeze [] _ _ rfl (fun F2 le2 hz2 => ?_)
 replace hf1 := hf1.mono le2
 have hf2 : FzC F2 b1 [arv, rsv] := Fz.cells hz2
 refine qw (qs (L' := L) [.func (.func 321) #[] #[ptr b2 0, ptr b1 0]] (.func (.func 321) #[] #[ptr b2 0, ptr b1 0]) (.tmp rfl .nil) rfl (qh le1 le2) rF sR ?_)
 exact ⟨_, _, rfl, hf1, hf2, rfl⟩

/- impl.redexSteps$1 -/
theorem redexIt_spec {F : FH} {L : List HP} {l bo bl bt bs : Nat} {R : Loop} {arv : Value} {ar : List Int} (har : IntsF F arv ar) {rsv : Value} {rs : List (List Int × List Int)} (hrs : PairsF F rsv rs) {tv : Value} {t : List Int} (ht : IntsF F tv t) (hbt : FzC F bt [tv]) (hbs : FzC F bs [arv, rsv]) (hsys : sysOk ar rs = true) (ho : termOk ar t = true) (hyes : ∀ (Fy : FH) (sv : Value) (ss : List StepT) (cs : List Value) (m : Nat) (lb : Bool) (i j : Int) (tov : Value) (to : List Int), F ≤ Fy → IsSl sv → StepsC Fy cs ss → m = ss.length → ss.length ≤ 4000000 → IntsF Fy tov to → Yld prog l [.agg #[.int .i64 i, .int .i64 j, tov], .bool true] Fy (objH l (.loop R) :: cellsH bo [sv] 43 :: slH 102 3 sv m cs :: cellsH bl [.bool (lb)] 4 :: L) (fun v F' L' => .bool true = v ∧ Fy = F' ∧ ∃ sw, IsSl sw ∧ objH l (.loop R) :: cellsH bo [sw] 43 :: slH 102 3 sw (m + 1) (cs ++ [.int .i64 i, .int .i64 j, tov]) :: cellsH bl [.bool (lb)] 4 :: L = L')) (hno : ∀ (Fy : FH) (sv : Value) (cs : List Value) (m : Nat) (lb : Bool) (i j : Int) (tov : Value), F ≤ Fy → IsSl sv → IsSl tov → Yld prog l [.agg #[.int .i64 i, .int .i64 j, tov], .bool false] Fy (objH l (.loop R) :: cellsH bo [sv] 43 :: slH 102 3 sv m cs :: cellsH bl [.bool (lb)] 4 :: L) (fun v F' L' => .bool true = v ∧ Fy = F' ∧ objH l (.loop R) :: cellsH bo [sv] 43 :: slH 102 3 sv m cs :: cellsH bl [.bool (true)] 4 :: L = L')) :
    Does prog 321 [(.func (.yield l) #[] #[]), ptr bt 0, ptr bs 0] F (objH l (.loop R) :: cellsH bo [sN] 43 :: cellsH bl [.bool (false)] 4 :: L) (fun v F' L' => ∃ (sv : Value) (cs : List Value) (Ls : List HP), IsSl sv ∧ StepsC F' cs (stepsL ar rs t) ∧ DeepL 3 (StepO 2) cs (stepsL ar rs t) Ls ∧ Fresh F F' (star Ls) ∧ objH l (.loop R) :: cellsH bo [sv] 43 :: slH 102 3 sv ((stepsL ar rs t).length) cs :: cellsH bl [.bool (longL ar rs t)] 4 :: L = L') := by
 refine qL func321 rfl rfl rfl ?_
 have hnn := yb ht (by have := termOk_len ho; omega)
 have htl := termOk_len ho
 have hrl := (sysOk_iff.1 hsys).2.1
 have hsig := (sysOk_iff.1 hsys).1
 have hsl := sigOk_spec hsig
 refine qc (qa (cX (ql qZ rfl (FzC.rd1 hbt rfl) (cX (qD qf rfl ht.slv (qd (ii (0)) rfl (qb (qN (jw (α := Nat × Value × List StepT × List Value × List HP × Nat × Bool × FH) (fun xQ => [(0, (.func (.yield l) #[] #[])), (1, ptr bt 0), (2, ptr bs 0), (9, tv), (10, ii ((t.length : Int))), (11, ii (((xQ.1 : Nat) : Int)))]) (fun xQ => slH 102 3 xQ.2.1 xQ.2.2.2.2.2.1 xQ.2.2.2.1 :: objH l (.loop R) :: cellsH bo [xQ.2.1] 43 :: cellsH bl [.bool (xQ.2.2.2.2.2.2.1)] 4 :: L) (fun xQ F' => xQ.2.2.2.2.2.2.2 = F' ∧ F ≤ xQ.2.2.2.2.2.2.2 ∧ (xQ.1 ≤ t.length) ∧ (IsSl xQ.2.1) ∧ (StepsC xQ.2.2.2.2.2.2.2 xQ.2.2.2.1 xQ.2.2.1) ∧ (xQ.2.2.2.2.2.1 = xQ.2.2.1.length) ∧ (DeepL 3 (StepO 2) xQ.2.2.2.1 xQ.2.2.1 xQ.2.2.2.2.1) ∧ (Fresh F xQ.2.2.2.2.2.2.2 (star xQ.2.2.2.2.1)) ∧ (xQ.2.2.1 = stepsTo ar rs t xQ.1) ∧ (xQ.2.2.2.2.2.2.1 = longTo ar rs t xQ.1)) (fun xQ => t.length - xQ.1) (0, sN, [], [], [], 0, false, F) ⟨rfl, rfl, rfl, rfl, rfl, rfl, ⟨⟩⟩ (qR (Sub.addNil 102 3 _ _) (sC (sC (sC (sC sR))))) ⟨rfl, FLe.refl _, (by (try dsimp only) <;> omega), (⟨_, _, _, rfl⟩), (CO.nil), (rfl), (DeepL.nil), (Fresh.nilL), (rfl), (rfl)⟩ ?_)))))))))
 rintro ⟨k, sv, ss, cs, Ls, m, lb, G1⟩ rE _ _ ⟨rfl, leG, hk, hsv, hC, hm, hD, hZ, hss, hlb⟩
 show X _ _ _ _ (envs [(0, (.func (.yield l) #[] #[])), (1, ptr bt 0), (2, ptr bs 0), (9, tv), (10, ii ((t.length : Int))), (11, ii ((k : Int)))] rE) _ (slH 102 3 sv m cs :: objH l (.loop R) :: cellsH bo [sv] 43 :: cellsH bl [.bool (lb)] 4 :: L)
 replace leG : F ≤ G1 := leG
 dsimp only at hk hsv hC hm hD hZ hss hlb
 have hsl1 := stepsTo_len (ar := ar) (t := t) (rs := rs) hrl k
 have hZo := hZ
 have hss0 := hss
 have hlb0 := hlb
 have leG1 := leG
 replace har := har.mono leG1
 replace hrs := hrs.mono leG1
 replace ht := ht.mono leG1
 replace hbt := hbt.mono leG1
 replace hbs := hbs.mono leG1
 refine qc (qa (cX (jf rfl rfl (qb (qc ?_)))))
 refine qE (p := (k : Int) < (t.length : Int)) rfl (fun h1 => ?_) (fun h1 => ?_)
 ·refine qz (qc (qN (qc (qa (qd (ii ((k : Int))) rfl (cX (qB k qf qy rfl rfl rfl ht.slv (by omega) (Nat.mul_one _) (cX (ql jt rfl (ht.rd (by omega)) (qg (ii ((k : Int))) rfl (qg (ii (t.getD k 0)) rfl (qb (qc (qa (cX (qk (1) ja rfl yd (by decide) rfl rfl (cX (ql isAgg37 rfl (FzC.rd1 hbs rfl) (cX (qD jA rfl hrs.slv ?_))))))))))))))))))))
  refine qd (ii (0)) rfl (qb (qN (jw (α := Nat × Value × List StepT × List Value × List HP × Nat × Bool × FH) (fun xQ => [(0, (.func (.yield l) #[] #[])), (1, ptr bt 0), (2, ptr bs 0), (4, ii ((k : Int))), (5, ii (t.getD k 0)), (9, tv), (10, ii ((t.length : Int))), (11, ii ((k : Int))), (18, ii ((rs.length : Int))), (19, ii (((xQ.1 : Nat) : Int)))]) (fun xQ => slH 102 3 xQ.2.1 xQ.2.2.2.2.2.1 xQ.2.2.2.1 :: objH l (.loop R) :: cellsH bo [xQ.2.1] 43 :: cellsH bl [.bool (xQ.2.2.2.2.2.2.1)] 4 :: L) (fun xQ F' => xQ.2.2.2.2.2.2.2 = F' ∧ G1 ≤ xQ.2.2.2.2.2.2.2 ∧ (xQ.1 ≤ rs.length) ∧ (IsSl xQ.2.1) ∧ (StepsC xQ.2.2.2.2.2.2.2 xQ.2.2.2.1 xQ.2.2.1) ∧ (xQ.2.2.2.2.2.1 = xQ.2.2.1.length) ∧ (DeepL 3 (StepO 2) xQ.2.2.2.1 xQ.2.2.1 xQ.2.2.2.2.1) ∧ (Fresh F xQ.2.2.2.2.2.2.2 (star xQ.2.2.2.2.1)) ∧ (xQ.2.2.1 = stepsTo ar rs t k ++ stepsRow ar rs t k xQ.1) ∧ (xQ.2.2.2.2.2.2.1 = (longTo ar rs t k || longRow ar rs t k xQ.1))) (fun xQ => rs.length - xQ.1) (0, sv, ss, cs, Ls, m, lb, G1) ⟨rfl, rfl, rfl, rfl, rfl, rfl, rfl, rfl, rfl, rfl, ⟨⟩⟩ (sC (sC (sC (sC sR)))) ⟨rfl, FLe.refl _, (by (try dsimp only) <;> omega), (hsv), (hC), (hm), (hD), (hZ), (by (try dsimp only); rw [hss0]; simp [stepsRow]), (by (try dsimp only); rw [hlb0]; simp [longRow])⟩ ?_)))
  rintro ⟨r, sv, ss, cs, Ls, m, lb, G2⟩ rE _ _ ⟨rfl, leG, hr, hsvi, hCi, hmi, hDi, hZi, hssi, hlbi⟩
  show X _ _ _ _ (envs [(0, (.func (.yield l) #[] #[])), (1, ptr bt 0), (2, ptr bs 0), (4, ii ((k : Int))), (5, ii (t.getD k 0)), (9, tv), (10, ii ((t.length : Int))), (11, ii ((k : Int))), (18, ii ((rs.length : Int))), (19, ii ((r : Int)))] rE) _ (slH 102 3 sv m cs :: objH l (.loop R) :: cellsH bo [sv] 43 :: cellsH bl [.bool (lb)] 4 :: L)
  replace leG : G1 ≤ G2 := leG
  dsimp only at hr hsvi hCi hmi hDi hZi hssi hlbi
  have hsl2 := stepsRow_len (ar := ar) (rs := rs) (t := t) (p := k) r
  have hssl : ss.length ≤ 1000 := by rw [hssi, List.length_append]; omega
  have leG2 := leG
  replace har := har.mono leG2
  replace hrs := hrs.mono leG2
  replace ht := ht.mono leG2
  replace hbt := hbt.mono leG2
  replace hbs := hbs.mono leG2
  replace hC := hC.mono leG2
  refine qc (qa (cX (jf rfl rfl (qb (qc ?_)))))
  refine qE (p := (r : Int) < (rs.length : Int)) rfl (fun h2 => ?_) (fun h2 => ?_)
  ·refine qz (qc (qN (qc (qa (qd (ii ((r : Int))) rfl (qg (ii ((r : Int))) rfl (qb (qc (qc (qa (qd (ii (t.getD k 0)) rfl (cX (jf rfl rfl (qd (.bool (decide ((t.getD k 0 : Int) < 0))) rfl ?_))))))))))))))
   by_cases h3 : (t.getD k 0 : Int) < 0
   ·have hone := one_none (isRedex_var (p := k) (r := r) hsys ho (by omega) (by omega) (show r < rs.length by omega))
    refine qr (t := 24) rfl (vT h3) (qr (t := 24) rfl (vT h3) (qr (t := 24) rfl (vT h3) (qr (t := 24) rfl (vT h3) (qr (t := 24) rfl (vT h3) (qr (t := 24) rfl (vT h3) (cX (qU (.bool (true)) (vT h3) rfl (qb (jI rfl (jo (qt (qO ?_))))))))))))
    refine qa (cX (qP (((r + 1 : Nat) : Int)) rfl rfl (by omega) (by omega) (qd (ii (((r + 1 : Nat) : Int))) rfl (qb ?_))))
    exact ⟨(r + 1, sv, ss, cs, Ls, m, lb, G2), _, leG2, rF, ⟨rfl, rfl, rfl, rfl, rfl, rfl, rfl, rfl, rfl, rfl, ⟨⟩⟩, (sC (sC (sC (sC sR)))), ⟨rfl, leG2, (by (try dsimp only) <;> omega), (hsvi), (hCi), (by (try dsimp only); (try rw [List.length_append, List.length_singleton]); omega), (hDi), (hZi), (by (try dsimp only); rw [hssi, stepsRow_succ, hone.1]; simp), (by (try dsimp only); rw [longRow_succ, hone.2]; (try rw [hlbi]); simp)⟩, (by omega)⟩
   refine qp (t := 24) rfl (vF h3) (qn [arv, rsv] jr jl rfl rfl (FzC.rd hbs rfl) (qp (t := 24) rfl (vF h3) (ql qZ rfl (FzC.rd1 hbt rfl) (qp (t := 24) rfl (vF h3) (qq (ii ((k : Int))) rfl (qp (t := 24) rfl (vF h3) (qq (ii ((r : Int))) rfl (qp (t := 24) rfl (vF h3) (qo (args := [.agg #[arv, rsv], tv, ii (k : Int), ii (r : Int)]) call289 rfl (redex_spec (p := k) (r := r) har hrs ht (hsys := (by first | assumption | rfl | omega | simp)) (ho := (by first | assumption | rfl | omega | simp)) (hp := (by first | assumption | rfl | omega | simp)) (hr := (by first | assumption | rfl | omega | simp))) ?_)))))))))
   rintro _ _ _ _ ⟨rfl, rfl, rfl⟩
   refine qp (t := 24) rfl (vF h3) (jn rfl (cX (qS (.bool (!(isRedex ar rs t k r))) (vF h3) rfl (qb ?_))))
   refine jN (t := !(isRedex ar rs t k r)) rfl (fun h4 => ?_) (fun h4 => ?_)
   ·have hone := one_none (show isRedex ar rs t k r = false by simpa using h4)
    refine jo (qt (qO (qa (cX (qP (((r + 1 : Nat) : Int)) rfl rfl (by omega) (by omega) (qd (ii (((r + 1 : Nat) : Int))) rfl (qb ?_)))))))
    exact ⟨(r + 1, sv, ss, cs, Ls, m, lb, G2), _, leG2, rF, ⟨rfl, rfl, rfl, rfl, rfl, rfl, rfl, rfl, rfl, rfl, ⟨⟩⟩, (sC (sC (sC (sC sR)))), ⟨rfl, leG2, (by (try dsimp only) <;> omega), (hsvi), (hCi), (by (try dsimp only); (try rw [List.length_append, List.length_singleton]); omega), (hDi), (hZi), (by (try dsimp only); rw [hssi, stepsRow_succ, hone.1]; simp), (by (try dsimp only); rw [longRow_succ, hone.2]; (try rw [hlbi]); simp)⟩, (by omega)⟩
   have hrx : isRedex ar rs t k r = true := by simpa using h4
   refine qz (qc (qa (cX (qn [arv, rsv] jr jl rfl rfl (FzC.rd hbs rfl) (cX (ql qZ rfl (FzC.rd1 hbt rfl) (qd (ii ((k : Int))) rfl (qd (ii ((r : Int))) rfl (cX (qo (args := [.agg #[arv, rsv], tv, ii (k : Int), ii (r : Int)]) call225 rfl (step_spec (p := k) (r := r) har hrs ht (hsys := (by first | assumption | rfl | omega | simp)) (ho := (by first | assumption | rfl | omega | simp)) (hp := (by first | assumption | rfl | omega | simp)) (hr := (by first | assumption | rfl | omega | simp))) ?_))))))))))
   rintro _ F1 _ le1 ⟨x1, rfl, hr1, hr2, hr3, rfl⟩
   replace hC := hC.mono le1
   replace hCi := hCi.mono le1
   refine qd (.tuple #[x1, .bool ((stepL ar rs t k r).isSome)]) rfl (cX (qQ (x1) rfl rfl (cX (qQ (.bool ((stepL ar rs t k r).isSome)) rfl rfl (qg (x1) rfl (qg (.bool ((stepL ar rs t k r).isSome)) rfl (qb (qc (X.ofI (by kernel_rfl) (XI.region (jH (qq ((.func (.yield l) #[] #[])) rfl (jH (qq (ii ((k : Int))) rfl ?_))))))))))))))
   refine jH (qq (ii ((r : Int))) rfl (jH (qq (x1) rfl (jH (jg [ii ((k : Int)), ii ((r : Int)), x1] [ii (0), ii (0), sN] [(0, 1), (1, 1), (2, 1)] [(0, [ii ((k : Int))]), (1, [ii ((r : Int))]), (2, [x1])] jm jE rfl (.cons rfl qy (.cons rfl qy (.cons rfl qu PlacesAre.nil))) rfl (.cons rfl (.cons rfl (.cons (cells_one (qF hr1)) CellsAre.nil))) (jH (qq (.bool ((stepL ar rs t k r).isSome)) rfl ?_)))))))
   by_cases h5 : ((stepL ar rs t k r).isSome) = true
   ·refine XIL.yield (k := l) (args := [.agg #[ii ((k : Int)), ii ((r : Int)), x1], .bool true]) rfl (by rw [← h5]; rfl) (Yld.weaken (qR (qX (A := [_, _, _])) (qR (qX (A := [_])) (qR (qX (A := [_, _, _])) (qR (qX (A := [_, _, _])) (sC (sC (sC (sC sR)))))))) ?_)
    have hone := one_some h5
    refine (hyes _ _ _ _ _ _ _ _ _ _ (qh (qh leG1 leG2) le1) hsvi hCi hmi (by omega) hr1).mono ?_
    rintro _ _ _ _ ⟨rfl, rfl, sw1, hs1, rfl⟩
    have hc1 := StepsC.snoc hCi (i := (k : Int)) (j := (r : Int)) hr1
    show XIL _ _ _ _ _ _ _ _ _ (objH l (.loop R) :: cellsH bo [sw1] 43 :: slH 102 3 sw1 (m + 1) ((cs ++ [ii ((k : Int)), ii ((r : Int)), x1])) :: cellsH bl [.bool (lb)] 4 :: L)
    refine jH (jn rfl (XIL.nil (X.condF rfl (qz (qa (cX (qP (((r + 1 : Nat) : Int)) rfl rfl (by omega) (by omega) (qd (ii (((r + 1 : Nat) : Int))) rfl (qb ?_)))))))))
    exact ⟨(r + 1, sw1, (ss ++ [((k : Int), (r : Int), (stepL ar rs t k r).getD [])]), (cs ++ [ii ((k : Int)), ii ((r : Int)), x1]), Ls ++ [intsH 2 x1 ((stepL ar rs t k r).getD [])], m + 1, lb, F1), _, (qh leG2 le1), rF, ⟨rfl, rfl, rfl, rfl, rfl, rfl, rfl, rfl, rfl, rfl, ⟨⟩⟩, (qR (qX (A := [_, _, _])) (qR (qX (A := [_, _])) (qR (qX (A := [_, _])) (qR (qX (A := [_, _, _])) (sC (sC (sC (sC sR)))))))), ⟨rfl, (qh leG2 le1), (by (try dsimp only) <;> omega), (hs1), (hc1), (by (try dsimp only); (try rw [List.length_append, List.length_singleton]); omega), (DeepL.snoc hDi rfl ⟨_, rfl, rfl⟩), ((Fresh.app hZi (qh leG1 leG2) (Fresh.one hr3) le1)), (by (try dsimp only); rw [hssi, stepsRow_succ, hone.1]; simp), (by (try dsimp only); rw [longRow_succ, hone.2]; (try rw [hlbi]); simp)⟩, (by omega)⟩
   rw [Bool.not_eq_true] at h5
   refine XIL.yield (k := l) (args := [.agg #[ii ((k : Int)), ii ((r : Int)), x1], .bool false]) rfl (by rw [← h5]; rfl) (Yld.weaken (qR (qX (A := [_, _, _])) (qR (qX (A := [_])) (qR (qX (A := [_, _, _])) (qR (qX (A := [_, _, _])) (sC (sC (sC (sC sR)))))))) ?_)
   have hone := one_long hrx h5
   refine (hno _ _ _ _ _ _ _ _ (qh (qh leG1 leG2) le1) hsvi (qF hr1)).mono ?_
   rintro _ _ _ _ ⟨rfl, rfl, rfl⟩
   show XIL _ _ _ _ _ _ _ _ _ (objH l (.loop R) :: cellsH bo [sv] 43 :: slH 102 3 sv m cs :: cellsH bl [.bool (true)] 4 :: L)
   refine jH (jn rfl (XIL.nil (X.condF rfl (qz (qa (cX (qP (((r + 1 : Nat) : Int)) rfl rfl (by omega) (by omega) (qd (ii (((r + 1 : Nat) : Int))) rfl (qb ?_)))))))))
   exact ⟨(r + 1, sv, ss, cs, Ls, m, true, F1), _, (qh leG2 le1), rF, ⟨rfl, rfl, rfl, rfl, rfl, rfl, rfl, rfl, rfl, rfl, ⟨⟩⟩, (qR (qX (A := [_, _, _])) (qR (qX (A := [_, _])) (qR (qX (A := [_, _])) (qR (qX (A := [_, _, _])) (sC (sC (sC (sC sR)))))))), ⟨rfl, (qh leG2 le1), (by (try dsimp only) <;> omega), (hsvi), (hCi), (by (try dsimp only); (try rw [List.length_append, List.length_singleton]); omega), (hDi), ((hZi.mono le1)), (by (try dsimp only); rw [hssi, stepsRow_succ, hone.1]; simp), (by (try dsimp only); rw [longRow_succ, hone.2]; (try rw [hlbi]); simp)⟩, (by omega)⟩
  refine jo (qt (qt (qO (qa (cX (qP (((k + 1 : Nat) : Int)) rfl rfl (by omega) (by omega) (qd (ii (((k + 1 : Nat) : Int))) rfl (qb ?_))))))))
  exact ⟨(k + 1, sv, ss, cs, Ls, m, lb, G2), _, (qh leG1 leG2), rF, ⟨rfl, rfl, rfl, rfl, rfl, rfl, ⟨⟩⟩, (sC (sC (sC (sC sR)))), ⟨rfl, (qh leG1 leG2), (by (try dsimp only) <;> omega), (hsvi), (hCi), (hmi), (hDi), (hZi), (by dsimp only; rw [hssi, stepsTo_succ, show r = rs.length from by omega]), (by dsimp only; rw [hlbi, longTo_succ, show r = rs.length from by omega])⟩, (by omega)⟩
 refine jo (qt (qt (qO (id (retEndN (L' := objH l (.loop R) :: cellsH bo [sv] 43 :: slH 102 3 sv m cs :: cellsH bl [.bool (lb)] 4 :: L) [] (.tuple #[]) (by exact .nil) rfl leG1 rF (qR (qX (A := [_, _, _])) (qR (qX (A := [_])) (qR (qX (A := [_, _, _])) (qR (qX (A := [_, _, _])) (sC (sC (sC (sC sR)))))))) ?_)))))
 have hkl : k = t.length := by omega
 have e1 : stepsL ar rs t = ss := by rw [hss, hkl]; rfl
 have e2 : longL ar rs t = lb := by rw [hlb, hkl]; rfl
 rw [e1, e2]
 subst hm
 exact ⟨sv, cs, Ls, hsv, hC, hD, hZ, rfl⟩

/- impl.stepsFrom -/
set_option maxRecDepth 20000 in
theorem stepsFrom_spec {F : FH} {L : List HP} {arv : Value} {ar : List Int} (har : IntsF F arv ar) {rsv : Value} {rs : List (List Int × List Int)} (hrs : PairsF F rsv rs) {tv : Value} {t : List Int} (ht : IntsF F tv t) (hsys : sysOk ar rs = true) (ho : termOk ar t = true) :
    Does prog 217 [.agg #[arv, rsv], tv] F (L) (fun v F' L' => ∃ (a : Value), (.tuple #[a, .bool (longL ar rs t)] : Value) = v ∧ FrStepsF F F' 2 a (stepsL ar rs t) ∧ L = L') := by
 refine Does.of_XF func217 rfl (by kernel_rfl) rfl ?_
 have hnn := yb ht (by have := termOk_len ho; omega)
 have htl := termOk_len ho
 have hrl := (sysOk_iff.1 hsys).2.1
 have hsig := (sysOk_iff.1 hsys).1
 have hsl := sigOk_spec hsig
 refine XF.seq (qa (cX (jd [arv, rsv] rfl rfl ?_)))
 intro b1
 refine qg (sN) rfl (qg (.bool (false)) rfl (qb (XF.seq (qa (cX (jc [sN] zeroValue43 rfl ?_))))))
 intro b2
 refine qb (XF.seq (qa (cX (jc [.bool (false)] zeroValue4 rfl ?_))))
 intro b3
 refine cX (jK [] _ [.bool (false)] sizeOf4 rfl rfl rfl rfl rfl rfl (qb (XF.ofR (XR.seq (qa (cX (qn [arv, rsv] jr jl rfl rfl (Rd.ownN [_, _] rfl rfl) (qd (tv) rfl (cX (qo (args := [.agg #[arv, rsv], tv]) call284 rfl (redexSteps_spec har hrs ht) ?_))))))))))
 rintro _ F1 _ le1 ⟨x1, x2, rfl, hb1, hb2, rfl⟩
 replace har := har.mono le1
 replace hrs := hrs.mono le1
 replace ht := ht.mono le1
 refine qb (XR.rangeB (gf := 321) (lb := [ptr x1 0, ptr x2 0]) rfl call321 (fun l D R hRs hRp hRps hRa hRb hRz hRg => ?_))
 have hR0 : ({ R with state := .ready, pending := none } : Loop) = R := by
  cases R
  simp only at hRs hRp
  subst hRs hRp
  rfl
 have hyes : ∀ (Fy : FH) (sv : Value) (ss : List StepT) (cs : List Value) (m : Nat) (lb : Bool) (i j : Int) (tov : Value) (to : List Int), F1 ≤ Fy → IsSl sv → StepsC Fy cs ss → m = ss.length → ss.length ≤ 4000000 → IntsF Fy tov to → Yld prog l [.agg #[.int .i64 i, .int .i64 j, tov], .bool true] Fy (objH l (.loop R) :: cellsH b2 [sv] 43 :: slH 102 3 sv m cs :: cellsH b3 [.bool (lb)] 4 :: objH D (.deferred (some [])) :: L) (fun v F' L' => .bool true = v ∧ Fy = F' ∧ ∃ sw, IsSl sw ∧ objH l (.loop R) :: cellsH b2 [sw] 43 :: slH 102 3 sw (m + 1) (cs ++ [.int .i64 i, .int .i64 j, tov]) :: cellsH b3 [.bool (lb)] 4 :: objH D (.deferred (some [])) :: L = L') := by
  intro Fy sv ss cs m lb i j tov to leF hsv hC hm hsb hto
  refine Yld.of_round hRs hRp hRps hRa hRb hRz hRg rfl (by kernel_rfl) (by kernel_rfl) (by kernel_rfl) (XI.slots [(13, .agg #[ii (i), ii (j), tov]), (14, .bool (true)), (6, ptr b2 0), (7, ptr b3 0)] ⟨rfl, rfl, rfl, rfl, ⟨⟩⟩ (fun rE => (XI.seq (XI.region (jH (jc [ii (0), ii (0), sN] jE rfl ?_))))))
  intro b4
  refine jH (qC [] _ [ii (i), ii (j), tov] ji rfl rfl rfl (qj rfl (qj rfl (qj (qJ (qF hto)) qK))) rfl rfl rfl (XIL.nil (XI.region (jH (XOp.assign (.bool (true)) rfl (XIL.nil ?_))))))
  refine ⟨cellsH b4 [ii (i), ii (j), tov] 102 :: cellsH b2 [sv] 43 :: slH 102 3 sv m cs :: cellsH b3 [.bool (lb)] 4 :: objH D (.deferred (some [])) :: L, (qR (qX (A := [_, _, _, _])) (qR (qX (A := [_, _, _, _])) (qR (qX (A := [_, _, _, _])) (qR (qX (A := [_, _, _])) (qR (qX (A := [_, _, _, _])) (sC (sC (sC (sC (sC sR)))))))))), ?_⟩
  refine XI.block (XI.seq (XI.region (jH (qq (.bool (true)) rfl (XIL.nil (XI.condT rfl (XI.region (jH (ql jL rfl (Rd.own [_, _] rfl rfl) (jH (qn [ii (i), ii (j), tov] yl ji rfl rfl (Rd.ownN [_] rfl rfl) (jH (qx (s := 3) [ii (i), ii (j), tov] [ii (0), ii (0), sN] [(0, [ii (i), ii (j), tov])] qG ji jE rfl (by decide) rfl (.cons rfl CellsAre.nil) rfl ?_)))))))))))))
  intro v1 hv1
  refine jH (jV (m := 1) (bytes := 40) (cs := cs) [_, _, _, _] _ [ii (i), ii (j), tov] qG typeInfo102 rfl rfl rfl rfl rfl rfl rfl (SlV.own [] rfl) rfl (Rd.lit [] rfl) (qj rfl (qj rfl (qj (qJ (qF hto)) qK))) (by (try simp only [List.length_append, List.length_nil, List.length_cons, List.length_singleton]); omega) (by (try simp only [List.length_append, List.length_nil, List.length_cons, List.length_singleton]); omega) ?_)
  intro v2 hs1 hn1 hm1
  have hc1 := StepsC.snoc hC (i := i) (j := j) hto
  refine jH (jK [_, _, _] _ [v2] jj rfl rfl (qJ hs1) rfl rfl rfl (XIL.nil ?_))
  refine ⟨rfl, ?_⟩
  refine ⟨cellsH b2 [v2] 43 :: slH 102 3 v2 ((m) + 1) (cs ++ [ii (i), ii (j), tov]) :: cellsH b3 [.bool (lb)] 4 :: objH D (.deferred (some [])) :: L, (sD (sC (sD (sC (sC (sC sR)))))), ?_⟩
  rw [hR0]
  exact ⟨rfl, rfl, _, hs1, rfl⟩
 have hno : ∀ (Fy : FH) (sv : Value) (cs : List Value) (m : Nat) (lb : Bool) (i j : Int) (tov : Value), F1 ≤ Fy → IsSl sv → IsSl tov → Yld prog l [.agg #[.int .i64 i, .int .i64 j, tov], .bool false] Fy (objH l (.loop R) :: cellsH b2 [sv] 43 :: slH 102 3 sv m cs :: cellsH b3 [.bool (lb)] 4 :: objH D (.deferred (some [])) :: L) (fun v F' L' => .bool true = v ∧ Fy = F' ∧ objH l (.loop R) :: cellsH b2 [sv] 43 :: slH 102 3 sv m cs :: cellsH b3 [.bool (true)] 4 :: objH D (.deferred (some [])) :: L = L') := by
  intro Fy sv cs m lb i j tov leF hsv htv
  refine Yld.of_round hRs hRp hRps hRa hRb hRz hRg rfl (by kernel_rfl) (by kernel_rfl) (by kernel_rfl) (XI.slots [(13, .agg #[ii (i), ii (j), tov]), (14, .bool (false)), (6, ptr b2 0), (7, ptr b3 0)] ⟨rfl, rfl, rfl, rfl, ⟨⟩⟩ (fun rE => (XI.seq (XI.region (jH (jc [ii (0), ii (0), sN] jE rfl ?_))))))
  intro b5
  refine jH (qC [] _ [ii (i), ii (j), tov] ji rfl rfl rfl (qj rfl (qj rfl (qj (qJ htv) qK))) rfl rfl rfl (XIL.nil (XI.region (jH (XOp.assign (.bool (false)) rfl (XIL.nil ?_))))))
  refine ⟨cellsH b5 [ii (i), ii (j), tov] 102 :: cellsH b2 [sv] 43 :: slH 102 3 sv m cs :: cellsH b3 [.bool (lb)] 4 :: objH D (.deferred (some [])) :: L, (qR (qX (A := [_, _, _, _])) (qR (qX (A := [_, _, _, _])) (qR (qX (A := [_, _, _, _])) (qR (qX (A := [_, _, _])) (qR (qX (A := [_, _, _, _])) (sC (sC (sC (sC (sC sR)))))))))), ?_⟩
  refine XI.block (XI.seq (XI.region (jH (qq (.bool (false)) rfl (XIL.nil (XI.condF rfl (XI.region (jH (jK [_, _, _, _] _ [.bool (true)] sizeOf4 rfl rfl rfl rfl rfl rfl (XIL.nil ?_))))))))))
  refine ⟨rfl, ?_⟩
  refine ⟨cellsH b2 [sv] 43 :: slH 102 3 sv m cs :: cellsH b3 [.bool (true)] 4 :: objH D (.deferred (some [])) :: L, (sC (sD (sC (sC (sC sR))))), ?_⟩
  rw [hR0]
  exact ⟨rfl, rfl, rfl⟩
 refine (Does.weaken (qR (qX (A := [_])) (qR (qX (A := [_, _])) (qR (qX (A := [_, _, _])) (qR (qX (A := [_, _, _])) (sC (sC (sC (sC (sD sR))))))))) (redexIt_spec har hrs ht hb1 hb2 hsys ho hyes hno)).mono ?_
 rintro _ F9 _ le9 ⟨sv, cs, Ls, hsv, hC, hD, hZ, rfl⟩
 refine ⟨R, cellsH b2 [sv] 43 :: slH 102 3 sv ((stepsL ar rs t).length) cs :: cellsH b3 [.bool (longL ar rs t)] 4 :: L, by rw [hRs]; simp, hRp, (qR (qX (A := [_, _, _])) (qR (qX (A := [_, _, _])) (qR (qX (A := [_, _, _])) (qR (qX (A := [_, _, _, _])) (qR (qX (A := [_, _, _, _])) (sC (sC (sC (sC (sC sR)))))))))), ?_⟩
 refine XI.seq ?_
 refine XI.draw [objH D (.deferred (some [])), cellsH b2 [sv] 43, slH 102 3 sv ((stepsL ar rs t).length) cs, cellsH b3 [.bool (longL ar rs t)] 4] L 3 [] [[], [], [0]] (phiL [qe sv, qe (.bool (longL ar rs t)), qe sv]) (ownL []) mixed rfl rfl (by kernel_rfl) ?_ ?_
 ·refine pD (fun W R z9 => ?_) ?_
  ·refine qi (ql jL rfl (Rd.own [_] rfl rfl) ?_)
   exact ⟨rfl, rfl, rfl⟩
  refine pD (fun W R z9 => ?_) ?_
  ·refine qi (ql isAgg4 rfl (Rd.own [_, _, _] rfl rfl) ?_)
   exact ⟨rfl, rfl, rfl⟩
  refine pD (fun W R z9 => ?_) ?_
  ·rw [eS (l := [(0, _)]) ⟨z9 0 rfl, ⟨⟩⟩]
   refine qi (XOp.assign (sv) rfl ?_)
   exact ⟨rfl, rfl, rfl⟩
  exact stepsP.nil
 intro W hphi
 rw [eS (l := [(1, _), (2, _)]) ⟨(hphi 1 (by decide)), (hphi 2 (by decide)), ⟨⟩⟩]
 show XIL _ _ _ _ _ _ _ _ _ (objH D (.deferred (some [])) :: cellsH b2 [sv] 43 :: slH 102 3 sv ((stepsL ar rs t).length) cs :: cellsH b3 [.bool (longL ar rs t)] 4 :: L)
 refine jH (XOp.assign (.bool (longL ar rs t)) rfl (XIL.nil (XI.freezeF [_, _] _ _ rfl (fun F2 le2 hz1 => ?_))))
 replace hC := hC.mono le2
 have hf1 : StepsF F2 sv ((stepsL ar rs t)) := CO.fz hC (by first | rfl | omega | (rw [List.length_set]; omega) | (simp; done)) hz1.fz
 refine XI.ret (retEndD (L' := L) [sv, .bool (longL ar rs t)] (.tuple #[sv, .bool (longL ar rs t)]) (fun _ _ => (.tmp rfl (.tmp rfl .nil))) rfl (qh (qh le1 le9) le2) rF (sC (sD (sD sR))) ?_)
 exact ⟨_, rfl, ⟨cs, Ls, StepsC.fzx hC rfl hz1.fz, hD, ((hZ.mono le2).base le1)⟩, rfl⟩
end Go.Proofs.YtenomejgjcpbdaaGreat
set_option linter.unusedSimpArgs false
set_option linter.unusedVariables false
namespace Go.Proofs.YtenomejgjcpbdaaGreat
open Go X M Tryz

/- impl.found$1 -/
theorem found1_spec {F : FH} {L : List HP} {xv : Value} {x : List Int} (hx : IntsF F xv x) {i1 : Int} {i2 : Int} {i3 : Int} {yv : Value} {y : List Int} (hy : IntsF F yv y) {i4 : Int} {uv : Value} {u : List Int} (hu : IntsF F uv u) {bt : Nat} (hzbt : FzC F bt [uv]) (hlu : u.length ≤ 4000000) :
    Does prog 288 [.agg #[xv, ii (i1), ii (i2), ii (i3), yv, ii (i4)], ptr bt 0] F (L) (fun v F' L' => (.bool (decide (x = u)) : Value) = v ∧ F = F' ∧ L = L') := by
 refine qL func288 rfl rfl rfl (qc (qa (cX (jd [xv, ii (i1), ii (i2), ii (i3), yv, ii (i4)] rfl rfl ?_))))
 intro b1
 refine qg (.bool (false)) rfl (qb (qc (qa (cX (qk (0) yh rfl qu (by decide) rfl rfl (cX (ql qZ rfl (Rd.own [] rfl rfl) (cX (ql qZ rfl (FzC.rd1 hzbt rfl) (cX (qo (args := [xv, uv]) call156 rfl (Equal_spec hx hu (hbd := (by first | assumption | rfl | omega | (left; simp; done) | (right; simp; done)))) ?_)))))))))))
 rintro _ _ _ _ ⟨rfl, rfl, rfl⟩
 refine qg (.bool (decide (x = u))) rfl (qb (qw (qs (L' := L) [.bool (decide (x = u))] (.bool (decide (x = u))) (.tmp rfl .nil) rfl rF rF (sD sR) ?_)))
 exact ⟨rfl, rfl, rfl⟩

/- slices.IndexFunc[[]impl.reached,impl.reached] -/
theorem IndexFuncFound_spec {F : FH} {L : List HP} {alv : Value} {al : List FoundT} {alcs : List Value} (hal : FoundsF F alv al alcs) {uv : Value} {u : List Int} (hu : IntsF F uv u) {bt : Nat} (hzbt : FzC F bt [uv]) (hlt : al.length ≤ 4000000) (hlu : u.length ≤ 4000000) :
    Does prog 287 [alv, .func (.func 288) #[] #[ptr bt 0]] F (L) (fun v F' L' => (ii (foundI al u) : Value) = v ∧ F = F' ∧ L = L') := by
 refine qL func287 rfl rfl rfl (qc (qa (qg (ii (0)) rfl (qb (qc (qc (qa (qd (alv) rfl (cX (qD jP rfl hal.slv (qd (ii (0)) rfl (qb (qN (jw (α := Nat) (fun k => [(0, alv), (1, .func (.func 288) #[] #[ptr bt 0]), (7, ii ((al.length : Int))), (8, ii ((k : Int)))]) (fun k => L) (fun k F' => F = F' ∧ (k ≤ al.length) ∧ (∀ i, i < k → (EL al i).1 ≠ u)) (fun k => al.length - k) 0 ⟨rfl, rfl, rfl, rfl, ⟨⟩⟩ sR ⟨rfl, (by (try dsimp only) <;> omega), (fun i hi => absurd hi (by omega))⟩ ?_))))))))))))))
 rintro k rE _ _ ⟨rfl, hk, hall⟩
 show X _ _ _ _ (envs [(0, alv), (1, .func (.func 288) #[] #[ptr bt 0]), (7, ii ((al.length : Int))), (8, ii ((k : Int)))] rE) _ (L)
 refine qc (qa (cX (jf rfl rfl (qb (qc ?_)))))
 refine qE (p := (k : Int) < (al.length : Int)) rfl (fun h1 => ?_) (fun h1 => ?_)
 ·refine qz (qc (qN (qc (qa (qd (ii ((k : Int))) rfl (qg (ii ((k : Int))) rfl (qb (qc (qa (qd (.func (.func 288) #[] #[ptr bt 0]) rfl (qd (alv) rfl (qd (ii ((k : Int))) rfl (cX (qB k jP sizeOf181 rfl rfl rfl hal.slv (by omega) rfl ?_))))))))))))))
  obtain ⟨a1, a2, ha1, ha2, hrg1, hq1⟩ := hal.rd (i := k) (by omega)
  refine cX (qn [a1, ii ((al.getD k ([], 0, (0, 0, []), 0)).2.1), ii ((al.getD k ([], 0, (0, 0, []), 0)).2.2.1.1), ii ((al.getD k ([], 0, (0, 0, []), 0)).2.2.1.2.1), a2, ii ((al.getD k ([], 0, (0, 0, []), 0)).2.2.2)] isAgg181 sizeOf181 rfl rfl (Rd.all (hrg1 _)) (cX (XOp.callV (first := []) (captured := [ptr bt 0]) (args := [.agg #[a1, ii ((al.getD k ([], 0, (0, 0, []), 0)).2.1), ii ((al.getD k ([], 0, (0, 0, []), 0)).2.2.1.1), ii ((al.getD k ([], 0, (0, 0, []), 0)).2.2.1.2.1), a2, ii ((al.getD k ([], 0, (0, 0, []), 0)).2.2.2)], ptr bt 0]) call288 rfl rfl (found1_spec ha1 ha2 hu hzbt (hlu := (by first | assumption | rfl | omega | simp))) ?_)))
  rintro _ _ _ _ ⟨rfl, rfl, rfl⟩
  refine qb ?_
  refine jN (t := decide (((al.getD k ([], 0, (0, 0, []), 0)).1) = u)) rfl (fun h2 => ?_) (fun h2 => ?_)
  ·refine qc (qa (qd (ii ((k : Int))) rfl (qg (ii ((k : Int))) rfl (qb (qw (qI (qm (qm (qI (qm (qs (L' := L) [ii ((k : Int))] (ii ((k : Int))) (.tmp rfl .nil) rfl rF rF sR ?_)))))))))))
   exact ⟨(vI (foundI_at (k := k) (by omega) (by unfold EL; simp_all) hall)), rfl, rfl⟩
  refine qz (qa (cX (qP (((k + 1 : Nat) : Int)) rfl rfl (by omega) (by omega) (qd (ii (((k + 1 : Nat) : Int))) rfl (qb ?_)))))
  exact ⟨k + 1, _, FLe.refl _, rF, ⟨rfl, rfl, rfl, rfl, ⟨⟩⟩, sR, ⟨rfl, (by (try dsimp only) <;> omega), (fun i hi => (Nat.lt_or_ge i k).elim (fun h => hall i h) (fun h => by obtain rfl : i = k := (by omega); unfold EL; simp_all))⟩, (by omega)⟩
 refine jo (qt (qt (qO (qc (qa (qg (ii (-1)) rfl (qb (qw (qs (L' := L) [ii (-1)] (ii (-1)) (.tmp rfl .nil) rfl rF rF sR ?_)))))))))
 exact ⟨(vI (foundI_none (fun i hi => hall i (by omega)))), rfl, rfl⟩

/- impl.found -/
theorem found_spec {F : FH} {L : List HP} {alv : Value} {al : List FoundT} {alcs : List Value} (hal : FoundsF F alv al alcs) {uv : Value} {u : List Int} (hu : IntsF F uv u) (hlt : al.length ≤ 4000000) (hlu : u.length ≤ 4000000) :
    Does prog 222 [alv, uv] F (L) (fun v F' L' => (ii (foundI al u) : Value) = v ∧ F = F' ∧ L = L') := by
 refine qL func222 rfl rfl rfl (qc (qa (cX (jd [uv] rfl (cells_one (qF hu)) ?_))))
 intro b1
 refine qg (ii (0)) rfl (qb (qc (qa (qd (alv) rfl (cX (XOp.makeFuncL [] [ptr b1 0] rfl rfl (XL.freeze [] _ _ rfl (fun F1 le1 hz1 => ?_))))))))
 replace hal := hal.mono le1
 replace hu := hu.mono le1
 have hf1 : FzC F1 b1 [uv] := Fz.cells hz1
 refine cX (qo (args := [alv, .func (.func 288) #[] #[ptr b1 0]]) call287 rfl (IndexFuncFound_spec hal hu hf1 (hlt := (by first | assumption | rfl | omega | simp)) (hlu := (by first | assumption | rfl | omega | simp))) ?_)
 rintro _ _ _ _ ⟨rfl, rfl, rfl⟩
 refine qg (ii (foundI al u)) rfl (qb (qw (qs (L' := L) [ii (foundI al u)] (ii (foundI al u)) (.tmp rfl .nil) rfl rF le1 sR ?_)))
 exact ⟨rfl, rfl, rfl⟩

/- impl.reach -/
set_option maxRecDepth 20000 in
theorem reach_spec {F : FH} {L : List HP} {arv : Value} {ar : List Int} (har : IntsF F arv ar) {rsv : Value} {rs : List (List Int × List Int)} (hrs : PairsF F rsv rs) {tv : Value} {t : List Int} (ht : IntsF F tv t) {n : Int} (hsys : sysOk ar rs = true) (ho : termOk ar t = true) (hn20 : 0 ≤ n ∧ n ≤ 20) :
    Does prog 122 [.agg #[arv, rsv], tv, ii (n)] F (L) (fun v F' L' => ∃ (a : Value) (acs : List Value) (Ls : List HP), (.tuple #[a, .bool (reachL ar rs t n).2] : Value) = v ∧ FoundsF F' a (reachL ar rs t n).1 acs ∧ DeepL 6 (FoundO 2) acs (reachL ar rs t n).1 Ls ∧ Fresh F F' (star Ls) ∧ L = L') := by
 refine qL func122 rfl rfl rfl ?_
 have hnn := yb ht (by have := termOk_len ho; omega)
 have htl := termOk_len ho
 have hrl := (sysOk_iff.1 hsys).2.1
 have hsig := (sysOk_iff.1 hsys).1
 have hsl := sigOk_spec hsig
 refine qc (qa (cX (jd [arv, rsv] rfl rfl ?_)))
 intro b1
 refine qg (sN) rfl (qg (.bool (false)) rfl (qb (qc (qa (qd (tv) rfl (cX (yf <| qo (args := [tv]) call97 rfl (Clone_spec ht (hlt := (by first | assumption | rfl | omega | simp))) ?_)))))))
 rintro v1 _ _ _ ⟨rfl, hs1, rfl⟩
 refine ⟨_, _, rfl, fun F1 le1 hz1 => ?_⟩
 replace har := har.mono le1
 replace hrs := hrs.mono le1
 have hf1 : IntsF F1 v1 ((t)) := intsH.fz (xs := (t)) hz1.fz
 skip
 refine cX (jg [v1, ii (-1), ii (0), ii (0), sN, ii (0)] [sN, ii (0), ii (0), ii (0), sN, ii (0)] [(0, 1), (1, 1), (2, 3), (5, 1)] [(0, [v1]), (1, [ii (-1)])] yh zeroValue181 rfl (.cons rfl qu (.cons rfl sizeOf3 (.cons rfl ji (.cons rfl qy PlacesAre.nil)))) rfl (.cons (cells_one (qF hf1)) (.cons rfl CellsAre.nil)) (cX (qx (s := 6) [v1, ii (-1), ii (0), ii (0), sN, ii (0)] [sN, ii (0), ii (0), ii (0), sN, ii (0)] [(0, [v1, ii (-1), ii (0), ii (0), sN, ii (0)])] jP sizeOf181 zeroValue181 rfl (by decide) rfl (.cons rfl CellsAre.nil) rfl ?_)))
 intro v2 hv1
 refine qg (v2) rfl (qb (qc (qc (qa (qg (ii (0)) rfl (qb (qN ?_)))))))
 have hc1 : FoundsC F1 [v1, ii (-1), ii (0), ii (0), sN, ii (0)] ([((t), -1, (0, 0, []), 0)] : List FoundT) := (FoundsC.snoc (CO.nil : FoundsC F1 [] []) (y0 := (t)) (y1 := -1) (y2 := 0) (y3 := 0) (y4 := []) (y5 := 0) hf1 IntsF.nilV)
 refine jw (α := Nat × Value × List FoundT × List Value × List HP × Nat × FH) (fun xQ => [(2, ii (n)), (3, ptr b1 0), (8, xQ.2.1), (9, ii (((xQ.1 : Nat) : Int)))]) (fun xQ => slH 181 6 xQ.2.1 xQ.2.2.2.2.2.1 xQ.2.2.2.1 :: cellsH b1 [arv, rsv] 39 :: L) (fun xQ F' => xQ.2.2.2.2.2.2 = F' ∧ F1 ≤ xQ.2.2.2.2.2.2 ∧ (IsSl xQ.2.1) ∧ (FoundsC xQ.2.2.2.2.2.2 xQ.2.2.2.1 xQ.2.2.1) ∧ (xQ.2.2.2.2.2.1 = xQ.2.2.1.length) ∧ (DeepL 6 (FoundO 2) xQ.2.2.2.1 xQ.2.2.1 xQ.2.2.2.2.1) ∧ (Fresh F xQ.2.2.2.2.2.2 (star xQ.2.2.2.2.1)) ∧ (xQ.1 ≤ xQ.2.2.1.length) ∧ (xQ.2.2.1.length ≤ 60) ∧ (AllOk ar xQ.2.2.1) ∧ (DeepOk n xQ.2.2.1) ∧ (reachL ar rs t n = reachGo ar rs n (60 - xQ.1) xQ.1 xQ.2.2.1)) (fun xQ => 60 - xQ.1) (0, v2, ([((t), -1, (0, 0, []), 0)] : List FoundT), [v1, ii (-1), ii (0), ii (0), sN, ii (0)], [intsH 2 v1 t], 1, F1) ⟨rfl, rfl, rfl, rfl, ⟨⟩⟩ (sC (sC sR)) ⟨rfl, FLe.refl _, ((jv hv1)), (hc1), (rfl), ((DeepL.snoc .nil rfl ⟨_, _, rfl, rfl⟩ : DeepL 6 (FoundO 2) ([] ++ _) ([] ++ _) ([] ++ _))), ((Fresh.one hz1)), (by simp), (by simp), (AllOk.start ho), (DeepOk.start hn20.1), (rfl)⟩ ?_
 rintro ⟨k, ov, os, ocs, Ts, on, G1⟩ rE _ _ ⟨rfl, leG, hov, hC, hn, hD, hZ, hk, hl, hok, hdo, hgo⟩
 show X _ _ _ _ (envs [(2, ii (n)), (3, ptr b1 0), (8, ov), (9, ii ((k : Int)))] rE) _ (slH 181 6 ov on ocs :: cellsH b1 [arv, rsv] 39 :: L)
 replace leG : F1 ≤ G1 := leG
 dsimp only at hov hC hn hD hZ hk hl hok hdo hgo
 have hdk : k < os.length → termOk ar (os.getD k ([], 0, (0, 0, []), 0)).1 = true := fun h => hok k h
 have hdl : k < os.length → 1 ≤ (os.getD k ([], 0, (0, 0, []), 0)).1.length ∧ (os.getD k ([], 0, (0, 0, []), 0)).1.length ≤ 60 := fun h => termOk_len (hok k h)
 have leG1 := leG
 replace har := har.mono leG1
 replace hrs := hrs.mono leG1
 refine qc (qc (qa (qd (ii ((k : Int))) rfl (qd (ov) rfl (cX (qD jP rfl (SlV.own [] rfl) (cX (jf rfl rfl (qb ?_)))))))))
 refine qE (p := (k : Int) < ((on : Nat) : Int)) rfl (fun h1 => ?_) (fun h1 => ?_)
 ·refine qz (qc (qN (qc (qc (qa (qd (ov) rfl (qd (ii ((k : Int))) rfl (cX (qB k jP sizeOf181 rfl rfl rfl (SlV.own [] rfl) (by omega) rfl (cX (jW (k * 6 + 5) yh rfl qy (by decide) rfl rfl ?_)))))))))))
  obtain ⟨a1, a2, ha1, ha2, hq1⟩ := hC.get (i := k) (by omega)
  refine cX (ql jt rfl (Rd.sl [] rfl (hq1 5 _ rfl)) (qd (ii (n)) rfl (cX (jR rfl rfl (qb ?_)))))
  refine qE (p := ((os.getD k ([], 0, (0, 0, []), 0)).2.2.2 : Int) = n) rfl (fun h2 => ?_) (fun h2 => ?_)
  ·have hdeep : (EL os k).2.2.2 = n := h2
   refine jo (qt (qO (qa (qd (ii ((k : Int))) rfl (cX (qP (((k + 1 : Nat) : Int)) rfl rfl (by omega) (by omega) (qg (ii (((k + 1 : Nat) : Int))) rfl (qb ?_))))))))
   exact ⟨(k + 1, ov, os, ocs, Ts, on, G1), _, leG1, rF, ⟨rfl, rfl, rfl, rfl, ⟨⟩⟩, (sC (sC sR)), ⟨rfl, leG1, (hov), (hC), (hn), (hD), (hZ), (by (try dsimp only) <;> omega), (by (try dsimp only) <;> omega), (hok), (hdo), (by (try dsimp only); exact hgo.trans (reach_same (f := 60 - k - 1) (by omega) (by omega) hdeep))⟩, (by (try dsimp only); omega)⟩
  have hdeep : (EL os k).2.2.2 ≠ n := h2
  refine qz (qc ?_)
  refine jZ [slH 181 6 ov on ocs, cellsH b1 [arv, rsv] 39] L 11 [[], [], [], [], [], [], [], [6], [6], [], [6]] [[], [], [], [1, 2], [3], [4], [0, 5], [6], [6, 7], [6, 7], [6, 8]] [] (phiG [pe (.agg #[arv, rsv]), pe ov, pe (ii ((k : Int)) : Value), pe (.pointer (some (elemA ov (k * 6)))), pe (.pointer (some (elemA ov (k * 6)))), pe a1, fun FF us v => (.tuple #[((tupAt v 0)), .bool (longL ar rs ((os.getD k ([], 0, (0, 0, []), 0)).1))] : Value) = v ∧ (FrStepsF G1 FF 2 ((tupAt v 0)) (stepsL ar rs ((os.getD k ([], 0, (0, 0, []), 0)).1))), fun FF us v => v = (.tuple #[((tupAt (us.getD 0 undef) 0)), .bool (longL ar rs ((os.getD k ([], 0, (0, 0, []), 0)).1))] : Value), fun FF us v => v = ((tupAt (us.getD 0 undef) 0)), pe (.bool (longL ar rs ((os.getD k ([], 0, (0, 0, []), 0)).1))), fun FF us v => v = ((tupAt (us.getD 0 undef) 0))]) (ownL []) mixed rfl rfl (by kernel_rfl) (by kernel_rfl) (MonoG.get (m1 (m1 (m1 (m1 (m1 (m1 (mC (fun le h => ⟨h.1, h.2.mono le⟩) (mC (fun le h => h) (mC (fun le h => h) (m1 (mC (fun le h => h) MonoG.nil)))))))))))) ?_ ?_
  ·refine gD (fun W Fs R lF z9 => ?_) ?_
   ·replace har := har.mono lF
    replace hrs := hrs.mono lF
    replace hC := hC.mono lF
    replace ha1 := ha1.mono lF
    refine qi (qn [arv, rsv] jr jl rfl rfl (Rd.ownN [_] rfl rfl) ?_)
    exact ⟨rfl, rfl⟩
   refine gD (fun W Fs R lF z9 => ?_) ?_
   ·refine qi (qq (ov) rfl ?_)
    exact ⟨rfl, rfl⟩
   refine gD (fun W Fs R lF z9 => ?_) ?_
   ·refine qi (qq (ii ((k : Int))) rfl ?_)
    exact ⟨rfl, rfl⟩
   refine gD (fun W Fs R lF z9 => ?_) ?_
   ·replace har := har.mono lF
    replace hrs := hrs.mono lF
    replace hC := hC.mono lF
    replace ha1 := ha1.mono lF
    rw [eS (l := [(1, _), (2, _)]) ⟨z9 1 rfl, z9 2 rfl, ⟨⟩⟩]
    refine qi (qB k jP sizeOf181 rfl rfl rfl (SlV.own [] rfl) (by omega) rfl ?_)
    exact ⟨rfl, rfl⟩
   refine gD (fun W Fs R lF z9 => ?_) ?_
   ·rw [eS (l := [(3, _)]) ⟨z9 3 rfl, ⟨⟩⟩]
    refine qi (jW (k * 6) yh rfl qu (by decide) rfl rfl ?_)
    exact ⟨rfl, rfl⟩
   refine gD (fun W Fs R lF z9 => ?_) ?_
   ·replace har := har.mono lF
    replace hrs := hrs.mono lF
    replace hC := hC.mono lF
    replace ha1 := ha1.mono lF
    rw [eS (l := [(4, _)]) ⟨z9 4 rfl, ⟨⟩⟩]
    refine qi (ql qZ rfl (Rd.sl [] rfl (hq1 0 _ rfl)) ?_)
    exact ⟨rfl, rfl⟩
   refine gD (fun W Fs R lF z9 => ?_) ?_
   ·replace har := har.mono lF
    replace hrs := hrs.mono lF
    replace hC := hC.mono lF
    replace ha1 := ha1.mono lF
    rw [eS (l := [(0, _), (5, _)]) ⟨z9 0 rfl, z9 5 rfl, ⟨⟩⟩]
    refine qi (qo (args := [.agg #[arv, rsv], a1]) call217 rfl (stepsFrom_spec har hrs ha1 (hsys := (hsys)) (ho := (hdk (by omega)))) ?_)
    rintro _ F3 _ le3 ⟨x2, rfl, hx2, rfl⟩
    replace hC := hC.mono le3
    exact ⟨⟨rfl, (hx2.base lF)⟩, rfl⟩
   refine gD (fun W Fs R lF z9 => ?_) ?_
   ·obtain ⟨e6, f6_1hx⟩ := z9 6 rfl
    rw [eS (l := [(6, (.tuple #[((tupAt (W 6) 0)), .bool (longL ar rs ((os.getD k ([], 0, (0, 0, []), 0)).1))]))]) ⟨(e6).symm, ⟨⟩⟩]
    refine qi (qq (.tuple #[((tupAt (W 6) 0)), .bool (longL ar rs ((os.getD k ([], 0, (0, 0, []), 0)).1))]) rfl ?_)
    exact ⟨rfl, rfl⟩
   refine gD (fun W Fs R lF z9 => ?_) ?_
   ·obtain ⟨e6, f6_1hx⟩ := z9 6 rfl
    have e7 : W 7 = (.tuple #[((tupAt (W 6) 0)), .bool (longL ar rs ((os.getD k ([], 0, (0, 0, []), 0)).1))] : Value) := z9 7 rfl
    rw [eS (l := [(6, (.tuple #[((tupAt (W 6) 0)), .bool (longL ar rs ((os.getD k ([], 0, (0, 0, []), 0)).1))])), (7, (.tuple #[((tupAt (W 6) 0)), .bool (longL ar rs ((os.getD k ([], 0, (0, 0, []), 0)).1))]))]) ⟨(e6).symm, e7, ⟨⟩⟩]
    refine qi (qQ (((tupAt (W 6) 0))) rfl rfl ?_)
    exact ⟨rfl, rfl⟩
   refine gD (fun W Fs R lF z9 => ?_) ?_
   ·obtain ⟨e6, f6_1hx⟩ := z9 6 rfl
    have e7 : W 7 = (.tuple #[((tupAt (W 6) 0)), .bool (longL ar rs ((os.getD k ([], 0, (0, 0, []), 0)).1))] : Value) := z9 7 rfl
    rw [eS (l := [(6, (.tuple #[((tupAt (W 6) 0)), .bool (longL ar rs ((os.getD k ([], 0, (0, 0, []), 0)).1))])), (7, (.tuple #[((tupAt (W 6) 0)), .bool (longL ar rs ((os.getD k ([], 0, (0, 0, []), 0)).1))]))]) ⟨(e6).symm, e7, ⟨⟩⟩]
    refine qi (qQ (.bool (longL ar rs ((os.getD k ([], 0, (0, 0, []), 0)).1))) rfl rfl ?_)
    exact ⟨rfl, rfl⟩
   refine gD (fun W Fs R lF z9 => ?_) ?_
   ·obtain ⟨e6, f6_1hx⟩ := z9 6 rfl
    have e8 : W 8 = ((tupAt (W 6) 0)) := z9 8 rfl
    rw [eS (l := [(6, (.tuple #[((tupAt (W 6) 0)), .bool (longL ar rs ((os.getD k ([], 0, (0, 0, []), 0)).1))])), (8, ((tupAt (W 6) 0)))]) ⟨(e6).symm, e8, ⟨⟩⟩]
    refine qi (XOp.assign (((tupAt (W 6) 0))) rfl ?_)
    exact ⟨rfl, rfl⟩
   exact stepsG.nil
  intro W F4 le4 hphi
  obtain ⟨e6, f6_1hx⟩ := hphi 6 (by decide)
  have e7 : W 7 = (.tuple #[((tupAt (W 6) 0)), .bool (longL ar rs ((os.getD k ([], 0, (0, 0, []), 0)).1))] : Value) := hphi 7 (by decide)
  have e8 : W 8 = ((tupAt (W 6) 0)) := hphi 8 (by decide)
  have e10 : W 10 = ((tupAt (W 6) 0)) := hphi 10 (by decide)
  generalize hu1 : ((tupAt (W 6) 0)) = u1 at e6 f6_1hx e7 e8 e10
  rw [eS (l := [(6, (.tuple #[u1, .bool (longL ar rs ((os.getD k ([], 0, (0, 0, []), 0)).1))])), (9, _), (10, u1)]) ⟨(e6).symm, (hphi 9 (by decide)), e10, ⟨⟩⟩]
  replace hC := hC.mono le4
  show XL _ _ _ _ _ _ _ (slH 181 6 ov on ocs :: cellsH b1 [arv, rsv] 39 :: L)
  refine qg (.bool (longL ar rs ((os.getD k ([], 0, (0, 0, []), 0)).1))) rfl (qb (qc (qa ?_)))
  obtain ⟨cso1, Lso1, hXo1, hDo1, hZo1⟩ := f6_1hx
  skip
  refine qd (u1) rfl (cX (qD qG rfl hXo1.slv (qd (ii (0)) rfl (qb (qN (jw (α := Nat × Value × List FoundT × List Value × List HP × Nat × FH) (fun xQ => [(2, ii (n)), (3, ptr b1 0), (8, xQ.2.1), (9, ii ((k : Int))), (41, u1), (42, ii (((((stepsL ar rs ((os.getD k ([], 0, (0, 0, []), 0)).1))).length : Nat) : Int))), (43, ii (((xQ.1 : Nat) : Int)))]) (fun xQ => slH 181 6 xQ.2.1 xQ.2.2.2.2.2.1 xQ.2.2.2.1 :: cellsH b1 [arv, rsv] 39 :: L) (fun xQ F' => xQ.2.2.2.2.2.2 = F' ∧ F4 ≤ xQ.2.2.2.2.2.2 ∧ (IsSl xQ.2.1) ∧ (FoundsC xQ.2.2.2.2.2.2 xQ.2.2.2.1 xQ.2.2.1) ∧ (xQ.2.2.2.2.2.1 = xQ.2.2.1.length) ∧ (DeepL 6 (FoundO 2) xQ.2.2.2.1 xQ.2.2.1 xQ.2.2.2.2.1) ∧ (Fresh F xQ.2.2.2.2.2.2 (star (xQ.2.2.2.2.1 ++ Lso1.drop xQ.1))) ∧ (xQ.1 ≤ (stepsL ar rs (os.getD k ([], 0, (0, 0, []), 0)).1).length) ∧ (xQ.2.2.1.length ≤ 60) ∧ (AllOk ar xQ.2.2.1) ∧ (DeepOk n xQ.2.2.1) ∧ (k < xQ.2.2.1.length) ∧ (EL xQ.2.2.1 k = EL os k) ∧ (addGo (k : Int) (EL os k).2.2.2 (stepsL ar rs (os.getD k ([], 0, (0, 0, []), 0)).1) os = addGo (k : Int) (EL os k).2.2.2 ((stepsL ar rs (os.getD k ([], 0, (0, 0, []), 0)).1).drop xQ.1) xQ.2.2.1)) (fun xQ => (stepsL ar rs (os.getD k ([], 0, (0, 0, []), 0)).1).length - xQ.1) (0, ov, os, ocs, Ts, on, F4) ⟨rfl, rfl, rfl, rfl, rfl, rfl, rfl, ⟨⟩⟩ (sC (sC sR)) ⟨rfl, FLe.refl _, (hov), (hC), (hn), (hD), ((Fresh.app hZ (qh le1 leG1) hZo1 le4)), (by (try dsimp only) <;> omega), (hl), (hok), (hdo), (by dsimp only; omega), (rfl), (rfl)⟩ ?_))))))
  rintro ⟨q, pv, ps, pcs, Us, pn, G2⟩ rE _ _ ⟨rfl, leG, hpv, hCi, hni, hDi, hZi, hq, hli, hoki, hdi, hkp, hel, hgoi⟩
  show X _ _ _ _ (envs [(2, ii (n)), (3, ptr b1 0), (8, pv), (9, ii ((k : Int))), (41, u1), (42, ii (((((stepsL ar rs ((os.getD k ([], 0, (0, 0, []), 0)).1))).length : Nat) : Int))), (43, ii ((q : Int)))] rE) _ (slH 181 6 pv pn pcs :: cellsH b1 [arv, rsv] 39 :: L)
  replace leG : F4 ≤ G2 := leG
  dsimp only at hpv hCi hni hDi hZi hq hli hoki hdi hkp hel hgoi
  have hnl : (stepsL ar rs (os.getD k ([], 0, (0, 0, []), 0)).1).length ≤ 1000 := by have h9 := stepsTo_len (ar := ar) (t := (os.getD k ([], 0, (0, 0, []), 0)).1) (rs := rs) hrl (os.getD k ([], 0, (0, 0, []), 0)).1.length; have h8 := hdl (by omega); show (stepsTo ar rs (os.getD k ([], 0, (0, 0, []), 0)).1 (os.getD k ([], 0, (0, 0, []), 0)).1.length).length ≤ 1000; omega
  have hsok : q < (stepsL ar rs (os.getD k ([], 0, (0, 0, []), 0)).1).length → 1 ≤ ((stepsL ar rs (os.getD k ([], 0, (0, 0, []), 0)).1).getD q (0, 0, [])).2.2.length ∧ ((stepsL ar rs (os.getD k ([], 0, (0, 0, []), 0)).1).getD q (0, 0, [])).2.2.length ≤ 60 := fun h => termOk_len (steps_ok hsys (hdk (by omega)) h)
  have hdn : 0 ≤ (ps.getD k ([], 0, (0, 0, []), 0)).2.2.2 ∧ (ps.getD k ([], 0, (0, 0, []), 0)).2.2.2 ≤ 1000 := by have h8 : (EL ps k).2.2.2 = (EL os k).2.2.2 := (by rw [hel]); have h9 := hdo k (by omega); have h7 : (ps.getD k ([], 0, (0, 0, []), 0)).2.2.2 = (EL ps k).2.2.2 := rfl; omega
  have leG2 := leG
  replace hC := hC.mono leG2
  replace hXo1 := hXo1.mono leG2
  refine qc (qa (cX (jf rfl rfl (qb (qc ?_)))))
  refine qE (p := (q : Int) < ((((stepsL ar rs ((os.getD k ([], 0, (0, 0, []), 0)).1))).length : Nat) : Int)) rfl (fun h3 => ?_) (fun h3 => ?_)
  ·refine qz (qc (qN (qc (qa (cX (qB q qG ji rfl rfl rfl hXo1.slv (by omega) rfl ?_))))))
   obtain ⟨a3, ha3, hr1, hr2, hr3, hq2⟩ := hXo1.rd (i := q) (by omega)
   refine cX (qn [ii ((((stepsL ar rs ((os.getD k ([], 0, (0, 0, []), 0)).1))).getD q (0, 0, [])).1), ii ((((stepsL ar rs ((os.getD k ([], 0, (0, 0, []), 0)).1))).getD q (0, 0, [])).2.1), a3] yl ji rfl rfl (Rd.three (hr1 _) (hr2 _) (hr3 _)) (cX (jc [ii (0), ii (0), sN] jE rfl ?_)))
   intro b2
   refine cX (qC [] _ [ii ((((stepsL ar rs ((os.getD k ([], 0, (0, 0, []), 0)).1))).getD q (0, 0, [])).1), ii ((((stepsL ar rs ((os.getD k ([], 0, (0, 0, []), 0)).1))).getD q (0, 0, [])).2.1), a3] ji rfl rfl rfl (qj rfl (qj rfl (qj (qJ (qF ha3)) qK))) rfl rfl rfl (qb (qc (qc (qa (qd (pv) rfl (cX (qk (2) jm rfl qu (by decide) rfl rfl (cX (ql qZ rfl (Rd.own [] rfl rfl) (cX (XOp.lend [_] _ _ rfl (fun F5 le5 hz2 => ?_)))))))))))))
   have hf2 : FoundsF _ pv ps pcs := (FoundsC.fz (FoundsC.mono hCi (qh le5 rF)) (by first | rfl | assumption | omega | (rw [List.length_append]; simp only [List.length_singleton]; omega)) hz2 : FoundsF _ pv ps pcs)
   refine id (qo (args := [pv, a3]) call222 rfl (found_spec hf2 ((ha3.mono le5)) (hlt := (by omega)) (hlu := (by have := hsok (by omega); omega))) ?_)
   rintro _ _ _ _ ⟨rfl, rfl, rfl⟩
   show XL _ _ _ _ _ _ _ (slH 181 6 pv pn pcs :: cellsH b2 [ii ((((stepsL ar rs ((os.getD k ([], 0, (0, 0, []), 0)).1))).getD q (0, 0, [])).1), ii ((((stepsL ar rs ((os.getD k ([], 0, (0, 0, []), 0)).1))).getD q (0, 0, [])).2.1), a3] 102 :: cellsH b1 [arv, rsv] 39 :: L)
   refine cX (ye rfl rfl (qb ?_))
   refine qE (p := (foundI ps ((((stepsL ar rs ((os.getD k ([], 0, (0, 0, []), 0)).1))).getD q (0, 0, [])).2.2) : Int) ≥ 0) rfl (fun h4 => ?_) (fun h4 => ?_)
   ·have hin : isIn ps ((stepsL ar rs (os.getD k ([], 0, (0, 0, []), 0)).1).getD q (0, 0, [])).2.2 = true := foundI_iff.1 h4
    refine jo (qt (qO (qa (cX (qP (((q + 1 : Nat) : Int)) rfl rfl (by omega) (by omega) (qd (ii (((q + 1 : Nat) : Int))) rfl (qb ?_)))))))
    exact ⟨(q + 1, pv, ps, pcs, Us, pn, G2), _, leG2, rF, ⟨rfl, rfl, rfl, rfl, rfl, rfl, rfl, ⟨⟩⟩, (sC (sD (sC sR))), ⟨rfl, leG2, (hpv), (hCi), (hni), (hDi), ((Fresh.skipLeaf hZi ((hDo1.leaves).2 q a3 (by omega) hq2))), (by (try dsimp only) <;> omega), (by (try dsimp only) <;> omega), (hoki), (hdi), (by (try dsimp only) <;> omega), (hel), (by (try dsimp only); exact hgoi.trans (add_in (by omega) hin))⟩, (by omega)⟩
   have hnin : isIn ps ((stepsL ar rs (os.getD k ([], 0, (0, 0, []), 0)).1).getD q (0, 0, [])).2.2 = false := by rw [Bool.eq_false_iff]; exact fun h9 => h4 (foundI_iff.2 h9)
   refine qz (qc (qc (qa (qd (pv) rfl (cX (qD jP rfl (SlV.own [] rfl) (cX (jR rfl rfl (qb ?_)))))))))
   refine qE (p := (((pn : Nat) : Int) : Int) = 60) rfl (fun h5 => ?_) (fun h5 => ?_)
   ·refine qc (qa (qd (pv) rfl (qg (pv) rfl (qg (.bool (false)) rfl (qb (je [] _ _ rfl (fun F6 le6 hz3 => ?_)))))))
    replace hC := hC.mono le6
    replace hCi := hCi.mono le6
    replace ha3 := ha3.mono le6
    have hf3 : FoundsF F6 pv ps pcs := FoundsC.fz hCi (by first | rfl | simp | omega) hz3.fz
    refine qw (qm (qI (qm (qm (qI (qI (qm (qm (qI (qm (qs (L' := L) [pv, .bool (false)] (.tuple #[pv, .bool (false)]) (.tmp rfl (.tmp rfl .nil)) rfl (qh (qh (qh (qh le1 leG1) le4) leG2) le6) rF (sD (sD sR)) ?_)))))))))))
    have h9 := hgoi.trans (add_full (by omega) hnin (by omega))
    have h8 := reach_stop (ar := ar) (rs := rs) (n := n) (f := 60 - k - 1) (show k < os.length by omega) (by omega) hdeep (by rw [h9])
    have e9 : reachL ar rs t n = (ps, false) := (hgo.trans h8).trans h9
    rw [e9]
    exact ⟨_, _, _, rfl, hf3, hDi, ((Fresh.noMore hZi).mono le6), rfl⟩
   refine qz ?_
   obtain ⟨a4, a5, ha4, ha5, hq3⟩ := hCi.get (i := k) (by omega)
   refine jY [slH 181 6 pv pn pcs, cellsH b2 [ii ((((stepsL ar rs ((os.getD k ([], 0, (0, 0, []), 0)).1))).getD q (0, 0, [])).1), ii ((((stepsL ar rs ((os.getD k ([], 0, (0, 0, []), 0)).1))).getD q (0, 0, [])).2.1), a3] 102, cellsH b1 [arv, rsv] 39] L 13 [] [[], [], [1], [], [], [], [], [5, 6], [7], [8], [9], [2, 3, 4, 10], [11]] (phiL [qe pv, qe (ptr b2 2), qe a3, qe (ii ((k : Int)) : Value), qe (.agg #[ii ((((stepsL ar rs ((os.getD k ([], 0, (0, 0, []), 0)).1))).getD q (0, 0, [])).1), ii ((((stepsL ar rs ((os.getD k ([], 0, (0, 0, []), 0)).1))).getD q (0, 0, [])).2.1), a3]), qe pv, qe (ii ((k : Int)) : Value), qe (.pointer (some (elemA pv (k * 6)))), qe (.pointer (some (elemA pv (k * 6 + 5)))), qe (ii ((ps.getD k ([], 0, (0, 0, []), 0)).2.2.2)), qe (ii (((ps.getD k ([], 0, (0, 0, []), 0)).2.2.2) + 1)), qe (.agg #[a3, ii ((k : Int)), ii ((((stepsL ar rs ((os.getD k ([], 0, (0, 0, []), 0)).1))).getD q (0, 0, [])).1), ii ((((stepsL ar rs ((os.getD k ([], 0, (0, 0, []), 0)).1))).getD q (0, 0, [])).2.1), a3, ii (((ps.getD k ([], 0, (0, 0, []), 0)).2.2.2) + 1)] : Value), fun us v => ∃ b, v = .slice (some ⟨b, 0, none⟩) 1 1]) (ownL [o0, o0, o0, o0, o0, o0, o0, o0, o0, o0, o0, o0, fun us v => [slH 181 6 v 1 [a3, ii ((k : Int)), ii ((((stepsL ar rs ((os.getD k ([], 0, (0, 0, []), 0)).1))).getD q (0, 0, [])).1), ii ((((stepsL ar rs ((os.getD k ([], 0, (0, 0, []), 0)).1))).getD q (0, 0, [])).2.1), a3, ii (((ps.getD k ([], 0, (0, 0, []), 0)).2.2.2) + 1)]]]) mixed rfl rfl (by kernel_rfl) ?_ ?_
   ·refine pD (fun W R z9 => ?_) ?_
    ·refine qi (qq (pv) rfl ?_)
     exact ⟨rfl, rfl, rfl⟩
    refine pD (fun W R z9 => ?_) ?_
    ·refine qi (qk (2) jm rfl qu (by decide) rfl rfl ?_)
     exact ⟨rfl, rfl, rfl⟩
    refine pD (fun W R z9 => ?_) ?_
    ·rw [eS (l := [(1, _)]) ⟨z9 1 rfl, ⟨⟩⟩]
     refine qi (ql qZ rfl (Rd.own [_] rfl rfl) ?_)
     exact ⟨rfl, rfl, rfl⟩
    refine pD (fun W R z9 => ?_) ?_
    ·refine qi (qq (ii ((k : Int))) rfl ?_)
     exact ⟨rfl, rfl, rfl⟩
    refine pD (fun W R z9 => ?_) ?_
    ·refine qi (qn [ii ((((stepsL ar rs ((os.getD k ([], 0, (0, 0, []), 0)).1))).getD q (0, 0, [])).1), ii ((((stepsL ar rs ((os.getD k ([], 0, (0, 0, []), 0)).1))).getD q (0, 0, [])).2.1), a3] yl ji rfl rfl (Rd.ownN [_] rfl rfl) ?_)
     exact ⟨rfl, rfl, rfl⟩
    refine pD (fun W R z9 => ?_) ?_
    ·refine qi (qq (pv) rfl ?_)
     exact ⟨rfl, rfl, rfl⟩
    refine pD (fun W R z9 => ?_) ?_
    ·refine qi (qq (ii ((k : Int))) rfl ?_)
     exact ⟨rfl, rfl, rfl⟩
    refine pD (fun W R z9 => ?_) ?_
    ·rw [eS (l := [(5, _), (6, _)]) ⟨z9 5 rfl, z9 6 rfl, ⟨⟩⟩]
     refine qi (qB k jP sizeOf181 rfl rfl rfl (SlV.own [] rfl) (by omega) rfl ?_)
     exact ⟨rfl, rfl, rfl⟩
    refine pD (fun W R z9 => ?_) ?_
    ·rw [eS (l := [(7, _)]) ⟨z9 7 rfl, ⟨⟩⟩]
     refine qi (jW (k * 6 + 5) yh rfl qy (by decide) rfl rfl ?_)
     exact ⟨rfl, rfl, rfl⟩
    refine pD (fun W R z9 => ?_) ?_
    ·rw [eS (l := [(8, _)]) ⟨z9 8 rfl, ⟨⟩⟩]
     refine qi (ql jt rfl (Rd.sl [] rfl (hq3 5 _ rfl)) ?_)
     exact ⟨rfl, rfl, rfl⟩
    refine pD (fun W R z9 => ?_) ?_
    ·rw [eS (l := [(9, _)]) ⟨z9 9 rfl, ⟨⟩⟩]
     refine qi (qP (((ps.getD k ([], 0, (0, 0, []), 0)).2.2.2) + 1) rfl rfl (by omega) (by omega) ?_)
     exact ⟨rfl, rfl, rfl⟩
    refine pD (fun W R z9 => ?_) ?_
    ·rw [eS (l := [(2, _), (3, _), (4, _), (10, _)]) ⟨z9 2 rfl, z9 3 rfl, z9 4 rfl, z9 10 rfl, ⟨⟩⟩]
     refine qi (jg [a3, ii ((k : Int)), ii ((((stepsL ar rs ((os.getD k ([], 0, (0, 0, []), 0)).1))).getD q (0, 0, [])).1), ii ((((stepsL ar rs ((os.getD k ([], 0, (0, 0, []), 0)).1))).getD q (0, 0, [])).2.1), a3, ii (((ps.getD k ([], 0, (0, 0, []), 0)).2.2.2) + 1)] [sN, ii (0), ii (0), ii (0), sN, ii (0)] [(0, 1), (1, 1), (2, 3), (5, 1)] [(0, [a3]), (1, [ii ((k : Int))]), (2, [ii ((((stepsL ar rs ((os.getD k ([], 0, (0, 0, []), 0)).1))).getD q (0, 0, [])).1), ii ((((stepsL ar rs ((os.getD k ([], 0, (0, 0, []), 0)).1))).getD q (0, 0, [])).2.1), a3]), (3, [ii (((ps.getD k ([], 0, (0, 0, []), 0)).2.2.2) + 1)])] yh zeroValue181 rfl (.cons rfl qu (.cons rfl sizeOf3 (.cons rfl ji (.cons rfl qy PlacesAre.nil)))) rfl (.cons (cells_one (qF ha3)) (.cons rfl (.cons rfl (.cons rfl CellsAre.nil)))) ?_)
     exact ⟨rfl, rfl, rfl⟩
    refine pD (fun W R z9 => ?_) ?_
    ·rw [eS (l := [(11, _)]) ⟨z9 11 rfl, ⟨⟩⟩]
     refine qi (qx (s := 6) [a3, ii ((k : Int)), ii ((((stepsL ar rs ((os.getD k ([], 0, (0, 0, []), 0)).1))).getD q (0, 0, [])).1), ii ((((stepsL ar rs ((os.getD k ([], 0, (0, 0, []), 0)).1))).getD q (0, 0, [])).2.1), a3, ii (((ps.getD k ([], 0, (0, 0, []), 0)).2.2.2) + 1)] [sN, ii (0), ii (0), ii (0), sN, ii (0)] [(0, [a3, ii ((k : Int)), ii ((((stepsL ar rs ((os.getD k ([], 0, (0, 0, []), 0)).1))).getD q (0, 0, [])).1), ii ((((stepsL ar rs ((os.getD k ([], 0, (0, 0, []), 0)).1))).getD q (0, 0, [])).2.1), a3, ii (((ps.getD k ([], 0, (0, 0, []), 0)).2.2.2) + 1)])] jP sizeOf181 zeroValue181 rfl (by decide) rfl (.cons rfl CellsAre.nil) rfl ?_)
     intro v4 hv3
     exact ⟨rfl, hv3, rfl⟩
    exact stepsP.nil
   intro W hphi
   have f12 : ∃ b, (W 12) = .slice (some ⟨b, 0, none⟩) 1 1 := hphi 12 (by decide)
   generalize hu12 : W 12 = u2 at f12
   rw [eS (l := [(0, _), (12, u2)]) ⟨(hphi 0 (by decide)), hu12, ⟨⟩⟩]
   show XL _ _ _ _ _ _ _ (slH 181 6 u2 1 [a3, ii ((k : Int)), ii ((((stepsL ar rs ((os.getD k ([], 0, (0, 0, []), 0)).1))).getD q (0, 0, [])).1), ii ((((stepsL ar rs ((os.getD k ([], 0, (0, 0, []), 0)).1))).getD q (0, 0, [])).2.1), a3, ii (((ps.getD k ([], 0, (0, 0, []), 0)).2.2.2) + 1)] :: slH 181 6 pv pn pcs :: cellsH b2 [ii ((((stepsL ar rs ((os.getD k ([], 0, (0, 0, []), 0)).1))).getD q (0, 0, [])).1), ii ((((stepsL ar rs ((os.getD k ([], 0, (0, 0, []), 0)).1))).getD q (0, 0, [])).2.1), a3] 102 :: cellsH b1 [arv, rsv] 39 :: L)
   refine cX (jV (m := 1) (bytes := 80) (cs := pcs) [_] _ [a3, ii ((k : Int)), ii ((((stepsL ar rs ((os.getD k ([], 0, (0, 0, []), 0)).1))).getD q (0, 0, [])).1), ii ((((stepsL ar rs ((os.getD k ([], 0, (0, 0, []), 0)).1))).getD q (0, 0, [])).2.1), a3, ii (((ps.getD k ([], 0, (0, 0, []), 0)).2.2.2) + 1)] jP typeInfo181 rfl rfl rfl rfl rfl rfl rfl (SlV.own [] rfl) rfl (Rd.lit [] rfl) (qj (qJ (qF ha3)) (qj rfl (qj rfl (qj rfl (qj (qJ (qF ha3)) (qj rfl qK)))))) (by (try simp only [List.length_append, List.length_nil, List.length_cons, List.length_singleton]); omega) (by (try simp only [List.length_append, List.length_nil, List.length_cons, List.length_singleton]); omega) ?_)
   intro v5 hs2 hn1 hm1
   have hc2 := FoundsC.snoc hCi (y0 := (((stepsL ar rs ((os.getD k ([], 0, (0, 0, []), 0)).1))).getD q (0, 0, [])).2.2) (y1 := (k : Int)) (y2 := (((stepsL ar rs ((os.getD k ([], 0, (0, 0, []), 0)).1))).getD q (0, 0, [])).1) (y3 := (((stepsL ar rs ((os.getD k ([], 0, (0, 0, []), 0)).1))).getD q (0, 0, [])).2.1) (y4 := (((stepsL ar rs ((os.getD k ([], 0, (0, 0, []), 0)).1))).getD q (0, 0, [])).2.2) (y5 := ((ps.getD k ([], 0, (0, 0, []), 0)).2.2.2) + 1) ha3 ha3
   refine qg (v5) rfl (qb (qa (cX (qP (((q + 1 : Nat) : Int)) rfl rfl (by omega) (by omega) (qd (ii (((q + 1 : Nat) : Int))) rfl (qb ?_))))))
   exact ⟨(q + 1, v5, ps ++ [((((stepsL ar rs ((os.getD k ([], 0, (0, 0, []), 0)).1))).getD q (0, 0, [])).2.2, (k : Int), ((((stepsL ar rs ((os.getD k ([], 0, (0, 0, []), 0)).1))).getD q (0, 0, [])).1, (((stepsL ar rs ((os.getD k ([], 0, (0, 0, []), 0)).1))).getD q (0, 0, [])).2.1, (((stepsL ar rs ((os.getD k ([], 0, (0, 0, []), 0)).1))).getD q (0, 0, [])).2.2), ((ps.getD k ([], 0, (0, 0, []), 0)).2.2.2) + 1)], pcs ++ [a3, ii ((k : Int)), ii ((((stepsL ar rs ((os.getD k ([], 0, (0, 0, []), 0)).1))).getD q (0, 0, [])).1), ii ((((stepsL ar rs ((os.getD k ([], 0, (0, 0, []), 0)).1))).getD q (0, 0, [])).2.1), a3, ii (((ps.getD k ([], 0, (0, 0, []), 0)).2.2.2) + 1)], Us ++ [intsH 2 a3 ((stepsL ar rs (os.getD k ([], 0, (0, 0, []), 0)).1).getD q (0, 0, [])).2.2], (pn) + 1, G2), _, leG2, rF, ⟨rfl, rfl, rfl, rfl, rfl, rfl, rfl, ⟨⟩⟩, (sD (sC (sD (sC sR)))), ⟨rfl, leG2, (hs2), (hc2), (by (try dsimp only); rw [List.length_append, List.length_singleton]; omega), (DeepL.snoc hDi rfl ⟨_, _, rfl, rfl⟩), ((Fresh.keepLeaf hZi ((hDo1.leaves).2 q a3 (by omega) hq2))), (by (try dsimp only) <;> omega), (by (try dsimp only); rw [List.length_append, List.length_singleton]; omega), (hoki.snoc (steps_ok hsys (hdk (by omega)) (by omega))), (hdi.snoc (by have h9 := hdo k (by omega); have h8 : (EL ps k).2.2.2 = (EL os k).2.2.2 := (by rw [hel]); have h7 : (EL ps k).2.2.2 = (ps.getD k ([], 0, (0, 0, []), 0)).2.2.2 := rfl; have h6 : (EL os k).2.2.2 = (os.getD k ([], 0, (0, 0, []), 0)).2.2.2 := rfl; dsimp only; omega)), (by (try dsimp only); rw [List.length_append, List.length_singleton]; omega), (by (try dsimp only); rw [EL_snoc (by omega)]; exact hel), (by (try dsimp only); rw [show (ps.getD k ([], 0, (0, 0, []), 0)) = EL os k from hel]; exact hgoi.trans (add_new (by omega) hnin (by omega)))⟩, (by omega)⟩
  refine jo (qt (qt (qO (qa (qd (ii ((k : Int))) rfl (cX (qP (((k + 1 : Nat) : Int)) rfl rfl (by omega) (by omega) (qg (ii (((k + 1 : Nat) : Int))) rfl (qb ?_)))))))))
  exact ⟨(k + 1, pv, ps, pcs, Us, pn, G2), _, (qh (qh leG1 le4) leG2), rF, ⟨rfl, rfl, rfl, rfl, ⟨⟩⟩, (sC (sC sR)), ⟨rfl, (qh (qh leG1 le4) leG2), (hpv), (hCi), (hni), (hDi), ((Fresh.noMore hZi)), (by (try dsimp only); omega), (by (try dsimp only) <;> omega), (hoki), (hdi), (by (try dsimp only); have h9 := hgoi.trans (add_end (by omega)); have h8 := reach_more (ar := ar) (rs := rs) (n := n) (f := 60 - k - 1) (show k < os.length by omega) (by omega) hdeep (by rw [h9]); rw [h9] at h8; exact hgo.trans h8)⟩, (by (try dsimp only); omega)⟩
 refine jo (qt (qt (qO (qc (qa (qd (ov) rfl (qg (ov) rfl (qg (.bool (true)) rfl (qb (je [] _ _ rfl (fun F7 le7 hz4 => ?_)))))))))))
 replace hC := hC.mono le7
 have hf4 : FoundsF F7 ov os ocs := FoundsC.fz hC (by first | rfl | simp | omega) hz4.fz
 refine qw (qs (L' := L) [ov, .bool (true)] (.tuple #[ov, .bool (true)]) (.tmp rfl (.tmp rfl .nil)) rfl (qh (qh le1 leG1) le7) rF (sD sR) ?_)
 have e9 : reachL ar rs t n = (os, true) := hgo.trans (reach_done (by omega) hl)
 rw [e9]
 exact ⟨_, _, _, rfl, hf4, hD, (hZ.mono le7), rfl⟩
end Go.Proofs.YtenomejgjcpbdaaGreat
set_option linter.unusedSimpArgs false
set_option linter.unusedVariables false
namespace Go.Proofs.YtenomejgjcpbdaaGreat
open Go X M Tryz

/- (*impl.Walk).add -/
theorem walkAdd_spec {F : FH} {L : List HP} {b m : Nat} {fv sv tov : Value} {ss : List StepT} {cs : List Value} {i j : Int} {to : List Int} (hto : IntsF F tov to) (hsv : IsSl sv) (hC : StepsC F cs ss) (hm : m = ss.length) (hsb : ss.length ≤ 4000000) (hlt : to.length ≤ 4000000) :
    Does prog 243 [ptr b 0, .agg #[ii (i), ii (j), tov]] F (cellsH b [fv, sv] 45 :: slH 102 3 sv m cs :: L) (fun v F' L' => ∃ (sw cw : Value), IsSl sw ∧ IntsF F' cw to ∧ Fresh F F' (intsH 2 cw to) ∧ cellsH b [fv, sw] 45 :: slH 102 3 sw (m + 1) (cs ++ [.int .i64 i, .int .i64 j, cw]) :: L = L') := by
 refine qL func243 rfl rfl rfl (qc (qa (cX (jd [ii (i), ii (j), tov] rfl rfl ?_))))
 intro b1
 refine qb (X.weaken (qX (A := [_, _])) ?_)
 show X _ _ _ _ _ _ (slH 102 3 sv m cs :: cellsH b1 [ii (i), ii (j), tov] 102 :: cellsH b [fv, sv] 45 :: L)
 refine X.drawH [cellsH b1 [ii (i), ii (j), tov] 102, cellsH b [fv, sv] 45] L 15 [[], [], [], [], [], [], [], [], [], [], [], [], [11], [11], [11, 13]] [[], [], [1], [2], [3], [], [5], [], [7], [], [9], [10], [6, 8, 11], [11, 12], [4, 11, 13]] [[], [], [], [], [], [], [], [], [], [], [], [], [], [], [13]] (phiG [pe (ptr b 0), pe (ptr b 0), pe (ptr b 0), pe (ptr b 1), pe sv, pe (ptr b1 0), pe (ii (i)), pe (ptr b1 1), pe (ii (j)), pe (ptr b1 2), pe tov, fun FF us v => ((v) : Value) = v ∧ (IntsF FF (v) (to)) ∧ (FrIntsF F FF 2 (v) (to)), fun FF us v => v = (.agg #[ii (i), ii (j), ((us.getD 0 undef))] : Value), fun FF us v => ∃ b, v = .slice (some ⟨b, 0, none⟩) 1 1, fun FF us v => IsSl v]) (ownL [o0, o0, o0, o0, o0, o0, o0, o0, o0, o0, o0, o0, o0, fun us v => [slH 102 3 v 1 [ii (i), ii (j), ((us.getD 0 undef))]], fun us v => [slH 102 3 (us.getD 1 undef) 1 [ii (i), ii (j), ((us.getD 0 undef))], slH 102 3 (v) ((m) + 1) (cs ++ [ii (i), ii (j), ((us.getD 0 undef))])]]) (fun i => ([[], [], [], [], [], [], [], [], [], [], [], [], [], [], [slH 102 3 sv m cs]] : List (List HP)).getD i []) mixed rfl rfl (by kernel_rfl) (by kernel_rfl) (MonoG.get (m1 (m1 (m1 (m1 (m1 (m1 (m1 (m1 (m1 (m1 (m1 (mC (fun le h => ⟨h.1, h.2.1.mono le, h.2.2.mono le⟩) (mC (fun le h => h) (mC (fun le h => h) (mC (fun le h => h) MonoG.nil)))))))))))))))) ?_ ?_
 ·refine tD (fun W Fs R lF z9 => ?_) ?_
  ·refine qi (qq (ptr b 0) rfl ?_)
   exact ⟨rfl, rfl⟩
  refine tD (fun W Fs R lF z9 => ?_) ?_
  ·refine qi (qq (ptr b 0) rfl ?_)
   exact ⟨rfl, rfl⟩
  refine tD (fun W Fs R lF z9 => ?_) ?_
  ·replace hto := hto.mono lF
   replace hC := hC.mono lF
   rw [eS (l := [(1, _)]) ⟨z9 1 rfl, ⟨⟩⟩]
   refine qi (jG rfl ?_)
   exact ⟨rfl, rfl⟩
  refine tD (fun W Fs R lF z9 => ?_) ?_
  ·rw [eS (l := [(2, _)]) ⟨z9 2 rfl, ⟨⟩⟩]
   refine qi (qk (1) qA rfl jj (by decide) rfl rfl ?_)
   exact ⟨rfl, rfl⟩
  refine tD (fun W Fs R lF z9 => ?_) ?_
  ·replace hto := hto.mono lF
   replace hC := hC.mono lF
   rw [eS (l := [(3, _)]) ⟨z9 3 rfl, ⟨⟩⟩]
   refine qi (ql jL rfl (Rd.own [_] rfl rfl) ?_)
   exact ⟨rfl, rfl⟩
  refine tD (fun W Fs R lF z9 => ?_) ?_
  ·refine qi (qk (0) jm rfl qy (by decide) rfl rfl ?_)
   exact ⟨rfl, rfl⟩
  refine tD (fun W Fs R lF z9 => ?_) ?_
  ·replace hto := hto.mono lF
   replace hC := hC.mono lF
   rw [eS (l := [(5, _)]) ⟨z9 5 rfl, ⟨⟩⟩]
   refine qi (ql jt rfl (Rd.own [] rfl rfl) ?_)
   exact ⟨rfl, rfl⟩
  refine tD (fun W Fs R lF z9 => ?_) ?_
  ·refine qi (qk (1) jm rfl qy (by decide) rfl rfl ?_)
   exact ⟨rfl, rfl⟩
  refine tD (fun W Fs R lF z9 => ?_) ?_
  ·replace hto := hto.mono lF
   replace hC := hC.mono lF
   rw [eS (l := [(7, _)]) ⟨z9 7 rfl, ⟨⟩⟩]
   refine qi (ql jt rfl (Rd.own [] rfl rfl) ?_)
   exact ⟨rfl, rfl⟩
  refine tD (fun W Fs R lF z9 => ?_) ?_
  ·refine qi (qk (2) jm rfl qu (by decide) rfl rfl ?_)
   exact ⟨rfl, rfl⟩
  refine tD (fun W Fs R lF z9 => ?_) ?_
  ·replace hto := hto.mono lF
   replace hC := hC.mono lF
   rw [eS (l := [(9, _)]) ⟨z9 9 rfl, ⟨⟩⟩]
   refine qi (ql qZ rfl (Rd.own [] rfl rfl) ?_)
   exact ⟨rfl, rfl⟩
  refine tD (fun W Fs R lF z9 => ?_) ?_
  ·replace hto := hto.mono lF
   replace hC := hC.mono lF
   rw [eS (l := [(10, _)]) ⟨z9 10 rfl, ⟨⟩⟩]
   refine qi (yf <| qo (args := [tov]) call97 rfl (Clone_spec hto (hlt := (by first | assumption | rfl | omega | simp))) ?_)
   rintro v4 _ _ _ ⟨rfl, hs3, rfl⟩
   refine ⟨_, _, rfl, fun F1 le1 hz1 => ?_⟩
   replace hC := hC.mono le1
   have hf1 : IntsF F1 v4 ((to)) := intsH.fz (xs := (to)) hz1.fz
   exact ⟨⟨rfl, hf1, (hz1.base lF)⟩, rfl⟩
  refine tD (fun W Fs R lF z9 => ?_) ?_
  ·obtain ⟨e11, f11_1ha, f11_1hz⟩ := z9 11 rfl
   replace hC := hC.mono lF
   rw [eS (l := [(6, _), (8, _), (11, ((W 11)))]) ⟨z9 6 rfl, z9 8 rfl, (e11).symm, ⟨⟩⟩]
   refine qi (jg [ii (i), ii (j), ((W 11))] [ii (0), ii (0), sN] [(0, 1), (1, 1), (2, 1)] [(0, [ii (i)]), (1, [ii (j)]), (2, [((W 11))])] jm jE rfl (.cons rfl qy (.cons rfl qy (.cons rfl qu PlacesAre.nil))) rfl (.cons rfl (.cons rfl (.cons (cells_one (qF f11_1ha)) CellsAre.nil))) ?_)
   exact ⟨rfl, rfl⟩
  refine tD (fun W Fs R lF z9 => ?_) ?_
  ·obtain ⟨e11, f11_1ha, f11_1hz⟩ := z9 11 rfl
   have e12 : W 12 = (.agg #[ii (i), ii (j), ((W 11))] : Value) := z9 12 rfl
   replace hC := hC.mono lF
   rw [eS (l := [(11, ((W 11))), (12, (.agg #[ii (i), ii (j), ((W 11))]))]) ⟨(e11).symm, e12, ⟨⟩⟩]
   refine qi (qx (s := 3) [ii (i), ii (j), ((W 11))] [ii (0), ii (0), sN] [(0, [ii (i), ii (j), ((W 11))])] qG ji jE rfl (by decide) rfl (.cons rfl CellsAre.nil) rfl ?_)
   intro v5 hv2
   exact ⟨hv2, rfl⟩
  refine tD (fun W Fs R lF z9 => ?_) ?_
  ·obtain ⟨e11, f11_1ha, f11_1hz⟩ := z9 11 rfl
   have f13 : ∃ b, (W 13) = .slice (some ⟨b, 0, none⟩) 1 1 := z9 13 rfl
   replace hC := hC.mono lF
   rw [eS (l := [(4, _), (11, ((W 11)))]) ⟨z9 4 rfl, (e11).symm, ⟨⟩⟩]
   show XG _ _ _ _ _ (slH 102 3 (W 13) 1 [ii (i), ii (j), ((W 11))] :: slH 102 3 sv m cs :: ([cellsH b1 [ii (i), ii (j), tov] 102, cellsH b [fv, sv] 45] ++ R)) _
   refine qi (jV (m := 1) (bytes := 40) (cs := cs) [_] _ [ii (i), ii (j), ((W 11))] qG typeInfo102 rfl rfl rfl rfl rfl rfl rfl (SlV.own [] rfl) rfl (Rd.lit [] rfl) (qj rfl (qj rfl (qj (qJ (qF f11_1ha)) qK))) (by (try simp only [List.length_append, List.length_nil, List.length_cons, List.length_singleton]); omega) (by (try simp only [List.length_append, List.length_nil, List.length_cons, List.length_singleton]); omega) ?_)
   intro v6 hs4 hn2 hm2
   have hc2 := StepsC.snoc hC (i := i) (j := j) f11_1ha
   exact ⟨hs4, rfl⟩
  exact stepsT.nil
 intro W F2 le2 hphi
 obtain ⟨e11, f11_1ha, f11_1hz⟩ := hphi 11 (by decide)
 have e12 : W 12 = (.agg #[ii (i), ii (j), ((W 11))] : Value) := hphi 12 (by decide)
 have f13 : ∃ b, (W 13) = .slice (some ⟨b, 0, none⟩) 1 1 := hphi 13 (by decide)
 have f14 : IsSl (W 14) := hphi 14 (by decide)
 generalize hu1 : ((W 11)) = u1 at e11 f11_1ha f11_1hz e12 f13 f14
 generalize hu13 : W 13 = u2 at e11 f11_1ha f11_1hz e12 f13 f14
 generalize hu14 : W 14 = u3 at e11 f11_1ha f11_1hz e12 f13 f14
 rw [eS (l := [(0, _), (11, u1), (13, u2), (14, u3)]) ⟨(hphi 0 (by decide)), hu1, hu13, hu14, ⟨⟩⟩]
 replace hC := hC.mono le2
 have hc3 := StepsC.snoc hC (i := i) (j := j) f11_1ha
 show XL _ _ _ _ _ _ _ (slH 102 3 u2 1 [ii (i), ii (j), u1] :: slH 102 3 u3 ((m) + 1) (cs ++ [ii (i), ii (j), u1]) :: cellsH b1 [ii (i), ii (j), tov] 102 :: cellsH b [fv, sv] 45 :: L)
 skip
 refine cX (jG rfl (cX (qk (1) qA rfl jj (by decide) rfl rfl (cX (jK [_, _, _] _ [fv, u3] jj rfl rfl (qJ f14) rfl rfl rfl (qb (id (retEndN (L' := cellsH b [fv, u3] 45 :: slH 102 3 u3 ((m) + 1) (cs ++ [ii (i), ii (j), u1]) :: L) [] (.tuple #[]) (by exact .nil) rfl le2 rF (qR (qX (A := [_])) (qR (qX (A := [_, _, _])) (sC (sC (sD (sD sR)))))) ?_))))))))
 exact ⟨_, _, f14, f11_1ha, f11_1hz, rfl⟩

/- slices.Backward[[]impl.Step,impl.Step] -/
theorem backward_spec {F : FH} {L : List HP} {sv : Value} {s : List StepT} (hs : StepsF F sv s) :
    Does prog 302 [sv] F (L) (fun v F' L' => ∃ (bt : Nat), (.func (.func 328) #[] #[ptr bt 0] : Value) = v ∧ FzC F' bt [sv] ∧ L = L') := by
 refine qL func302 rfl rfl rfl (qc (qa (cX (jd [sv] rfl (cells_one (jT hs)) ?_))))
 intro b1
 refine qg (.nilFunc) rfl (qb (qc (qa (cX (XOp.makeFuncL [] [ptr b1 0] rfl rfl (qg (.func (.func 328) #[] #[ptr b1 0]) rfl (qb (X.freeze [] _ _ rfl (fun F1 le1 hz1 => ?_)))))))))
 have hf1 : FzC F1 b1 [sv] := Fz.cells hz1
 refine qw (qs (L' := L) [.func (.func 328) #[] #[ptr b1 0]] (.func (.func 328) #[] #[ptr b1 0]) (.tmp rfl .nil) rfl le1 rF sR ?_)
 exact ⟨_, rfl, hf1, rfl⟩

/- slices.Backward[[]impl.Step,impl.Step]$1 -/
set_option maxRecDepth 20000 in
theorem backIt_spec {F : FH} {L : List HP} {l bt : Nat} {R : Loop} {sv : Value} {ss : List StepT} (hbt : FzC F bt [sv]) (hs : StepsF F sv ss) (hsl : ss.length ≤ 4000000) {J : Nat → FH → List HP → Prop} (hJ0 : J ss.length F L) (hyes : ∀ (k : Nat) (i : Int) (Fy : FH) (Ly : List HP) (tov : Value), k < ss.length → F ≤ Fy → J (k + 1) Fy Ly → IntsF Fy tov (ss.getD k (0, 0, [])).2.2 → i = (k : Int) → Yld prog l [.int .i64 i, .agg #[ii (ss.getD k (0, 0, [])).1, ii (ss.getD k (0, 0, [])).2.1, tov]] Fy (objH l (.loop R) :: Ly) (fun v F' L' => .bool true = v ∧ ∃ L2, J k F' L2 ∧ objH l (.loop R) :: L2 = L')) :
    Does prog 328 [(.func (.yield l) #[] #[]), ptr bt 0] F (objH l (.loop R) :: L) (fun v F' L' => ∃ L2, J 0 F' L2 ∧ objH l (.loop R) :: L2 = L') := by
 refine qL func328 rfl rfl rfl (qc (qa (cX (ql jL rfl (FzC.rd1 hbt rfl) (cX (qD qG rfl hs.slv (cX (jF (((ss.length : Int)) - 1) rfl rfl (by omega) (by omega) (qg (ii (((ss.length : Int)) - 1)) rfl (qb (qN (jw (α := Nat × List HP × FH) (fun xQ => [(0, (.func (.yield l) #[] #[])), (1, ptr bt 0), (3, ii ((xQ.1 : Int) - 1))]) (fun xQ => objH l (.loop R) :: xQ.2.1) (fun xQ F' => xQ.2.2 = F' ∧ F ≤ xQ.2.2 ∧ (xQ.1 ≤ ss.length) ∧ (J xQ.1 xQ.2.2 xQ.2.1)) (fun xQ => xQ.1) (ss.length, L, F) ⟨rfl, rfl, rfl, ⟨⟩⟩ (sC sR) ⟨rfl, FLe.refl _, (Nat.le_refl _), (hJ0)⟩ ?_))))))))))))
 rintro ⟨j, Lk, G1⟩ rE _ _ ⟨rfl, leG, hj, hJ⟩
 show X _ _ _ _ (envs [(0, (.func (.yield l) #[] #[])), (1, ptr bt 0), (3, ii ((j : Int) - 1))] rE) _ (objH l (.loop R) :: Lk)
 replace leG : F ≤ G1 := leG
 dsimp only at hj hJ
 have hjl : j - 1 < ss.length ∨ j = 0 := by omega
 have leG1 := leG
 replace hs := hs.mono leG1
 replace hbt := hbt.mono leG1
 refine qc (qc (qa (qd (ii ((j : Int) - 1)) rfl (cX (ye rfl rfl (qb ?_))))))
 refine qE (p := ((j : Int) - 1 : Int) ≥ 0) rfl (fun h1 => ?_) (fun h1 => ?_)
 ·have hj0 : ((j : Int) - 1).toNat = j - 1 := by omega
  have hjk : ((j : Int) - 1) = ((j - 1 : Nat) : Int) := by omega
  refine qz (qc (qN (qc (X.ofI (by kernel_rfl) (XI.region (jH (qq ((.func (.yield l) #[] #[])) rfl (jH (qq (ii ((j : Int) - 1)) rfl (jH (ql jL rfl (FzC.rd1 hbt rfl) (jH (qq (ii ((j : Int) - 1)) rfl (jH (qB (((j : Int) - 1).toNat) qG ji rfl rfl (by omega) hs.slv (by omega) rfl ?_)))))))))))))))
  obtain ⟨a1, ha1, hr1, hr2, hr3⟩ := hs.rd (i := ((j : Int) - 1).toNat) (by omega)
  refine jH (qn [ii ((ss.getD (((j : Int) - 1).toNat) (0, 0, [])).1), ii ((ss.getD (((j : Int) - 1).toNat) (0, 0, [])).2.1), a1] yl ji rfl rfl (Rd.three (hr1 _) (hr2 _) (hr3 _)) (XIL.yield (k := l) (args := [ii ((j : Int) - 1), .agg #[ii ((ss.getD (((j : Int) - 1).toNat) (0, 0, [])).1), ii ((ss.getD (((j : Int) - 1).toNat) (0, 0, [])).2.1), a1]]) rfl (by rfl) (Yld.weaken (sC sR) ?_)))
  have hJ9 : J ((((j : Int) - 1).toNat) + 1) G1 Lk := by rw [show ((j : Int) - 1).toNat + 1 = j from by omega]; exact hJ
  refine (hyes _ _ _ _ _ (by omega) leG1 hJ9 ha1 (by omega)).mono ?_
  rintro _ F1 _ le1 ⟨rfl, Lj1, hJ1, rfl⟩
  rw [hj0] at hJ1
  show XIL _ _ _ _ _ _ _ _ _ (objH l (.loop R) :: Lj1)
  refine jH (jn rfl (XIL.nil (X.condF rfl (qz (qa (qd (ii ((j : Int) - 1)) rfl (cX (jF (((j : Int) - 1) - 1) rfl rfl (by omega) (by omega) (qg (ii (((j : Int) - 1) - 1)) rfl (qb ?_))))))))))
  exact ⟨(j - 1, Lj1, F1), _, (qh leG1 le1), rF, ⟨rfl, rfl, (vI (by (try dsimp only); omega)), ⟨⟩⟩, (sC sR), ⟨rfl, (qh leG1 le1), (by (try dsimp only) <;> omega), (hJ1)⟩, (by (try dsimp only); omega)⟩
 refine jo (qt (qt (qO (id (retEndN (L' := objH l (.loop R) :: Lk) [] (.tuple #[]) (by exact .nil) rfl leG1 rF (sC sR) ?_)))))
 obtain rfl : j = 0 := by omega
 exact ⟨_, hJ, rfl⟩

/- impl.walkBack -/
set_option maxRecDepth 20000 in
theorem walkBack_spec {F : FH} {L : List HP} {alv : Value} {al : List FoundT} {alcs : List Value} (hal : FoundsF F alv al alcs) {k : Nat} (hk : k < al.length) (hll : al.length ≤ 60) (hlk : Link al) (hbd : ∀ i, i < al.length → (EL al i).1.length ≤ 60) :
    Does prog 242 [alv, ii ((k : Int))] F (L) (fun v F' L' => ∃ (a : Value), ∃ (b : Value), (.agg #[a, b] : Value) = v ∧ (IntsF F' a (EL al 0).1) ∧ (StepsF F' b (walkL al k)) ∧ (Fresh F F' (star [intsH 2 a (EL al 0).1, stepsD 2 102 b (walkL al k)])) ∧ L = L') := by
 refine Does.of_XF func242 rfl (by kernel_rfl) rfl ?_
 have hbd0 : (al.getD 0 ([], 0, (0, 0, []), 0)).1.length ≤ 60 := hbd 0 (by omega)
 refine XF.seq (qa (cX (jc [sN, sN] jq rfl ?_)))
 intro b1
 refine qb (XF.seq (qa (qd (alv) rfl (cX (qB 0 jP sizeOf181 rfl rfl rfl hal.slv (by omega) rfl (cX (jW (0 * 6) yh rfl qu (by decide) rfl rfl ?_)))))))
 obtain ⟨a1, a2, ha1, ha2, hrg1, hq1⟩ := hal.rd (i := 0) (by omega)
 refine cX (ql qZ rfl (hrg1 _ 0 _ rfl) (cX (yf <| qo (args := [a1]) call97 rfl (Clone_spec ha1 (hlt := (by first | assumption | rfl | omega | simp))) ?_)))
 rintro v1 _ _ _ ⟨rfl, hs1, rfl⟩
 refine ⟨_, _, rfl, fun F1 le1 hz1 => ?_⟩
 replace hal := hal.mono le1
 have hf1 : IntsF F1 v1 ((((al.getD 0 ([], 0, (0, 0, []), 0)).1))) := intsH.fz (xs := (((al.getD 0 ([], 0, (0, 0, []), 0)).1))) hz1.fz
 refine cX (jg [v1, sN] [sN, sN] [(0, 1), (1, 1)] [(0, [v1])] qA jq rfl (.cons rfl qu (.cons rfl jj PlacesAre.nil)) rfl (.cons (cells_one (qF hf1)) CellsAre.nil) (cX (jc [sN, sN] jq rfl ?_)))
 intro b2
 refine cX (qC [] _ [v1, sN] qH rfl rfl rfl (qj (qJ (qF hf1)) (qj rfl qK)) rfl rfl rfl (qb (XF.seq (qa (qg (sN) rfl (qb (XF.seq (qN (jw (α := Nat × Value × List StepT × List Value × Nat) (fun xQ => [(0, alv), (1, ii (((xQ.1 : Nat) : Int))), (4, ptr b1 0), (5, ptr b2 0), (6, xQ.2.1)]) (fun xQ => slH 102 3 xQ.2.1 xQ.2.2.2.2 xQ.2.2.2.1 :: cellsH b2 [v1, sN] 45 :: cellsH b1 [sN, sN] 45 :: L) (fun xQ F' => F1 = F' ∧ (xQ.1 < al.length) ∧ (IsSl xQ.2.1) ∧ (StepsC F1 xQ.2.2.2.1 xQ.2.2.1) ∧ (xQ.2.2.2.2 = xQ.2.2.1.length) ∧ (xQ.2.2.2.2 + xQ.1 ≤ k) ∧ (backL al k = xQ.2.2.1 ++ backL al xQ.1)) (fun xQ => xQ.1) (k, sN, [], [], 0) ⟨rfl, rfl, rfl, rfl, rfl, ⟨⟩⟩ (qR (Sub.addNil 102 3 _ _) (sC (sC (sC sR)))) ⟨rfl, (hk), (⟨_, _, _, rfl⟩), (CO.nil), (rfl), (by (try dsimp only) <;> omega), (rfl)⟩ ?_)))))))))
 rintro ⟨j, sv, ss, cs, m⟩ rE _ _ ⟨rfl, hj, hsv, hC, hm, hmj, hbk⟩
 show X _ _ _ _ (envs [(0, alv), (1, ii ((j : Int))), (4, ptr b1 0), (5, ptr b2 0), (6, sv)] rE) _ (slH 102 3 sv m cs :: cellsH b2 [v1, sN] 45 :: cellsH b1 [sN, sN] 45 :: L)
 dsimp only at hj hsv hC hm hmj hbk
 have hlj := fun (h : 0 < j) => hlk.2 j h hj
 have hljx : 0 < j → 0 ≤ (al.getD j ([], 0, (0, 0, []), 0)).2.1 ∧ (al.getD j ([], 0, (0, 0, []), 0)).2.1 < (j : Int) := fun h => ⟨(hlj h).1, (hlj h).2.1⟩
 refine qc (qc (qa (qd (ii ((j : Int))) rfl (cX (jQ rfl rfl (qb ?_))))))
 refine qE (p := (j : Int) > 0) rfl (fun h1 => ?_) (fun h1 => ?_)
 ·refine qz (qc (qN (qa (qd (sv) rfl (qd (alv) rfl (qd (ii ((j : Int))) rfl (cX (qB j jP sizeOf181 rfl rfl rfl hal.slv (by omega) rfl (cX (jW (j * 6 + 2) yh rfl ji (by decide) rfl rfl ?_))))))))))
  obtain ⟨a3, a4, ha3, ha4, hrg2, hq2⟩ := hal.rd (i := j) (by omega)
  refine cX (qn [ii ((al.getD j ([], 0, (0, 0, []), 0)).2.2.1.1), ii ((al.getD j ([], 0, (0, 0, []), 0)).2.2.1.2.1), a4] yl ji rfl rfl (Rd.part 2 (hrg2 _) rfl) (cX (qx (s := 3) [ii ((al.getD j ([], 0, (0, 0, []), 0)).2.2.1.1), ii ((al.getD j ([], 0, (0, 0, []), 0)).2.2.1.2.1), a4] [ii (0), ii (0), sN] [(0, [ii ((al.getD j ([], 0, (0, 0, []), 0)).2.2.1.1), ii ((al.getD j ([], 0, (0, 0, []), 0)).2.2.1.2.1), a4])] qG ji jE rfl (by decide) rfl (.cons rfl CellsAre.nil) rfl ?_)))
  intro v2 hv1
  refine cX (jV (m := 1) (bytes := 40) (cs := cs) [_] _ [ii ((al.getD j ([], 0, (0, 0, []), 0)).2.2.1.1), ii ((al.getD j ([], 0, (0, 0, []), 0)).2.2.1.2.1), a4] qG typeInfo102 rfl rfl rfl rfl rfl rfl rfl (SlV.own [] rfl) rfl (Rd.lit [] rfl) (qj rfl (qj rfl (qj (qJ (qF ha4)) qK))) (by (try simp only [List.length_append, List.length_nil, List.length_cons, List.length_singleton]); omega) (by (try simp only [List.length_append, List.length_nil, List.length_cons, List.length_singleton]); omega) ?_)
  intro v3 hs2 hn1 hm1
  have hc1 := StepsC.snoc hC (i := (al.getD j ([], 0, (0, 0, []), 0)).2.2.1.1) (j := (al.getD j ([], 0, (0, 0, []), 0)).2.2.1.2.1) ha4
  refine qg (v3) rfl (qb (qa (qd (alv) rfl (qd (ii ((j : Int))) rfl (cX (qB j jP sizeOf181 rfl rfl rfl hal.slv (by omega) rfl (cX (jW (j * 6 + 1) yh rfl sizeOf3 (by decide) rfl rfl (cX (ql isAgg3 rfl (hrg2 _ 1 _ rfl) (qg (ii ((al.getD j ([], 0, (0, 0, []), 0)).2.1)) rfl (qb ?_))))))))))))
  exact ⟨((al.getD j ([], 0, (0, 0, []), 0)).2.1.toNat, v3, ss ++ [((al.getD j ([], 0, (0, 0, []), 0)).2.2.1.1, (al.getD j ([], 0, (0, 0, []), 0)).2.2.1.2.1, (al.getD j ([], 0, (0, 0, []), 0)).2.2.1.2.2)], cs ++ [ii ((al.getD j ([], 0, (0, 0, []), 0)).2.2.1.1), ii ((al.getD j ([], 0, (0, 0, []), 0)).2.2.1.2.1), a4], (m) + 1), _, FLe.refl _, rF, ⟨rfl, (vI (by have := hljx (by omega); (try dsimp only); omega)), rfl, rfl, rfl, ⟨⟩⟩, (sD (sC (sC (sC sR)))), ⟨rfl, (by have := hljx (by omega); (try dsimp only); omega), (hs2), (hc1), (by (try dsimp only); rw [List.length_append, List.length_singleton]; omega), (by have := hljx (by omega); (try dsimp only); omega), (by (try dsimp only); rw [hbk, backL_succ hlk (by omega) hj, List.append_assoc]; rfl)⟩, (by have := hljx (by omega); (try dsimp only); omega)⟩
 refine jo (qt (qt (qO (XF.ofR (XR.seq (qa ?_))))))
 skip
 refine qd (sv) rfl (ym [] _ _ rfl (fun F2 le2 hz2 => ?_))
 replace hf1 := hf1.mono le2
 replace hC := hC.mono le2
 have hf2 : StepsF F2 sv ss := CO.fz hC (by first | rfl | omega | (rw [List.length_set]; omega) | (simp; done)) hz2.fz
 refine cX (qo (args := [sv]) call302 rfl (backward_spec hf2) ?_)
 rintro _ F3 _ le3 ⟨x1, rfl, hb1, rfl⟩
 replace hf1 := hf1.mono le3
 replace hf2 := hf2.mono le3
 refine qb (XR.rangeB (gf := 328) (lb := [ptr x1 0]) rfl call328 (fun l D R hRs hRp hRps hRa hRb hRz hRg => ?_))
 have hR0 : ({ R with state := .ready, pending := none } : Loop) = R := by
  cases R
  simp only at hRs hRp
  subst hRs hRp
  rfl
 have hssb : ss = backL al k := by rw [hbk, show j = 0 from by omega, backL_zero, List.append_nil]
 have htb : ∀ i, i < ss.length → (ss.getD i (0, 0, [])).2.2.length ≤ 60 := fun i hi => by
  obtain ⟨q, hq, he⟩ := backL_mem hlk k k (Nat.le_refl _) hk (ss.getD i (0, 0, [])) (by rw [← hssb]; simp [List.getD, hi])
  rw [he]; exact hbd q hq
 have hyes : ∀ (k : Nat) (i : Int) (Fy : FH) (Ly : List HP) (tov : Value), k < ss.length → F3 ≤ Fy → (WJ F3 2 102 45 b2 v1 ss (objH D (.deferred (some [])) :: cellsH b1 [sN, sN] 45 :: L)) (k + 1) Fy Ly → IntsF Fy tov (ss.getD k (0, 0, [])).2.2 → i = (k : Int) → Yld prog l [.int .i64 i, .agg #[ii (ss.getD k (0, 0, [])).1, ii (ss.getD k (0, 0, [])).2.1, tov]] Fy (objH l (.loop R) :: Ly) (fun v F' L' => .bool true = v ∧ ∃ L2, (WJ F3 2 102 45 b2 v1 ss (objH D (.deferred (some [])) :: cellsH b1 [sN, sN] 45 :: L)) k F' L2 ∧ objH l (.loop R) :: L2 = L') := by
  intro k i Fy Ly tov hk9 leF hJ hto hi
  obtain ⟨sv8, ss8, cs8, Ls8, m8, hsv8, hC8, hm8, hDp, hZ, hss8, rfl⟩ := hJ
  have hssl : ss8.length ≤ 60 := by rw [hss8, List.length_reverse, List.length_drop]; omega
  have htob := htb k hk9
  refine Yld.of_round hRs hRp hRps hRa hRb hRz hRg rfl (by kernel_rfl) (by kernel_rfl) (by kernel_rfl) (XI.slots [(32, ii (i)), (33, .agg #[ii ((ss.getD k (0, 0, [])).1), ii ((ss.getD k (0, 0, [])).2.1), tov]), (5, ptr b2 0)] ⟨rfl, rfl, rfl, ⟨⟩⟩ (fun rE => (XI.region (jH (jc [ii (0), ii (0), sN] jE rfl ?_)))))
  intro b3
  refine jH (qC [] _ [ii ((ss.getD k (0, 0, [])).1), ii ((ss.getD k (0, 0, [])).2.1), tov] ji rfl rfl rfl (qj rfl (qj rfl (qj (qJ (qF hto)) qK))) rfl rfl rfl (XIL.nil ?_))
  refine ⟨cellsH b3 [ii ((ss.getD k (0, 0, [])).1), ii ((ss.getD k (0, 0, [])).2.1), tov] 102 :: cellsH b2 [v1, sv8] 45 :: slH 102 3 sv8 m8 cs8 :: objH D (.deferred (some [])) :: cellsH b1 [sN, sN] 45 :: L, (qR (qX (A := [_, _, _])) (qR (qX (A := [_, _, _])) (qR (qX (A := [_, _])) (qR (qX (A := [_, _, _])) (sC (sC (sC (sC sR)))))))), ?_⟩
  refine XI.block (XI.region (jH (qn [ii ((ss.getD k (0, 0, [])).1), ii ((ss.getD k (0, 0, [])).2.1), tov] yl ji rfl rfl (Rd.ownN [_] rfl rfl) (XIL.weaken (qX (A := [_, _, _])) ?_))))
  show XIL _ _ _ _ _ _ _ _ _ (slH 102 3 sv8 m8 cs8 :: objH l (.loop { R with state := .busy }) :: cellsH b3 [ii ((ss.getD k (0, 0, [])).1), ii ((ss.getD k (0, 0, [])).2.1), tov] 102 :: cellsH b2 [v1, sv8] 45 :: objH D (.deferred (some [])) :: cellsH b1 [sN, sN] 45 :: L)
  refine XIL.weaken (qX (A := [_, _, _])) ?_
  show XIL _ _ _ _ _ _ _ _ _ (cellsH b2 [v1, sv8] 45 :: slH 102 3 sv8 m8 cs8 :: objH l (.loop { R with state := .busy }) :: cellsH b3 [ii ((ss.getD k (0, 0, [])).1), ii ((ss.getD k (0, 0, [])).2.1), tov] 102 :: objH D (.deferred (some [])) :: cellsH b1 [sN, sN] 45 :: L)
  refine jH (qo (args := [ptr b2 0, .agg #[ii ((ss.getD k (0, 0, [])).1), ii ((ss.getD k (0, 0, [])).2.1), tov]]) call243 rfl (walkAdd_spec hto hsv8 hC8 (by first | rfl | assumption | omega) (by omega) (by omega)) ?_)
  rintro _ F4 _ le4 ⟨sw1, cw1, hs3, hw1, hf3, rfl⟩
  replace hC8 := hC8.mono le4
  have hc2 := StepsC.snoc hC8 (i := (ss.getD k (0, 0, [])).1) (j := (ss.getD k (0, 0, [])).2.1) hw1
  show XIL _ _ _ _ _ _ _ _ _ (cellsH b2 [v1, sw1] 45 :: slH 102 3 sw1 ((m8) + 1) ((cs8 ++ [ii ((ss.getD k (0, 0, [])).1), ii ((ss.getD k (0, 0, [])).2.1), cw1])) :: objH l (.loop { R with state := .busy }) :: cellsH b3 [ii ((ss.getD k (0, 0, [])).1), ii ((ss.getD k (0, 0, [])).2.1), tov] 102 :: objH D (.deferred (some [])) :: cellsH b1 [sN, sN] 45 :: L)
  refine XIL.nil ?_
  refine ⟨rfl, ?_⟩
  refine ⟨cellsH b2 [v1, sw1] 45 :: slH 102 3 sw1 ((m8) + 1) ((cs8 ++ [ii ((ss.getD k (0, 0, [])).1), ii ((ss.getD k (0, 0, [])).2.1), cw1])) :: objH D (.deferred (some [])) :: cellsH b1 [sN, sN] 45 :: L, (qR (qX (A := [_])) (qR (qX (A := [_])) (qR (qX (A := [_, _])) (sC (sC (sC (sD sR))))))), ?_⟩
  rw [hR0]
  exact ⟨rfl, _, ⟨_, _, _, _, _, hs3, hc2, by rw [List.length_append, List.length_singleton]; omega, DeepL.snoc hDp rfl ⟨_, rfl, rfl⟩, (Fresh.app hZ leF (Fresh.one hf3) le4), by rw [hss8]; exact (drop_rev (0, 0, []) hk9).symm, rfl⟩, rfl⟩
 refine (Does.weaken (qR (Sub.addNil 102 3 none _) (qR (qX (A := [_, _, _, _])) (qR (qX (A := [_, _, _])) (qR (qX (A := [_, _])) (qR (qX (A := [_, _, _, _])) (qR (qX (A := [_, _, _, _])) (sC (sC (sC (sC (sC sR))))))))))) (backIt_spec (J := (WJ F3 2 102 45 b2 v1 ss (objH D (.deferred (some [])) :: cellsH b1 [sN, sN] 45 :: L))) hb1 hf2 (by omega) WJ.start hyes)).mono ?_
 rintro _ F9 _ le9 ⟨L9, ⟨sv9, ss9, cs9, Ls9, m9, hsv9, hC9, hm9, hD9, hZ9, hss9, rfl⟩, rfl⟩
 replace hf1 := hf1.mono le9
 rw [List.drop_zero] at hss9
 refine ⟨R, cellsH b2 [v1, sv9] 45 :: slH 102 3 sv9 m9 cs9 :: cellsH b1 [sN, sN] 45 :: L, by rw [hRs]; simp, hRp, (qR (qX (A := [_, _, _, _])) (qR (qX (A := [_, _, _])) (qR (qX (A := [_, _, _])) (qR (qX (A := [_, _, _, _])) (qR (qX (A := [_, _, _, _])) (sC (sC (sC (sC (sC sR)))))))))), ?_⟩
 refine XI.seq (XI.region (jH (qn [v1, sv9] jy qH rfl rfl (Rd.ownN [_] rfl rfl) (jH (qC [_, _, _] _ [v1, sv9] qH rfl rfl rfl (qj (qJ (qF hf1)) (qj (qJ hsv9) qK)) rfl rfl rfl (XIL.nil (XI.freezeF [_, _] _ _ rfl (fun F5 le5 hz3 => ?_))))))))
 replace hf1 := hf1.mono le5
 replace hC9 := hC9.mono le5
 have hf4 : StepsF F5 sv9 ss9 := CO.fz hC9 (by first | rfl | omega | (rw [List.length_set]; omega) | (simp; done)) hz3.fz
 refine XI.ret (retEndC (L' := L) (cellsH b2 [v1, sv9] 45 :: cellsH b1 [v1, sv9] 45 :: L) [.agg #[v1, sv9]] (.agg #[v1, sv9]) (.cell rfl (jx [v1, sv9] jy qH rfl (Rd.ownN [_, _] rfl rfl)) .nil) rfl (qh (qh (qh (qh le1 le2) le3) le9) le5) rF (sC (sC (sC sR))) (sD (sD sR)) ?_)
 have e9 : ss9 = walkL al k := by rw [hss9]; unfold walkL; rw [hbk, show j = 0 from by omega, backL_zero, List.append_nil]
 rw [← e9]
 exact ⟨_, _, rfl, hf1, hf4, (Fresh.app ((Fresh.one hz1).mono (qh le2 le3)) (qh (qh le1 le2) le3) (Fresh.one (Fresh.deep hD9 hZ9 le9 hz3 (by omega) le5)) (qh le9 le5)), rfl⟩
end Go.Proofs.YtenomejgjcpbdaaGreat
set_option linter.unusedSimpArgs false
set_option linter.unusedVariables false
namespace Go.Proofs.YtenomejgjcpbdaaGreat
open Go X M Tryz
end Go.Proofs.YtenomejgjcpbdaaGreat
set_option linter.unusedSimpArgs false
set_option linter.unusedVariables false
namespace Go.Proofs.YtenomejgjcpbdaaGreat
open Go X M Tryz

/- impl.plain -/
theorem plainZ_spec {F : FH} {L : List HP} {sv : Value} {s : List (List Int)} (hs : RowsF F sv s) (hsl : s.length ≤ 24) (hsb : ∀ i, i < s.length → (s.getD i []).length ≤ 4000000) :
    Does prog 181 [.agg #[sv]] F (L) (fun v F' L' => ∃ (a : Value), (.agg #[a] : Value) = v ∧ (RowsF F' a (plainL s)) ∧ (Fresh F F' (star [rowsD 2 22 a (plainL s)])) ∧ L = L') := by
 refine qL func181 rfl rfl rfl (qc (qa (cX (jd [sv] rfl rfl ?_))))
 intro b1
 refine cX (jc [sN] jB rfl ?_)
 intro b2
 refine qb (qc (qa (cX (jc [sN] jB rfl ?_))))
 intro b3
 refine qb (qc (qc (qa (cX (qk (0) qW rfl jk (by decide) rfl rfl (cX (ql jJ rfl (Rd.own [_, _] rfl rfl) (cX (qD qM rfl hs.slv (qd (ii (0)) rfl (qb (qN (jw (α := Nat × Value × RowL × List Value × List HP × Nat × FH) (fun xQ => [(2, ptr b2 0), (3, ptr b3 0), (7, sv), (8, ii ((s.length : Int))), (9, ii (((xQ.1 : Nat) : Int)))]) (fun xQ => slH 22 1 xQ.2.1 xQ.2.2.2.2.2.1 xQ.2.2.2.1 :: cellsH b3 [xQ.2.1] 115 :: cellsH b2 [sN] 115 :: cellsH b1 [sv] 115 :: L) (fun xQ F' => xQ.2.2.2.2.2.2 = F' ∧ F ≤ xQ.2.2.2.2.2.2 ∧ (IsSl xQ.2.1) ∧ (RowsC xQ.2.2.2.2.2.2 xQ.2.2.2.1 xQ.2.2.1) ∧ (xQ.2.2.2.2.2.1 = xQ.2.2.1.length) ∧ (DeepL 1 (RowO 2) xQ.2.2.2.1 xQ.2.2.1 xQ.2.2.2.2.1) ∧ (Fresh F xQ.2.2.2.2.2.2 (star xQ.2.2.2.2.1)) ∧ (xQ.2.2.1 = trim ((plainGo 0 s).take xQ.1)) ∧ (xQ.1 ≤ s.length)) (fun xQ => s.length - xQ.1) (0, sN, [], [], [], 0, F) ⟨rfl, rfl, rfl, rfl, rfl, ⟨⟩⟩ (qR (Sub.addNil 22 1 _ _) (sC (sC (sC (sC sR))))) ⟨rfl, FLe.refl _, (⟨_, _, _, rfl⟩), (CO.nil), (rfl), (DeepL.nil), (Fresh.nilL), (rfl), (by (try dsimp only) <;> omega)⟩ ?_)))))))))))))
 rintro ⟨k, ov, os, ocs, Us, m, G1⟩ rE _ _ ⟨rfl, leG, hov, hC, hm, hD, hZ, hos, hk⟩
 show X _ _ _ _ (envs [(2, ptr b2 0), (3, ptr b3 0), (7, sv), (8, ii ((s.length : Int))), (9, ii ((k : Int)))] rE) _ (slH 22 1 ov m ocs :: cellsH b3 [ov] 115 :: cellsH b2 [sN] 115 :: cellsH b1 [sv] 115 :: L)
 replace leG : F ≤ G1 := leG
 dsimp only at hov hC hm hD hZ hos hk
 have leG1 := leG
 replace hs := hs.mono leG1
 refine qc (qa (cX (jf rfl rfl (qb (qc ?_)))))
 refine qE (p := (k : Int) < (s.length : Int)) rfl (fun h1 => ?_) (fun h1 => ?_)
 ·refine qz (qc (qN (qc (qa (qd (ii ((k : Int))) rfl (cX (qB k qM qu rfl rfl rfl hs.slv (by omega) (Nat.mul_one _) ?_)))))))
  obtain ⟨a1, ha1, hr1⟩ := hs.rd (i := k) (by omega)
  refine cX (ql qZ rfl (hr1 _) (qg (ii ((k : Int))) rfl (qg (a1) rfl (qb (qc (qc (qa (qd (a1) rfl (cX (qD qf rfl ha1.slv (cX (jR rfl rfl (qd (.bool (decide ((((((s.getD k [])).length : Nat) : Int) : Int) = 0))) rfl ?_)))))))))))))
  by_cases h2 : (((((s.getD k [])).length : Nat) : Int) : Int) = 0
  ·refine qr (t := 17) rfl (vT h2) (qr (t := 17) rfl (vT h2) (qr (t := 17) rfl (vT h2) (qr (t := 17) rfl (vT h2) (cX (qU (.bool (true)) (vT h2) rfl (qb (jI rfl (jo (qt (qO (qa (cX (qP (((k + 1 : Nat) : Int)) rfl rfl (by omega) (by omega) ?_)))))))))))))
   refine qd (ii (((k + 1 : Nat) : Int))) rfl (qb ?_)
   exact ⟨(k + 1, ov, os, ocs, Us, m, G1), _, leG1, rF, ⟨rfl, rfl, rfl, rfl, rfl, ⟨⟩⟩, (sC (sC (sC (sC sR)))), ⟨rfl, leG1, (hov), (hC), (hm), (hD), (hZ), (hos.trans (plain_skip (by omega) (by first | (left; exact List.eq_nil_of_length_eq_zero (by omega)) | (right; assumption))).symm), (by (try dsimp only) <;> omega)⟩, (by omega)⟩
  refine qp (t := 17) rfl (vF h2) (qq (a1) rfl (qp (t := 17) rfl (vF h2) (qq (ii ((k : Int))) rfl (qp (t := 17) rfl (vF h2) (yf <| qo (args := [ii (k : Int)]) call182 rfl (variable_spec (i := k) (hi := (by first | assumption | rfl | omega | simp))) ?_)))))
  rintro v1 _ _ _ ⟨rfl, hs1, rfl⟩
  refine ⟨_, _, rfl, fun F1 le1 hz1 => ?_⟩
  replace hs := hs.mono le1
  replace hC := hC.mono le1
  replace ha1 := ha1.mono le1
  have hf1 : IntsF F1 v1 (([-1 - (k : Int)])) := intsH.fz (xs := ([-1 - (k : Int)])) hz1.fz
  refine qp (t := 17) rfl (vF h2) (qo (args := [a1, v1]) call156 rfl (Equal_spec ha1 hf1 (hbd := (by first | assumption | rfl | omega | (left; simp; done) | (right; simp; done)))) ?_)
  rintro _ _ _ _ ⟨rfl, rfl, rfl⟩
  refine cX (qS (.bool (decide (((s.getD k [])) = (([-1 - (k : Int)]))))) (vF h2) rfl (qb ?_))
  refine qE (p := ((s.getD k [])) = (([-1 - (k : Int)]))) rfl (fun h3 => ?_) (fun h3 => ?_)
  ·refine jo (qt (qO (qa (cX (qP (((k + 1 : Nat) : Int)) rfl rfl (by omega) (by omega) (qd (ii (((k + 1 : Nat) : Int))) rfl (qb ?_)))))))
   exact ⟨(k + 1, ov, os, ocs, Us, m, F1), _, (qh leG1 le1), rF, ⟨rfl, rfl, rfl, rfl, rfl, ⟨⟩⟩, (sC (sC (sC (sC sR)))), ⟨rfl, (qh leG1 le1), (hov), (hC), (hm), (hD), ((hZ.mono le1)), (hos.trans (plain_skip (by omega) (by first | (left; exact List.eq_nil_of_length_eq_zero (by omega)) | (right; assumption))).symm), (by (try dsimp only) <;> omega)⟩, (by omega)⟩
  refine qz (qc (qN (jw (α := Nat × Value × RowL × List Value × List HP × Nat × FH) (fun xQ => [(2, ptr b2 0), (3, ptr b3 0), (4, ii ((k : Int))), (5, a1), (7, sv), (8, ii ((s.length : Int))), (9, ii ((k : Int)))]) (fun xQ => slH 22 1 xQ.2.1 xQ.2.2.2.2.2.1 xQ.2.2.2.1 :: cellsH b3 [xQ.2.1] 115 :: cellsH b2 [sN] 115 :: cellsH b1 [sv] 115 :: L) (fun xQ F' => xQ.2.2.2.2.2.2 = F' ∧ F1 ≤ xQ.2.2.2.2.2.2 ∧ (IsSl xQ.2.1) ∧ (RowsC xQ.2.2.2.2.2.2 xQ.2.2.2.1 xQ.2.2.1) ∧ (xQ.2.2.2.2.2.1 = xQ.2.2.1.length) ∧ (DeepL 1 (RowO 2) xQ.2.2.2.1 xQ.2.2.1 xQ.2.2.2.2.1) ∧ (Fresh F xQ.2.2.2.2.2.2 (star xQ.2.2.2.2.1)) ∧ (xQ.2.2.1 = os ++ List.replicate xQ.1 []) ∧ (xQ.2.2.1.length ≤ k)) (fun xQ => k - xQ.2.2.1.length) (0, ov, os, ocs, Us, m, F1) ⟨rfl, rfl, rfl, rfl, rfl, rfl, rfl, ⟨⟩⟩ (sC (sC (sC (sC sR)))) ⟨rfl, FLe.refl _, (hov), (hC), (hm), (hD), ((hZ.mono le1)), (by simp), (by have := trim_le ((plainGo 0 s).take k); rw [← hos, List.length_take] at this; (try dsimp only); omega)⟩ ?_)))
  rintro ⟨j, ov2, os2, ocs2, Vs, m2, G2⟩ rE _ _ ⟨rfl, leG, hov2, hC2, hm2, hD2, hZ2, hos2, hl2⟩
  show X _ _ _ _ (envs [(2, ptr b2 0), (3, ptr b3 0), (4, ii ((k : Int))), (5, a1), (7, sv), (8, ii ((s.length : Int))), (9, ii ((k : Int)))] rE) _ (slH 22 1 ov2 m2 ocs2 :: cellsH b3 [ov2] 115 :: cellsH b2 [sN] 115 :: cellsH b1 [sv] 115 :: L)
  replace leG : F1 ≤ G2 := leG
  dsimp only at hov2 hC2 hm2 hD2 hZ2 hos2 hl2
  have leG2 := leG
  replace hs := hs.mono leG2
  replace hC := hC.mono leG2
  replace ha1 := ha1.mono leG2
  refine qc (qc (qa (cX (qk (0) qW rfl jk (by decide) rfl rfl (cX (ql jJ rfl (Rd.own [_] rfl rfl) (cX (qD qM rfl (SlV.own [] rfl) (qd (ii ((k : Int))) rfl (cX (jf rfl rfl (qb ?_))))))))))))
  refine qE (p := (m2 : Int) < (k : Int)) rfl (fun h4 => ?_) (fun h4 => ?_)
  ·refine qz (qN (qa (cX (qk (0) qW rfl jk (by decide) rfl rfl (cX (ql jJ rfl (Rd.own [_] rfl rfl) (cX (qx (s := 1) [sN] [sN] [(0, [sN])] qM qu yi rfl (by decide) rfl (.cons rfl CellsAre.nil) rfl ?_))))))))
   intro v2 hv1
   refine cX (jV (m := 1) (bytes := 24) (cs := ocs2) [_] _ [sN] qM typeInfo22 rfl rfl rfl rfl rfl rfl rfl (SlV.own [] rfl) rfl (Rd.lit [] rfl) (qj rfl qK) (by (try simp only [List.length_append, List.length_nil, List.length_cons, List.length_singleton]); omega) (by (try simp only [List.length_append, List.length_nil, List.length_cons, List.length_singleton]); omega) ?_)
   intro v3 hs2 hn1 hm1
   have hc1 := RowsC.snoc hC2 IntsF.nilV
   refine cX (qk (0) qW rfl jk (by decide) rfl rfl (cX (jK [_, _] _ [v3] jk rfl rfl (qJ hs2) rfl rfl rfl (qb ?_))))
   exact ⟨(j + 1, v3, os2 ++ [[]], ocs2 ++ [(sN)], Vs ++ [intsH 2 sN []], (m2) + 1, G2), _, leG2, rF, ⟨rfl, rfl, rfl, rfl, rfl, rfl, rfl, ⟨⟩⟩, (sD (sC (sC (sC (sC sR))))), ⟨rfl, leG2, (hs2), (hc1), (by (try dsimp only); rw [List.length_append, List.length_singleton]; omega), (DeepL.snoc hD2 rfl ⟨_, rfl, rfl⟩), ((Fresh.app hZ2 (qh (qh leG1 le1) leG2) (Fresh.one (Fresh.empty nilLeaf)) rF)), (by dsimp only; rw [hos2, List.append_assoc, List.replicate_succ']), (by dsimp only; rw [List.length_append]; simp only [List.length_singleton]; omega)⟩, (by dsimp only; rw [List.length_append]; simp only [List.length_singleton]; omega)⟩
  refine jo (qt (qt (qO ?_)))
  refine jZ [slH 22 1 ov2 m2 ocs2, cellsH b3 [ov2] 115, cellsH b2 [sN] 115, cellsH b1 [sv] 115] L 5 [[], [], [], [], [3]] [[], [0], [], [2], [3]] [] (phiG [pe (ptr b3 0), pe ov2, pe a1, fun FF us v => ((v) : Value) = v ∧ (IntsF FF (v) (((s.getD k [])))) ∧ (FrIntsF G2 FF 2 (v) (((s.getD k [])))), fun FF us v => ∃ b, v = .slice (some ⟨b, 0, none⟩) 1 1]) (ownL [o0, o0, o0, o0, fun us v => [slH 22 1 v 1 [((us.getD 0 undef))]]]) mixed rfl rfl (by kernel_rfl) (by kernel_rfl) (MonoG.get (m1 (m1 (m1 (mC (fun le h => ⟨h.1, h.2.1.mono le, h.2.2.mono le⟩) (mC (fun le h => h) MonoG.nil)))))) ?_ ?_
  ·refine gD (fun W Fs R lF z9 => ?_) ?_
   ·refine qi (qk (0) qW rfl jk (by decide) rfl rfl ?_)
    exact ⟨rfl, rfl⟩
   refine gD (fun W Fs R lF z9 => ?_) ?_
   ·replace hs := hs.mono lF
    replace hC := hC.mono lF
    replace ha1 := ha1.mono lF
    replace hC2 := hC2.mono lF
    rw [eS (l := [(0, _)]) ⟨z9 0 rfl, ⟨⟩⟩]
    refine qi (ql jJ rfl (Rd.own [_] rfl rfl) ?_)
    exact ⟨rfl, rfl⟩
   refine gD (fun W Fs R lF z9 => ?_) ?_
   ·refine qi (qq (a1) rfl ?_)
    exact ⟨rfl, rfl⟩
   refine gD (fun W Fs R lF z9 => ?_) ?_
   ·replace hs := hs.mono lF
    replace hC := hC.mono lF
    replace ha1 := ha1.mono lF
    replace hC2 := hC2.mono lF
    rw [eS (l := [(2, _)]) ⟨z9 2 rfl, ⟨⟩⟩]
    refine qi (yf <| qo (args := [a1]) call97 rfl (Clone_spec ha1 (hlt := (hsb k (by omega)))) ?_)
    rintro v6 _ _ _ ⟨rfl, hs4, rfl⟩
    refine ⟨_, _, rfl, fun F2 le2 hz2 => ?_⟩
    replace hC := hC.mono le2
    replace hC2 := hC2.mono le2
    have hf2 : IntsF F2 v6 ((((s.getD k [])))) := intsH.fz (xs := (((s.getD k [])))) hz2.fz
    exact ⟨⟨rfl, hf2, (hz2.base lF)⟩, rfl⟩
   refine gD (fun W Fs R lF z9 => ?_) ?_
   ·obtain ⟨e3, f3_1ha, f3_1hz⟩ := z9 3 rfl
    replace hC := hC.mono lF
    replace hC2 := hC2.mono lF
    rw [eS (l := [(3, ((W 3)))]) ⟨(e3).symm, ⟨⟩⟩]
    refine qi (qx (s := 1) [((W 3))] [sN] [(0, [((W 3))])] qM qu yi rfl (by decide) rfl (.cons (cells_one (qF f3_1ha)) CellsAre.nil) rfl ?_)
    intro v7 hv3
    exact ⟨hv3, rfl⟩
   exact stepsG.nil
  intro W F3 le3 hphi
  obtain ⟨e3, f3_1ha, f3_1hz⟩ := hphi 3 (by decide)
  have f4 : ∃ b, (W 4) = .slice (some ⟨b, 0, none⟩) 1 1 := hphi 4 (by decide)
  generalize hu1 : ((W 3)) = u1 at e3 f3_1ha f3_1hz f4
  generalize hu4 : W 4 = u2 at e3 f3_1ha f3_1hz f4
  rw [eS (l := [(1, _), (3, u1), (4, u2)]) ⟨(hphi 1 (by decide)), hu1, hu4, ⟨⟩⟩]
  replace hC := hC.mono le3
  replace hC2 := hC2.mono le3
  show XL _ _ _ _ _ _ _ (slH 22 1 u2 1 [u1] :: slH 22 1 ov2 m2 ocs2 :: cellsH b3 [ov2] 115 :: cellsH b2 [sN] 115 :: cellsH b1 [sv] 115 :: L)
  refine cX (jV (m := 1) (bytes := 24) (cs := ocs2) [_] _ [u1] qM typeInfo22 rfl rfl rfl rfl rfl rfl rfl (SlV.own [] rfl) rfl (Rd.lit [] rfl) (qj (qJ (qF f3_1ha)) qK) (by (try simp only [List.length_append, List.length_nil, List.length_cons, List.length_singleton]); omega) (by (try simp only [List.length_append, List.length_nil, List.length_cons, List.length_singleton]); omega) ?_)
  intro v8 hs5 hn2 hm2
  have hc2 := RowsC.snoc hC2 f3_1ha
  skip
  refine cX (qk (0) qW rfl jk (by decide) rfl rfl (cX (jK [_, _] _ [v8] jk rfl rfl (qJ hs5) rfl rfl rfl (qb (qa (cX (qP (((k + 1 : Nat) : Int)) rfl rfl (by omega) (by omega) (qd (ii (((k + 1 : Nat) : Int))) rfl (qb ?_)))))))))
  exact ⟨(k + 1, v8, os2 ++ [(((s.getD k [])))], ocs2 ++ [u1], Vs ++ [intsH 2 u1 ((((s.getD k []))))], (m2) + 1, F3), _, (qh (qh (qh leG1 le1) leG2) le3), rF, ⟨rfl, rfl, rfl, rfl, rfl, ⟨⟩⟩, (sD (sC (sC (sC (sC sR))))), ⟨rfl, (qh (qh (qh leG1 le1) leG2) le3), (hs5), (hc2), (by (try dsimp only); rw [List.length_append, List.length_singleton]; omega), (DeepL.snoc hD2 rfl ⟨_, rfl, rfl⟩), ((Fresh.app hZ2 (qh (qh leG1 le1) leG2) (Fresh.one f3_1hz) le3)), (plain_put (m := os2) (by omega) (by intro e; have := congrArg List.length e; simp only [List.length_nil] at this; omega) (by assumption) (by rw [hos2, hos]; exact plain_padded (by rw [← hos, ← hos2, List.length_take, plainGo_length]; omega))), (by (try dsimp only) <;> omega)⟩, (by omega)⟩
 refine jo (qt (qt (qO (qc (qa (cX (qn [ov] jC qV rfl rfl (Rd.ownN [_] rfl rfl) (cX (qC [_, _] _ [ov] qV rfl rfl rfl (qj (qJ hov) qK) rfl rfl rfl (qb (je [] _ _ rfl (fun F4 le4 hz3 => ?_))))))))))))
 replace hC := hC.mono le4
 have hf3 : RowsF F4 ov os := CO.fz hC (by first | rfl | omega | (rw [List.length_set]; omega) | (simp; done)) hz3.fz
 refine qw (qs (L' := L) [.agg #[ov]] (.agg #[ov]) (.cell rfl (jx [ov] jC qV rfl (Rd.ownN [_] rfl rfl)) .nil) rfl (qh leG1 le4) rF (sD (sD (sD sR))) ?_)
 have e : os = plainL s := by rw [hos, show k = s.length from by omega, plain_all]
 exact ⟨_, rfl, by rw [← e]; exact hf3, by rw [← e]; exact (Fresh.one (Fresh.deep hD hZ leG1 hz3 (by omega) le4)), rfl⟩

/- impl.match -/
theorem matchZ_spec {F : FH} {L : List HP} {arv : Value} {ar : List Int} (har : IntsF F arv ar) {pv : Value} {p : List Int} (hp : IntsF F pv p) {tv : Value} {t : List Int} (ht : IntsF F tv t) (ho : termOk ar t = true) (hpo : termOk ar p = true) :
    Does prog 241 [.agg #[arv], pv, tv] F (L) (fun v F' L' => ∃ (a : Value), (.tuple #[.agg #[a], .bool ((matchB ar p t).isSome)] : Value) = v ∧ (RowsF F' a (matchP ar p t)) ∧ (Fresh F F' (star [rowsD 2 22 a (matchP ar p t)])) ∧ L = L') := by
 refine qL func241 rfl rfl rfl ?_
 have hpl := termOk_len hpo
 have hpg := fun k (hk : k < p.length) => termOk_ge hpo hk
 refine qc (qa (cX (jd [arv] rfl rfl ?_)))
 intro b1
 refine cX (jc [sN] jB rfl ?_)
 intro b2
 refine qg (.bool (false)) rfl (qb (qc (qa (cX (qn [arv] js qY rfl rfl (Rd.ownN [_] rfl rfl) (qd (pv) rfl (qd (tv) rfl (cX (XOp.build0 (List.replicate 24 (sN)) runUnderlying244 ⟨_, qu⟩ zeroValue244 rfl ?_)))))))))
 have hc1 : BindC F _ _ := BindC.nils 24
 refine cX (qo (args := [.agg #[arv], pv, tv, .agg (List.replicate 24 (sN)).toArray]) call203 rfl (matchInto_spec har hp ht hc1 ((by first | assumption | rfl | simp | omega)) (ho := (by first | assumption | rfl | omega | simp)) (hpl := (by first | assumption | rfl | omega | simp)) (hpg := (by first | assumption | rfl | omega | simp))) ?_)
 rintro _ _ _ _ ⟨rfl, x1, x2, rfl, hr1, hr2, hr3, rfl⟩
 have hbl24 := hr2
 refine qd (.tuple #[.agg (x1).toArray, .bool ((mGo ar t p 0 (List.replicate 24 ([] : List Int))).isSome)]) rfl (cX (qQ (.agg (x1).toArray) rfl rfl (cX (qQ (.bool ((mGo ar t p 0 (List.replicate 24 ([] : List Int))).isSome)) rfl rfl (cX (jc (List.replicate 24 (sN)) zeroValue244 rfl ?_))))))
 intro b3
 have hc2 : BindC F _ _ := BindC.nils 24
 refine cX (qC [] _ x1 yk rfl rfl (by have := CO.len hr1; (try simp only [List.length_set, List.length_replicate] at this ⊢) <;> omega) hr1.ones rfl (Nat.ble_eq_true_of_le (Nat.le_of_eq (by have := CO.len hc2; (try simp only [List.length_set, List.length_replicate] at this ⊢) <;> omega))) (arr_over (by have := CO.len hc2; (try simp only [List.length_set, List.length_replicate] at this ⊢) <;> omega)) (qg (.bool ((mGo ar t p 0 (List.replicate 24 ([] : List Int))).isSome)) rfl (qb (qc (qc (qa (qd (.bool ((mGo ar t p 0 (List.replicate 24 ([] : List Int))).isSome)) rfl (cX (jn rfl (qb ?_))))))))))
 refine jN (t := !((mGo ar t p 0 (List.replicate 24 ([] : List Int))).isSome)) rfl (fun h1 => ?_) (fun h1 => ?_)
 ·refine qc (qa (cX (jg [sN] [sN] [(0, 1)] [] qW jB rfl (.cons rfl jk PlacesAre.nil) rfl CellsAre.nil (cX (qC [_] _ [sN] qV rfl rfl rfl (qj rfl qK) rfl rfl rfl (qg (.bool (false)) rfl (qb (qw (qm (qs (L' := L) [.agg #[sN], .bool (false)] (.tuple #[.agg #[sN], .bool (false)]) (.cell rfl (jx [sN] jC qV rfl (Rd.ownN [_] rfl rfl)) (.tmp rfl .nil)) rfl rF rF (sD (sD (sD sR))) ?_))))))))))
  have hz : matchB ar p t = none := by have h0 := h1; simpa [matchB] using h0
  exact ⟨_, by rw [hz]; rfl, by rw [matchP, hz]; exact SlOf.nilV, by rw [matchP, hz]; exact Fresh.empty nilRowsD, rfl⟩
 have hz : ∃ r, matchB ar p t = some r := Option.isSome_iff_exists.1 (by have h0 := h1; simpa [matchB] using h0)
 have hmb : ∀ i, (x2.getD i []).length ≤ t.length := by obtain ⟨r, hz⟩ := hz; have e := hr3 _ hz; rw [e]; exact (matchB_len hz).2
 have htl := termOk_len ho
 refine qz (qc (qa (cX (qn x1 isAgg244 yk (by have := CO.len hr1; (try simp only [List.length_set, List.length_replicate] at this ⊢) <;> omega) rfl (Rd.ownN [] rfl take_all) (cX (qo (args := [.agg (x1).toArray]) call206 rfl (subst_spec hr1 ((by first | assumption | rfl | simp | omega))) ?_))))))
 rintro _ F2 _ le2 ⟨x3, rfl, hr4, rfl⟩
 refine cX (qo (args := [.agg #[x3]]) call181 rfl (plainZ_spec hr4 (hsl := (by first | assumption | rfl | omega | simp)) (hsb := (fun i hi => by have := hmb i; omega))) ?_)
 rintro _ F3 _ le3 ⟨x4, rfl, hr5, hr6, rfl⟩
 refine cX (qC [_] _ [x4] qV rfl rfl rfl (qj (qJ (RowsF.isSl hr5)) qK) rfl rfl rfl (qg (.bool (true)) rfl (qb (qw (qs (L' := L) [.agg #[x4], .bool (true)] (.tuple #[.agg #[x4], .bool (true)]) (.cell rfl (jx [x4] jC qV rfl (Rd.ownN [_] rfl rfl)) (.tmp rfl .nil)) rfl (qh le2 le3) rF (sD (sD (sD sR))) ?_)))))
 obtain ⟨b0, hz⟩ := Option.isSome_iff_exists.1 (show (matchB ar p t).isSome = true from by have h0 := h1; simpa [matchB] using h0)
 have hb0 := hr3 _ hz
 exact ⟨_, by rw [hz]; rfl, by rw [matchP, hz]; subst hb0; exact hr5, by rw [matchP, hz]; subst hb0; exact (hr6.base le2), rfl⟩

/- impl.loopFrom$1 -/
theorem loopFrom1_spec {F : FH} {L : List HP} {p : Nat} {arv : Value} {ar : List Int} (har : IntsF F arv ar) {rsv : Value} {rs : List (List Int × List Int)} (hrs : PairsF F rsv rs) {bs : Nat} (hzbs : FzC F bs [arv, rsv]) {tv : Value} {t : List Int} (ht : IntsF F tv t) {bt : Nat} (hzbt : FzC F bt [tv]) {i1 : Int} {i2 : Int} {uv : Value} {u : List Int} (hu : IntsF F uv u) {bu : Nat} (hzbu : FzC F bu [ii (i1), ii (i2), uv]) (ho : termOk ar t = true) (huo : termOk ar u = true) (hp : p < u.length) :
    Does prog 240 [ii ((p : Int)), ptr bs 0, ptr bt 0, ptr bu 0] F (L) (fun v F' L' => ∃ (a : Value), (.tuple #[.agg #[a], .bool ((matchB ar t (sub ar u p)).isSome)] : Value) = v ∧ (RowsF F' a (matchP ar t (sub ar u p))) ∧ (Fresh F F' (star [rowsD 2 22 a (matchP ar t (sub ar u p))])) ∧ L = L') := by
 refine qL func240 rfl rfl rfl ?_
 have hun := yb hu (by have := termOk_len huo; omega)
 have hso := sub_ok huo hp
 refine qc (qa (cX (jc [sN] jB rfl ?_)))
 intro b1
 refine qg (.bool (false)) rfl (qb (qc ?_))
 refine jZ [cellsH b1 [sN] 115] L 12 [[], [], [], [], [], [], [], [], [], [], [9]] [[], [0], [], [], [3], [], [5], [], [4, 6, 7], [1, 2, 8], [9], [9]] [] (phiG [pe (ptr bs 0), pe (.agg #[arv]), pe tv, pe (ptr bs 0), pe (.agg #[arv]), pe (ptr bu 2), pe uv, pe (ii ((p : Int)) : Value), fun FF us v => ((v) : Value) = v ∧ (IntsF FF (v) (sub ar u p)) ∧ (isNil (v) = false), fun FF us v => (.tuple #[.agg #[((aggAt (tupAt v 0) 0))], .bool ((matchB ar t ((sub ar u p))).isSome)] : Value) = v ∧ (RowsF FF ((aggAt (tupAt v 0) 0)) (matchP ar t ((sub ar u p)))) ∧ (FreshsF F FF (star [rowsD 2 22 ((aggAt (tupAt v 0) 0)) (matchP ar t ((sub ar u p)))])), fun FF us v => v = (.agg #[((aggAt (tupAt (us.getD 0 undef) 0) 0))] : Value), pe (.bool ((matchB ar t ((sub ar u p))).isSome))]) (ownL []) mixed rfl rfl (by kernel_rfl) (by kernel_rfl) (MonoG.get (m1 (m1 (m1 (m1 (m1 (m1 (m1 (m1 (mC (fun le h => ⟨h.1, h.2.1.mono le, h.2.2⟩) (mC (fun le h => ⟨h.1, h.2.1.mono le, h.2.2.mono le⟩) (mC (fun le h => h) (m1 MonoG.nil))))))))))))) ?_ ?_
 ·refine gD (fun W Fs R lF z9 => ?_) ?_
  ·refine qi (qk (0) ja rfl qY (by decide) rfl rfl ?_)
   exact ⟨rfl, rfl⟩
  refine gD (fun W Fs R lF z9 => ?_) ?_
  ·replace har := har.mono lF
   replace hzbs := hzbs.mono lF
   replace ht := ht.mono lF
   replace hzbt := hzbt.mono lF
   replace hu := hu.mono lF
   replace hzbu := hzbu.mono lF
   rw [eS (l := [(0, _)]) ⟨z9 0 rfl, ⟨⟩⟩]
   refine qi (qn [arv] js qY rfl rfl (FzC.rdN (o := 0) hzbs rfl) ?_)
   exact ⟨rfl, rfl⟩
  refine gD (fun W Fs R lF z9 => ?_) ?_
  ·replace har := har.mono lF
   replace hzbs := hzbs.mono lF
   replace ht := ht.mono lF
   replace hzbt := hzbt.mono lF
   replace hu := hu.mono lF
   replace hzbu := hzbu.mono lF
   refine qi (ql qZ rfl (FzC.rd1 hzbt rfl) ?_)
   exact ⟨rfl, rfl⟩
  refine gD (fun W Fs R lF z9 => ?_) ?_
  ·refine qi (qk (0) ja rfl qY (by decide) rfl rfl ?_)
   exact ⟨rfl, rfl⟩
  refine gD (fun W Fs R lF z9 => ?_) ?_
  ·replace har := har.mono lF
   replace hzbs := hzbs.mono lF
   replace ht := ht.mono lF
   replace hu := hu.mono lF
   replace hzbu := hzbu.mono lF
   rw [eS (l := [(3, _)]) ⟨z9 3 rfl, ⟨⟩⟩]
   refine qi (qn [arv] js qY rfl rfl (FzC.rdN (o := 0) hzbs rfl) ?_)
   exact ⟨rfl, rfl⟩
  refine gD (fun W Fs R lF z9 => ?_) ?_
  ·refine qi (qk (2) jm rfl qu (by decide) rfl rfl ?_)
   exact ⟨rfl, rfl⟩
  refine gD (fun W Fs R lF z9 => ?_) ?_
  ·replace har := har.mono lF
   replace ht := ht.mono lF
   replace hu := hu.mono lF
   replace hzbu := hzbu.mono lF
   rw [eS (l := [(5, _)]) ⟨z9 5 rfl, ⟨⟩⟩]
   refine qi (ql qZ rfl (FzC.rd1 hzbu rfl) ?_)
   exact ⟨rfl, rfl⟩
  refine gD (fun W Fs R lF z9 => ?_) ?_
  ·refine qi (qq (ii ((p : Int))) rfl ?_)
   exact ⟨rfl, rfl⟩
  refine gD (fun W Fs R lF z9 => ?_) ?_
  ·replace har := har.mono lF
   replace ht := ht.mono lF
   replace hu := hu.mono lF
   rw [eS (l := [(4, _), (6, _), (7, _)]) ⟨z9 4 rfl, z9 6 rfl, z9 7 rfl, ⟨⟩⟩]
   refine qi (qo (args := [.agg #[arv], uv, ii (p : Int)]) call204 rfl (subAt_spec (p := p) har hu (ho := (huo)) (hp := (hp)) (hnn := (by first | assumption | exact hun))) ?_)
   rintro v2 _ _ _ ⟨rfl, rfl, hv2, hn2⟩
   exact ⟨⟨rfl, hv2, hn2⟩, rfl⟩
  refine gD (fun W Fs R lF z9 => ?_) ?_
  ·obtain ⟨e8, f8_1ha, f8_1hn⟩ := z9 8 rfl
   replace har := har.mono lF
   replace ht := ht.mono lF
   rw [eS (l := [(1, _), (2, _), (8, ((W 8)))]) ⟨z9 1 rfl, z9 2 rfl, (e8).symm, ⟨⟩⟩]
   refine qi (qo (args := [.agg #[arv], tv, ((W 8))]) call241 rfl (matchZ_spec har ht f8_1ha (ho := (hso)) (hpo := (ho))) ?_)
   rintro _ F2 _ le2 ⟨x2, rfl, hr3, hr4, rfl⟩
   replace f8_1ha := f8_1ha.mono le2
   exact ⟨⟨rfl, hr3, (hr4.base lF)⟩, rfl⟩
  refine gD (fun W Fs R lF z9 => ?_) ?_
  ·obtain ⟨e9, f9_1hr, f9_1hz⟩ := z9 9 rfl
   rw [eS (l := [(9, (.tuple #[.agg #[((aggAt (tupAt (W 9) 0) 0))], .bool ((matchB ar t ((sub ar u p))).isSome)]))]) ⟨(e9).symm, ⟨⟩⟩]
   refine qi (qQ (.agg #[((aggAt (tupAt (W 9) 0) 0))]) rfl rfl ?_)
   exact ⟨rfl, rfl⟩
  refine gD (fun W Fs R lF z9 => ?_) ?_
  ·obtain ⟨e9, f9_1hr, f9_1hz⟩ := z9 9 rfl
   rw [eS (l := [(9, (.tuple #[.agg #[((aggAt (tupAt (W 9) 0) 0))], .bool ((matchB ar t ((sub ar u p))).isSome)]))]) ⟨(e9).symm, ⟨⟩⟩]
   refine qi (qQ (.bool ((matchB ar t ((sub ar u p))).isSome)) rfl rfl ?_)
   exact ⟨rfl, rfl⟩
  exact stepsG.nil
 intro W F3 le3 hphi
 obtain ⟨e8, f8_1ha, f8_1hn⟩ := hphi 8 (by decide)
 obtain ⟨e9, f9_1hr, f9_1hz⟩ := hphi 9 (by decide)
 have e10 : W 10 = (.agg #[((aggAt (tupAt (W 9) 0) 0))] : Value) := hphi 10 (by decide)
 generalize hu1 : ((W 8)) = u1 at e8 f8_1ha f8_1hn e9 f9_1hr f9_1hz e10
 generalize hu2 : ((aggAt (tupAt (W 9) 0) 0)) = u2 at e8 f8_1ha f8_1hn e9 f9_1hr f9_1hz e10
 rw [eS (l := [(9, (.tuple #[.agg #[u2], .bool ((matchB ar t ((sub ar u p))).isSome)])), (10, (.agg #[u2])), (11, _)]) ⟨(e9).symm, e10, (hphi 11 (by decide)), ⟨⟩⟩]
 show XL _ _ _ _ _ _ _ (cellsH b1 [sN] 115 :: L)
 refine cX (qC [] _ [u2] qV rfl rfl rfl (qj (qJ (RowsF.isSl f9_1hr)) qK) rfl rfl rfl (qg (.bool ((matchB ar t ((sub ar u p))).isSome)) rfl (qb (qw (qs (L' := L) [.agg #[u2], .bool ((matchB ar t ((sub ar u p))).isSome)] (.tuple #[.agg #[u2], .bool ((matchB ar t ((sub ar u p))).isSome)]) (.cell rfl (jx [u2] jC qV rfl (Rd.ownN [] rfl rfl)) (.tmp rfl .nil)) rfl le3 rF (sD sR) ?_)))))
 exact ⟨_, rfl, f9_1hr, f9_1hz, rfl⟩

/- impl.firstPlace -/
theorem firstPlace_spec {F : FH} {L : List HP} {wv : Value} {w : List Int} (hw : IntsF F wv w) {arv : Value} {ar : List Int} (har : IntsF F arv ar) {rsv : Value} {rs : List (List Int × List Int)} (hrs : PairsF F rsv rs) {bs : Nat} (hzbs : FzC F bs [arv, rsv]) {tv : Value} {t : List Int} (ht : IntsF F tv t) {bt : Nat} (hzbt : FzC F bt [tv]) {i1 : Int} {i2 : Int} {uv : Value} {u : List Int} (hu : IntsF F uv u) {bu : Nat} (hzbu : FzC F bu [ii (i1), ii (i2), uv]) (ho : termOk ar t = true) (huo : termOk ar u = true) (hwl : w.length = u.length) :
    Does prog 239 [wv, .func (.func 240) #[] #[ptr bs 0, ptr bt 0, ptr bu 0]] F (L) (fun v F' L' => ∃ (a : Value), (.tuple #[ii (instI ar t u), .agg #[a]] : Value) = v ∧ (RowsF F' a (placeS ar t u)) ∧ (Fresh F F' (star [rowsD 2 22 a (placeS ar t u)])) ∧ L = L') := by
 refine qL func239 rfl rfl rfl ?_
 have hul := termOk_len huo
 refine qc (qa (qg (ii (0)) rfl (cX (jc [sN] jB rfl ?_))))
 intro b1
 refine qb (qc (qc (qa (qd (wv) rfl (cX (qD qf rfl hw.slv (qd (ii (0)) rfl (qb (qN (jw (α := Nat × FH) (fun xQ => [(1, .func (.func 240) #[] #[ptr bs 0, ptr bt 0, ptr bu 0]), (5, ptr b1 0), (10, ii ((w.length : Int))), (11, ii (((xQ.1 : Nat) : Int)))]) (fun xQ => cellsH b1 [sN] 115 :: L) (fun xQ F' => xQ.2 = F' ∧ F ≤ xQ.2 ∧ (xQ.1 ≤ u.length) ∧ (∀ i, i < xQ.1 → (matchB ar t (sub ar u i)).isSome = false)) (fun xQ => u.length - xQ.1) (0, F) ⟨rfl, rfl, rfl, rfl, ⟨⟩⟩ (sC sR) ⟨rfl, FLe.refl _, (by (try dsimp only) <;> omega), (fun i hi => absurd hi (by omega))⟩ ?_))))))))))
 rintro ⟨k, G1⟩ rE _ _ ⟨rfl, leG, hk, hall⟩
 show X _ _ _ _ (envs [(1, .func (.func 240) #[] #[ptr bs 0, ptr bt 0, ptr bu 0]), (5, ptr b1 0), (10, ii ((w.length : Int))), (11, ii ((k : Int)))] rE) _ (cellsH b1 [sN] 115 :: L)
 replace leG : F ≤ G1 := leG
 dsimp only at hk hall
 have leG1 := leG
 replace har := har.mono leG1
 replace hrs := hrs.mono leG1
 replace hzbs := hzbs.mono leG1
 replace ht := ht.mono leG1
 replace hzbt := hzbt.mono leG1
 replace hu := hu.mono leG1
 replace hzbu := hzbu.mono leG1
 refine qc (qa (cX (jf rfl rfl (qb (qc ?_)))))
 refine qE (p := (k : Int) < (w.length : Int)) rfl (fun h1 => ?_) (fun h1 => ?_)
 ·refine qz (qc (qN (qc (qa (qd (ii ((k : Int))) rfl (qg (ii ((k : Int))) rfl (qb (qc (qa (qd (.func (.func 240) #[] #[ptr bs 0, ptr bt 0, ptr bu 0]) rfl (qd (ii ((k : Int))) rfl (cX (XOp.callV (first := []) (captured := [ptr bs 0, ptr bt 0, ptr bu 0]) (args := [ii (k : Int), ptr bs 0, ptr bt 0, ptr bu 0]) call240 rfl rfl (loopFrom1_spec (p := k) har hrs hzbs ht hzbt hu hzbu (ho := (by first | assumption | rfl | omega | simp)) (huo := (by first | assumption | rfl | omega | simp)) (hp := (by first | assumption | rfl | omega | simp))) ?_)))))))))))))
  rintro _ F1 _ le1 ⟨x1, rfl, hr1, hr2, rfl⟩
  refine qd (.tuple #[.agg #[x1], .bool ((matchB ar t (sub ar u k)).isSome)]) rfl (cX (qQ (.agg #[x1]) rfl rfl (cX (qQ (.bool ((matchB ar t (sub ar u k)).isSome)) rfl rfl (cX (jc [sN] jB rfl ?_))))))
  intro b2
  refine cX (qC [] _ [x1] qV rfl rfl rfl (qj (qJ (RowsF.isSl hr1)) qK) rfl rfl rfl (qg (.bool ((matchB ar t (sub ar u k)).isSome)) rfl (qb (qc (qa (qd (.bool ((matchB ar t (sub ar u k)).isSome)) rfl (qb ?_)))))))
  refine jN (t := (matchB ar t (sub ar u k)).isSome) rfl (fun h2 => ?_) (fun h2 => ?_)
  ·refine qc ?_
   refine jY [cellsH b2 [x1] 115, cellsH b1 [sN] 115] L 3 [] [[], [], [0]] (phiL [qe (ii ((k : Int)) : Value), qe (.agg #[x1]), qe (ii ((k : Int)) : Value)]) (ownL []) mixed rfl rfl (by kernel_rfl) ?_ ?_
   ·refine pD (fun W R z9 => ?_) ?_
    ·refine qi (qq (ii ((k : Int))) rfl ?_)
     exact ⟨rfl, rfl, rfl⟩
    refine pD (fun W R z9 => ?_) ?_
    ·refine qi (qn [x1] jC qV rfl rfl (Rd.ownN [] rfl rfl) ?_)
     exact ⟨rfl, rfl, rfl⟩
    refine pD (fun W R z9 => ?_) ?_
    ·rw [eS (l := [(0, _)]) ⟨z9 0 rfl, ⟨⟩⟩]
     refine qi (XOp.assign (ii ((k : Int))) rfl ?_)
     exact ⟨rfl, rfl, rfl⟩
    exact stepsP.nil
   intro W hphi
   rw [eS (l := [(1, _), (2, _)]) ⟨(hphi 1 (by decide)), (hphi 2 (by decide)), ⟨⟩⟩]
   show XL _ _ _ _ _ _ _ (cellsH b2 [x1] 115 :: cellsH b1 [sN] 115 :: L)
   refine cX (qC [_] _ [x1] qV rfl rfl rfl (qj (qJ (RowsF.isSl hr1)) qK) rfl rfl rfl (qb (qw (qI (qm (qm (qI (qm (qs (L' := L) [ii ((k : Int)), .agg #[x1]] (.tuple #[ii ((k : Int)), .agg #[x1]]) (.tmp rfl (.cell rfl (jx [x1] jC qV rfl (Rd.ownN [_] rfl rfl)) .nil)) rfl (qh leG1 le1) rF (sD (sD sR)) ?_)))))))))
   have e := instI_at (by omega) (by assumption) hall
   have e2 := placeS_at e
   exact ⟨_, by rw [e], by rw [e2]; exact hr1, by rw [e2]; exact (hr2.base leG1), rfl⟩
  refine qz (qa (cX (qP (((k + 1 : Nat) : Int)) rfl rfl (by omega) (by omega) (qd (ii (((k + 1 : Nat) : Int))) rfl (qb ?_)))))
  exact ⟨(k + 1, F1), _, (qh leG1 le1), rF, ⟨rfl, rfl, rfl, rfl, ⟨⟩⟩, (sD (sC sR)), ⟨rfl, (qh leG1 le1), (by (try dsimp only) <;> omega), (fun i hi => (Nat.lt_or_ge i k).elim (fun h => hall i h) (fun h => by obtain rfl : i = k := (by omega); assumption))⟩, (by omega)⟩
 refine jo (qt (qt (qO (qc (qa (cX (jg [sN] [sN] [(0, 1)] [] qW jB rfl (.cons rfl jk PlacesAre.nil) rfl CellsAre.nil (qg (ii (-1)) rfl (cX (qC [] _ [sN] qV rfl rfl rfl (qj rfl qK) rfl rfl rfl (qb (qw (qs (L' := L) [ii (-1), .agg #[sN]] (.tuple #[ii (-1), .agg #[sN]]) (.tmp rfl (.cell rfl (jx [sN] jC qV rfl (Rd.ownN [] rfl rfl)) .nil)) rfl leG1 rF (sD sR) ?_)))))))))))))
 have e := instI_none (fun i hi => hall i (by omega))
 have e2 := placeS_none e
 exact ⟨_, by rw [e], by rw [e2]; exact SlOf.nilV, by rw [e2]; exact Fresh.empty nilRowsD, rfl⟩

/- impl.loopFrom -/
set_option maxHeartbeats 1000000 in
set_option maxRecDepth 20000 in
theorem loopFrom_spec {F : FH} {L : List HP} {arv : Value} {ar : List Int} (har : IntsF F arv ar) {rsv : Value} {rs : List (List Int × List Int)} (hrs : PairsF F rsv rs) {tv : Value} {t : List Int} (ht : IntsF F tv t) {n : Int} (hsys : sysOk ar rs = true) (ho : termOk ar t = true) (hn20 : 1 ≤ n ∧ n ≤ 20) :
    Does prog 145 [.agg #[arv, rsv], tv, ii (n)] F (L) (fun v F' L' => ∃ (a : Value), ∃ (b : Value), ∃ (c : Value), (.tuple #[.agg #[a, b, ii ((loop0 ar rs t (reachL ar rs t (n - 1)).1).2.2.1), c], .bool ((loop0 ar rs t (reachL ar rs t (n - 1)).1).2.2.2.2)] : Value) = v ∧ (IntsF F' a (loop0 ar rs t (reachL ar rs t (n - 1)).1).1) ∧ (StepsF F' b (loop0 ar rs t (reachL ar rs t (n - 1)).1).2.1) ∧ (RowsF F' c (loop0 ar rs t (reachL ar rs t (n - 1)).1).2.2.2.1) ∧ (Fresh F F' (star [intsH 2 a (loop0 ar rs t (reachL ar rs t (n - 1)).1).1, stepsD 2 102 b (loop0 ar rs t (reachL ar rs t (n - 1)).1).2.1, rowsD 2 22 c (loop0 ar rs t (reachL ar rs t (n - 1)).1).2.2.2.1])) ∧ L = L') := by
 refine qL func145 rfl rfl rfl ?_
 have hgd := reachL_good (ar := ar) (rs := rs) (t := t) (n := n - 1) (by omega)
 have hrk := reachL_ok (n := n - 1) hsys ho
 have hrl := hrk.1
 have hrd : ∀ i, i < (reachL ar rs t (n - 1)).1.length → (EL (reachL ar rs t (n - 1)).1 i).1.length ≤ 60 := fun i hi => (termOk_len (hrk.2 i hi)).2
 have hrs12 := (sysOk_iff.1 hsys).2.1
 refine qc (qa (cX (jd [arv, rsv] rfl rfl ?_)))
 intro b1
 refine cX (jd [tv] rfl (cells_one (qF ht)) ?_)
 intro b2
 refine cX (jc [sN, sN, ii (0), sN] jO rfl ?_)
 intro b3
 refine qg (.bool (false)) rfl (qb (qc (qa (cX (qn [arv, rsv] jr jl rfl rfl (Rd.ownN [_, _] rfl rfl) (cX (ql qZ rfl (Rd.own [_] rfl rfl) (qd (ii (n)) rfl (cX (jF (n - 1) rfl rfl (by omega) (by omega) (cX (qo (args := [.agg #[arv, rsv], tv, ii (n - 1)]) call122 rfl (reach_spec (n := n - 1) har hrs ht (hsys := (by first | assumption | rfl | omega | (left; simp; done) | (right; simp; done))) (ho := (by first | assumption | rfl | omega | (left; simp; done) | (right; simp; done))) (hn20 := (by first | assumption | rfl | omega | (left; simp; done) | (right; simp; done)))) ?_))))))))))))
 rintro _ F1 _ le1 ⟨x1, xcs1, xLs1, rfl, hx1, hxD1, hxZ1, rfl⟩
 replace har := har.mono le1
 replace hrs := hrs.mono le1
 replace ht := ht.mono le1
 refine qd (.tuple #[x1, .bool ((reachL ar rs t (n - 1)).2)]) rfl (cX (qQ (x1) rfl rfl (cX (qQ (.bool ((reachL ar rs t (n - 1)).2)) rfl rfl (qg (x1) rfl (qg (.bool ((reachL ar rs t (n - 1)).2)) rfl (qb (qc (qc (qa (XL.freeze [_, _] _ _ rfl (fun F2 le2 hz1 => ?_))))))))))))
 replace har := har.mono le2
 replace hrs := hrs.mono le2
 replace ht := ht.mono le2
 replace hx1 := hx1.mono le2
 have hf1 : FzC F2 b1 [arv, rsv] := Fz.cells hz1
 refine XL.freeze [_] _ _ rfl (fun F3 le3 hz2 => ?_)
 replace har := har.mono le3
 replace hrs := hrs.mono le3
 replace ht := ht.mono le3
 replace hx1 := hx1.mono le3
 replace hf1 := hf1.mono le3
 have hf2 : FzC F3 b2 [tv] := Fz.cells hz2
 skip
 refine qd (x1) rfl (cX (qD jP rfl hx1.slv (qd (ii (0)) rfl (qb (qN (jw (α := Nat × FH) (fun xQ => [(3, ptr b1 0), (4, ptr b2 0), (6, ptr b3 0), (8, x1), (27, x1), (28, ii (((((reachL ar rs t (n - 1)).1).length : Nat) : Int))), (29, ii (((xQ.1 : Nat) : Int)))]) (fun xQ => cellsH b3 [sN, sN, ii (0), sN] 117 :: L) (fun xQ F' => xQ.2 = F' ∧ F3 ≤ xQ.2 ∧ (xQ.1 ≤ (reachL ar rs t (n - 1)).1.length) ∧ (∀ i, i < xQ.1 → nextI ar t (stepsL ar rs (EL (reachL ar rs t (n - 1)).1 i).1) < 0)) (fun xQ => (reachL ar rs t (n - 1)).1.length - xQ.1) (0, F3) ⟨rfl, rfl, rfl, rfl, rfl, rfl, rfl, ⟨⟩⟩ (sC sR) ⟨rfl, FLe.refl _, (by (try dsimp only) <;> omega), (fun i hi => absurd hi (by omega))⟩ ?_))))))
 rintro ⟨k, G1⟩ rE _ _ ⟨rfl, leG, hk, hno⟩
 show X _ _ _ _ (envs [(3, ptr b1 0), (4, ptr b2 0), (6, ptr b3 0), (8, x1), (27, x1), (28, ii (((((reachL ar rs t (n - 1)).1).length : Nat) : Int))), (29, ii ((k : Int)))] rE) _ (cellsH b3 [sN, sN, ii (0), sN] 117 :: L)
 replace leG : F3 ≤ G1 := leG
 dsimp only at hk hno
 have hka := fun (h : k < (reachL ar rs t (n - 1)).1.length) => (show termOk ar ((reachL ar rs t (n - 1)).1.getD k ([], 0, (0, 0, []), 0)).1 = true from hrk.2 k h)
 have hkl := fun (h : k < (reachL ar rs t (n - 1)).1.length) => termOk_len (hka h)
 have leG1 := leG
 replace har := har.mono leG1
 replace hrs := hrs.mono leG1
 replace ht := ht.mono leG1
 replace hx1 := hx1.mono leG1
 replace hf1 := hf1.mono leG1
 replace hf2 := hf2.mono leG1
 refine qc (qa (cX (jf rfl rfl (qb (qc ?_)))))
 refine qE (p := (k : Int) < ((((reachL ar rs t (n - 1)).1).length : Nat) : Int)) rfl (fun h1 => ?_) (fun h1 => ?_)
 ·refine qz (qc (qN (qc (qa (qd (ii ((k : Int))) rfl (cX (qB k jP sizeOf181 rfl rfl rfl hx1.slv (by omega) rfl ?_)))))))
  obtain ⟨a1, a2, ha1, ha2, hrg1, hq1⟩ := hx1.rd (i := k) (by omega)
  refine cX (qn [a1, ii ((((reachL ar rs t (n - 1)).1).getD k ([], 0, (0, 0, []), 0)).2.1), ii ((((reachL ar rs t (n - 1)).1).getD k ([], 0, (0, 0, []), 0)).2.2.1.1), ii ((((reachL ar rs t (n - 1)).1).getD k ([], 0, (0, 0, []), 0)).2.2.1.2.1), a2, ii ((((reachL ar rs t (n - 1)).1).getD k ([], 0, (0, 0, []), 0)).2.2.2)] isAgg181 sizeOf181 rfl rfl (Rd.all (hrg1 _)) (cX (jc [sN, ii (0), ii (0), ii (0), sN, ii (0)] zeroValue181 rfl ?_)))
  intro b4
  refine qg (ii ((k : Int))) rfl (cX (qC [] _ [a1, ii ((((reachL ar rs t (n - 1)).1).getD k ([], 0, (0, 0, []), 0)).2.1), ii ((((reachL ar rs t (n - 1)).1).getD k ([], 0, (0, 0, []), 0)).2.2.1.1), ii ((((reachL ar rs t (n - 1)).1).getD k ([], 0, (0, 0, []), 0)).2.2.1.2.1), a2, ii ((((reachL ar rs t (n - 1)).1).getD k ([], 0, (0, 0, []), 0)).2.2.2)] sizeOf181 rfl rfl rfl (qj (qJ (qF ha1)) (qj rfl (qj rfl (qj rfl (qj (qJ (qF ha2)) (qj rfl qK)))))) rfl rfl rfl (qb (qc (qa (cX (qn [arv, rsv] jr jl rfl rfl (FzC.rd hf1 rfl) (cX (qk (0) yh rfl qu (by decide) rfl rfl (cX (ql qZ rfl (Rd.own [] rfl rfl) (cX (qo (args := [.agg #[arv, rsv], a1]) call217 rfl (stepsFrom_spec har hrs ha1 (hsys := (hsys)) (ho := (hka (by omega)))) ?_)))))))))))))
  rintro _ F4 _ le4 ⟨x2, rfl, hx2, rfl⟩
  replace har := har.mono le4
  replace hrs := hrs.mono le4
  replace ht := ht.mono le4
  replace hx1 := hx1.mono le4
  replace hf1 := hf1.mono le4
  replace hf2 := hf2.mono le4
  refine qd (.tuple #[x2, .bool (longL ar rs ((((reachL ar rs t (n - 1)).1).getD k ([], 0, (0, 0, []), 0)).1))]) rfl (cX (qQ (x2) rfl rfl (cX (qQ (.bool (longL ar rs ((((reachL ar rs t (n - 1)).1).getD k ([], 0, (0, 0, []), 0)).1))) rfl rfl (qg (x2) rfl (qg (.bool (longL ar rs ((((reachL ar rs t (n - 1)).1).getD k ([], 0, (0, 0, []), 0)).1))) rfl (qb (qc (qa ?_)))))))))
  obtain ⟨cso1, Lso1, hXo1, hDo1, hZo1⟩ := hx2
  skip
  refine qd (x2) rfl (cX (qD qG rfl hXo1.slv (qd (ii (0)) rfl (qb (qN (jw (α := Nat × FH) (fun xQ => [(3, ptr b1 0), (4, ptr b2 0), (6, ptr b3 0), (8, x1), (10, ii ((k : Int))), (27, x1), (28, ii (((((reachL ar rs t (n - 1)).1).length : Nat) : Int))), (29, ii ((k : Int))), (41, x2), (42, ii (((((stepsL ar rs ((((reachL ar rs t (n - 1)).1).getD k ([], 0, (0, 0, []), 0)).1))).length : Nat) : Int))), (43, ii (((xQ.1 : Nat) : Int)))]) (fun xQ => cellsH b4 [a1, ii ((((reachL ar rs t (n - 1)).1).getD k ([], 0, (0, 0, []), 0)).2.1), ii ((((reachL ar rs t (n - 1)).1).getD k ([], 0, (0, 0, []), 0)).2.2.1.1), ii ((((reachL ar rs t (n - 1)).1).getD k ([], 0, (0, 0, []), 0)).2.2.1.2.1), a2, ii ((((reachL ar rs t (n - 1)).1).getD k ([], 0, (0, 0, []), 0)).2.2.2)] 181 :: cellsH b3 [sN, sN, ii (0), sN] 117 :: L) (fun xQ F' => xQ.2 = F' ∧ F4 ≤ xQ.2 ∧ (xQ.1 ≤ (stepsL ar rs ((reachL ar rs t (n - 1)).1.getD k ([], 0, (0, 0, []), 0)).1).length) ∧ (∀ i, i < xQ.1 → instI ar t ((stepsL ar rs ((reachL ar rs t (n - 1)).1.getD k ([], 0, (0, 0, []), 0)).1).getD i (0, 0, [])).2.2 < 0)) (fun xQ => (stepsL ar rs ((reachL ar rs t (n - 1)).1.getD k ([], 0, (0, 0, []), 0)).1).length - xQ.1) (0, F4) ⟨rfl, rfl, rfl, rfl, rfl, rfl, rfl, rfl, rfl, rfl, rfl, ⟨⟩⟩ (sC (sC sR)) ⟨rfl, FLe.refl _, (by (try dsimp only) <;> omega), (fun i hi => absurd hi (by omega))⟩ ?_))))))
  rintro ⟨q, G2⟩ rE _ _ ⟨rfl, leG, hq, hnq⟩
  show X _ _ _ _ (envs [(3, ptr b1 0), (4, ptr b2 0), (6, ptr b3 0), (8, x1), (10, ii ((k : Int))), (27, x1), (28, ii (((((reachL ar rs t (n - 1)).1).length : Nat) : Int))), (29, ii ((k : Int))), (41, x2), (42, ii (((((stepsL ar rs ((((reachL ar rs t (n - 1)).1).getD k ([], 0, (0, 0, []), 0)).1))).length : Nat) : Int))), (43, ii ((q : Int)))] rE) _ (cellsH b4 [a1, ii ((((reachL ar rs t (n - 1)).1).getD k ([], 0, (0, 0, []), 0)).2.1), ii ((((reachL ar rs t (n - 1)).1).getD k ([], 0, (0, 0, []), 0)).2.2.1.1), ii ((((reachL ar rs t (n - 1)).1).getD k ([], 0, (0, 0, []), 0)).2.2.1.2.1), a2, ii ((((reachL ar rs t (n - 1)).1).getD k ([], 0, (0, 0, []), 0)).2.2.2)] 181 :: cellsH b3 [sN, sN, ii (0), sN] 117 :: L)
  replace leG : F4 ≤ G2 := leG
  dsimp only at hq hnq
  have hnl : (stepsL ar rs ((reachL ar rs t (n - 1)).1.getD k ([], 0, (0, 0, []), 0)).1).length ≤ 1000 := by have h9 := stepsTo_len (ar := ar) (t := ((reachL ar rs t (n - 1)).1.getD k ([], 0, (0, 0, []), 0)).1) (rs := rs) hrs12 ((reachL ar rs t (n - 1)).1.getD k ([], 0, (0, 0, []), 0)).1.length; have h8 := hkl (by omega); show (stepsTo ar rs ((reachL ar rs t (n - 1)).1.getD k ([], 0, (0, 0, []), 0)).1 ((reachL ar rs t (n - 1)).1.getD k ([], 0, (0, 0, []), 0)).1.length).length ≤ 1000; omega
  have hqo := fun (h : q < (stepsL ar rs ((reachL ar rs t (n - 1)).1.getD k ([], 0, (0, 0, []), 0)).1).length) => steps_ok hsys (hka (by omega)) h
  have hql := fun (h : q < (stepsL ar rs ((reachL ar rs t (n - 1)).1.getD k ([], 0, (0, 0, []), 0)).1).length) => termOk_len (hqo h)
  have leG2 := leG
  replace har := har.mono leG2
  replace hrs := hrs.mono leG2
  replace ht := ht.mono leG2
  replace hx1 := hx1.mono leG2
  replace hf1 := hf1.mono leG2
  replace hf2 := hf2.mono leG2
  replace hXo1 := hXo1.mono leG2
  refine qc (qa (cX (jf rfl rfl (qb (qc ?_)))))
  refine qE (p := (q : Int) < ((((stepsL ar rs ((((reachL ar rs t (n - 1)).1).getD k ([], 0, (0, 0, []), 0)).1))).length : Nat) : Int)) rfl (fun h2 => ?_) (fun h2 => ?_)
  ·refine qz (qc (qN (qc (qa (cX (qB q qG ji rfl rfl rfl hXo1.slv (by omega) rfl ?_))))))
   obtain ⟨a3, ha3, hr1, hr2, hr3, hq2⟩ := hXo1.rd (i := q) (by omega)
   refine cX (qn [ii ((((stepsL ar rs ((((reachL ar rs t (n - 1)).1).getD k ([], 0, (0, 0, []), 0)).1))).getD q (0, 0, [])).1), ii ((((stepsL ar rs ((((reachL ar rs t (n - 1)).1).getD k ([], 0, (0, 0, []), 0)).1))).getD q (0, 0, [])).2.1), a3] yl ji rfl rfl (Rd.three (hr1 _) (hr2 _) (hr3 _)) (cX (jc [ii (0), ii (0), sN] jE rfl ?_)))
   intro b5
   refine cX (qC [] _ [ii ((((stepsL ar rs ((((reachL ar rs t (n - 1)).1).getD k ([], 0, (0, 0, []), 0)).1))).getD q (0, 0, [])).1), ii ((((stepsL ar rs ((((reachL ar rs t (n - 1)).1).getD k ([], 0, (0, 0, []), 0)).1))).getD q (0, 0, [])).2.1), a3] ji rfl rfl rfl (qj rfl (qj rfl (qj (qJ (qF ha3)) qK))) rfl rfl rfl (qb (qc (qa (cX (qk (2) jm rfl qu (by decide) rfl rfl (cX (ql qZ rfl (Rd.own [] rfl rfl) (cX (XOp.makeFuncL [] [ptr b1 0, ptr b2 0, ptr b5 0] rfl rfl (XL.freeze [] _ _ rfl (fun F5 le5 hz3 => ?_))))))))))))
   replace har := har.mono le5
   replace hrs := hrs.mono le5
   replace ht := ht.mono le5
   replace hx1 := hx1.mono le5
   replace hf1 := hf1.mono le5
   replace hf2 := hf2.mono le5
   replace ha3 := ha3.mono le5
   have hf3 : FzC F5 b5 [ii ((((stepsL ar rs ((((reachL ar rs t (n - 1)).1).getD k ([], 0, (0, 0, []), 0)).1))).getD q (0, 0, [])).1), ii ((((stepsL ar rs ((((reachL ar rs t (n - 1)).1).getD k ([], 0, (0, 0, []), 0)).1))).getD q (0, 0, [])).2.1), a3] := Fz.cells hz3
   refine cX (qo (args := [a3, .func (.func 240) #[] #[ptr b1 0, ptr b2 0, ptr b5 0]]) call239 rfl (firstPlace_spec ha3 har hrs hf1 ht hf2 ha3 hf3 (ho := (ho)) (huo := (hqo (by omega))) (hwl := (rfl))) ?_)
   rintro _ F6 _ le6 ⟨x3, rfl, hr4, hr5, rfl⟩
   replace hx1 := hx1.mono le6
   replace ha3 := ha3.mono le6
   replace hf3 := hf3.mono le6
   refine qd (.tuple #[ii (instI ar t ((((stepsL ar rs ((((reachL ar rs t (n - 1)).1).getD k ([], 0, (0, 0, []), 0)).1))).getD q (0, 0, [])).2.2)), .agg #[x3]]) rfl (cX (qQ (ii (instI ar t ((((stepsL ar rs ((((reachL ar rs t (n - 1)).1).getD k ([], 0, (0, 0, []), 0)).1))).getD q (0, 0, [])).2.2))) rfl rfl (cX (qQ (.agg #[x3]) rfl rfl (cX (jc [sN] jB rfl ?_))))))
   intro b6
   refine qg (ii (instI ar t ((((stepsL ar rs ((((reachL ar rs t (n - 1)).1).getD k ([], 0, (0, 0, []), 0)).1))).getD q (0, 0, [])).2.2))) rfl (cX (qC [] _ [x3] qV rfl rfl rfl (qj (qJ (RowsF.isSl hr4)) qK) rfl rfl rfl (qb (qc (qa (qd (ii (instI ar t ((((stepsL ar rs ((((reachL ar rs t (n - 1)).1).getD k ([], 0, (0, 0, []), 0)).1))).getD q (0, 0, [])).2.2))) rfl (cX (ye rfl rfl (qb ?_)))))))))
   refine qE (p := (instI ar t ((((stepsL ar rs ((((reachL ar rs t (n - 1)).1).getD k ([], 0, (0, 0, []), 0)).1))).getD q (0, 0, [])).2.2) : Int) ≥ 0) rfl (fun h3 => ?_) (fun h3 => ?_)
   ·have hwl9 := (walkL_len hgd.1 hgd.2.2.1 (k := k) (by omega)).2
    have hql9 := hql (by omega)
    refine qc (qa (qd (x1) rfl (qd (ii ((k : Int))) rfl (cX (XOp.thawL (id (qo (args := [x1, ii (k : Int)]) call242 rfl (walkBack_spec (k := k) hx1 (hk := (by omega)) (hll := (hrl)) (hlk := (hgd.1)) (hbd := (hrd))) ?_)))))))
    rintro _ F7 _ le7 ⟨x4, x5, rfl, hr6, hr7, hr8, rfl⟩
    refine ⟨[intsH 2 x4 ((EL ((reachL ar rs t (n - 1)).1) 0).1), stepsD 2 102 x5 (walkL ((reachL ar rs t (n - 1)).1) k)], hr8, ?_⟩
    show XL _ _ _ _ _ _ _ (intsH 2 x4 ((EL ((reachL ar rs t (n - 1)).1) 0).1) :: stepsD 2 102 x5 (walkL ((reachL ar rs t (n - 1)).1) k) :: cellsH b6 [x3] 115 :: cellsH b4 [a1, ii ((((reachL ar rs t (n - 1)).1).getD k ([], 0, (0, 0, []), 0)).2.1), ii ((((reachL ar rs t (n - 1)).1).getD k ([], 0, (0, 0, []), 0)).2.2.1.1), ii ((((reachL ar rs t (n - 1)).1).getD k ([], 0, (0, 0, []), 0)).2.2.1.2.1), a2, ii ((((reachL ar rs t (n - 1)).1).getD k ([], 0, (0, 0, []), 0)).2.2.2)] 181 :: cellsH b3 [sN, sN, ii (0), sN] 117 :: L)
    refine cX (jc [sN, sN] jq rfl ?_)
    intro b7
    refine cX (qC [] _ [x4, x5] qH rfl rfl rfl (qj (qJ (qF hr6)) (qj (qJ (jT hr7)) qK)) rfl rfl rfl (qb (qc (qa (XL.openD [_, _] _ rfl (fun cs1 Ls1 F8 le8 hs1 hD1 hZ1 => ?_))))))
    replace ha3 := ha3.mono le8
    replace hf3 := hf3.mono le8
    replace hr4 := hr4.mono le8
    have hc1 := hD1.steps hZ1
    show XL _ _ _ _ _ _ _ (cellsH b7 [x4, x5] 45 :: intsH 2 x4 ((EL ((reachL ar rs t (n - 1)).1) 0).1) :: slH 102 3 x5 ((walkL ((reachL ar rs t (n - 1)).1) k).length) cs1 :: cellsH b6 [x3] 115 :: cellsH b4 [a1, ii ((((reachL ar rs t (n - 1)).1).getD k ([], 0, (0, 0, []), 0)).2.1), ii ((((reachL ar rs t (n - 1)).1).getD k ([], 0, (0, 0, []), 0)).2.2.1.1), ii ((((reachL ar rs t (n - 1)).1).getD k ([], 0, (0, 0, []), 0)).2.2.1.2.1), a2, ii ((((reachL ar rs t (n - 1)).1).getD k ([], 0, (0, 0, []), 0)).2.2.2)] 181 :: cellsH b3 [sN, sN, ii (0), sN] 117 :: L)
    skip
    refine cX (qn [ii ((((stepsL ar rs ((((reachL ar rs t (n - 1)).1).getD k ([], 0, (0, 0, []), 0)).1))).getD q (0, 0, [])).1), ii ((((stepsL ar rs ((((reachL ar rs t (n - 1)).1).getD k ([], 0, (0, 0, []), 0)).1))).getD q (0, 0, [])).2.1), a3] yl ji rfl rfl (FzC.rd hf3 rfl) (XL.weaken (qX (A := [_, _])) ?_))
    show XL _ _ _ _ _ _ _ (slH 102 3 x5 ((walkL ((reachL ar rs t (n - 1)).1) k).length) cs1 :: cellsH b7 [x4, x5] 45 :: intsH 2 x4 ((EL ((reachL ar rs t (n - 1)).1) 0).1) :: cellsH b6 [x3] 115 :: cellsH b4 [a1, ii ((((reachL ar rs t (n - 1)).1).getD k ([], 0, (0, 0, []), 0)).2.1), ii ((((reachL ar rs t (n - 1)).1).getD k ([], 0, (0, 0, []), 0)).2.2.1.1), ii ((((reachL ar rs t (n - 1)).1).getD k ([], 0, (0, 0, []), 0)).2.2.1.2.1), a2, ii ((((reachL ar rs t (n - 1)).1).getD k ([], 0, (0, 0, []), 0)).2.2.2)] 181 :: cellsH b3 [sN, sN, ii (0), sN] 117 :: L)
    refine XL.weaken (qX (A := [_])) ?_
    show XL _ _ _ _ _ _ _ (cellsH b7 [x4, x5] 45 :: slH 102 3 x5 ((walkL ((reachL ar rs t (n - 1)).1) k).length) cs1 :: intsH 2 x4 ((EL ((reachL ar rs t (n - 1)).1) 0).1) :: cellsH b6 [x3] 115 :: cellsH b4 [a1, ii ((((reachL ar rs t (n - 1)).1).getD k ([], 0, (0, 0, []), 0)).2.1), ii ((((reachL ar rs t (n - 1)).1).getD k ([], 0, (0, 0, []), 0)).2.2.1.1), ii ((((reachL ar rs t (n - 1)).1).getD k ([], 0, (0, 0, []), 0)).2.2.1.2.1), a2, ii ((((reachL ar rs t (n - 1)).1).getD k ([], 0, (0, 0, []), 0)).2.2.2)] 181 :: cellsH b3 [sN, sN, ii (0), sN] 117 :: L)
    refine cX (qo (args := [ptr b7 0, .agg #[ii ((((stepsL ar rs ((((reachL ar rs t (n - 1)).1).getD k ([], 0, (0, 0, []), 0)).1))).getD q (0, 0, [])).1), ii ((((stepsL ar rs ((((reachL ar rs t (n - 1)).1).getD k ([], 0, (0, 0, []), 0)).1))).getD q (0, 0, [])).2.1), a3]]) call243 rfl (walkAdd_spec ha3 hs1 hc1 (by first | rfl | assumption | omega) (by omega) (by omega)) ?_)
    rintro _ F9 _ le9 ⟨sw1, cw1, hs2, hw1, hf4, rfl⟩
    replace hr4 := hr4.mono le9
    replace hc1 := hc1.mono le9
    have hc2 := StepsC.snoc hc1 (i := (((stepsL ar rs ((((reachL ar rs t (n - 1)).1).getD k ([], 0, (0, 0, []), 0)).1))).getD q (0, 0, [])).1) (j := (((stepsL ar rs ((((reachL ar rs t (n - 1)).1).getD k ([], 0, (0, 0, []), 0)).1))).getD q (0, 0, [])).2.1) hw1
    show XL _ _ _ _ _ _ _ (cellsH b7 [x4, sw1] 45 :: slH 102 3 sw1 (((walkL ((reachL ar rs t (n - 1)).1) k).length) + 1) ((cs1 ++ [ii ((((stepsL ar rs ((((reachL ar rs t (n - 1)).1).getD k ([], 0, (0, 0, []), 0)).1))).getD q (0, 0, [])).1), ii ((((stepsL ar rs ((((reachL ar rs t (n - 1)).1).getD k ([], 0, (0, 0, []), 0)).1))).getD q (0, 0, [])).2.1), cw1])) :: intsH 2 x4 ((EL ((reachL ar rs t (n - 1)).1) 0).1) :: cellsH b6 [x3] 115 :: cellsH b4 [a1, ii ((((reachL ar rs t (n - 1)).1).getD k ([], 0, (0, 0, []), 0)).2.1), ii ((((reachL ar rs t (n - 1)).1).getD k ([], 0, (0, 0, []), 0)).2.2.1.1), ii ((((reachL ar rs t (n - 1)).1).getD k ([], 0, (0, 0, []), 0)).2.2.1.2.1), a2, ii ((((reachL ar rs t (n - 1)).1).getD k ([], 0, (0, 0, []), 0)).2.2.2)] 181 :: cellsH b3 [sN, sN, ii (0), sN] 117 :: L)
    refine qb (qc (qa (cX (qn [x4, sw1] jy qH rfl rfl (Rd.ownN [] rfl rfl) (qd (ii (instI ar t ((((stepsL ar rs ((((reachL ar rs t (n - 1)).1).getD k ([], 0, (0, 0, []), 0)).1))).getD q (0, 0, [])).2.2))) rfl (cX (qn [x3] jC qV rfl rfl (Rd.ownN [_, _, _] rfl rfl) (cX (jg [x4, sw1, ii (instI ar t ((((stepsL ar rs ((((reachL ar rs t (n - 1)).1).getD k ([], 0, (0, 0, []), 0)).1))).getD q (0, 0, [])).2.2)), x3] [sN, sN, ii (0), sN] [(0, 2), (2, 1), (3, 1)] [(0, [x4, sw1]), (1, [ii (instI ar t ((((stepsL ar rs ((((reachL ar rs t (n - 1)).1).getD k ([], 0, (0, 0, []), 0)).1))).getD q (0, 0, [])).2.2))]), (2, [x3])] qT jO rfl (.cons rfl qH (.cons rfl qy (.cons rfl qV PlacesAre.nil))) rfl (.cons rfl (.cons rfl (.cons rfl CellsAre.nil))) (cX (qC [_, _, _, _, _] _ [x4, sw1, ii (instI ar t ((((stepsL ar rs ((((reachL ar rs t (n - 1)).1).getD k ([], 0, (0, 0, []), 0)).1))).getD q (0, 0, [])).2.2)), x3] jz rfl rfl rfl (qj (qJ (qF hr6)) (qj (qJ hs2) (qj rfl (qj (qJ (RowsF.isSl hr4)) qK)))) rfl rfl rfl (qg (.bool (true)) rfl (qb (je [_, _] _ _ rfl (fun F10 le10 hz4 => ?_)))))))))))))))
    replace hr4 := hr4.mono le10
    replace hc2 := hc2.mono le10
    have hf5 : IntsF F10 x4 ((EL ((reachL ar rs t (n - 1)).1) 0).1) := intsH.fz (xs := (EL ((reachL ar rs t (n - 1)).1) 0).1) hz4.fz
    refine je [_] _ _ rfl (fun F11 le11 hz5 => ?_)
    replace hr4 := hr4.mono le11
    replace hc2 := hc2.mono le11
    replace hf5 := hf5.mono le11
    have hf6 : StepsF F11 sw1 ((walkL ((reachL ar rs t (n - 1)).1) k ++ [((((stepsL ar rs ((((reachL ar rs t (n - 1)).1).getD k ([], 0, (0, 0, []), 0)).1))).getD q (0, 0, [])).1, (((stepsL ar rs ((((reachL ar rs t (n - 1)).1).getD k ([], 0, (0, 0, []), 0)).1))).getD q (0, 0, [])).2.1, (((stepsL ar rs ((((reachL ar rs t (n - 1)).1).getD k ([], 0, (0, 0, []), 0)).1))).getD q (0, 0, [])).2.2)])) := CO.fz hc2 (by first | rfl | omega | (rw [List.length_set]; omega) | (simp; done)) hz5.fz
    refine qw (qI (qm (qm (qI (qI (qm (qm (qI (qm (qs (L' := L) [.agg #[x4, sw1, ii (instI ar t ((((stepsL ar rs ((((reachL ar rs t (n - 1)).1).getD k ([], 0, (0, 0, []), 0)).1))).getD q (0, 0, [])).2.2)), x3], .bool (true)] (.tuple #[.agg #[x4, sw1, ii (instI ar t ((((stepsL ar rs ((((reachL ar rs t (n - 1)).1).getD k ([], 0, (0, 0, []), 0)).1))).getD q (0, 0, [])).2.2)), x3], .bool (true)]) (.cell rfl (jx [x4, sw1, ii (instI ar t ((((stepsL ar rs ((((reachL ar rs t (n - 1)).1).getD k ([], 0, (0, 0, []), 0)).1))).getD q (0, 0, [])).2.2)), x3] jX jz rfl (Rd.ownN [_, _, _] rfl rfl)) (.tmp rfl .nil)) rfl (qh (qh (qh (qh (qh (qh (qh (qh (qh (qh (qh le1 le2) le3) leG1) le4) leG2) le5) le6) le8) le9) le10) le11) rF (sD (sD (sD (sD sR)))) ?_))))))))))
    have hk9 : k < (reachL ar rs t (n - 1)).1.length := by omega
    have hq9 : q < (stepsL ar rs ((reachL ar rs t (n - 1)).1.getD k ([], 0, (0, 0, []), 0)).1).length := by omega
    have hi9 : 0 ≤ instI ar t ((stepsL ar rs ((reachL ar rs t (n - 1)).1.getD k ([], 0, (0, 0, []), 0)).1).getD q (0, 0, [])).2.2 := by omega
    have e : loop0 ar rs t (reachL ar rs t (n - 1)).1 = ((EL (reachL ar rs t (n - 1)).1 0).1, walkL (reachL ar rs t (n - 1)).1 k ++ [(((stepsL ar rs ((reachL ar rs t (n - 1)).1.getD k ([], 0, (0, 0, []), 0)).1).getD q (0, 0, [])).1, ((stepsL ar rs ((reachL ar rs t (n - 1)).1.getD k ([], 0, (0, 0, []), 0)).1).getD q (0, 0, [])).2.1, ((stepsL ar rs ((reachL ar rs t (n - 1)).1.getD k ([], 0, (0, 0, []), 0)).1).getD q (0, 0, [])).2.2)], instI ar t ((stepsL ar rs ((reachL ar rs t (n - 1)).1.getD k ([], 0, (0, 0, []), 0)).1).getD q (0, 0, [])).2.2, placeS ar t ((stepsL ar rs ((reachL ar rs t (n - 1)).1.getD k ([], 0, (0, 0, []), 0)).1).getD q (0, 0, [])).2.2, true) := by rw [loop0_at (k := k) (q := q) hk9 hno hq9 hi9 hnq, loopAt, hgd.2.2.2, placeS_yes hi9]
    exact ⟨_, _, _, by rw [e], by rw [e]; exact hf5, by rw [e]; exact hf6, by rw [e]; exact hr4, by rw [e]; exact (((Fresh.app hr5 le6 (Fresh.deepM (M := [_]) (DeepL.snoc hD1 rfl ⟨_, rfl, rfl⟩) (Fresh.cons (Fresh.app (M := Ls1) hZ1 le8 (Fresh.one hf4) le9) (qh le8 le9) hz4 le10) (qh (qh le8 le9) le10) hz5 (by first | rfl | omega | (rw [List.length_append]; rfl)) le11) (qh (qh (qh le8 le9) le10) le11)).perm (List.perm_append_comm (l₁ := [_]) (l₂ := [_, _]))).base (qh (qh (qh (qh (qh (qh le1 le2) le3) leG1) le4) leG2) le5)), rfl⟩
   refine qz (qa (cX (qP (((q + 1 : Nat) : Int)) rfl rfl (by omega) (by omega) (qd (ii (((q + 1 : Nat) : Int))) rfl (qb ?_)))))
   exact ⟨(q + 1, F6), _, (qh (qh leG2 le5) le6), rF, ⟨rfl, rfl, rfl, rfl, rfl, rfl, rfl, rfl, rfl, rfl, rfl, ⟨⟩⟩, (sD (sC (sC sR))), ⟨rfl, (qh (qh leG2 le5) le6), (by (try dsimp only) <;> omega), (fun i hi => (Nat.lt_or_ge i q).elim (fun h => hnq i h) (fun h => by obtain rfl : i = q := (by omega); omega))⟩, (by omega)⟩
  refine jo (qt (qt (qO (qa (cX (qP (((k + 1 : Nat) : Int)) rfl rfl (by omega) (by omega) (qd (ii (((k + 1 : Nat) : Int))) rfl (qb ?_))))))))
  exact ⟨(k + 1, G2), _, (qh (qh leG1 le4) leG2), rF, ⟨rfl, rfl, rfl, rfl, rfl, rfl, rfl, ⟨⟩⟩, (sD (sC sR)), ⟨rfl, (qh (qh leG1 le4) leG2), (by (try dsimp only) <;> omega), (fun i hi => (Nat.lt_or_ge i k).elim (fun h => hno i h) (fun h => by obtain rfl : i = k := (by omega); have h9 := nextI_none (ar := ar) (t := t) (ss := stepsL ar rs (EL (reachL ar rs t (n - 1)).1 i).1) (fun j hj => hnq j (by have h8 : j < (stepsL ar rs ((reachL ar rs t (n - 1)).1.getD i ([], 0, (0, 0, []), 0)).1).length := hj; omega)); omega))⟩, (by omega)⟩
 refine jo (qt (qt (qO (qc (qa (cX (jg [sN, sN, ii (0), sN] [sN, sN, ii (0), sN] [(0, 2), (2, 1), (3, 1)] [] qT jO rfl (.cons rfl qH (.cons rfl qy (.cons rfl qV PlacesAre.nil))) rfl CellsAre.nil (cX (qC [] _ [sN, sN, ii (0), sN] jz rfl rfl rfl (qj rfl (qj rfl (qj rfl (qj rfl qK)))) rfl rfl rfl (qg (.bool (false)) rfl (qb (qw (qs (L' := L) [.agg #[sN, sN, ii (0), sN], .bool (false)] (.tuple #[.agg #[sN, sN, ii (0), sN], .bool (false)]) (.cell rfl (jx [sN, sN, ii (0), sN] jX jz rfl (Rd.ownN [] rfl rfl)) (.tmp rfl .nil)) rfl (qh (qh (qh le1 le2) le3) leG1) rF (sD sR) ?_)))))))))))))
 have e : loop0 ar rs t (reachL ar rs t (n - 1)).1 = noLoop := loop0_none (fun i hi => hno i (by omega))
 exact ⟨_, _, _, by rw [e], by rw [e]; exact IntsF.nilV, by rw [e]; exact SlOf.nilV, by rw [e]; exact SlOf.nilV, by rw [e]; exact Fresh.empty nilLoop, rfl⟩

/- impl.loopSteps -/
theorem loopSteps_spec {F : FH} {L : List HP} {n : Int} :
    Does prog 144 [ii (n)] F (L) (fun v F' L' => (.bool (decide (1 ≤ n ∧ n ≤ 20)) : Value) = v ∧ F = F' ∧ L = L') := by
 refine qL func144 rfl rfl rfl (qc (qa (qg (.bool (false)) rfl (qb (qc (qa (qd (ii (n)) rfl (cX (ye rfl rfl (qd (.bool (decide ((n : Int) ≥ 1))) rfl ?_))))))))))
 by_cases h1 : (n : Int) ≥ 1
 ·refine qp (t := 5) rfl (vT h1) (qq (ii (n)) rfl (qp (t := 5) rfl (vT h1) (XOp.leq rfl rfl (cX (qU (.bool (decide ((n : Int) ≤ 20))) (vT h1) rfl (qg (.bool (decide ((n : Int) ≤ 20))) rfl (qb (qw (qs (L' := L) [.bool (decide ((n : Int) ≤ 20))] (.bool (decide ((n : Int) ≤ 20))) (.tmp rfl .nil) rfl rF rF sR ?_)))))))))
  exact ⟨(vB (by simp_all <;> omega)), rfl, rfl⟩
 refine qr (t := 5) rfl (vF h1) (qr (t := 5) rfl (vF h1) (cX (qS (.bool (false)) (vF h1) rfl (qg (.bool (false)) rfl (qb (qw (qs (L' := L) [.bool (false)] (.bool (false)) (.tmp rfl .nil) rfl rF rF sR ?_)))))))
 exact ⟨(vB (by simp_all <;> omega)), rfl, rfl⟩

/- impl.FirstLoop -/
set_option maxRecDepth 20000 in
theorem FirstLoop_spec {F : FH} {L : List HP} {arv : Value} {ar : List Int} (har : IntsF F arv ar) {rsv : Value} {rs : List (List Int × List Int)} (hrs : PairsF F rsv rs) {n : Int} :
    Does prog 58 [.agg #[arv, rsv], ii (n)] F (L) (fun v F' L' => ∃ (a : Value), ∃ (b : Value), ∃ (c : Value), (.tuple #[.agg #[a, b, ii ((firstF ar rs n).2.2.1), c], .bool ((firstF ar rs n).2.2.2.2)] : Value) = v ∧ (IntsF F' a (firstF ar rs n).1) ∧ (StepsF F' b (firstF ar rs n).2.1) ∧ (RowsF F' c (firstF ar rs n).2.2.2.1) ∧ (Fresh F F' (star [intsH 2 a (firstF ar rs n).1, stepsD 2 102 b (firstF ar rs n).2.1, rowsD 2 22 c (firstF ar rs n).2.2.2.1])) ∧ L = L') := by
 refine qL func58 rfl rfl rfl (qc (qa (cX (jd [arv, rsv] rfl rfl ?_))))
 intro b1
 refine cX (jc [sN, sN, ii (0), sN] jO rfl ?_)
 intro b2
 refine qg (.bool (false)) rfl (qb (qc (qc (qa (cX (qn [arv, rsv] jr jl rfl rfl (Rd.ownN [_] rfl rfl) (cX (qo (args := [.agg #[arv, rsv]]) call131 rfl (SystemOk_spec har hrs) ?_))))))))
 rintro _ _ _ _ ⟨rfl, rfl, rfl⟩
 refine cX (jn rfl (qd (.bool (!(sysOk ar rs))) rfl ?_))
 by_cases h1 : (!(sysOk ar rs)) = true
 ·refine qr (t := 13) rfl (vB h1) (qr (t := 13) rfl (vB h1) (qr (t := 13) rfl (vB h1) (cX (qU (.bool (true)) (vB h1) rfl (qb (jI rfl (qc (qa (cX (jg [sN, sN, ii (0), sN] [sN, sN, ii (0), sN] [(0, 2), (2, 1), (3, 1)] [] qT jO rfl (.cons rfl qH (.cons rfl qy (.cons rfl qV PlacesAre.nil))) rfl CellsAre.nil (cX (qC [] _ [sN, sN, ii (0), sN] jz rfl rfl rfl (qj rfl (qj rfl (qj rfl (qj rfl qK)))) rfl rfl rfl (qg (.bool (false)) rfl ?_)))))))))))))
  refine qb (qw (qm (qs (L' := L) [.agg #[sN, sN, ii (0), sN], .bool (false)] (.tuple #[.agg #[sN, sN, ii (0), sN], .bool (false)]) (.cell rfl (jx [sN, sN, ii (0), sN] jX jz rfl (Rd.ownN [] rfl rfl)) (.tmp rfl .nil)) rfl rF rF (sD (sD sR)) ?_)))
  have e : firstF ar rs n = noLoop := firstF_no (by simp_all)
  exact ⟨_, _, _, by rw [e], by rw [e]; exact IntsF.nilV, by rw [e]; exact SlOf.nilV, by rw [e]; exact SlOf.nilV, by rw [e]; exact Fresh.empty nilLoop, rfl⟩
 rw [Bool.not_eq_true] at h1
 have hsys : sysOk ar rs = true := by simpa using h1
 have hrs12 := (sysOk_iff.1 hsys).2.1
 refine qp (t := 13) rfl (vB h1) (qq (ii (n)) rfl (qp (t := 13) rfl (vB h1) (qo (args := [ii (n)]) call144 rfl (loopSteps_spec (n := n)) ?_)))
 rintro _ _ _ _ ⟨rfl, rfl, rfl⟩
 refine qp (t := 13) rfl (vB h1) (yj rfl (cX (qS (.bool (decide (¬(1 ≤ n ∧ n ≤ 20)))) (vB h1) rfl (qb ?_))))
 refine qE (p := ¬(1 ≤ n ∧ n ≤ 20)) rfl (fun h2 => ?_) (fun h2 => ?_)
 ·refine qc (qa (cX (jg [sN, sN, ii (0), sN] [sN, sN, ii (0), sN] [(0, 2), (2, 1), (3, 1)] [] qT jO rfl (.cons rfl qH (.cons rfl qy (.cons rfl qV PlacesAre.nil))) rfl CellsAre.nil (cX (qC [] _ [sN, sN, ii (0), sN] jz rfl rfl rfl (qj rfl (qj rfl (qj rfl (qj rfl qK)))) rfl rfl rfl (qg (.bool (false)) rfl (qb (qw (qm (qs (L' := L) [.agg #[sN, sN, ii (0), sN], .bool (false)] (.tuple #[.agg #[sN, sN, ii (0), sN], .bool (false)]) (.cell rfl (jx [sN, sN, ii (0), sN] jX jz rfl (Rd.ownN [] rfl rfl)) (.tmp rfl .nil)) rfl rF rF (sD (sD sR)) ?_))))))))))
  have e : firstF ar rs n = noLoop := firstF_no (by simp_all)
  exact ⟨_, _, _, by rw [e], by rw [e]; exact IntsF.nilV, by rw [e]; exact SlOf.nilV, by rw [e]; exact SlOf.nilV, by rw [e]; exact Fresh.empty nilLoop, rfl⟩
 have hn20 : 1 ≤ n ∧ n ≤ 20 := by first | exact Classical.not_not.1 h2 | simpa using h2
 refine qz (qc (qc (qa (cX (qk (1) ja rfl yd (by decide) rfl rfl (cX (ql isAgg37 rfl (Rd.own [_] rfl rfl) (cX (qD jA rfl hrs.slv (qd (ii (0)) rfl (qb (qN (jw (α := Nat × FH) (fun xQ => [(1, ii (n)), (2, ptr b1 0), (4, ptr b2 0), (20, rsv), (21, ii ((rs.length : Int))), (22, ii (((xQ.1 : Nat) : Int)))]) (fun xQ => cellsH b2 [sN, sN, ii (0), sN] 117 :: cellsH b1 [arv, rsv] 39 :: L) (fun xQ F' => xQ.2 = F' ∧ F ≤ xQ.2 ∧ (xQ.1 ≤ rs.length) ∧ (∀ i, i < xQ.1 → (loopF ar rs (rs.getD i ([], [])).1 n).2.2.2.2 = false)) (fun xQ => rs.length - xQ.1) (0, F) ⟨rfl, rfl, rfl, rfl, rfl, rfl, ⟨⟩⟩ (sC (sC sR)) ⟨rfl, FLe.refl _, (by (try dsimp only) <;> omega), (fun i hi => absurd hi (by omega))⟩ ?_)))))))))))))
 rintro ⟨k, G1⟩ rE _ _ ⟨rfl, leG, hk, hall⟩
 show X _ _ _ _ (envs [(1, ii (n)), (2, ptr b1 0), (4, ptr b2 0), (20, rsv), (21, ii ((rs.length : Int))), (22, ii ((k : Int)))] rE) _ (cellsH b2 [sN, sN, ii (0), sN] 117 :: cellsH b1 [arv, rsv] 39 :: L)
 replace leG : F ≤ G1 := leG
 dsimp only at hk hall
 have hrl := fun (h : k < rs.length) => (ruleOk_iff.1 ((sysOk_iff.1 hsys).2.2 k h)).left
 have hlf := fun (h : k < rs.length) => loopF_yes (ar := ar) (rs := rs) (t := (rs.getD k ([], [])).1) (n := n) ⟨⟨hsys, hrl h⟩, hn20⟩
 have leG1 := leG
 replace har := har.mono leG1
 replace hrs := hrs.mono leG1
 refine qc (qa (cX (jf rfl rfl (qb (qc ?_)))))
 refine qE (p := (k : Int) < (rs.length : Int)) rfl (fun h3 => ?_) (fun h3 => ?_)
 ·refine qz (qc (qN (qc (qa (cX (qB k jA jU rfl rfl rfl hrs.slv (by omega) rfl ?_))))))
  obtain ⟨a1, a2, ha1, ha2, hr1, hr2⟩ := hrs.rd (i := k) (by omega)
  refine cX (qn [a1, a2] isAgg76 jU rfl rfl (Rd.two (hr1 _) (hr2 _)) (cX (jc [sN, sN] jM rfl ?_)))
  intro b3
  refine cX (qC [] _ [a1, a2] jU rfl rfl rfl (qj (qJ (qF ha1)) (qj (qJ (qF ha2)) qK)) rfl rfl rfl (qb (qc (qa (cX (qn [arv, rsv] jr jl rfl rfl (Rd.ownN [_, _] rfl rfl) (cX (qk (0) jp rfl qu (by decide) rfl rfl (cX (ql qZ rfl (Rd.own [] rfl rfl) (qd (ii (n)) rfl (cX (qo (args := [.agg #[arv, rsv], a1, ii (n)]) call145 rfl (loopFrom_spec (n := n) har hrs ha1 (hsys := (hsys)) (ho := (hrl (by omega))) (hn20 := (hn20))) ?_)))))))))))))
  rintro _ F1 _ le1 ⟨x1, x2, x3, rfl, hr3, hr4, hr5, hr6, rfl⟩
  refine qd (.tuple #[.agg #[x1, x2, ii ((loop0 ar rs ((rs.getD k ([], [])).1) (reachL ar rs ((rs.getD k ([], [])).1) (n - 1)).1).2.2.1), x3], .bool ((loop0 ar rs ((rs.getD k ([], [])).1) (reachL ar rs ((rs.getD k ([], [])).1) (n - 1)).1).2.2.2.2)]) rfl (cX (qQ (.agg #[x1, x2, ii ((loop0 ar rs ((rs.getD k ([], [])).1) (reachL ar rs ((rs.getD k ([], [])).1) (n - 1)).1).2.2.1), x3]) rfl rfl (cX (qQ (.bool ((loop0 ar rs ((rs.getD k ([], [])).1) (reachL ar rs ((rs.getD k ([], [])).1) (n - 1)).1).2.2.2.2)) rfl rfl (cX (jc [sN, sN, ii (0), sN] jO rfl ?_))))))
  intro b4
  refine cX (qC [] _ [x1, x2, ii ((loop0 ar rs ((rs.getD k ([], [])).1) (reachL ar rs ((rs.getD k ([], [])).1) (n - 1)).1).2.2.1), x3] jz rfl rfl rfl (qj (qJ (qF hr3)) (qj (qJ (jT hr4)) (qj rfl (qj (qJ (RowsF.isSl hr5)) qK)))) rfl rfl rfl (qg (.bool ((loop0 ar rs ((rs.getD k ([], [])).1) (reachL ar rs ((rs.getD k ([], [])).1) (n - 1)).1).2.2.2.2)) rfl (qb (qc (qa (qd (.bool ((loop0 ar rs ((rs.getD k ([], [])).1) (reachL ar rs ((rs.getD k ([], [])).1) (n - 1)).1).2.2.2.2)) rfl (qb ?_)))))))
  refine jN (t := (loop0 ar rs ((rs.getD k ([], [])).1) (reachL ar rs ((rs.getD k ([], [])).1) (n - 1)).1).2.2.2.2) rfl (fun h4 => ?_) (fun h4 => ?_)
  ·have hb9 : (loopF ar rs (rs.getD k ([], [])).1 n).2.2.2.2 = true := by rw [hlf (by omega)]; exact h4
   refine qc (qa (cX (qn [x1, x2, ii ((loop0 ar rs ((rs.getD k ([], [])).1) (reachL ar rs ((rs.getD k ([], [])).1) (n - 1)).1).2.2.1), x3] jX jz rfl rfl (Rd.ownN [] rfl rfl) (cX (qC [_, _] _ [x1, x2, ii ((loop0 ar rs ((rs.getD k ([], [])).1) (reachL ar rs ((rs.getD k ([], [])).1) (n - 1)).1).2.2.1), x3] jz rfl rfl rfl (qj (qJ (qF hr3)) (qj (qJ (jT hr4)) (qj rfl (qj (qJ (RowsF.isSl hr5)) qK)))) rfl rfl rfl (qg (.bool (true)) rfl (qb (qw (qI (qm (qm (qI (qm (qs (L' := L) [.agg #[x1, x2, ii ((loop0 ar rs ((rs.getD k ([], [])).1) (reachL ar rs ((rs.getD k ([], [])).1) (n - 1)).1).2.2.1), x3], .bool (true)] (.tuple #[.agg #[x1, x2, ii ((loop0 ar rs ((rs.getD k ([], [])).1) (reachL ar rs ((rs.getD k ([], [])).1) (n - 1)).1).2.2.1), x3], .bool (true)]) (.cell rfl (jx [x1, x2, ii ((loop0 ar rs ((rs.getD k ([], [])).1) (reachL ar rs ((rs.getD k ([], [])).1) (n - 1)).1).2.2.1), x3] jX jz rfl (Rd.ownN [_, _] rfl rfl)) (.tmp rfl .nil)) rfl (qh leG1 le1) rF (sD (sD (sD (sD sR)))) ?_))))))))))))))
   have e := (firstF_at ⟨hsys, hn20⟩ (k := k) (by omega) hb9 hall).trans (hlf (by omega))
   have hb8 := hb9
   rw [hlf (by omega)] at hb8
   exact ⟨_, _, _, by rw [e, hb8], by rw [e]; exact hr3, by rw [e]; exact hr4, by rw [e]; exact hr5, by rw [e]; exact (hr6.base leG1), rfl⟩
  have hb9 : (loopF ar rs (rs.getD k ([], [])).1 n).2.2.2.2 = false := by rw [hlf (by omega)]; exact h4
  refine qz (qa (cX (qP (((k + 1 : Nat) : Int)) rfl rfl (by omega) (by omega) (qd (ii (((k + 1 : Nat) : Int))) rfl (qb ?_)))))
  exact ⟨(k + 1, F1), _, (qh leG1 le1), rF, ⟨rfl, rfl, rfl, rfl, rfl, rfl, ⟨⟩⟩, (sD (sD (sC (sC sR)))), ⟨rfl, (qh leG1 le1), (by (try dsimp only) <;> omega), (fun i hi => (Nat.lt_or_ge i k).elim (fun h => hall i h) (fun h => by obtain rfl : i = k := (by omega); exact hb9))⟩, (by omega)⟩
 refine jo (qt (qt (qO (qc (qa (cX (jg [sN, sN, ii (0), sN] [sN, sN, ii (0), sN] [(0, 2), (2, 1), (3, 1)] [] qT jO rfl (.cons rfl qH (.cons rfl qy (.cons rfl qV PlacesAre.nil))) rfl CellsAre.nil (cX (qC [] _ [sN, sN, ii (0), sN] jz rfl rfl rfl (qj rfl (qj rfl (qj rfl (qj rfl qK)))) rfl rfl rfl (qg (.bool (false)) rfl (qb (qw (qs (L' := L) [.agg #[sN, sN, ii (0), sN], .bool (false)] (.tuple #[.agg #[sN, sN, ii (0), sN], .bool (false)]) (.cell rfl (jx [sN, sN, ii (0), sN] jX jz rfl (Rd.ownN [] rfl rfl)) (.tmp rfl .nil)) rfl leG1 rF (sD (sD sR)) ?_)))))))))))))
 have e : firstF ar rs n = noLoop := firstF_none (fun i hi => hall i (by omega))
 exact ⟨_, _, _, by rw [e], by rw [e]; exact IntsF.nilV, by rw [e]; exact SlOf.nilV, by rw [e]; exact SlOf.nilV, by rw [e]; exact Fresh.empty nilLoop, rfl⟩

/- impl.LoopWithin -/
set_option maxRecDepth 20000 in
theorem LoopWithin_spec {F : FH} {L : List HP} {arv : Value} {ar : List Int} (har : IntsF F arv ar) {rsv : Value} {rs : List (List Int × List Int)} (hrs : PairsF F rsv rs) {n : Int} :
    Does prog 64 [.agg #[arv, rsv], ii (n)] F (L) (fun v F' L' => (ii (withinF ar rs n) : Value) = v ∧ L = L') := by
 refine qL func64 rfl rfl rfl (qc (qa (cX (jd [arv, rsv] rfl rfl ?_))))
 intro b1
 refine qg (ii (0)) rfl (qb (qc (qc (qa (cX (qn [arv, rsv] jr jl rfl rfl (Rd.ownN [] rfl rfl) (cX (qo (args := [.agg #[arv, rsv]]) call131 rfl (SystemOk_spec har hrs) ?_))))))))
 rintro _ _ _ _ ⟨rfl, rfl, rfl⟩
 refine cX (jn rfl (qd (.bool (!(sysOk ar rs))) rfl ?_))
 by_cases h1 : (!(sysOk ar rs)) = true
 ·refine qr (t := 11) rfl (vB h1) (qr (t := 11) rfl (vB h1) (qr (t := 11) rfl (vB h1) (cX (qU (.bool (true)) (vB h1) rfl (qb (jI rfl (qc (qa (qg (ii (0)) rfl (qb (qw (qm (qs (L' := L) [ii (0)] (ii (0)) (.tmp rfl .nil) rfl rF rF (sD sR) ?_)))))))))))))
  exact ⟨congrArg (Value.int .i64) (withinF_no (by simp_all)), rfl⟩
 rw [Bool.not_eq_true] at h1
 have hsys : sysOk ar rs = true := by simpa using h1
 have hrs12 := (sysOk_iff.1 hsys).2.1
 refine qp (t := 11) rfl (vB h1) (qq (ii (n)) rfl (qp (t := 11) rfl (vB h1) (qo (args := [ii (n)]) call144 rfl (loopSteps_spec (n := n)) ?_)))
 rintro _ _ _ _ ⟨rfl, rfl, rfl⟩
 refine qp (t := 11) rfl (vB h1) (yj rfl (cX (qS (.bool (decide (¬(1 ≤ n ∧ n ≤ 20)))) (vB h1) rfl (qb ?_))))
 refine qE (p := ¬(1 ≤ n ∧ n ≤ 20)) rfl (fun h2 => ?_) (fun h2 => ?_)
 ·refine qc (qa (qg (ii (0)) rfl (qb (qw (qm (qs (L' := L) [ii (0)] (ii (0)) (.tmp rfl .nil) rfl rF rF (sD sR) ?_))))))
  exact ⟨congrArg (Value.int .i64) (withinF_no (by simp_all)), rfl⟩
 have hn20 : 1 ≤ n ∧ n ≤ 20 := by first | exact Classical.not_not.1 h2 | simpa using h2
 refine qz (qc (qc (qa (qd (ii (n)) rfl (qd (ii (0)) rfl (qb (qN (jw (α := Nat × FH) (fun xQ => [(2, ptr b1 0), (16, ii (n)), (17, ii (((xQ.1 : Nat) : Int)))]) (fun xQ => cellsH b1 [arv, rsv] 39 :: L) (fun xQ F' => xQ.2 = F' ∧ F ≤ xQ.2 ∧ (xQ.1 ≤ n.toNat) ∧ (∀ i : Nat, i < xQ.1 → (firstF ar rs ((i : Int) + 1)).2.2.2.2 = false)) (fun xQ => n.toNat - xQ.1) (0, F) ⟨rfl, rfl, rfl, ⟨⟩⟩ (sC sR) ⟨rfl, FLe.refl _, (by (try dsimp only) <;> omega), (fun i hi => absurd hi (by omega))⟩ ?_))))))))
 rintro ⟨k, G1⟩ rE _ _ ⟨rfl, leG, hk, hall⟩
 show X _ _ _ _ (envs [(2, ptr b1 0), (16, ii (n)), (17, ii ((k : Int)))] rE) _ (cellsH b1 [arv, rsv] 39 :: L)
 replace leG : F ≤ G1 := leG
 dsimp only at hk hall
 have leG1 := leG
 replace har := har.mono leG1
 replace hrs := hrs.mono leG1
 refine qc (qa (cX (jf rfl rfl (qb (qc ?_)))))
 refine qE (p := (k : Int) < n) rfl (fun h3 => ?_) (fun h3 => ?_)
 ·refine qz (qc (qN (qc (qa (qd (ii ((k : Int))) rfl (qg (ii ((k : Int))) rfl (qb (qc (qa (cX (qn [arv, rsv] jr jl rfl rfl (Rd.ownN [] rfl rfl) (qd (ii ((k : Int))) rfl (cX (qP (((k + 1 : Nat) : Int)) rfl rfl (by omega) (by omega) (cX (qo (args := [.agg #[arv, rsv], ii (((k + 1 : Nat) : Int))]) call58 rfl (FirstLoop_spec (n := ((k + 1 : Nat) : Int)) har hrs) ?_))))))))))))))))
  rintro _ F1 _ le1 ⟨x1, x2, x3, rfl, hr1, hr2, hr3, hr4, rfl⟩
  refine qd (.tuple #[.agg #[x1, x2, ii ((firstF ar rs (((k + 1 : Nat) : Int))).2.2.1), x3], .bool ((firstF ar rs (((k + 1 : Nat) : Int))).2.2.2.2)]) rfl (cX (qQ (.agg #[x1, x2, ii ((firstF ar rs (((k + 1 : Nat) : Int))).2.2.1), x3]) rfl rfl (cX (qQ (.bool ((firstF ar rs (((k + 1 : Nat) : Int))).2.2.2.2)) rfl rfl (cX (jc [sN, sN, ii (0), sN] jO rfl ?_))))))
  intro b2
  refine cX (qC [] _ [x1, x2, ii ((firstF ar rs (((k + 1 : Nat) : Int))).2.2.1), x3] jz rfl rfl rfl (qj (qJ (qF hr1)) (qj (qJ (jT hr2)) (qj rfl (qj (qJ (RowsF.isSl hr3)) qK)))) rfl rfl rfl (qg (.bool ((firstF ar rs (((k + 1 : Nat) : Int))).2.2.2.2)) rfl (qb (qc (qa (qd (.bool ((firstF ar rs (((k + 1 : Nat) : Int))).2.2.2.2)) rfl (qb ?_)))))))
  refine jN (t := (firstF ar rs (((k + 1 : Nat) : Int))).2.2.2.2) rfl (fun h4 => ?_) (fun h4 => ?_)
  ·have hb9 : (firstF ar rs ((k : Int) + 1)).2.2.2.2 = true := h4
   refine qc (qa (qd (ii ((k : Int))) rfl (cX (qP (((k + 1 : Nat) : Int)) rfl rfl (by omega) (by omega) (qg (ii (((k + 1 : Nat) : Int))) rfl (qb (qw (qI (qm (qm (qI (qm (qs (L' := L) [ii (((k + 1 : Nat) : Int))] (ii (((k + 1 : Nat) : Int))) (.tmp rfl .nil) rfl (qh leG1 le1) rF (sD (sD sR)) ?_)))))))))))))
   exact ⟨congrArg (Value.int .i64) (withinF_at hn20 (k := k) (by omega) hb9 hall), rfl⟩
  have hb9 : (firstF ar rs ((k : Int) + 1)).2.2.2.2 = false := h4
  refine qz (qa (cX (qP (((k + 1 : Nat) : Int)) rfl rfl (by omega) (by omega) (qd (ii (((k + 1 : Nat) : Int))) rfl (qb ?_)))))
  exact ⟨(k + 1, F1), _, (qh leG1 le1), rF, ⟨rfl, rfl, rfl, ⟨⟩⟩, (sD (sC sR)), ⟨rfl, (qh leG1 le1), (by (try dsimp only) <;> omega), (fun i hi => (Nat.lt_or_ge i k).elim (fun h => hall i h) (fun h => by obtain rfl : i = k := (by omega); exact hb9))⟩, (by omega)⟩
 refine jo (qt (qt (qO (qc (qa (qg (ii (0)) rfl (qb (qw (qs (L' := L) [ii (0)] (ii (0)) (.tmp rfl .nil) rfl leG1 rF (sD sR) ?_)))))))))
 exact ⟨congrArg (Value.int .i64) (withinF_none (fun i hi => hall i (by omega))), rfl⟩
end Go.Proofs.YtenomejgjcpbdaaGreat
set_option linter.unusedSimpArgs false
set_option linter.unusedVariables false
namespace Go.Proofs.YtenomejgjcpbdaaGreat
open Go X M Tryz

/- spec.l7Steps -/
theorem l7Steps_spec {F : FH} {L : List HP} {arv : Value} {ar : List Int} (har : IntsF F arv ar) {rsv : Value} {rs : List (List Int × List Int)} (hrs : PairsF F rsv rs) {tv : Value} {t : List Int} (ht : IntsF F tv t) (hsys : sysOk ar rs = true) (ho : termOk ar t = true) :
    Does prog 219 [.agg #[arv, rsv], tv] F (L) (fun v F' L' => ∃ (a : Value), (a : Value) = v ∧ (StepsF F' a (stepsL ar rs t)) ∧ L = L') := by
 refine qL func219 rfl rfl rfl ?_
 have hnn := yb ht (by have := termOk_len ho; omega)
 have htl := termOk_len ho
 have hrl := (sysOk_iff.1 hsys).2.1
 have hsig := (sysOk_iff.1 hsys).1
 have hsl := sigOk_spec hsig
 refine qc (qa (cX (jd [arv, rsv] rfl rfl ?_)))
 intro b1
 refine qg (sN) rfl (qb (qc (qa (cX (qx (s := 3) [] [ii (0), ii (0), sN] [] qG ji jE rfl (by decide) rfl CellsAre.nil rfl ?_)))))
 intro v1 hv1
 refine qg (v1) rfl (qb (qc (qc (qa (qg (ii (0)) rfl (qb (qN (jw (α := Nat × Value × List StepT × List Value × Nat × FH) (fun xQ => [(1, tv), (2, ptr b1 0), (5, xQ.2.1), (6, ii (((xQ.1 : Nat) : Int)))]) (fun xQ => slH 102 3 xQ.2.1 xQ.2.2.2.2.1 xQ.2.2.2.1 :: cellsH b1 [arv, rsv] 39 :: L) (fun xQ F' => xQ.2.2.2.2.2 = F' ∧ F ≤ xQ.2.2.2.2.2 ∧ (xQ.1 ≤ t.length) ∧ (IsSl xQ.2.1) ∧ (StepsC xQ.2.2.2.2.2 xQ.2.2.2.1 xQ.2.2.1) ∧ (xQ.2.2.2.2.1 = xQ.2.2.1.length) ∧ (xQ.2.2.1 = stepsTo ar rs t xQ.1)) (fun xQ => t.length - xQ.1) (0, v1, [], [], 0, F) ⟨rfl, rfl, rfl, rfl, ⟨⟩⟩ (sC (sC sR)) ⟨rfl, FLe.refl _, (by (try dsimp only) <;> omega), ((jv hv1)), (CO.nil), (rfl), (rfl)⟩ ?_))))))))
 rintro ⟨k, sv, ss, cs, m, G1⟩ rE _ _ ⟨rfl, leG, hk, hsv, hC, hm, hss⟩
 show X _ _ _ _ (envs [(1, tv), (2, ptr b1 0), (5, sv), (6, ii ((k : Int)))] rE) _ (slH 102 3 sv m cs :: cellsH b1 [arv, rsv] 39 :: L)
 replace leG : F ≤ G1 := leG
 dsimp only at hk hsv hC hm hss
 have hsl1 := stepsTo_len (ar := ar) (t := t) (rs := rs) hrl k
 have hss0 := hss
 have leG1 := leG
 replace har := har.mono leG1
 replace hrs := hrs.mono leG1
 replace ht := ht.mono leG1
 refine qc (qc (qa (qd (ii ((k : Int))) rfl (qd (tv) rfl (cX (qD qf rfl ht.slv (cX (jf rfl rfl (qb ?_)))))))))
 refine qE (p := (k : Int) < (t.length : Int)) rfl (fun h1 => ?_) (fun h1 => ?_)
 ·refine qz (qc (qN (qc (qa (qg (ii (0)) rfl (qb (qN (jw (α := Nat × Value × List StepT × List Value × Nat × FH) (fun xQ => [(1, tv), (2, ptr b1 0), (5, xQ.2.1), (6, ii ((k : Int))), (7, ii (((xQ.1 : Nat) : Int)))]) (fun xQ => slH 102 3 xQ.2.1 xQ.2.2.2.2.1 xQ.2.2.2.1 :: cellsH b1 [arv, rsv] 39 :: L) (fun xQ F' => xQ.2.2.2.2.2 = F' ∧ G1 ≤ xQ.2.2.2.2.2 ∧ (xQ.1 ≤ rs.length) ∧ (IsSl xQ.2.1) ∧ (StepsC xQ.2.2.2.2.2 xQ.2.2.2.1 xQ.2.2.1) ∧ (xQ.2.2.2.2.1 = xQ.2.2.1.length) ∧ (xQ.2.2.1 = stepsTo ar rs t k ++ stepsRow ar rs t k xQ.1)) (fun xQ => rs.length - xQ.1) (0, sv, ss, cs, m, G1) ⟨rfl, rfl, rfl, rfl, rfl, ⟨⟩⟩ (sC (sC sR)) ⟨rfl, FLe.refl _, (by (try dsimp only) <;> omega), (hsv), (hC), (hm), (by (try dsimp only); rw [hss0]; simp [stepsRow])⟩ ?_))))))))
  rintro ⟨r, sv, ss, cs, m, G2⟩ rE _ _ ⟨rfl, leG, hr, hsvi, hCi, hmi, hssi⟩
  show X _ _ _ _ (envs [(1, tv), (2, ptr b1 0), (5, sv), (6, ii ((k : Int))), (7, ii ((r : Int)))] rE) _ (slH 102 3 sv m cs :: cellsH b1 [arv, rsv] 39 :: L)
  replace leG : G1 ≤ G2 := leG
  dsimp only at hr hsvi hCi hmi hssi
  have hsl2 := stepsRow_len (ar := ar) (rs := rs) (t := t) (p := k) r
  have hssl : ss.length ≤ 1000 := by rw [hssi, List.length_append]; omega
  have leG2 := leG
  replace har := har.mono leG2
  replace hrs := hrs.mono leG2
  replace ht := ht.mono leG2
  replace hC := hC.mono leG2
  refine qc (qc (qa (qd (ii ((r : Int))) rfl (cX (qk (1) ja rfl yd (by decide) rfl rfl (cX (ql isAgg37 rfl (Rd.own [_] rfl rfl) (cX (qD jA rfl hrs.slv (cX (jf rfl rfl (qb ?_))))))))))))
  refine qE (p := (r : Int) < (rs.length : Int)) rfl (fun h2 => ?_) (fun h2 => ?_)
  ·refine qz (qc (qN (qc (qa (cX (qn [arv, rsv] jr jl rfl rfl (Rd.ownN [_] rfl rfl) (qd (tv) rfl (qd (ii ((k : Int))) rfl (qd (ii ((r : Int))) rfl (cX (qo (args := [.agg #[arv, rsv], tv, ii (k : Int), ii (r : Int)]) call111 rfl (l7Step_spec (p := k) (r := r) har hrs ht (hsys := (by first | assumption | rfl | omega | simp)) (ho := (by first | assumption | rfl | omega | simp)) (hp := (by first | assumption | rfl | omega | simp)) (hr := (by first | assumption | rfl | omega | simp))) ?_)))))))))))
   rintro _ F1 _ le1 ⟨x1, rfl, hr1, rfl⟩
   replace hC := hC.mono le1
   replace hCi := hCi.mono le1
   refine qd (.tuple #[x1, .bool ((stepL ar rs t k r).isSome)]) rfl (cX (qQ (x1) rfl rfl (cX (qQ (.bool ((stepL ar rs t k r).isSome)) rfl rfl (qg (x1) rfl (qg (.bool ((stepL ar rs t k r).isSome)) rfl (qb (qc (qa (qd (.bool ((stepL ar rs t k r).isSome)) rfl (qb ?_)))))))))))
   refine jN (t := (stepL ar rs t k r).isSome) rfl (fun h3 => ?_) (fun h3 => ?_)
   ·have hone : stepOne ar rs t k r = [((k : Int), (r : Int), (stepL ar rs t k r).getD [])] := (one_some h3).1
    refine qa (qd (sv) rfl (qd (ii ((k : Int))) rfl (qd (ii ((r : Int))) rfl (qd (x1) rfl (cX (jg [ii ((k : Int)), ii ((r : Int)), x1] [ii (0), ii (0), sN] [(0, 1), (1, 1), (2, 1)] [(0, [ii ((k : Int))]), (1, [ii ((r : Int))]), (2, [x1])] jm jE rfl (.cons rfl qy (.cons rfl qy (.cons rfl qu PlacesAre.nil))) rfl (.cons rfl (.cons rfl (.cons (cells_one (qF hr1)) CellsAre.nil))) (cX (qx (s := 3) [ii ((k : Int)), ii ((r : Int)), x1] [ii (0), ii (0), sN] [(0, [ii ((k : Int)), ii ((r : Int)), x1])] qG ji jE rfl (by decide) rfl (.cons rfl CellsAre.nil) rfl ?_))))))))
    intro v2 hv2
    refine cX (jV (m := 1) (bytes := 40) (cs := cs) [_] _ [ii ((k : Int)), ii ((r : Int)), x1] qG typeInfo102 rfl rfl rfl rfl rfl rfl rfl (SlV.own [] rfl) rfl (Rd.lit [] rfl) (qj rfl (qj rfl (qj (qJ (qF hr1)) qK))) (by (try simp only [List.length_append, List.length_nil, List.length_cons, List.length_singleton]); omega) (by (try simp only [List.length_append, List.length_nil, List.length_cons, List.length_singleton]); omega) ?_)
    intro v3 hs1 hn1 hm1
    have hc1 := StepsC.snoc hCi (i := (k : Int)) (j := (r : Int)) hr1
    refine qg (v3) rfl (qb (qa (qd (ii ((r : Int))) rfl (cX (qP (((r + 1 : Nat) : Int)) rfl rfl (by omega) (by omega) (qg (ii (((r + 1 : Nat) : Int))) rfl (qb ?_)))))))
    exact ⟨(r + 1, v3, ss ++ [((k : Int), (r : Int), (stepL ar rs t k r).getD [])], cs ++ [ii ((k : Int)), ii ((r : Int)), x1], (m) + 1, F1), _, (qh leG2 le1), rF, ⟨rfl, rfl, rfl, rfl, rfl, ⟨⟩⟩, (sD (sC (sC sR))), ⟨rfl, (qh leG2 le1), (by (try dsimp only) <;> omega), (hs1), (hc1), (by (try dsimp only); (try rw [List.length_append, List.length_singleton]); omega), (by (try dsimp only); rw [hssi, stepsRow_succ, hone]; simp)⟩, (by omega)⟩
   have hone : stepOne ar rs t k r = [] := stepOne_no h3
   refine qz (qa (qd (ii ((r : Int))) rfl (cX (qP (((r + 1 : Nat) : Int)) rfl rfl (by omega) (by omega) (qg (ii (((r + 1 : Nat) : Int))) rfl (qb ?_))))))
   exact ⟨(r + 1, sv, ss, cs, m, F1), _, (qh leG2 le1), rF, ⟨rfl, rfl, rfl, rfl, rfl, ⟨⟩⟩, (sC (sC sR)), ⟨rfl, (qh leG2 le1), (by (try dsimp only) <;> omega), (hsvi), (hCi), (by (try dsimp only); (try rw [List.length_append, List.length_singleton]); omega), (by (try dsimp only); rw [hssi, stepsRow_succ, hone]; simp)⟩, (by omega)⟩
  refine jo (qt (qt (qO (qa (qd (ii ((k : Int))) rfl (cX (qP (((k + 1 : Nat) : Int)) rfl rfl (by omega) (by omega) (qg (ii (((k + 1 : Nat) : Int))) rfl (qb ?_)))))))))
  exact ⟨(k + 1, sv, ss, cs, m, G2), _, (qh leG1 leG2), rF, ⟨rfl, rfl, rfl, rfl, ⟨⟩⟩, (sC (sC sR)), ⟨rfl, (qh leG1 leG2), (by (try dsimp only) <;> omega), (hsvi), (hCi), (hmi), (by (try dsimp only); rw [hssi, stepsTo_succ, show r = rs.length from by omega])⟩, (by omega)⟩
 refine jo (qt (qt (qO (qc (qa (qd (sv) rfl (qg (sv) rfl (qb (je [] _ _ rfl (fun F2 le2 hz1 => ?_))))))))))
 replace hC := hC.mono le2
 have hf1 : StepsF F2 sv ss := CO.fz hC (by first | rfl | omega | (rw [List.length_set]; omega) | (simp; done)) hz1.fz
 refine qw (qs (L' := L) [sv] (sv) (.tmp rfl .nil) rfl (qh leG1 le2) rF (sD sR) ?_)
 have e1 : stepsL ar rs t = ss := by rw [hss, show k = t.length from by omega]; rfl
 rw [e1]
 exact ⟨_, rfl, hf1, rfl⟩

/- spec.l1TermPlace -/
theorem l1TermPlace_spec {F : FH} {L : List HP} {tsv : Value} {ts : List (List Int)} (hts : RowsF F tsv ts) {xv : Value} {x : List Int} (hx : IntsF F xv x) (hlt : ts.length ≤ 4000000) (htb : ∀ i, i < ts.length → (ts.getD i []).length ≤ 4000000) (hlx : x.length ≤ 4000000) :
    Does prog 221 [tsv, xv] F (L) (fun v F' L' => (ii (badG (fun y => !decide (y = x)) ts) : Value) = v ∧ F = F' ∧ L = L') := by
 refine qL func221 rfl rfl rfl (qc (qa (qg (ii (0)) rfl (qb (qc (qc (qa (qg (ii (0)) rfl (qb (qN (jw (α := Nat) (fun k => [(0, tsv), (1, xv), (5, ii ((k : Int)))]) (fun k => L) (fun k F' => F = F' ∧ (k ≤ ts.length) ∧ (∀ i, i < k → (fun y => !decide (y = x)) (ts.getD i []) = true)) (fun k => ts.length - k) 0 ⟨rfl, rfl, rfl, ⟨⟩⟩ sR ⟨rfl, (by (try dsimp only) <;> omega), (fun i hi => absurd hi (by omega))⟩ ?_)))))))))))
 rintro k rE _ _ ⟨rfl, hk, hall⟩
 show X _ _ _ _ (envs [(0, tsv), (1, xv), (5, ii ((k : Int)))] rE) _ (L)
 have htbk := htb k
 refine qc (qc (qa (qd (ii ((k : Int))) rfl (qd (tsv) rfl (cX (qD qM rfl hts.slv (cX (jf rfl rfl (qb ?_)))))))))
 refine qE (p := (k : Int) < (ts.length : Int)) rfl (fun h1 => ?_) (fun h1 => ?_)
 ·refine qz (qc (qN (qc (qa (qd (tsv) rfl (qd (ii ((k : Int))) rfl (cX (qB k qM qu rfl rfl rfl hts.slv (by omega) (Nat.mul_one _) ?_))))))))
  obtain ⟨a1, ha1, hr1⟩ := hts.rd (i := k) (by omega)
  refine cX (ql qZ rfl (hr1 _) (qd (xv) rfl (cX (qo (args := [a1, xv]) call32 rfl (SameTerm_spec ha1 hx (hbd := (by first | assumption | rfl | omega | (left; simp; done) | (right; simp; done)))) ?_))))
  rintro _ _ _ _ ⟨rfl, rfl, rfl⟩
  refine qb ?_
  refine qE (p := ((ts.getD k [])) = x) rfl (fun h2 => ?_) (fun h2 => ?_)
  ·refine qc (qa (qd (ii ((k : Int))) rfl (qg (ii ((k : Int))) rfl (qb (qw (qI (qm (qm (qI (qm (qs (L' := L) [ii ((k : Int))] (ii ((k : Int))) (.tmp rfl .nil) rfl rF rF sR ?_)))))))))))
   exact ⟨(vI (badG_at [] (by omega) (by simp_all) hall)), rfl, rfl⟩
  refine qz (qa (qd (ii ((k : Int))) rfl (cX (qP (((k + 1 : Nat) : Int)) rfl rfl (by omega) (by omega) (qg (ii (((k + 1 : Nat) : Int))) rfl (qb ?_))))))
  exact ⟨k + 1, _, FLe.refl _, rF, ⟨rfl, rfl, rfl, ⟨⟩⟩, sR, ⟨rfl, (by (try dsimp only) <;> omega), (fun i hi => (Nat.lt_or_ge i k).elim (fun h => hall i h) (fun h => by obtain rfl : i = k := (by omega); simp_all))⟩, (by omega)⟩
 refine jo (qt (qt (qO (qc (qa (qg (ii (-1)) rfl (qb (qw (qs (L' := L) [ii (-1)] (ii (-1)) (.tmp rfl .nil) rfl rF rF sR ?_)))))))))
 exact ⟨(vI (badG_none [] (fun i hi => hall i (by omega)))), rfl, rfl⟩

/- spec.l9Right -/
theorem l9Right_spec {F : FH} {L : List HP} {arv : Value} {ar : List Int} (har : IntsF F arv ar) {rsv : Value} {rs : List (List Int × List Int)} (hrs : PairsF F rsv rs) {tv : Value} {t : List Int} (ht : IntsF F tv t) {n : Int} (hla : ar.length ≤ 4000000) (hlr : rs.length ≤ 4000000) (hrb : ∀ i, i < rs.length → (rs.getD i ([], [])).1.length ≤ 4000000 ∧ (rs.getD i ([], [])).2.length ≤ 4000000) (hlt : t.length ≤ 4000000) :
    Does prog 120 [.agg #[arv, rsv], tv, ii (n)] F (L) (fun v F' L' => (.bool (reachOkL ar rs n [t]) : Value) = v ∧ F = F' ∧ L = L') := by
 refine qL func120 rfl rfl rfl (qc (qa (cX (jd [arv, rsv] rfl rfl ?_))))
 intro b1
 refine qg (.bool (false)) rfl (qb (qc (qa (cX (qn [arv, rsv] jr jl rfl rfl (Rd.ownN [] rfl rfl) (qd (tv) rfl (cX (qo (args := [.agg #[arv, rsv], tv]) call108 rfl (l7Right_spec har hrs ht (hla := (by first | assumption | rfl | omega | simp)) (hlr := (by first | assumption | rfl | omega | simp)) (hrb := (by first | assumption | rfl | omega | simp)) (hlt := (by first | assumption | rfl | omega | simp))) ?_))))))))
 rintro _ _ _ _ ⟨rfl, rfl, rfl⟩
 refine qd (.bool (rightB ar rs t)) rfl ?_
 by_cases h1 : (rightB ar rs t) = true
 ·refine qp (t := 10) rfl (vB h1) (qq (ii (n)) rfl (qp (t := 10) rfl (vB h1) (qo (args := [ii (n), ii (0), ii (20)]) call110 rfl (l1In_spec (n := n) (a := 0) (b := 20)) ?_)))
  rintro _ _ _ _ ⟨rfl, rfl, rfl⟩
  refine cX (qU (.bool (decide (0 ≤ n ∧ n ≤ 20))) (vB h1) rfl (qg (.bool (decide (0 ≤ n ∧ n ≤ 20))) rfl (qb (qw (qs (L' := L) [.bool (decide (0 ≤ n ∧ n ≤ 20))] (.bool (decide (0 ≤ n ∧ n ≤ 20))) (.tmp rfl .nil) rfl rF rF (sD sR) ?_)))))
  exact ⟨(vB (by rw [reachOk_right]; simp_all)), rfl, rfl⟩
 rw [Bool.not_eq_true] at h1
 refine qr (t := 10) rfl (vB h1) (qr (t := 10) rfl (vB h1) (cX (qS (.bool (false)) (vB h1) rfl (qg (.bool (false)) rfl (qb (qw (qs (L' := L) [.bool (false)] (.bool (false)) (.tmp rfl .nil) rfl rF rF (sD sR) ?_)))))))
 exact ⟨(vB (by rw [reachOk_right]; simp_all)), rfl, rfl⟩

/- spec.l9Find -/
set_option maxHeartbeats 1000000 in
set_option maxRecDepth 20000 in
theorem l9Find_spec {F : FH} {L : List HP} {arv : Value} {ar : List Int} (har : IntsF F arv ar) {rsv : Value} {rs : List (List Int × List Int)} (hrs : PairsF F rsv rs) {tv : Value} {t : List Int} (ht : IntsF F tv t) {n : Int} (hsys : sysOk ar rs = true) (ho : termOk ar t = true) (hn20 : 0 ≤ n ∧ n ≤ 20) :
    Does prog 124 [.agg #[arv, rsv], tv, ii (n)] F (L) (fun v F' L' => ∃ (x1 : Value), ∃ (x2 : Value), ∃ (x3 : Value), ∃ (x4 : Value), (.agg #[x1, x2, x3, x4, .bool ((reachL ar rs t n).2)] : Value) = v ∧ (RowsF F' x1 (terms (reachL ar rs t n).1)) ∧ (IntsF F' x2 (froms (reachL ar rs t n).1)) ∧ (StepsF F' x3 (bys (reachL ar rs t n).1)) ∧ (IntsF F' x4 (deeps (reachL ar rs t n).1)) ∧ L = L') := by
 refine qL func124 rfl rfl rfl ?_
 have hnn := yb ht (by have := termOk_len ho; omega)
 have htl := termOk_len ho
 have hrl := (sysOk_iff.1 hsys).2.1
 have hsig := (sysOk_iff.1 hsys).1
 have hsl := sigOk_spec hsig
 refine qc (qa (cX (jd [arv, rsv] rfl rfl ?_)))
 intro b1
 refine cX (jc [sN, sN, sN, sN, .bool (false)] zeroValue183 rfl ?_)
 intro b2
 refine qb (qc (qa (qd (tv) rfl (cX (yf <| qo (args := [tv]) call106 rfl (l1Copy_spec ht (hlt := (by first | assumption | rfl | omega | simp))) ?_)))))
 rintro v1 _ _ _ ⟨rfl, hs1, rfl⟩
 refine ⟨_, _, rfl, fun F1 le1 hz1 => ?_⟩
 replace har := har.mono le1
 replace hrs := hrs.mono le1
 have hf1 : IntsF F1 v1 ((t)) := intsH.fz (xs := (t)) hz1.fz
 refine cX (qx (s := 1) [v1] [sN] [(0, [v1])] qM qu yi rfl (by decide) rfl (.cons (cells_one (qF hf1)) CellsAre.nil) rfl ?_)
 intro v2 hv1
 refine cX (qx (s := 1) [ii (-1)] [ii (0)] [(0, [ii (-1)])] qf qy jh rfl (by decide) rfl (.cons rfl CellsAre.nil) rfl ?_)
 intro v3 hv2
 refine cX (jg [ii (0), ii (0), sN] [ii (0), ii (0), sN] [(0, 1), (1, 1), (2, 1)] [] jm jE rfl (.cons rfl qy (.cons rfl qy (.cons rfl qu PlacesAre.nil))) rfl CellsAre.nil (cX (qx (s := 3) [ii (0), ii (0), sN] [ii (0), ii (0), sN] [(0, [ii (0), ii (0), sN])] qG ji jE rfl (by decide) rfl (.cons rfl CellsAre.nil) rfl ?_)))
 intro v4 hv3
 refine cX (qx (s := 1) [ii (0)] [ii (0)] [(0, [ii (0)])] qf qy jh rfl (by decide) rfl (.cons rfl CellsAre.nil) rfl ?_)
 intro v5 hv4
 refine cX (jg [v2, v3, v4, v5, .bool (true)] [sN, sN, sN, sN, .bool (false)] [(0, 1), (1, 1), (2, 1), (3, 1), (4, 1)] [(0, [v2]), (1, [v3]), (2, [v4]), (3, [v5]), (4, [.bool (true)])] jD zeroValue183 rfl (.cons rfl jk (.cons rfl qu (.cons rfl jj (.cons rfl qu (.cons rfl sizeOf4 PlacesAre.nil))))) rfl (.cons (cells_one (jv hv1)) (.cons (cells_one (jv hv2)) (.cons (cells_one (jv hv3)) (.cons (cells_one (jv hv4)) (.cons rfl CellsAre.nil))))) (cX (jc [sN, sN, sN, sN, .bool (false)] zeroValue183 rfl ?_)))
 intro b3
 refine cX (qC [] _ [v2, v3, v4, v5, .bool (true)] sizeOf183 rfl rfl rfl (qj (qJ (jv hv1)) (qj (qJ (jv hv2)) (qj (qJ (jv hv3)) (qj (qJ (jv hv4)) (qj rfl qK))))) rfl rfl rfl (qb (qc (qc (qa (qg (ii (0)) rfl (qb (qN ?_))))))))
 have hc1 : RowsC F1 [v1] ([(t)] : List (List Int)) := (RowsC.snoc (CO.nil : RowsC F1 [] []) hf1)
 show X _ _ _ _ _ _ (cellsH b3 [v2, v3, v4, v5, .bool (true)] 183 :: slH 2 1 v5 1 [ii (0)] :: slH 102 3 v4 1 [ii (0), ii (0), sN] :: intsH 2 v3 ([-1] : List Int) :: slH 22 1 v2 1 ([v1]) :: cellsH b2 [sN, sN, sN, sN, .bool (false)] 183 :: cellsH b1 [arv, rsv] 39 :: L)
 have hc2 : StepsC F1 [ii (0), ii (0), sN] ([(0, 0, [])] : List StepT) := (StepsC.snoc (CO.nil : StepsC F1 [] []) (i := 0) (j := 0) IntsF.nilV)
 show X _ _ _ _ _ _ (cellsH b3 [v2, v3, v4, v5, .bool (true)] 183 :: intsH 2 v5 ([0] : List Int) :: slH 102 3 v4 1 ([ii (0), ii (0), sN]) :: intsH 2 v3 ([-1] : List Int) :: slH 22 1 v2 1 ([v1]) :: cellsH b2 [sN, sN, sN, sN, .bool (false)] 183 :: cellsH b1 [arv, rsv] 39 :: L)
 refine jw (α := Nat × List FoundT × Value × RowL × List Value × Nat × Value × List Int × Value × List StepT × List Value × Nat × Value × List Int × FH) (fun xQ => [(2, ii (n)), (3, ptr b1 0), (6, ptr b2 0), (7, ptr b3 0), (8, ii (((xQ.1 : Nat) : Int)))]) (fun xQ => slH 22 1 xQ.2.2.1 xQ.2.2.2.2.2.1 xQ.2.2.2.2.1 :: intsH 2 xQ.2.2.2.2.2.2.1 xQ.2.2.2.2.2.2.2.1 :: slH 102 3 xQ.2.2.2.2.2.2.2.2.1 xQ.2.2.2.2.2.2.2.2.2.2.2.1 xQ.2.2.2.2.2.2.2.2.2.2.1 :: intsH 2 xQ.2.2.2.2.2.2.2.2.2.2.2.2.1 xQ.2.2.2.2.2.2.2.2.2.2.2.2.2.1 :: cellsH b3 [xQ.2.2.1, xQ.2.2.2.2.2.2.1, xQ.2.2.2.2.2.2.2.2.1, xQ.2.2.2.2.2.2.2.2.2.2.2.2.1, .bool (true)] 183 :: cellsH b2 [sN, sN, sN, sN, .bool (false)] 183 :: cellsH b1 [arv, rsv] 39 :: L) (fun xQ F' => xQ.2.2.2.2.2.2.2.2.2.2.2.2.2.2 = F' ∧ F1 ≤ xQ.2.2.2.2.2.2.2.2.2.2.2.2.2.2 ∧ (IsSl xQ.2.2.1) ∧ (IsSl xQ.2.2.2.2.2.2.1) ∧ (IsSl xQ.2.2.2.2.2.2.2.2.1) ∧ (IsSl xQ.2.2.2.2.2.2.2.2.2.2.2.2.1) ∧ (RowsC xQ.2.2.2.2.2.2.2.2.2.2.2.2.2.2 xQ.2.2.2.2.1 xQ.2.2.2.1) ∧ (StepsC xQ.2.2.2.2.2.2.2.2.2.2.2.2.2.2 xQ.2.2.2.2.2.2.2.2.2.2.1 xQ.2.2.2.2.2.2.2.2.2.1) ∧ (xQ.2.2.2.2.2.1 = xQ.2.2.2.1.length) ∧ (xQ.2.2.2.2.2.2.2.2.2.2.2.1 = xQ.2.2.2.2.2.2.2.2.2.1.length) ∧ (xQ.2.2.2.1 = terms xQ.2.1) ∧ (xQ.2.2.2.2.2.2.2.1 = froms xQ.2.1) ∧ (xQ.2.2.2.2.2.2.2.2.2.1 = bys xQ.2.1) ∧ (xQ.2.2.2.2.2.2.2.2.2.2.2.2.2.1 = deeps xQ.2.1) ∧ (xQ.2.1.length ≤ 60) ∧ (AllOk ar xQ.2.1) ∧ (DeepOk n xQ.2.1) ∧ (xQ.1 ≤ xQ.2.1.length) ∧ (reachL ar rs t n = reachGo ar rs n (60 - xQ.1) xQ.1 xQ.2.1)) (fun xQ => 60 - xQ.1) (0, start0 t, v2, ([(t)] : List (List Int)), [v1], 1, v3, [-1], v4, ([(0, 0, [])] : List StepT), [ii (0), ii (0), sN], 1, v5, [0], F1) ⟨rfl, rfl, rfl, rfl, rfl, ⟨⟩⟩ (qR (qX (A := [_, _, _, _, _, _])) (qR (qX (A := [_, _, _, _, _, _])) (qR (qX (A := [_, _])) (qR (qX (A := [_, _, _])) (qR (qX (A := [_, _, _, _])) (qR (qX (A := [_, _, _, _, _])) (qR (qX (A := [_, _, _, _, _, _])) (sC (sC (sC (sC (sC (sC (sC sR)))))))))))))) ⟨rfl, FLe.refl _, ((jv hv1)), ((jv hv2)), ((jv hv3)), ((jv hv4)), (hc1), (hc2), (rfl), (rfl), (rfl), (rfl), (rfl), (rfl), (by simp [start0]), (AllOk.start ho), (DeepOk.start hn20.1), (by simp), (rfl)⟩ ?_
 rintro ⟨k, os, av, ts, acs, an, bv, fs, cv, bs, ccs, cn, dv, ds, G1⟩ rE _ _ ⟨rfl, leG, hav, hbv, hcv, hdv, hA, hB, han, hcn, hts, hfs, hbs, hds, hl, hok, hdo, hk, hgo⟩
 show X _ _ _ _ (envs [(2, ii (n)), (3, ptr b1 0), (6, ptr b2 0), (7, ptr b3 0), (8, ii ((k : Int)))] rE) _ (slH 22 1 av an acs :: intsH 2 bv fs :: slH 102 3 cv cn ccs :: intsH 2 dv ds :: cellsH b3 [av, bv, cv, dv, .bool (true)] 183 :: cellsH b2 [sN, sN, sN, sN, .bool (false)] 183 :: cellsH b1 [arv, rsv] 39 :: L)
 replace leG : F1 ≤ G1 := leG
 dsimp only at hav hbv hcv hdv hA hB han hcn hts hfs hbs hds hl hok hdo hk hgo
 have htl9 : ts.length = os.length := by rw [hts]; exact terms_len
 have hfl9 : fs.length = os.length := by rw [hfs]; exact froms_len
 have hbl9 : bs.length = os.length := by rw [hbs]; exact bys_len
 have hdl9 : ds.length = os.length := by rw [hds]; exact deeps_len
 have hdk := fun (h : k < os.length) => hok k h
 have hdl := fun (h : k < os.length) => termOk_len (hok k h)
 have hEt : ts.getD k [] = (EL os k).1 := by rw [hts]; exact terms_get k
 have hEd := fun (h : k < os.length) => (show ds.getD k 0 = (EL os k).2.2.2 from by rw [hds]; exact deeps_get h)
 have leG1 := leG
 replace har := har.mono leG1
 replace hrs := hrs.mono leG1
 refine qc (qc (qa (qd (ii ((k : Int))) rfl (cX (qk (0) jD rfl jk (by decide) rfl rfl (cX (ql jJ rfl (Rd.own [_, _, _, _] rfl rfl) (cX (qD qM rfl (SlV.own [] rfl) (cX (jf rfl rfl (qb ?_))))))))))))
 refine qE (p := (k : Int) < ((an : Nat) : Int)) rfl (fun h1 => ?_) (fun h1 => ?_)
 ·refine qz (qc (qN (qc (qc (qa (cX (qk (3) jD rfl qu (by decide) rfl rfl (cX (ql qZ rfl (Rd.own [_, _, _, _] rfl rfl) (qd (ii ((k : Int))) rfl (cX (qB k qf qy rfl rfl rfl (intsH.slv [_, _, _] rfl) (by omega) (Nat.mul_one _) (cX (ql jt rfl (intsH.rd [_, _, _] rfl (by omega)) (qd (ii (n)) rfl (cX (jR rfl rfl (qb ?_))))))))))))))))))
  refine qE (p := (ds.getD k 0 : Int) = n) rfl (fun h2 => ?_) (fun h2 => ?_)
  ·have hdeep : (EL os k).2.2.2 = n := by rw [← hEd (by omega)]; exact h2
   refine jo (qt (qO (qa (qd (ii ((k : Int))) rfl (cX (qP (((k + 1 : Nat) : Int)) rfl rfl (by omega) (by omega) (qg (ii (((k + 1 : Nat) : Int))) rfl (qb ?_))))))))
   exact ⟨(k + 1, os, av, ts, acs, an, bv, fs, cv, bs, ccs, cn, dv, ds, G1), _, leG1, rF, ⟨rfl, rfl, rfl, rfl, rfl, ⟨⟩⟩, (sC (sC (sC (sC (sC (sC (sC sR))))))), ⟨rfl, leG1, (hav), (hbv), (hcv), (hdv), (hA), (hB), (han), (hcn), (hts), (hfs), (hbs), (hds), (hl), (hok), (hdo), (by (try dsimp only) <;> omega), (by (try dsimp only); exact hgo.trans (reach_same (f := 60 - k - 1) (by omega) (by omega) hdeep))⟩, (by (try dsimp only); omega)⟩
  have hdeep : (EL os k).2.2.2 ≠ n := by rw [← hEd (by omega)]; exact h2
  refine qz (qc ?_)
  obtain ⟨a1, ha1, he1⟩ := hA.get (i := k) (by omega)
  refine jY [slH 22 1 av an acs, intsH 2 bv fs, slH 102 3 cv cn ccs, intsH 2 dv ds, cellsH b3 [av, bv, cv, dv, .bool (true)] 183, cellsH b2 [sN, sN, sN, sN, .bool (false)] 183, cellsH b1 [arv, rsv] 39] L 6 [] [[], [], [1], [], [2, 3], [4]] (phiL [qe (.agg #[arv, rsv]), qe (ptr b3 0), qe av, qe (ii ((k : Int)) : Value), qe (.pointer (some (elemA av (k)))), qe a1]) (ownL []) mixed rfl rfl (by kernel_rfl) ?_ ?_
  ·refine pD (fun W R z9 => ?_) ?_
   ·refine qi (qn [arv, rsv] jr jl rfl rfl (Rd.ownN [_, _, _, _, _, _] rfl rfl) ?_)
    exact ⟨rfl, rfl, rfl⟩
   refine pD (fun W R z9 => ?_) ?_
   ·refine qi (qk (0) jD rfl jk (by decide) rfl rfl ?_)
    exact ⟨rfl, rfl, rfl⟩
   refine pD (fun W R z9 => ?_) ?_
   ·rw [eS (l := [(1, _)]) ⟨z9 1 rfl, ⟨⟩⟩]
    refine qi (ql jJ rfl (Rd.own [_, _, _, _] rfl rfl) ?_)
    exact ⟨rfl, rfl, rfl⟩
   refine pD (fun W R z9 => ?_) ?_
   ·refine qi (qq (ii ((k : Int))) rfl ?_)
    exact ⟨rfl, rfl, rfl⟩
   refine pD (fun W R z9 => ?_) ?_
   ·rw [eS (l := [(2, _), (3, _)]) ⟨z9 2 rfl, z9 3 rfl, ⟨⟩⟩]
    refine qi (qB k qM qu rfl rfl rfl (SlV.own [] rfl) (by omega) (Nat.mul_one _) ?_)
    exact ⟨rfl, rfl, rfl⟩
   refine pD (fun W R z9 => ?_) ?_
   ·rw [eS (l := [(4, _)]) ⟨z9 4 rfl, ⟨⟩⟩]
    refine qi (ql qZ rfl (Rd.sl [] rfl he1) ?_)
    exact ⟨rfl, rfl, rfl⟩
   exact stepsP.nil
  intro W hphi
  rw [eS (l := [(0, _), (5, _)]) ⟨(hphi 0 (by decide)), (hphi 5 (by decide)), ⟨⟩⟩]
  show XL _ _ _ _ _ _ _ (slH 22 1 av an acs :: intsH 2 bv fs :: slH 102 3 cv cn ccs :: intsH 2 dv ds :: cellsH b3 [av, bv, cv, dv, .bool (true)] 183 :: cellsH b2 [sN, sN, sN, sN, .bool (false)] 183 :: cellsH b1 [arv, rsv] 39 :: L)
  refine cX (qo (args := [.agg #[arv, rsv], a1]) call219 rfl (l7Steps_spec har hrs ha1 (hsys := (hsys)) (ho := (by rw [hEt]; exact hdk (by omega)))) ?_)
  rintro _ F2 _ le2 ⟨x1, rfl, hr1, rfl⟩
  replace hA := hA.mono le2
  replace hB := hB.mono le2
  refine qg (x1) rfl (qb (qc (qa ?_)))
  have hk7 : k < os.length := by omega
  obtain ⟨nx, hnx⟩ : ∃ nx, stepsL ar rs (ts.getD k []) = nx := ⟨_, rfl⟩
  rw [hnx] at hr1
  obtain ⟨os0, hos0⟩ : ∃ o, o = os := ⟨_, rfl⟩
  have hdeep0 := hdeep
  have hgo0 := hgo
  rw [← hos0] at hdeep0 hgo0
  have hnx0 : stepsL ar rs (EL os0 k).1 = nx := by rw [hos0, ← hEt]; exact hnx
  have hdk0 := hdk hk7
  have hdo0 := hdo k hk7
  have hl0 : os0.length ≤ 60 := by rw [hos0]; exact hl
  rw [← hos0] at hdk0 hdo0
  have hk70 := hk7
  rw [← hos0] at hk70
  have hnxo : ∀ i, i < nx.length → termOk ar (nx.getD i (0, 0, [])).2.2 = true := fun i hi => by rw [← hnx0] at hi ⊢; exact steps_ok hsys hdk0 hi
  have hnxl : nx.length ≤ 1000 := by have h9 := stepsTo_len (ar := ar) (t := (EL os0 k).1) (rs := rs) hrl (EL os0 k).1.length; have h8 := termOk_len hdk0; rw [← hnx0]; show (stepsTo ar rs (EL os0 k).1 (EL os0 k).1.length).length ≤ 1000; omega
  skip
  refine qg (ii (0)) rfl (qb (qN (jw (α := Nat × List FoundT × Value × RowL × List Value × Nat × Value × List Int × Value × List StepT × List Value × Nat × Value × List Int × FH) (fun xQ => [(2, ii (n)), (3, ptr b1 0), (6, ptr b2 0), (7, ptr b3 0), (8, ii ((k : Int))), (9, x1), (10, ii (((xQ.1 : Nat) : Int)))]) (fun xQ => slH 22 1 xQ.2.2.1 xQ.2.2.2.2.2.1 xQ.2.2.2.2.1 :: intsH 2 xQ.2.2.2.2.2.2.1 xQ.2.2.2.2.2.2.2.1 :: slH 102 3 xQ.2.2.2.2.2.2.2.2.1 xQ.2.2.2.2.2.2.2.2.2.2.2.1 xQ.2.2.2.2.2.2.2.2.2.2.1 :: intsH 2 xQ.2.2.2.2.2.2.2.2.2.2.2.2.1 xQ.2.2.2.2.2.2.2.2.2.2.2.2.2.1 :: cellsH b3 [xQ.2.2.1, xQ.2.2.2.2.2.2.1, xQ.2.2.2.2.2.2.2.2.1, xQ.2.2.2.2.2.2.2.2.2.2.2.2.1, .bool (true)] 183 :: cellsH b2 [sN, sN, sN, sN, .bool (false)] 183 :: cellsH b1 [arv, rsv] 39 :: L) (fun xQ F' => xQ.2.2.2.2.2.2.2.2.2.2.2.2.2.2 = F' ∧ F2 ≤ xQ.2.2.2.2.2.2.2.2.2.2.2.2.2.2 ∧ (IsSl xQ.2.2.1) ∧ (IsSl xQ.2.2.2.2.2.2.1) ∧ (IsSl xQ.2.2.2.2.2.2.2.2.1) ∧ (IsSl xQ.2.2.2.2.2.2.2.2.2.2.2.2.1) ∧ (RowsC xQ.2.2.2.2.2.2.2.2.2.2.2.2.2.2 xQ.2.2.2.2.1 xQ.2.2.2.1) ∧ (StepsC xQ.2.2.2.2.2.2.2.2.2.2.2.2.2.2 xQ.2.2.2.2.2.2.2.2.2.2.1 xQ.2.2.2.2.2.2.2.2.2.1) ∧ (xQ.2.2.2.2.2.1 = xQ.2.2.2.1.length) ∧ (xQ.2.2.2.2.2.2.2.2.2.2.2.1 = xQ.2.2.2.2.2.2.2.2.2.1.length) ∧ (xQ.2.2.2.1 = terms xQ.2.1) ∧ (xQ.2.2.2.2.2.2.2.1 = froms xQ.2.1) ∧ (xQ.2.2.2.2.2.2.2.2.2.1 = bys xQ.2.1) ∧ (xQ.2.2.2.2.2.2.2.2.2.2.2.2.2.1 = deeps xQ.2.1) ∧ (xQ.2.1.length ≤ 60) ∧ (AllOk ar xQ.2.1) ∧ (DeepOk n xQ.2.1) ∧ (xQ.1 ≤ nx.length) ∧ (k < xQ.2.1.length) ∧ (EL xQ.2.1 k = EL os0 k) ∧ (addGo (k : Int) (EL os0 k).2.2.2 nx os0 = addGo (k : Int) (EL os0 k).2.2.2 (nx.drop xQ.1) xQ.2.1)) (fun xQ => nx.length - xQ.1) (0, os, av, ts, acs, an, bv, fs, cv, bs, ccs, cn, dv, ds, F2) ⟨rfl, rfl, rfl, rfl, rfl, rfl, rfl, ⟨⟩⟩ (sC (sC (sC (sC (sC (sC (sC sR))))))) ⟨rfl, FLe.refl _, (hav), (hbv), (hcv), (hdv), (hA), (hB), (han), (hcn), (hts), (hfs), (hbs), (hds), (hl), (hok), (hdo), (by (try dsimp only) <;> omega), (by (try dsimp only); omega), (by (try dsimp only); rw [hos0]), (by (try dsimp only); rw [hos0]; rfl)⟩ ?_)))
  rintro ⟨q, os, av, ts, acs, an, bv, fs, cv, bs, ccs, cn, dv, ds, G2⟩ rE _ _ ⟨rfl, leG, havi, hbvi, hcvi, hdvi, hAi, hBi, hani, hcni, htsi, hfsi, hbsi, hdsi, hli, hoki, hdoi, hq, hkp, hel, hgoi⟩
  show X _ _ _ _ (envs [(2, ii (n)), (3, ptr b1 0), (6, ptr b2 0), (7, ptr b3 0), (8, ii ((k : Int))), (9, x1), (10, ii ((q : Int)))] rE) _ (slH 22 1 av an acs :: intsH 2 bv fs :: slH 102 3 cv cn ccs :: intsH 2 dv ds :: cellsH b3 [av, bv, cv, dv, .bool (true)] 183 :: cellsH b2 [sN, sN, sN, sN, .bool (false)] 183 :: cellsH b1 [arv, rsv] 39 :: L)
  replace leG : F2 ≤ G2 := leG
  dsimp only at havi hbvi hcvi hdvi hAi hBi hani hcni htsi hfsi hbsi hdsi hli hoki hdoi hq hkp hel hgoi
  have htl9i : ts.length = os.length := by rw [htsi]; exact terms_len
  have hfl9i : fs.length = os.length := by rw [hfsi]; exact froms_len
  have hbl9i : bs.length = os.length := by rw [hbsi]; exact bys_len
  have hdl9i : ds.length = os.length := by rw [hdsi]; exact deeps_len
  have hsok := fun (h : q < nx.length) => termOk_len (hnxo q h)
  have hdk9 : ds.getD k 0 = (EL os0 k).2.2.2 := by rw [hdsi, deeps_get hkp, hel]
  have leG2 := leG
  replace hA := hA.mono leG2
  replace hB := hB.mono leG2
  replace hr1 := hr1.mono leG2
  refine qc (qc (qa (qd (ii ((q : Int))) rfl (qd (x1) rfl (cX (qD qG rfl hr1.slv (cX (jf rfl rfl (qb ?_)))))))))
  refine qE (p := (q : Int) < (nx.length : Int)) rfl (fun h3 => ?_) (fun h3 => ?_)
  ·refine qz (qc (qN (qc (qc ?_))))
   obtain ⟨a2, ha2, hr2, hr3, hr4⟩ := hr1.rd (i := q) (by omega)
   refine jY [slH 22 1 av an acs, intsH 2 bv fs, slH 102 3 cv cn ccs, intsH 2 dv ds, cellsH b3 [av, bv, cv, dv, .bool (true)] 183, cellsH b2 [sN, sN, sN, sN, .bool (false)] 183, cellsH b1 [arv, rsv] 39] L 7 [] [[], [0], [], [], [2, 3], [4], [5]] (phiL [qe (ptr b3 0), qe av, qe x1, qe (ii ((q : Int)) : Value), qe (.pointer (some (elemA x1 (q * 3)))), qe (.pointer (some (elemA x1 (q * 3 + 2)))), qe a2]) (ownL []) mixed rfl rfl (by kernel_rfl) ?_ ?_
   ·refine pD (fun W R z9 => ?_) ?_
    ·refine qi (qk (0) jD rfl jk (by decide) rfl rfl ?_)
     exact ⟨rfl, rfl, rfl⟩
    refine pD (fun W R z9 => ?_) ?_
    ·rw [eS (l := [(0, _)]) ⟨z9 0 rfl, ⟨⟩⟩]
     refine qi (ql jJ rfl (Rd.own [_, _, _, _] rfl rfl) ?_)
     exact ⟨rfl, rfl, rfl⟩
    refine pD (fun W R z9 => ?_) ?_
    ·refine qi (qq (x1) rfl ?_)
     exact ⟨rfl, rfl, rfl⟩
    refine pD (fun W R z9 => ?_) ?_
    ·refine qi (qq (ii ((q : Int))) rfl ?_)
     exact ⟨rfl, rfl, rfl⟩
    refine pD (fun W R z9 => ?_) ?_
    ·rw [eS (l := [(2, _), (3, _)]) ⟨z9 2 rfl, z9 3 rfl, ⟨⟩⟩]
     refine qi (qB q qG ji rfl rfl rfl hr1.slv (by omega) rfl ?_)
     exact ⟨rfl, rfl, rfl⟩
    refine pD (fun W R z9 => ?_) ?_
    ·rw [eS (l := [(4, _)]) ⟨z9 4 rfl, ⟨⟩⟩]
     refine qi (jW (q * 3 + 2) jm rfl qu (by decide) rfl rfl ?_)
     exact ⟨rfl, rfl, rfl⟩
    refine pD (fun W R z9 => ?_) ?_
    ·rw [eS (l := [(5, _)]) ⟨z9 5 rfl, ⟨⟩⟩]
     refine qi (ql qZ rfl (hr4 _) ?_)
     exact ⟨rfl, rfl, rfl⟩
    exact stepsP.nil
   intro W hphi
   rw [eS (l := [(1, _), (6, _)]) ⟨(hphi 1 (by decide)), (hphi 6 (by decide)), ⟨⟩⟩]
   show XL _ _ _ _ _ _ _ (slH 22 1 av an acs :: intsH 2 bv fs :: slH 102 3 cv cn ccs :: intsH 2 dv ds :: cellsH b3 [av, bv, cv, dv, .bool (true)] 183 :: cellsH b2 [sN, sN, sN, sN, .bool (false)] 183 :: cellsH b1 [arv, rsv] 39 :: L)
   refine cX (XOp.lend [] _ _ rfl (fun F3 le3 hz2 => ?_))
   have hf2 : RowsF _ av ts := (CO.fz (RowsC.mono hAi (qh le3 rF)) (by first | rfl | assumption | omega | (rw [List.length_append]; simp only [List.length_singleton]; omega)) hz2 : RowsF _ av ts)
   refine id (qo (args := [av, a2]) call221 rfl (l1TermPlace_spec hf2 ((ha2.mono le3)) (hlt := (by omega)) (htb := (fun i hi => by rw [htsi, terms_get]; have := termOk_len (hoki i (by omega)); omega)) (hlx := (by have := hsok (by omega); omega))) ?_)
   rintro _ _ _ _ ⟨rfl, rfl, rfl⟩
   show XL _ _ _ _ _ _ _ (slH 22 1 av an acs :: intsH 2 bv fs :: slH 102 3 cv cn ccs :: intsH 2 dv ds :: cellsH b3 [av, bv, cv, dv, .bool (true)] 183 :: cellsH b2 [sN, sN, sN, sN, .bool (false)] 183 :: cellsH b1 [arv, rsv] 39 :: L)
   refine cX (ye rfl rfl (qb ?_))
   refine qE (p := (badG (fun y => !decide (y = ((nx.getD q (0, 0, [])).2.2))) ts : Int) ≥ 0) rfl (fun h4 => ?_) (fun h4 => ?_)
   ·have hbg : badG (fun y => !decide (y = (nx.getD q (0, 0, [])).2.2)) ts = foundI os (nx.getD q (0, 0, [])).2.2 := by rw [htsi]; exact foundI_terms
    have hin : isIn os (nx.getD q (0, 0, [])).2.2 = true := foundI_iff.1 (by rw [← hbg]; exact h4)
    refine jo (qt (qO (qa (qd (ii ((q : Int))) rfl (cX (qP (((q + 1 : Nat) : Int)) rfl rfl (by omega) (by omega) (qg (ii (((q + 1 : Nat) : Int))) rfl (qb ?_))))))))
    exact ⟨(q + 1, os, av, ts, acs, an, bv, fs, cv, bs, ccs, cn, dv, ds, G2), _, leG2, rF, ⟨rfl, rfl, rfl, rfl, rfl, rfl, rfl, ⟨⟩⟩, (sC (sC (sC (sC (sC (sC (sC sR))))))), ⟨rfl, leG2, (havi), (hbvi), (hcvi), (hdvi), (hAi), (hBi), (hani), (hcni), (htsi), (hfsi), (hbsi), (hdsi), (hli), (hoki), (hdoi), (by (try dsimp only) <;> omega), (hkp), (hel), (by (try dsimp only); exact hgoi.trans (add_in (by omega) hin))⟩, (by omega)⟩
   have hbg : badG (fun y => !decide (y = (nx.getD q (0, 0, [])).2.2)) ts = foundI os (nx.getD q (0, 0, [])).2.2 := by rw [htsi]; exact foundI_terms
   have hnin : isIn os (nx.getD q (0, 0, [])).2.2 = false := by rw [Bool.eq_false_iff]; intro h9; exact absurd (foundI_iff.2 h9) (by rw [← hbg]; exact h4)
   refine qz (qc (qc (qa (cX (qk (0) jD rfl jk (by decide) rfl rfl (cX (ql jJ rfl (Rd.own [_, _, _, _] rfl rfl) (cX (qD qM rfl (SlV.own [] rfl) (cX (jR rfl rfl (qb ?_))))))))))))
   refine qE (p := (((an : Nat) : Int) : Int) = 60) rfl (fun h5 => ?_) (fun h5 => ?_)
   ·refine qc (qa (cX (qk (4) jD rfl sizeOf4 (by decide) rfl rfl (cX (jK [_, _, _, _] _ [av, bv, cv, dv, .bool (false)] sizeOf4 rfl rfl rfl rfl rfl rfl (qb (qc (qa (cX (qn [av, bv, cv, dv, .bool (false)] isAgg183 sizeOf183 rfl rfl (Rd.ownN [_, _, _, _] rfl rfl) (cX (qC [_, _, _, _, _] _ [av, bv, cv, dv, .bool (false)] sizeOf183 rfl rfl rfl (qj (qJ havi) (qj (qJ hbvi) (qj (qJ hcvi) (qj (qJ hdvi) (qj rfl qK))))) rfl rfl rfl (qb (je [] _ _ rfl (fun F4 le4 hz3 => ?_)))))))))))))))
    replace hA := hA.mono le4
    replace hB := hB.mono le4
    replace hr1 := hr1.mono le4
    replace hAi := hAi.mono le4
    replace hBi := hBi.mono le4
    replace ha2 := ha2.mono le4
    replace hr2 := Rd.monoA hr2 le4
    replace hr3 := Rd.monoA hr3 le4
    replace hr4 := Rd.monoA hr4 le4
    have hf3 : RowsF F4 av ts := CO.fz hAi (by first | rfl | omega | (rw [List.length_set]; omega) | (simp; done)) hz3.fz
    refine je [] _ _ rfl (fun F5 le5 hz4 => ?_)
    replace hA := hA.mono le5
    replace hB := hB.mono le5
    replace hr1 := hr1.mono le5
    replace hAi := hAi.mono le5
    replace hBi := hBi.mono le5
    replace ha2 := ha2.mono le5
    replace hf3 := hf3.mono le5
    replace hr2 := Rd.monoA hr2 le5
    replace hr3 := Rd.monoA hr3 le5
    replace hr4 := Rd.monoA hr4 le5
    have hf4 : IntsF F5 bv fs := intsH.fz (xs := fs) hz4.fz
    refine je [] _ _ rfl (fun F6 le6 hz5 => ?_)
    replace hA := hA.mono le6
    replace hB := hB.mono le6
    replace hr1 := hr1.mono le6
    replace hAi := hAi.mono le6
    replace hBi := hBi.mono le6
    replace ha2 := ha2.mono le6
    replace hf3 := hf3.mono le6
    replace hf4 := hf4.mono le6
    replace hr2 := Rd.monoA hr2 le6
    replace hr3 := Rd.monoA hr3 le6
    replace hr4 := Rd.monoA hr4 le6
    have hf5 : StepsF F6 cv bs := CO.fz hBi (by first | rfl | omega | (rw [List.length_set]; omega) | (simp; done)) hz5.fz
    refine je [] _ _ rfl (fun F7 le7 hz6 => ?_)
    replace hA := hA.mono le7
    replace hB := hB.mono le7
    replace hr1 := hr1.mono le7
    replace hAi := hAi.mono le7
    replace hBi := hBi.mono le7
    replace ha2 := ha2.mono le7
    replace hf3 := hf3.mono le7
    replace hf4 := hf4.mono le7
    replace hf5 := hf5.mono le7
    replace hr2 := Rd.monoA hr2 le7
    replace hr3 := Rd.monoA hr3 le7
    replace hr4 := Rd.monoA hr4 le7
    have hf6 : IntsF F7 dv ds := intsH.fz (xs := ds) hz6.fz
    refine qw (qm (qI (qm (qm (qI (qI (qm (qm (qI (qm (qs (L' := L) [.agg #[av, bv, cv, dv, .bool (false)]] (.agg #[av, bv, cv, dv, .bool (false)]) (.cell rfl (jx [av, bv, cv, dv, .bool (false)] isAgg183 sizeOf183 rfl (Rd.ownN [_] rfl rfl)) .nil) rfl (qh (qh (qh (qh (qh (qh (qh le1 leG1) le2) leG2) le4) le5) le6) le7) rF (sD (sD (sD sR))) ?_)))))))))))
    have h9 := hgoi.trans (add_full (by omega) hnin (by omega))
    have h8 := reach_stop (ar := ar) (rs := rs) (n := n) (f := 60 - k - 1) hk70 (by omega) hdeep0 (by rw [hnx0, h9])
    rw [hnx0, h9] at h8
    have e9 : reachL ar rs t n = (os, false) := hgo0.trans h8
    rw [e9]
    exact ⟨_, _, _, _, rfl, by rw [← htsi]; exact hf3, by rw [← hfsi]; exact hf4, by rw [← hbsi]; exact hf5, by rw [← hdsi]; exact hf6, rfl⟩
   refine qz (qc ?_)
   refine jY [slH 22 1 av an acs, intsH 2 bv fs, slH 102 3 cv cn ccs, intsH 2 dv ds, cellsH b3 [av, bv, cv, dv, .bool (true)] 183, cellsH b2 [sN, sN, sN, sN, .bool (false)] 183, cellsH b1 [arv, rsv] 39] L 8 [] [[], [0], [], [], [2, 3], [4], [5], [6]] (phiL [qe (ptr b3 0), qe av, qe x1, qe (ii ((q : Int)) : Value), qe (.pointer (some (elemA x1 (q * 3)))), qe (.pointer (some (elemA x1 (q * 3 + 2)))), qe a2, fun us v => ∃ b, v = .slice (some ⟨b, 0, none⟩) 1 1]) (ownL [o0, o0, o0, o0, o0, o0, o0, fun us v => [slH 22 1 v 1 [a2]]]) mixed rfl rfl (by kernel_rfl) ?_ ?_
   ·refine pD (fun W R z9 => ?_) ?_
    ·refine qi (qk (0) jD rfl jk (by decide) rfl rfl ?_)
     exact ⟨rfl, rfl, rfl⟩
    refine pD (fun W R z9 => ?_) ?_
    ·rw [eS (l := [(0, _)]) ⟨z9 0 rfl, ⟨⟩⟩]
     refine qi (ql jJ rfl (Rd.own [_, _, _, _] rfl rfl) ?_)
     exact ⟨rfl, rfl, rfl⟩
    refine pD (fun W R z9 => ?_) ?_
    ·refine qi (qq (x1) rfl ?_)
     exact ⟨rfl, rfl, rfl⟩
    refine pD (fun W R z9 => ?_) ?_
    ·refine qi (qq (ii ((q : Int))) rfl ?_)
     exact ⟨rfl, rfl, rfl⟩
    refine pD (fun W R z9 => ?_) ?_
    ·rw [eS (l := [(2, _), (3, _)]) ⟨z9 2 rfl, z9 3 rfl, ⟨⟩⟩]
     refine qi (qB q qG ji rfl rfl rfl hr1.slv (by omega) rfl ?_)
     exact ⟨rfl, rfl, rfl⟩
    refine pD (fun W R z9 => ?_) ?_
    ·rw [eS (l := [(4, _)]) ⟨z9 4 rfl, ⟨⟩⟩]
     refine qi (jW (q * 3 + 2) jm rfl qu (by decide) rfl rfl ?_)
     exact ⟨rfl, rfl, rfl⟩
    refine pD (fun W R z9 => ?_) ?_
    ·rw [eS (l := [(5, _)]) ⟨z9 5 rfl, ⟨⟩⟩]
     refine qi (ql qZ rfl (hr4 _) ?_)
     exact ⟨rfl, rfl, rfl⟩
    refine pD (fun W R z9 => ?_) ?_
    ·rw [eS (l := [(6, _)]) ⟨z9 6 rfl, ⟨⟩⟩]
     refine qi (qx (s := 1) [a2] [sN] [(0, [a2])] qM qu yi rfl (by decide) rfl (.cons (cells_one (qF ha2)) CellsAre.nil) rfl ?_)
     intro v7 hv6
     exact ⟨rfl, hv6, rfl⟩
    exact stepsP.nil
   intro W hphi
   have f7 : ∃ b, (W 7) = .slice (some ⟨b, 0, none⟩) 1 1 := hphi 7 (by decide)
   generalize hu7 : W 7 = u1 at f7
   rw [eS (l := [(1, _), (7, u1)]) ⟨(hphi 1 (by decide)), hu7, ⟨⟩⟩]
   show XL _ _ _ _ _ _ _ (slH 22 1 u1 1 [a2] :: slH 22 1 av an acs :: intsH 2 bv fs :: slH 102 3 cv cn ccs :: intsH 2 dv ds :: cellsH b3 [av, bv, cv, dv, .bool (true)] 183 :: cellsH b2 [sN, sN, sN, sN, .bool (false)] 183 :: cellsH b1 [arv, rsv] 39 :: L)
   refine cX (jV (m := 1) (bytes := 24) (cs := acs) [_] _ [a2] qM typeInfo22 rfl rfl rfl rfl rfl rfl rfl (SlV.own [] rfl) rfl (Rd.lit [] rfl) (qj (qJ (qF ha2)) qK) (by (try simp only [List.length_append, List.length_nil, List.length_cons, List.length_singleton]); omega) (by (try simp only [List.length_append, List.length_nil, List.length_cons, List.length_singleton]); omega) ?_)
   intro v8 hs2 hn1 hm1
   have hc3 := RowsC.snoc hAi ha2
   refine cX (qk (0) jD rfl jk (by decide) rfl rfl (cX (jK [_, _, _, _, _] _ [v8, bv, cv, dv, .bool (true)] jk rfl rfl (qJ hs2) rfl rfl rfl (qb (qc (qa (cX (qk (1) jD rfl qu (by decide) rfl rfl (cX (ql qZ rfl (Rd.own [_, _, _, _, _] rfl rfl) (qd (ii ((k : Int))) rfl (cX (qx (s := 1) [ii ((k : Int))] [ii (0)] [(0, [ii ((k : Int))])] qf qy jh rfl (by decide) rfl (.cons rfl CellsAre.nil) rfl ?_)))))))))))))
   intro v9 hv7
   refine cX (XOp.append1 (u := (k : Int)) [_, _, _] _ qf typeInfo2 rfl rfl rfl rfl rfl rfl (SlV.own [] rfl) (Rd.sl [] rfl rfl) (by (try simp only [List.length_append, List.length_nil, List.length_cons, List.length_singleton, List.length_take, List.length_drop]); omega) ?_)
   intro v10 hs3 hn2
   refine cX (qk (1) jD rfl qu (by decide) rfl rfl (cX (jK [_, _, _, _, _, _] _ [v8, v10, cv, dv, .bool (true)] qu rfl rfl (qJ hs3) rfl rfl rfl (qb (qc ?_)))))
   refine jY [slH 2 1 v9 1 [ii ((k : Int))], slH 22 1 u1 1 [a2], slH 22 1 v8 ((an) + 1) (acs ++ [a2]), intsH 2 v10 (fs ++ [(k : Int)]), slH 102 3 cv cn ccs, intsH 2 dv ds, cellsH b3 [v8, v10, cv, dv, .bool (true)] 183, cellsH b2 [sN, sN, sN, sN, .bool (false)] 183, cellsH b1 [arv, rsv] 39] L 7 [] [[], [0], [], [], [2, 3], [4], [5]] (phiL [qe (ptr b3 2), qe cv, qe x1, qe (ii ((q : Int)) : Value), qe (.pointer (some (elemA x1 (q * 3)))), qe (.agg #[ii ((nx.getD q (0, 0, [])).1), ii ((nx.getD q (0, 0, [])).2.1), a2]), fun us v => ∃ b, v = .slice (some ⟨b, 0, none⟩) 1 1]) (ownL [o0, o0, o0, o0, o0, o0, fun us v => [slH 102 3 v 1 [ii ((nx.getD q (0, 0, [])).1), ii ((nx.getD q (0, 0, [])).2.1), a2]]]) mixed rfl rfl (by kernel_rfl) ?_ ?_
   ·refine pD (fun W R z9 => ?_) ?_
    ·refine qi (qk (2) jD rfl jj (by decide) rfl rfl ?_)
     exact ⟨rfl, rfl, rfl⟩
    refine pD (fun W R z9 => ?_) ?_
    ·rw [eS (l := [(0, _)]) ⟨z9 0 rfl, ⟨⟩⟩]
     refine qi (ql jL rfl (Rd.own [_, _, _, _, _, _] rfl rfl) ?_)
     exact ⟨rfl, rfl, rfl⟩
    refine pD (fun W R z9 => ?_) ?_
    ·refine qi (qq (x1) rfl ?_)
     exact ⟨rfl, rfl, rfl⟩
    refine pD (fun W R z9 => ?_) ?_
    ·refine qi (qq (ii ((q : Int))) rfl ?_)
     exact ⟨rfl, rfl, rfl⟩
    refine pD (fun W R z9 => ?_) ?_
    ·rw [eS (l := [(2, _), (3, _)]) ⟨z9 2 rfl, z9 3 rfl, ⟨⟩⟩]
     refine qi (qB q qG ji rfl rfl rfl hr1.slv (by omega) rfl ?_)
     exact ⟨rfl, rfl, rfl⟩
    refine pD (fun W R z9 => ?_) ?_
    ·rw [eS (l := [(4, _)]) ⟨z9 4 rfl, ⟨⟩⟩]
     refine qi (qn [ii ((nx.getD q (0, 0, [])).1), ii ((nx.getD q (0, 0, [])).2.1), a2] yl ji rfl rfl (Rd.three (hr2 _) (hr3 _) (hr4 _)) ?_)
     exact ⟨rfl, rfl, rfl⟩
    refine pD (fun W R z9 => ?_) ?_
    ·rw [eS (l := [(5, _)]) ⟨z9 5 rfl, ⟨⟩⟩]
     refine qi (qx (s := 3) [ii ((nx.getD q (0, 0, [])).1), ii ((nx.getD q (0, 0, [])).2.1), a2] [ii (0), ii (0), sN] [(0, [ii ((nx.getD q (0, 0, [])).1), ii ((nx.getD q (0, 0, [])).2.1), a2])] qG ji jE rfl (by decide) rfl (.cons rfl CellsAre.nil) rfl ?_)
     intro v12 hv9
     exact ⟨rfl, hv9, rfl⟩
    exact stepsP.nil
   intro W hphi
   have f6 : ∃ b, (W 6) = .slice (some ⟨b, 0, none⟩) 1 1 := hphi 6 (by decide)
   generalize hu6 : W 6 = u2 at f6
   rw [eS (l := [(1, _), (6, u2)]) ⟨(hphi 1 (by decide)), hu6, ⟨⟩⟩]
   show XL _ _ _ _ _ _ _ (slH 102 3 u2 1 [ii ((nx.getD q (0, 0, [])).1), ii ((nx.getD q (0, 0, [])).2.1), a2] :: slH 2 1 v9 1 [ii ((k : Int))] :: slH 22 1 u1 1 [a2] :: slH 22 1 v8 ((an) + 1) (acs ++ [a2]) :: intsH 2 v10 (fs ++ [(k : Int)]) :: slH 102 3 cv cn ccs :: intsH 2 dv ds :: cellsH b3 [v8, v10, cv, dv, .bool (true)] 183 :: cellsH b2 [sN, sN, sN, sN, .bool (false)] 183 :: cellsH b1 [arv, rsv] 39 :: L)
   refine cX (jV (m := 1) (bytes := 40) (cs := ccs) [_, _, _, _, _] _ [ii ((nx.getD q (0, 0, [])).1), ii ((nx.getD q (0, 0, [])).2.1), a2] qG typeInfo102 rfl rfl rfl rfl rfl rfl rfl (SlV.own [] rfl) rfl (Rd.lit [] rfl) (qj rfl (qj rfl (qj (qJ (qF ha2)) qK))) (by (try simp only [List.length_append, List.length_nil, List.length_cons, List.length_singleton]); omega) (by (try simp only [List.length_append, List.length_nil, List.length_cons, List.length_singleton]); omega) ?_)
   intro v13 hs4 hn3 hm2
   have hc4 := StepsC.snoc hBi (i := (nx.getD q (0, 0, [])).1) (j := (nx.getD q (0, 0, [])).2.1) ha2
   refine cX (qk (2) jD rfl jj (by decide) rfl rfl (cX (jK [_, _, _, _, _, _, _] _ [v8, v10, v13, dv, .bool (true)] jj rfl rfl (qJ hs4) rfl rfl rfl (qb ?_))))
   refine jY [slH 102 3 u2 1 [ii ((nx.getD q (0, 0, [])).1), ii ((nx.getD q (0, 0, [])).2.1), a2], slH 2 1 v9 1 [ii ((k : Int))], slH 22 1 u1 1 [a2], slH 22 1 v8 ((an) + 1) (acs ++ [a2]), intsH 2 v10 (fs ++ [(k : Int)]), slH 102 3 v13 ((cn) + 1) (ccs ++ [ii ((nx.getD q (0, 0, [])).1), ii ((nx.getD q (0, 0, [])).2.1), a2]), intsH 2 dv ds, cellsH b3 [v8, v10, v13, dv, .bool (true)] 183, cellsH b2 [sN, sN, sN, sN, .bool (false)] 183, cellsH b1 [arv, rsv] 39] L 9 [] [[], [0], [], [2], [], [3, 4], [5], [6], [7]] (phiL [qe (ptr b3 3), qe dv, qe (ptr b3 3), qe dv, qe (ii ((k : Int)) : Value), qe (.pointer (some (elemA dv (k)))), qe (ii (ds.getD k 0)), qe (ii ((ds.getD k 0) + 1)), fun us v => ∃ b, v = .slice (some ⟨b, 0, none⟩) 1 1]) (ownL [o0, o0, o0, o0, o0, o0, o0, o0, fun us v => [slH 2 1 v 1 [ii ((ds.getD k 0) + 1)]]]) mixed rfl rfl (by kernel_rfl) ?_ ?_
   ·refine pD (fun W R z9 => ?_) ?_
    ·refine qi (qk (3) jD rfl qu (by decide) rfl rfl ?_)
     exact ⟨rfl, rfl, rfl⟩
    refine pD (fun W R z9 => ?_) ?_
    ·rw [eS (l := [(0, _)]) ⟨z9 0 rfl, ⟨⟩⟩]
     refine qi (ql qZ rfl (Rd.own [_, _, _, _, _, _, _] rfl rfl) ?_)
     exact ⟨rfl, rfl, rfl⟩
    refine pD (fun W R z9 => ?_) ?_
    ·refine qi (qk (3) jD rfl qu (by decide) rfl rfl ?_)
     exact ⟨rfl, rfl, rfl⟩
    refine pD (fun W R z9 => ?_) ?_
    ·rw [eS (l := [(2, _)]) ⟨z9 2 rfl, ⟨⟩⟩]
     refine qi (ql qZ rfl (Rd.own [_, _, _, _, _, _, _] rfl rfl) ?_)
     exact ⟨rfl, rfl, rfl⟩
    refine pD (fun W R z9 => ?_) ?_
    ·refine qi (qq (ii ((k : Int))) rfl ?_)
     exact ⟨rfl, rfl, rfl⟩
    refine pD (fun W R z9 => ?_) ?_
    ·rw [eS (l := [(3, _), (4, _)]) ⟨z9 3 rfl, z9 4 rfl, ⟨⟩⟩]
     refine qi (qB k qf qy rfl rfl rfl (intsH.slv [_, _, _, _, _, _] rfl) (by omega) (Nat.mul_one _) ?_)
     exact ⟨rfl, rfl, rfl⟩
    refine pD (fun W R z9 => ?_) ?_
    ·rw [eS (l := [(5, _)]) ⟨z9 5 rfl, ⟨⟩⟩]
     refine qi (ql jt rfl (intsH.rd [_, _, _, _, _, _] rfl (by omega)) ?_)
     exact ⟨rfl, rfl, rfl⟩
    refine pD (fun W R z9 => ?_) ?_
    ·rw [eS (l := [(6, _)]) ⟨z9 6 rfl, ⟨⟩⟩]
     refine qi (qP ((ds.getD k 0) + 1) rfl rfl (by omega) (by omega) ?_)
     exact ⟨rfl, rfl, rfl⟩
    refine pD (fun W R z9 => ?_) ?_
    ·rw [eS (l := [(7, _)]) ⟨z9 7 rfl, ⟨⟩⟩]
     refine qi (qx (s := 1) [ii ((ds.getD k 0) + 1)] [ii (0)] [(0, [ii ((ds.getD k 0) + 1)])] qf qy jh rfl (by decide) rfl (.cons rfl CellsAre.nil) rfl ?_)
     intro v15 hv11
     exact ⟨rfl, hv11, rfl⟩
    exact stepsP.nil
   intro W hphi
   have f8 : ∃ b, (W 8) = .slice (some ⟨b, 0, none⟩) 1 1 := hphi 8 (by decide)
   generalize hu8 : W 8 = u3 at f8
   rw [eS (l := [(1, _), (8, u3)]) ⟨(hphi 1 (by decide)), hu8, ⟨⟩⟩]
   show XL _ _ _ _ _ _ _ (slH 2 1 u3 1 [ii ((ds.getD k 0) + 1)] :: slH 102 3 u2 1 [ii ((nx.getD q (0, 0, [])).1), ii ((nx.getD q (0, 0, [])).2.1), a2] :: slH 2 1 v9 1 [ii ((k : Int))] :: slH 22 1 u1 1 [a2] :: slH 22 1 v8 ((an) + 1) (acs ++ [a2]) :: intsH 2 v10 (fs ++ [(k : Int)]) :: slH 102 3 v13 ((cn) + 1) (ccs ++ [ii ((nx.getD q (0, 0, [])).1), ii ((nx.getD q (0, 0, [])).2.1), a2]) :: intsH 2 dv ds :: cellsH b3 [v8, v10, v13, dv, .bool (true)] 183 :: cellsH b2 [sN, sN, sN, sN, .bool (false)] 183 :: cellsH b1 [arv, rsv] 39 :: L)
   refine cX (XOp.append1 (u := (ds.getD k 0) + 1) [_, _, _, _, _, _, _] _ qf typeInfo2 rfl rfl rfl rfl rfl rfl (SlV.own [] rfl) (Rd.sl [] rfl rfl) (by (try simp only [List.length_append, List.length_nil, List.length_cons, List.length_singleton, List.length_take, List.length_drop]); omega) ?_)
   intro v16 hs5 hn4
   refine cX (qk (3) jD rfl qu (by decide) rfl rfl (cX (jK [_, _, _, _, _, _, _, _] _ [v8, v10, v13, v16, .bool (true)] qu rfl rfl (qJ hs5) rfl rfl rfl (qb (qa (qd (ii ((q : Int))) rfl (cX (qP (((q + 1 : Nat) : Int)) rfl rfl (by omega) (by omega) (qg (ii (((q + 1 : Nat) : Int))) rfl (qb ?_))))))))))
   exact ⟨(q + 1, os ++ [((nx.getD q (0, 0, [])).2.2, (k : Int), nx.getD q (0, 0, []), (EL os0 k).2.2.2 + 1)], v8, ts ++ [(nx.getD q (0, 0, [])).2.2], acs ++ [a2], (an) + 1, v10, fs ++ [(k : Int)], v13, bs ++ [((nx.getD q (0, 0, [])).1, (nx.getD q (0, 0, [])).2.1, (nx.getD q (0, 0, [])).2.2)], ccs ++ [ii ((nx.getD q (0, 0, [])).1), ii ((nx.getD q (0, 0, [])).2.1), a2], (cn) + 1, v16, ds ++ [(ds.getD k 0) + 1], G2), _, leG2, rF, ⟨rfl, rfl, rfl, rfl, rfl, rfl, rfl, ⟨⟩⟩, (sD (sD (sD (sD (sC (sC (sC (sC (sC (sC (sC sR))))))))))), ⟨rfl, leG2, (hs2), (hs3), (hs4), (hs5), (hc3), (hc4), (by (try dsimp only); rw [List.length_append, List.length_singleton]; omega), (by (try dsimp only); rw [List.length_append, List.length_singleton]; omega), (by (try dsimp only); rw [terms_snoc, htsi]), (by (try dsimp only); rw [froms_snoc, hfsi]), (by (try dsimp only); rw [bys_snoc, hbsi]), (by (try dsimp only); rw [deeps_snoc, ← hdsi, hdk9]), (by (try dsimp only); rw [List.length_append, List.length_singleton]; omega), (hoki.snoc (hnxo q (by omega))), (hdoi.snoc (by dsimp only; omega)), (by (try dsimp only) <;> omega), (by (try dsimp only); rw [List.length_append, List.length_singleton]; omega), (by (try dsimp only); rw [EL_snoc hkp]; exact hel), (by (try dsimp only); exact hgoi.trans (add_new (by omega) hnin (by omega)))⟩, (by omega)⟩
  refine jo (qt (qt (qO (qa (qd (ii ((k : Int))) rfl (cX (qP (((k + 1 : Nat) : Int)) rfl rfl (by omega) (by omega) (qg (ii (((k + 1 : Nat) : Int))) rfl (qb ?_)))))))))
  exact ⟨(k + 1, os, av, ts, acs, an, bv, fs, cv, bs, ccs, cn, dv, ds, G2), _, (qh (qh leG1 le2) leG2), rF, ⟨rfl, rfl, rfl, rfl, rfl, ⟨⟩⟩, (sC (sC (sC (sC (sC (sC (sC sR))))))), ⟨rfl, (qh (qh leG1 le2) leG2), (havi), (hbvi), (hcvi), (hdvi), (hAi), (hBi), (hani), (hcni), (htsi), (hfsi), (hbsi), (hdsi), (hli), (hoki), (hdoi), (by (try dsimp only); omega), (by (try dsimp only); have h9 := hgoi.trans (add_end (by omega)); have h8 := reach_more (ar := ar) (rs := rs) (n := n) (f := 60 - k - 1) hk70 (by omega) hdeep0 (by rw [hnx0, h9]); rw [hnx0, h9] at h8; exact hgo0.trans h8)⟩, (by (try dsimp only); omega)⟩
 refine jo (qt (qt (qO (qc (qa (cX (qn [av, bv, cv, dv, .bool (true)] isAgg183 sizeOf183 rfl rfl (Rd.ownN [_, _, _, _] rfl rfl) (cX (qC [_, _, _, _, _] _ [av, bv, cv, dv, .bool (true)] sizeOf183 rfl rfl rfl (qj (qJ hav) (qj (qJ hbv) (qj (qJ hcv) (qj (qJ hdv) (qj rfl qK))))) rfl rfl rfl (qb (je [] _ _ rfl (fun F8 le8 hz7 => ?_))))))))))))
 replace hA := hA.mono le8
 replace hB := hB.mono le8
 have hf7 : RowsF F8 av ts := CO.fz hA (by first | rfl | omega | (rw [List.length_set]; omega) | (simp; done)) hz7.fz
 refine je [] _ _ rfl (fun F9 le9 hz8 => ?_)
 replace hB := hB.mono le9
 replace hf7 := hf7.mono le9
 have hf8 : IntsF F9 bv fs := intsH.fz (xs := fs) hz8.fz
 refine je [] _ _ rfl (fun F10 le10 hz9 => ?_)
 replace hB := hB.mono le10
 replace hf7 := hf7.mono le10
 replace hf8 := hf8.mono le10
 have hf9 : StepsF F10 cv bs := CO.fz hB (by first | rfl | omega | (rw [List.length_set]; omega) | (simp; done)) hz9.fz
 refine je [] _ _ rfl (fun F11 le11 hz10 => ?_)
 replace hf7 := hf7.mono le11
 replace hf8 := hf8.mono le11
 replace hf9 := hf9.mono le11
 have hf10 : IntsF F11 dv ds := intsH.fz (xs := ds) hz10.fz
 refine qw (qs (L' := L) [.agg #[av, bv, cv, dv, .bool (true)]] (.agg #[av, bv, cv, dv, .bool (true)]) (.cell rfl (jx [av, bv, cv, dv, .bool (true)] isAgg183 sizeOf183 rfl (Rd.ownN [_] rfl rfl)) .nil) rfl (qh (qh (qh (qh (qh le1 leG1) le8) le9) le10) le11) rF (sD (sD (sD sR))) ?_)
 have e9 : reachL ar rs t n = (os, true) := hgo.trans (reach_done (by omega) hl)
 rw [e9]
 exact ⟨_, _, _, _, rfl, by rw [← hts]; exact hf7, by rw [← hfs]; exact hf8, by rw [← hbs]; exact hf9, by rw [← hds]; exact hf10, rfl⟩

/- spec.l1CopyTerms -/
theorem l1CopyTerms_spec {F : FH} {L : List HP} {tsv : Value} {ts : List (List Int)} (hts : RowsF F tsv ts) (hlt : ts.length ≤ 4000000) (htb : ∀ i, i < ts.length → (ts.getD i []).length ≤ 4000000) :
    Does prog 303 [tsv] F (L) (fun v F' L' => ∃ (a : Value), (a : Value) = v ∧ (RowsF F' a ts) ∧ L = L') := by
 refine qL func303 rfl rfl rfl (qc (qa (qg (sN) rfl (qb (qc (qa (cX (qx (s := 1) [] [sN] [] qM qu yi rfl (by decide) rfl CellsAre.nil rfl ?_))))))))
 intro v1 hv1
 refine qg (v1) rfl (qb (qc (qc (qa (qg (ii (0)) rfl (qb (qN (jw (α := Nat × Value × RowL × List Value × FH) (fun xQ => [(0, tsv), (3, xQ.2.1), (4, ii (((xQ.1 : Nat) : Int)))]) (fun xQ => slH 22 1 xQ.2.1 xQ.1 xQ.2.2.2.1 :: L) (fun xQ F' => xQ.2.2.2.2 = F' ∧ F ≤ xQ.2.2.2.2 ∧ (IsSl xQ.2.1) ∧ (xQ.1 ≤ ts.length) ∧ (RowsC xQ.2.2.2.2 xQ.2.2.2.1 xQ.2.2.1) ∧ (xQ.2.2.1 = ts.take xQ.1)) (fun xQ => ts.length - xQ.1) (0, v1, [], [], F) ⟨rfl, rfl, rfl, ⟨⟩⟩ (sC sR) ⟨rfl, FLe.refl _, ((jv hv1)), (by (try dsimp only) <;> omega), (CO.nil), (rfl)⟩ ?_))))))))
 rintro ⟨k, ov, os, ocs, G1⟩ rE _ _ ⟨rfl, leG, hov, hk, hC, hos⟩
 show X _ _ _ _ (envs [(0, tsv), (3, ov), (4, ii ((k : Int)))] rE) _ (slH 22 1 ov k ocs :: L)
 replace leG : F ≤ G1 := leG
 dsimp only at hov hk hC hos
 have htbk := htb k
 have hol : os.length = k := by rw [hos, List.length_take]; omega
 have leG1 := leG
 replace hts := hts.mono leG1
 refine qc (qc (qa (qd (ii ((k : Int))) rfl (qd (tsv) rfl (cX (qD qM rfl hts.slv (cX (jf rfl rfl (qb ?_)))))))))
 refine qE (p := (k : Int) < (ts.length : Int)) rfl (fun h1 => ?_) (fun h1 => ?_)
 ·refine qz (qc (qN (qa (qd (ov) rfl (qd (tsv) rfl (qd (ii ((k : Int))) rfl (cX (qB k qM qu rfl rfl rfl hts.slv (by omega) (Nat.mul_one _) ?_))))))))
  obtain ⟨a1, ha1, hr1⟩ := hts.rd (i := k) (by omega)
  refine cX (ql qZ rfl (hr1 _) (cX (yf <| qo (args := [a1]) call106 rfl (l1Copy_spec ha1 (hlt := (htbk (by omega)))) ?_)))
  rintro v2 _ _ _ ⟨rfl, hs1, rfl⟩
  refine ⟨_, _, rfl, fun F1 le1 hz1 => ?_⟩
  replace hC := hC.mono le1
  have hf1 : IntsF F1 v2 ((((ts.getD k [])))) := intsH.fz (xs := (((ts.getD k [])))) hz1.fz
  refine cX (qx (s := 1) [v2] [sN] [(0, [v2])] qM qu yi rfl (by decide) rfl (.cons (cells_one (qF hf1)) CellsAre.nil) rfl ?_)
  intro v3 hv2
  refine cX (jV (m := 1) (bytes := 24) (cs := ocs) [_] _ [v2] qM typeInfo22 rfl rfl rfl rfl rfl rfl rfl (SlV.own [] rfl) rfl (Rd.lit [] rfl) (qj (qJ (qF hf1)) qK) (by (try simp only [List.length_append, List.length_nil, List.length_cons, List.length_singleton]); omega) (by (try simp only [List.length_append, List.length_nil, List.length_cons, List.length_singleton]); omega) ?_)
  intro v4 hs2 hn1 hm1
  have hc1 := RowsC.snoc hC hf1
  refine qg (v4) rfl (qb (qa (qd (ii ((k : Int))) rfl (cX (qP (((k + 1 : Nat) : Int)) rfl rfl (by omega) (by omega) (qg (ii (((k + 1 : Nat) : Int))) rfl (qb ?_)))))))
  exact ⟨(k + 1, v4, os ++ [(((ts.getD k [])))], ocs ++ [v2], F1), _, (qh leG1 le1), rF, ⟨rfl, rfl, rfl, ⟨⟩⟩, (sD (sC sR)), ⟨rfl, (qh leG1 le1), (hs2), (by (try dsimp only) <;> omega), (hc1), (by (try dsimp only); rw [hos, take_succ_getD [] (by omega)])⟩, (by omega)⟩
 refine jo (qt (qt (qO (qc (qa (qd (ov) rfl (qg (ov) rfl (qb (je [] _ _ rfl (fun F2 le2 hz2 => ?_))))))))))
 replace hC := hC.mono le2
 have hf2 : RowsF F2 ov os := CO.fz hC (by first | rfl | omega | (rw [List.length_set]; omega) | (simp; done)) hz2.fz
 refine qw (qs (L' := L) [ov] (ov) (.tmp rfl .nil) rfl (qh leG1 le2) rF sR ?_)
 have e1 : os = ts := by rw [hos, show k = ts.length from by omega, List.take_length]
 subst e1
 exact ⟨_, rfl, hf2, rfl⟩

/- spec.ReachOf -/
set_option maxRecDepth 20000 in
theorem sReachOf_spec {F : FH} {L : List HP} {arv : Value} {ar : List Int} (har : IntsF F arv ar) {rsv : Value} {rs : List (List Int × List Int)} (hrs : PairsF F rsv rs) {tv : Value} {t : List Int} (ht : IntsF F tv t) {n : Int} (hla : ar.length ≤ 4000000) (hlr : rs.length ≤ 4000000) (hrb : ∀ i, i < rs.length → (rs.getD i ([], [])).1.length ≤ 4000000 ∧ (rs.getD i ([], [])).2.length ≤ 4000000) (hlt : t.length ≤ 4000000) :
    Does prog 245 [.agg #[arv, rsv], tv, ii (n)] F (L) (fun v F' L' => ∃ (a : Value), (.tuple #[a, .bool ((reachF ar rs t n).2)] : Value) = v ∧ (RowsF F' a (terms (reachF ar rs t n).1)) ∧ L = L') := by
 refine qL func245 rfl rfl rfl (qc (qa (cX (jd [arv, rsv] rfl rfl ?_))))
 intro b1
 refine qg (sN) rfl (qg (.bool (false)) rfl (qb (qc (qc (qa (cX (qn [arv, rsv] jr jl rfl rfl (Rd.ownN [] rfl rfl) (qd (tv) rfl (qd (ii (n)) rfl (cX (qo (args := [.agg #[arv, rsv], tv, ii (n)]) call120 rfl (l9Right_spec (n := n) har hrs ht (hla := (by first | assumption | rfl | omega | simp)) (hlr := (by first | assumption | rfl | omega | simp)) (hrb := (by first | assumption | rfl | omega | simp)) (hlt := (by first | assumption | rfl | omega | simp))) ?_)))))))))))
 rintro _ _ _ _ ⟨rfl, rfl, rfl⟩
 refine cX (jn rfl (qb ?_))
 refine jN (t := !(reachOkL ar rs n [t])) rfl (fun h1 => ?_) (fun h1 => ?_)
 ·have hro : reachOkL ar rs n [t] = false := by simpa using h1
  refine qc (qa (cX (qx (s := 1) [] [sN] [] qM qu yi rfl (by decide) rfl CellsAre.nil rfl ?_)))
  intro v1 hv1
  refine qg (v1) rfl (qg (.bool (false)) rfl (qb ?_))
  have hc1 : RowsC F [] ([] : List (List Int)) := (CO.nil : RowsC F [] [])
  refine je [] _ _ rfl (fun F1 le1 hz1 => ?_)
  replace har := har.mono le1
  replace hrs := hrs.mono le1
  replace ht := ht.mono le1
  replace hc1 := hc1.mono le1
  have hf1 : RowsF F1 v1 (([] : List (List Int))) := CO.fz hc1 (by first | rfl | omega | (rw [List.length_set]; omega) | (simp; done)) hz1.fz
  refine qw (qm (qs (L' := L) [v1, .bool (false)] (.tuple #[v1, .bool (false)]) (.tmp rfl (.tmp rfl .nil)) rfl le1 rF (sD sR) ?_))
  rw [reachF_no hro]
  exact ⟨_, rfl, hf1, rfl⟩
 have hro : reachOkL ar rs n [t] = true := by simpa using h1
 have hr3 := reachOk_iff.1 hro
 have hsys := hr3.1.1
 have ho := hr3.1.2
 have hro2 := reachL_ok (n := n) hsys ho
 have hro3 := hro2.1
 have htl5 : (terms (reachL ar rs t n).1).length ≤ 60 := by rw [terms_len]; exact hro3
 have htb5 : ∀ i, i < (terms (reachL ar rs t n).1).length → ((terms (reachL ar rs t n).1).getD i []).length ≤ 4000000 := fun i hi => by rw [terms_get]; rw [terms_len] at hi; have := termOk_len (hro2.2 i hi); omega
 refine qz (qc (qa (cX (qn [arv, rsv] jr jl rfl rfl (Rd.ownN [] rfl rfl) (qd (tv) rfl (qd (ii (n)) rfl (cX (qo (args := [.agg #[arv, rsv], tv, ii (n)]) call124 rfl (l9Find_spec (n := n) har hrs ht (hsys := (by first | assumption | rfl | omega | simp)) (ho := (by first | assumption | rfl | omega | simp)) (hn20 := (by first | assumption | rfl | omega | simp))) ?_))))))))
 rintro _ F2 _ le2 ⟨x1, x2, x3, x4, rfl, hr1, hr2, hr3, hr4, rfl⟩
 replace har := har.mono le2
 refine cX (jc [sN, sN, sN, sN, .bool (false)] zeroValue183 rfl ?_)
 intro b2
 refine cX (qC [] _ [x1, x2, x3, x4, .bool ((reachL ar rs t n).2)] sizeOf183 rfl rfl rfl (qj (qJ (RowsF.isSl hr1)) (qj (qJ (qF hr2)) (qj (qJ (jT hr3)) (qj (qJ (qF hr4)) (qj rfl qK))))) rfl rfl rfl (qb (qc ?_)))
 refine jZ [cellsH b2 [x1, x2, x3, x4, .bool ((reachL ar rs t n).2)] 183, cellsH b1 [arv, rsv] 39] L 6 [[], [], [], [], [], [2]] [[], [0], [1], [], [3], [2]] [] (phiG [pe (ptr b2 0), pe x1, fun FF us v => ((v) : Value) = v ∧ (RowsF FF (v) (terms (reachL ar rs t n).1)), pe (ptr b2 4), pe (.bool ((reachL ar rs t n).2)), fun FF us v => v = ((us.getD 0 undef))]) (ownL []) mixed rfl rfl (by kernel_rfl) (by kernel_rfl) (MonoG.get (m1 (m1 (mC (fun le h => ⟨h.1, h.2.mono le⟩) (m1 (m1 (mC (fun le h => h) MonoG.nil))))))) ?_ ?_
 ·refine gD (fun W Fs R lF z9 => ?_) ?_
  ·refine qi (qk (0) jD rfl jk (by decide) rfl rfl ?_)
   exact ⟨rfl, rfl⟩
  refine gD (fun W Fs R lF z9 => ?_) ?_
  ·replace har := har.mono lF
   replace hr1 := hr1.mono lF
   rw [eS (l := [(0, _)]) ⟨z9 0 rfl, ⟨⟩⟩]
   refine qi (ql jJ rfl (Rd.own [] rfl rfl) ?_)
   exact ⟨rfl, rfl⟩
  refine gD (fun W Fs R lF z9 => ?_) ?_
  ·replace har := har.mono lF
   replace hr1 := hr1.mono lF
   rw [eS (l := [(1, _)]) ⟨z9 1 rfl, ⟨⟩⟩]
   refine qi (qo (args := [x1]) call303 rfl (l1CopyTerms_spec hr1 (hlt := (by omega)) (htb := (htb5))) ?_)
   rintro _ F4 _ le4 ⟨x6, rfl, hr6, rfl⟩
   replace har := har.mono le4
   exact ⟨⟨rfl, hr6⟩, rfl⟩
  refine gD (fun W Fs R lF z9 => ?_) ?_
  ·refine qi (qk (4) jD rfl sizeOf4 (by decide) rfl rfl ?_)
   exact ⟨rfl, rfl⟩
  refine gD (fun W Fs R lF z9 => ?_) ?_
  ·replace har := har.mono lF
   rw [eS (l := [(3, _)]) ⟨z9 3 rfl, ⟨⟩⟩]
   refine qi (ql isAgg4 rfl (Rd.own [] rfl rfl) ?_)
   exact ⟨rfl, rfl⟩
  refine gD (fun W Fs R lF z9 => ?_) ?_
  ·obtain ⟨e2, f2_1hr⟩ := z9 2 rfl
   rw [eS (l := [(2, ((W 2)))]) ⟨(e2).symm, ⟨⟩⟩]
   refine qi (XOp.assign (((W 2))) rfl ?_)
   exact ⟨rfl, rfl⟩
  exact stepsG.nil
 intro W F5 le5 hphi
 obtain ⟨e2, f2_1hr⟩ := hphi 2 (by decide)
 have e5 : W 5 = ((W 2)) := hphi 5 (by decide)
 generalize hu1 : ((W 2)) = u1 at e2 f2_1hr e5
 rw [eS (l := [(2, u1), (4, _), (5, u1)]) ⟨hu1, (hphi 4 (by decide)), e5, ⟨⟩⟩]
 show XL _ _ _ _ _ _ _ (cellsH b2 [x1, x2, x3, x4, .bool ((reachL ar rs t n).2)] 183 :: cellsH b1 [arv, rsv] 39 :: L)
 refine qg (.bool ((reachL ar rs t n).2)) rfl (qb (qw (qs (L' := L) [u1, .bool ((reachL ar rs t n).2)] (.tuple #[u1, .bool ((reachL ar rs t n).2)]) (.tmp rfl (.tmp rfl .nil)) rfl (qh le2 le5) rF (sD (sD sR)) ?_)))
 rw [reachF_yes hro]
 exact ⟨_, rfl, f2_1hr, rfl⟩
end Go.Proofs.YtenomejgjcpbdaaGreat
