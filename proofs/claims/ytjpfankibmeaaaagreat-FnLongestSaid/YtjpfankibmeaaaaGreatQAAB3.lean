/-
  Walks, one after the other (part 4).
-/
import Derived.Test.YtjpfankibmeaaaaGreatQAAL1
import Derived.Test.YtjpfankibmeaaaaGreatQAAB2
set_option linter.unusedSimpArgs false
set_option linter.unusedVariables false
namespace Go.Proofs.YtjpfankibmeaaaaGreat
open Go X M Tryz

/- impl.found$1 -/
theorem found1_spec {F : FH} {L : List HP} {xv : Value} {x : List Int} (hx : IntsF F xv x) {i1 : Int} {i2 : Int} {i3 : Int} {yv : Value} {y : List Int} (hy : IntsF F yv y) {i4 : Int} {uv : Value} {u : List Int} (hu : IntsF F uv u) {bt : Nat} (hzbt : FzC F bt [uv]) (hlu : u.length ≤ 4000000) :
    Does prog 319 [.agg #[xv, ii (i1), ii (i2), ii (i3), yv, ii (i4)], ptr bt 0] F (L) (fun v F' L' => (.bool (decide (x = u)) : Value) = v ∧ F = F' ∧ L = L') := by
 refine qI func319 rfl rfl rfl (qc (qa (cX (jc [xv, ii (i1), ii (i2), ii (i3), yv, ii (i4)] rfl rfl ?_))))
 intro b1
 refine qg (.bool (false)) rfl (qb (qc (qa (cX (ql (0) runUnderlying194 rfl qs (by decide) rfl rfl (cX (qj qU rfl (Rd.own [] rfl rfl) (cX (qj qU rfl (FzC.rd1 hzbt rfl) (cX (qm (args := [xv, uv]) call236 rfl (Equal_spec hx hu (hbd := (by first | assumption | rfl | omega | (left; simp; done) | (right; simp; done)))) ?_)))))))))))
 rintro _ _ _ _ ⟨rfl, rfl, rfl⟩
 refine qg (.bool (decide (x = u))) rfl (qb (qu (qq (L' := L) [.bool (decide (x = u))] (.bool (decide (x = u))) (.tmp rfl .nil) rfl rF rF (sD sR) ?_)))
 exact ⟨rfl, rfl, rfl⟩

/- slices.IndexFunc[[]impl.reached,impl.reached] -/
theorem IndexFuncFound_spec {F : FH} {L : List HP} {alv : Value} {al : List FoundT} {alcs : List Value} (hal : FoundsF F alv al alcs) {uv : Value} {u : List Int} (hu : IntsF F uv u) {bt : Nat} (hzbt : FzC F bt [uv]) (hlt : al.length ≤ 4000000) (hlu : u.length ≤ 4000000) :
    Does prog 318 [alv, .func (.func 319) #[] #[ptr bt 0]] F (L) (fun v F' L' => (ii (foundI al u) : Value) = v ∧ F = F' ∧ L = L') := by
 refine qI func318 rfl rfl rfl (qc (qa (qg (ii (0)) rfl (qb (qc (qc (qa (qd (alv) rfl (cX (qE jN rfl hal.slv (qd (ii (0)) rfl (qb (qK (jl (α := Nat) (fun k => [(0, alv), (1, .func (.func 319) #[] #[ptr bt 0]), (7, ii ((al.length : Int))), (8, ii ((k : Int)))]) (fun k => L) (fun k F' => F = F' ∧ (k ≤ al.length) ∧ (∀ i, i < k → (EL al i).1 ≠ u)) (fun k => al.length - k) 0 ⟨rfl, rfl, rfl, rfl, ⟨⟩⟩ sR ⟨rfl, (by (try dsimp only) <;> omega), (fun i hi => absurd hi (by omega))⟩ ?_))))))))))))))
 rintro k rE _ _ ⟨rfl, hk, hall⟩
 show X _ _ _ _ (envs [(0, alv), (1, .func (.func 319) #[] #[ptr bt 0]), (7, ii ((al.length : Int))), (8, ii ((k : Int)))] rE) _ (L)
 refine qc (qa (cX (qW rfl rfl (qb (qc ?_)))))
 refine qA (p := (k : Int) < (al.length : Int)) rfl (fun h1 => ?_) (fun h1 => ?_)
 ·refine qw (qc (qK (qc (qa (qd (ii ((k : Int))) rfl (qg (ii ((k : Int))) rfl (qb (qc (qa (qd (.func (.func 319) #[] #[ptr bt 0]) rfl (qd (alv) rfl (qd (ii ((k : Int))) rfl (cX (qD k jN sizeOf194 rfl rfl rfl hal.slv (by omega) rfl ?_))))))))))))))
  obtain ⟨a1, a2, ha1, ha2, hrg1, hq1⟩ := hal.rd (i := k) (by omega)
  refine cX (qr [a1, ii ((al.getD k ([], 0, (0, 0, []), 0)).2.1), ii ((al.getD k ([], 0, (0, 0, []), 0)).2.2.1.1), ii ((al.getD k ([], 0, (0, 0, []), 0)).2.2.1.2.1), a2, ii ((al.getD k ([], 0, (0, 0, []), 0)).2.2.2)] isAgg194 sizeOf194 rfl rfl (Rd.all (hrg1 _)) (cX (XOp.callV (first := []) (captured := [ptr bt 0]) (args := [.agg #[a1, ii ((al.getD k ([], 0, (0, 0, []), 0)).2.1), ii ((al.getD k ([], 0, (0, 0, []), 0)).2.2.1.1), ii ((al.getD k ([], 0, (0, 0, []), 0)).2.2.1.2.1), a2, ii ((al.getD k ([], 0, (0, 0, []), 0)).2.2.2)], ptr bt 0]) call319 rfl rfl (found1_spec ha1 ha2 hu hzbt (hlu := (by first | assumption | rfl | omega | simp))) ?_)))
  rintro _ _ _ _ ⟨rfl, rfl, rfl⟩
  refine qb ?_
  refine jz (t := decide (((al.getD k ([], 0, (0, 0, []), 0)).1) = u)) rfl (fun h2 => ?_) (fun h2 => ?_)
  ·refine qc (qa (qd (ii ((k : Int))) rfl (qg (ii ((k : Int))) rfl (qb (qu (qC (qk (qk (qC (qk (qq (L' := L) [ii ((k : Int))] (ii ((k : Int))) (.tmp rfl .nil) rfl rF rF sR ?_)))))))))))
   exact ⟨(vI (foundI_at (k := k) (by omega) (by unfold EL; simp_all) hall)), rfl, rfl⟩
  refine qw (qa (cX (qH (((k + 1 : Nat) : Int)) rfl rfl (by omega) (by omega) (qd (ii (((k + 1 : Nat) : Int))) rfl (qb ?_)))))
  exact ⟨k + 1, _, FLe.refl _, rF, ⟨rfl, rfl, rfl, rfl, ⟨⟩⟩, sR, ⟨rfl, (by (try dsimp only) <;> omega), (fun i hi => (Nat.lt_or_ge i k).elim (fun h => hall i h) (fun h => by obtain rfl : i = k := (by omega); unfold EL; simp_all))⟩, (by omega)⟩
 refine jk (qt (qt (qM (qc (qa (qg (ii (-1)) rfl (qb (qu (qq (L' := L) [ii (-1)] (ii (-1)) (.tmp rfl .nil) rfl rF rF sR ?_)))))))))
 exact ⟨(vI (foundI_none (fun i hi => hall i (by omega)))), rfl, rfl⟩

/- impl.found -/
theorem found_spec {F : FH} {L : List HP} {alv : Value} {al : List FoundT} {alcs : List Value} (hal : FoundsF F alv al alcs) {uv : Value} {u : List Int} (hu : IntsF F uv u) (hlt : al.length ≤ 4000000) (hlu : u.length ≤ 4000000) :
    Does prog 246 [alv, uv] F (L) (fun v F' L' => (ii (foundI al u) : Value) = v ∧ F = F' ∧ L = L') := by
 refine qI func246 rfl rfl rfl (qc (qa (cX (jc [uv] rfl (cells_one (qz hu)) ?_))))
 intro b1
 refine qg (ii (0)) rfl (qb (qc (qa (qd (alv) rfl (cX (ya [] [ptr b1 0] rfl rfl (XL.freeze [] _ _ rfl (fun F1 le1 hz1 => ?_))))))))
 replace hal := hal.mono le1
 replace hu := hu.mono le1
 have hf1 : FzC F1 b1 [uv] := Fz.cells hz1
 refine cX (qm (args := [alv, .func (.func 319) #[] #[ptr b1 0]]) call318 rfl (IndexFuncFound_spec hal hu hf1 (hlt := (by first | assumption | rfl | omega | simp)) (hlu := (by first | assumption | rfl | omega | simp))) ?_)
 rintro _ _ _ _ ⟨rfl, rfl, rfl⟩
 refine qg (ii (foundI al u)) rfl (qb (qu (qq (L' := L) [ii (foundI al u)] (ii (foundI al u)) (.tmp rfl .nil) rfl rF le1 sR ?_)))
 exact ⟨rfl, rfl, rfl⟩

/- impl.reach -/
set_option maxRecDepth 20000 in
theorem reach_spec {F : FH} {L : List HP} {arv : Value} {ar : List Int} (har : IntsF F arv ar) {rsv : Value} {rs : List (List Int × List Int)} (hrs : PairsF F rsv rs) {tv : Value} {t : List Int} (ht : IntsF F tv t) {n : Int} (hsys : sysOk ar rs = true) (ho : termOk ar t = true) (hn20 : 0 ≤ n ∧ n ≤ 20) :
    Does prog 131 [.agg #[arv, rsv], tv, ii (n)] F (L) (fun v F' L' => ∃ (a : Value) (acs : List Value) (Ls : List HP), (.tuple #[a, .bool (reachL ar rs t n).2] : Value) = v ∧ FoundsF F' a (reachL ar rs t n).1 acs ∧ DeepL 6 (FoundO 2) acs (reachL ar rs t n).1 Ls ∧ Fresh F F' (star Ls) ∧ L = L') := by
 refine qI func131 rfl rfl rfl ?_
 have hnn := jt ht (by have := termOk_len ho; omega)
 have htl := termOk_len ho
 have hrl := (sysOk_iff.1 hsys).2.1
 have hsig := (sysOk_iff.1 hsys).1
 have hsl := sigOk_spec hsig
 refine qc (qa (cX (jc [arv, rsv] rfl rfl ?_)))
 intro b1
 refine qg (sN) rfl (qg (.bool (false)) rfl (qb (qc (qa (qd (tv) rfl (cX (jZ <| qm (args := [tv]) call96 rfl (Clone_spec ht (hlt := (by first | assumption | rfl | omega | simp))) ?_)))))))
 rintro v1 _ _ _ ⟨rfl, hs1, rfl⟩
 refine ⟨_, _, rfl, fun F1 le1 hz1 => ?_⟩
 replace har := har.mono le1
 replace hrs := hrs.mono le1
 have hf1 : IntsF F1 v1 ((t)) := intsH.fz (xs := (t)) hz1.fz
 skip
 refine cX (jh [v1, ii (-1), ii (0), ii (0), sN, ii (0)] [sN, ii (0), ii (0), ii (0), sN, ii (0)] [(0, 1), (1, 1), (2, 3), (5, 1)] [(0, [v1]), (1, [ii (-1)])] runUnderlying194 zeroValue194 rfl (.cons rfl qs (.cons rfl jV (.cons rfl jH (.cons rfl qB PlacesAre.nil)))) rfl (.cons (cells_one (qz hf1)) (.cons rfl CellsAre.nil)) (cX (qo (s := 6) [v1, ii (-1), ii (0), ii (0), sN, ii (0)] [sN, ii (0), ii (0), ii (0), sN, ii (0)] [(0, [v1, ii (-1), ii (0), ii (0), sN, ii (0)])] jN sizeOf194 zeroValue194 rfl (by decide) rfl (.cons rfl CellsAre.nil) rfl ?_)))
 intro v2 hv1
 refine qg (v2) rfl (qb (qc (qc (qa (qg (ii (0)) rfl (qb (qK ?_)))))))
 have hc1 : FoundsC F1 [v1, ii (-1), ii (0), ii (0), sN, ii (0)] ([((t), -1, (0, 0, []), 0)] : List FoundT) := (FoundsC.snoc (CO.nil : FoundsC F1 [] []) (y0 := (t)) (y1 := -1) (y2 := 0) (y3 := 0) (y4 := []) (y5 := 0) hf1 IntsF.nilV)
 refine jl (α := Nat × Value × List FoundT × List Value × List HP × Nat × FH) (fun xQ => [(2, ii (n)), (3, ptr b1 0), (8, xQ.2.1), (9, ii (((xQ.1 : Nat) : Int)))]) (fun xQ => slH 194 6 xQ.2.1 xQ.2.2.2.2.2.1 xQ.2.2.2.1 :: cellsH b1 [arv, rsv] 39 :: L) (fun xQ F' => xQ.2.2.2.2.2.2 = F' ∧ F1 ≤ xQ.2.2.2.2.2.2 ∧ (IsSl xQ.2.1) ∧ (FoundsC xQ.2.2.2.2.2.2 xQ.2.2.2.1 xQ.2.2.1) ∧ (xQ.2.2.2.2.2.1 = xQ.2.2.1.length) ∧ (DeepL 6 (FoundO 2) xQ.2.2.2.1 xQ.2.2.1 xQ.2.2.2.2.1) ∧ (Fresh F xQ.2.2.2.2.2.2 (star xQ.2.2.2.2.1)) ∧ (xQ.1 ≤ xQ.2.2.1.length) ∧ (xQ.2.2.1.length ≤ 60) ∧ (AllOk ar xQ.2.2.1) ∧ (DeepOk n xQ.2.2.1) ∧ (reachL ar rs t n = reachGo ar rs n (60 - xQ.1) xQ.1 xQ.2.2.1)) (fun xQ => 60 - xQ.1) (0, v2, ([((t), -1, (0, 0, []), 0)] : List FoundT), [v1, ii (-1), ii (0), ii (0), sN, ii (0)], [intsH 2 v1 t], 1, F1) ⟨rfl, rfl, rfl, rfl, ⟨⟩⟩ (sC (sC sR)) ⟨rfl, FLe.refl _, ((qN hv1)), (hc1), (rfl), ((DeepL.snoc .nil rfl ⟨_, _, rfl, rfl⟩ : DeepL 6 (FoundO 2) ([] ++ _) ([] ++ _) ([] ++ _))), ((Fresh.one hz1)), (by simp), (by simp), (AllOk.start ho), (DeepOk.start hn20.1), (rfl)⟩ ?_
 rintro ⟨k, ov, os, ocs, Ts, on, G1⟩ rE _ _ ⟨rfl, leG, hov, hC, hn, hD, hZ, hk, hl, hok, hdo, hgo⟩
 show X _ _ _ _ (envs [(2, ii (n)), (3, ptr b1 0), (8, ov), (9, ii ((k : Int)))] rE) _ (slH 194 6 ov on ocs :: cellsH b1 [arv, rsv] 39 :: L)
 replace leG : F1 ≤ G1 := leG
 dsimp only at hov hC hn hD hZ hk hl hok hdo hgo
 have hdk : k < os.length → termOk ar (os.getD k ([], 0, (0, 0, []), 0)).1 = true := fun h => hok k h
 have hdl : k < os.length → 1 ≤ (os.getD k ([], 0, (0, 0, []), 0)).1.length ∧ (os.getD k ([], 0, (0, 0, []), 0)).1.length ≤ 60 := fun h => termOk_len (hok k h)
 have leG1 := leG
 replace har := har.mono leG1
 replace hrs := hrs.mono leG1
 refine qc (qc (qa (qd (ii ((k : Int))) rfl (qd (ov) rfl (cX (qE jN rfl (SlV.own [] rfl) (cX (qW rfl rfl (qb ?_)))))))))
 refine qA (p := (k : Int) < ((on : Nat) : Int)) rfl (fun h1 => ?_) (fun h1 => ?_)
 ·refine qw (qc (qK (qc (qc (qa (qd (ov) rfl (qd (ii ((k : Int))) rfl (cX (qD k jN sizeOf194 rfl rfl rfl (SlV.own [] rfl) (by omega) rfl (cX (XOp.fieldE (k * 6 + 5) runUnderlying194 rfl qB (by decide) rfl rfl ?_)))))))))))
  obtain ⟨a1, a2, ha1, ha2, hq1⟩ := hC.get (i := k) (by omega)
  refine cX (qj jm rfl (Rd.sl [] rfl (hq1 5 _ rfl)) (qd (ii (n)) rfl (cX (js rfl rfl (qb ?_)))))
  refine qA (p := ((os.getD k ([], 0, (0, 0, []), 0)).2.2.2 : Int) = n) rfl (fun h2 => ?_) (fun h2 => ?_)
  ·have hdeep : (EL os k).2.2.2 = n := h2
   refine jk (qt (qM (qa (qd (ii ((k : Int))) rfl (cX (qH (((k + 1 : Nat) : Int)) rfl rfl (by omega) (by omega) (qg (ii (((k + 1 : Nat) : Int))) rfl (qb ?_))))))))
   exact ⟨(k + 1, ov, os, ocs, Ts, on, G1), _, leG1, rF, ⟨rfl, rfl, rfl, rfl, ⟨⟩⟩, (sC (sC sR)), ⟨rfl, leG1, (hov), (hC), (hn), (hD), (hZ), (by (try dsimp only) <;> omega), (by (try dsimp only) <;> omega), (hok), (hdo), (by (try dsimp only); exact hgo.trans (reach_same (f := 60 - k - 1) (by omega) (by omega) hdeep))⟩, (by (try dsimp only); omega)⟩
  have hdeep : (EL os k).2.2.2 ≠ n := h2
  refine qw (qc ?_)
  refine jW [slH 194 6 ov on ocs, cellsH b1 [arv, rsv] 39] L 11 [[], [], [], [], [], [], [], [6], [6], [], [6]] [[], [], [], [1, 2], [3], [4], [0, 5], [6], [6, 7], [6, 7], [6, 8]] [] (phiG [pe (.agg #[arv, rsv]), pe ov, pe (ii ((k : Int)) : Value), pe (.pointer (some (elemA ov (k * 6)))), pe (.pointer (some (elemA ov (k * 6)))), pe a1, fun FF us v => (.tuple #[((tupAt v 0)), .bool (longL ar rs ((os.getD k ([], 0, (0, 0, []), 0)).1))] : Value) = v ∧ (FrStepsF G1 FF 2 ((tupAt v 0)) (stepsL ar rs ((os.getD k ([], 0, (0, 0, []), 0)).1))), fun FF us v => v = (.tuple #[((tupAt (us.getD 0 undef) 0)), .bool (longL ar rs ((os.getD k ([], 0, (0, 0, []), 0)).1))] : Value), fun FF us v => v = ((tupAt (us.getD 0 undef) 0)), pe (.bool (longL ar rs ((os.getD k ([], 0, (0, 0, []), 0)).1))), fun FF us v => v = ((tupAt (us.getD 0 undef) 0))]) (ownL []) mixed rfl rfl (by kernel_rfl) (by kernel_rfl) (MonoG.get (m1 (m1 (m1 (m1 (m1 (m1 (mC (fun le h => ⟨h.1, h.2.mono le⟩) (mC (fun le h => h) (mC (fun le h => h) (m1 (mC (fun le h => h) MonoG.nil)))))))))))) ?_ ?_
  ·refine gD (fun W Fs R lF z9 => ?_) ?_
   ·replace har := har.mono lF
    replace hrs := hrs.mono lF
    replace hC := hC.mono lF
    replace ha1 := ha1.mono lF
    refine qi (qr [arv, rsv] ja qP rfl rfl (Rd.ownN [_] rfl rfl) ?_)
    exact ⟨rfl, rfl⟩
   refine gD (fun W Fs R lF z9 => ?_) ?_
   ·refine qi (qp (ov) rfl ?_)
    exact ⟨rfl, rfl⟩
   refine gD (fun W Fs R lF z9 => ?_) ?_
   ·refine qi (qp (ii ((k : Int))) rfl ?_)
    exact ⟨rfl, rfl⟩
   refine gD (fun W Fs R lF z9 => ?_) ?_
   ·replace har := har.mono lF
    replace hrs := hrs.mono lF
    replace hC := hC.mono lF
    replace ha1 := ha1.mono lF
    rw [eS (l := [(1, _), (2, _)]) ⟨z9 1 rfl, z9 2 rfl, ⟨⟩⟩]
    refine qi (qD k jN sizeOf194 rfl rfl rfl (SlV.own [] rfl) (by omega) rfl ?_)
    exact ⟨rfl, rfl⟩
   refine gD (fun W Fs R lF z9 => ?_) ?_
   ·rw [eS (l := [(3, _)]) ⟨z9 3 rfl, ⟨⟩⟩]
    refine qi (XOp.fieldE (k * 6) runUnderlying194 rfl qs (by decide) rfl rfl ?_)
    exact ⟨rfl, rfl⟩
   refine gD (fun W Fs R lF z9 => ?_) ?_
   ·replace har := har.mono lF
    replace hrs := hrs.mono lF
    replace hC := hC.mono lF
    replace ha1 := ha1.mono lF
    rw [eS (l := [(4, _)]) ⟨z9 4 rfl, ⟨⟩⟩]
    refine qi (qj qU rfl (Rd.sl [] rfl (hq1 0 _ rfl)) ?_)
    exact ⟨rfl, rfl⟩
   refine gD (fun W Fs R lF z9 => ?_) ?_
   ·replace har := har.mono lF
    replace hrs := hrs.mono lF
    replace hC := hC.mono lF
    replace ha1 := ha1.mono lF
    rw [eS (l := [(0, _), (5, _)]) ⟨z9 0 rfl, z9 5 rfl, ⟨⟩⟩]
    refine qi (qm (args := [.agg #[arv, rsv], a1]) call241 rfl (stepsFrom_spec har hrs ha1 (hsys := (hsys)) (ho := (hdk (by omega)))) ?_)
    rintro _ F3 _ le3 ⟨x2, rfl, hx2, rfl⟩
    replace hC := hC.mono le3
    exact ⟨⟨rfl, (hx2.base lF)⟩, rfl⟩
   refine gD (fun W Fs R lF z9 => ?_) ?_
   ·obtain ⟨e6, f6_1hx⟩ := z9 6 rfl
    rw [eS (l := [(6, (.tuple #[((tupAt (W 6) 0)), .bool (longL ar rs ((os.getD k ([], 0, (0, 0, []), 0)).1))]))]) ⟨(e6).symm, ⟨⟩⟩]
    refine qi (qp (.tuple #[((tupAt (W 6) 0)), .bool (longL ar rs ((os.getD k ([], 0, (0, 0, []), 0)).1))]) rfl ?_)
    exact ⟨rfl, rfl⟩
   refine gD (fun W Fs R lF z9 => ?_) ?_
   ·obtain ⟨e6, f6_1hx⟩ := z9 6 rfl
    have e7 : W 7 = (.tuple #[((tupAt (W 6) 0)), .bool (longL ar rs ((os.getD k ([], 0, (0, 0, []), 0)).1))] : Value) := z9 7 rfl
    rw [eS (l := [(6, (.tuple #[((tupAt (W 6) 0)), .bool (longL ar rs ((os.getD k ([], 0, (0, 0, []), 0)).1))])), (7, (.tuple #[((tupAt (W 6) 0)), .bool (longL ar rs ((os.getD k ([], 0, (0, 0, []), 0)).1))]))]) ⟨(e6).symm, e7, ⟨⟩⟩]
    refine qi (je (((tupAt (W 6) 0))) rfl rfl ?_)
    exact ⟨rfl, rfl⟩
   refine gD (fun W Fs R lF z9 => ?_) ?_
   ·obtain ⟨e6, f6_1hx⟩ := z9 6 rfl
    have e7 : W 7 = (.tuple #[((tupAt (W 6) 0)), .bool (longL ar rs ((os.getD k ([], 0, (0, 0, []), 0)).1))] : Value) := z9 7 rfl
    rw [eS (l := [(6, (.tuple #[((tupAt (W 6) 0)), .bool (longL ar rs ((os.getD k ([], 0, (0, 0, []), 0)).1))])), (7, (.tuple #[((tupAt (W 6) 0)), .bool (longL ar rs ((os.getD k ([], 0, (0, 0, []), 0)).1))]))]) ⟨(e6).symm, e7, ⟨⟩⟩]
    refine qi (je (.bool (longL ar rs ((os.getD k ([], 0, (0, 0, []), 0)).1))) rfl rfl ?_)
    exact ⟨rfl, rfl⟩
   refine gD (fun W Fs R lF z9 => ?_) ?_
   ·obtain ⟨e6, f6_1hx⟩ := z9 6 rfl
    have e8 : W 8 = ((tupAt (W 6) 0)) := z9 8 rfl
    rw [eS (l := [(6, (.tuple #[((tupAt (W 6) 0)), .bool (longL ar rs ((os.getD k ([], 0, (0, 0, []), 0)).1))])), (8, ((tupAt (W 6) 0)))]) ⟨(e6).symm, e8, ⟨⟩⟩]
    refine qi (XOp.assign (((tupAt (W 6) 0))) rfl ?_)
    exact ⟨rfl, rfl⟩
   exact stepsG.nil
  intro W F4 le4 hphi
  obtain ⟨e6, f6_1hx⟩ := hphi 6 (by decide)
  have e7 : W 7 = (.tuple #[((tupAt (W 6) 0)), .bool (longL ar rs ((os.getD k ([], 0, (0, 0, []), 0)).1))] : Value) := hphi 7 (by decide)
  have e8 : W 8 = ((tupAt (W 6) 0)) := hphi 8 (by decide)
  have e10 : W 10 = ((tupAt (W 6) 0)) := hphi 10 (by decide)
  generalize hu1 : ((tupAt (W 6) 0)) = u1 at e6 f6_1hx e7 e8 e10
  rw [eS (l := [(6, (.tuple #[u1, .bool (longL ar rs ((os.getD k ([], 0, (0, 0, []), 0)).1))])), (9, _), (10, u1)]) ⟨(e6).symm, (hphi 9 (by decide)), e10, ⟨⟩⟩]
  replace hC := hC.mono le4
  show XL _ _ _ _ _ _ _ (slH 194 6 ov on ocs :: cellsH b1 [arv, rsv] 39 :: L)
  refine qg (.bool (longL ar rs ((os.getD k ([], 0, (0, 0, []), 0)).1))) rfl (qb (qc (qa ?_)))
  obtain ⟨cso1, Lso1, hXo1, hDo1, hZo1⟩ := f6_1hx
  skip
  refine qd (u1) rfl (cX (qE jp rfl hXo1.slv (qd (ii (0)) rfl (qb (qK (jl (α := Nat × Value × List FoundT × List Value × List HP × Nat × FH) (fun xQ => [(2, ii (n)), (3, ptr b1 0), (8, xQ.2.1), (9, ii ((k : Int))), (41, u1), (42, ii (((((stepsL ar rs ((os.getD k ([], 0, (0, 0, []), 0)).1))).length : Nat) : Int))), (43, ii (((xQ.1 : Nat) : Int)))]) (fun xQ => slH 194 6 xQ.2.1 xQ.2.2.2.2.2.1 xQ.2.2.2.1 :: cellsH b1 [arv, rsv] 39 :: L) (fun xQ F' => xQ.2.2.2.2.2.2 = F' ∧ F4 ≤ xQ.2.2.2.2.2.2 ∧ (IsSl xQ.2.1) ∧ (FoundsC xQ.2.2.2.2.2.2 xQ.2.2.2.1 xQ.2.2.1) ∧ (xQ.2.2.2.2.2.1 = xQ.2.2.1.length) ∧ (DeepL 6 (FoundO 2) xQ.2.2.2.1 xQ.2.2.1 xQ.2.2.2.2.1) ∧ (Fresh F xQ.2.2.2.2.2.2 (star (xQ.2.2.2.2.1 ++ Lso1.drop xQ.1))) ∧ (xQ.1 ≤ (stepsL ar rs (os.getD k ([], 0, (0, 0, []), 0)).1).length) ∧ (xQ.2.2.1.length ≤ 60) ∧ (AllOk ar xQ.2.2.1) ∧ (DeepOk n xQ.2.2.1) ∧ (k < xQ.2.2.1.length) ∧ (EL xQ.2.2.1 k = EL os k) ∧ (addGo (k : Int) (EL os k).2.2.2 (stepsL ar rs (os.getD k ([], 0, (0, 0, []), 0)).1) os = addGo (k : Int) (EL os k).2.2.2 ((stepsL ar rs (os.getD k ([], 0, (0, 0, []), 0)).1).drop xQ.1) xQ.2.2.1)) (fun xQ => (stepsL ar rs (os.getD k ([], 0, (0, 0, []), 0)).1).length - xQ.1) (0, ov, os, ocs, Ts, on, F4) ⟨rfl, rfl, rfl, rfl, rfl, rfl, rfl, ⟨⟩⟩ (sC (sC sR)) ⟨rfl, FLe.refl _, (hov), (hC), (hn), (hD), ((Fresh.app hZ (qh le1 leG1) hZo1 le4)), (by (try dsimp only) <;> omega), (hl), (hok), (hdo), (by dsimp only; omega), (rfl), (rfl)⟩ ?_))))))
  rintro ⟨q, pv, ps, pcs, Us, pn, G2⟩ rE _ _ ⟨rfl, leG, hpv, hCi, hni, hDi, hZi, hq, hli, hoki, hdi, hkp, hel, hgoi⟩
  show X _ _ _ _ (envs [(2, ii (n)), (3, ptr b1 0), (8, pv), (9, ii ((k : Int))), (41, u1), (42, ii (((((stepsL ar rs ((os.getD k ([], 0, (0, 0, []), 0)).1))).length : Nat) : Int))), (43, ii ((q : Int)))] rE) _ (slH 194 6 pv pn pcs :: cellsH b1 [arv, rsv] 39 :: L)
  replace leG : F4 ≤ G2 := leG
  dsimp only at hpv hCi hni hDi hZi hq hli hoki hdi hkp hel hgoi
  have hnl : (stepsL ar rs (os.getD k ([], 0, (0, 0, []), 0)).1).length ≤ 1000 := by have h9 := stepsTo_len (ar := ar) (t := (os.getD k ([], 0, (0, 0, []), 0)).1) (rs := rs) hrl (os.getD k ([], 0, (0, 0, []), 0)).1.length; have h8 := hdl (by omega); show (stepsTo ar rs (os.getD k ([], 0, (0, 0, []), 0)).1 (os.getD k ([], 0, (0, 0, []), 0)).1.length).length ≤ 1000; omega
  have hsok : q < (stepsL ar rs (os.getD k ([], 0, (0, 0, []), 0)).1).length → 1 ≤ ((stepsL ar rs (os.getD k ([], 0, (0, 0, []), 0)).1).getD q (0, 0, [])).2.2.length ∧ ((stepsL ar rs (os.getD k ([], 0, (0, 0, []), 0)).1).getD q (0, 0, [])).2.2.length ≤ 60 := fun h => termOk_len (steps_ok hsys (hdk (by omega)) h)
  have hdn : 0 ≤ (ps.getD k ([], 0, (0, 0, []), 0)).2.2.2 ∧ (ps.getD k ([], 0, (0, 0, []), 0)).2.2.2 ≤ 1000 := by have h8 : (EL ps k).2.2.2 = (EL os k).2.2.2 := (by rw [hel]); have h9 := hdo k (by omega); have h7 : (ps.getD k ([], 0, (0, 0, []), 0)).2.2.2 = (EL ps k).2.2.2 := rfl; omega
  have leG2 := leG
  replace hC := hC.mono leG2
  replace hXo1 := hXo1.mono leG2
  refine qc (qa (cX (qW rfl rfl (qb (qc ?_)))))
  refine qA (p := (q : Int) < ((((stepsL ar rs ((os.getD k ([], 0, (0, 0, []), 0)).1))).length : Nat) : Int)) rfl (fun h3 => ?_) (fun h3 => ?_)
  ·refine qw (qc (qK (qc (qa (cX (qD q jp jH rfl rfl rfl hXo1.slv (by omega) rfl ?_))))))
   obtain ⟨a3, ha3, hr1, hr2, hr3, hq2⟩ := hXo1.rd (i := q) (by omega)
   refine cX (qr [ii ((((stepsL ar rs ((os.getD k ([], 0, (0, 0, []), 0)).1))).getD q (0, 0, [])).1), ii ((((stepsL ar rs ((os.getD k ([], 0, (0, 0, []), 0)).1))).getD q (0, 0, [])).2.1), a3] isAgg192 jH rfl rfl (Rd.three (hr1 _) (hr2 _) (hr3 _)) (cX (ji [ii (0), ii (0), sN] jX rfl ?_)))
   intro b2
   refine cX (qL [] _ [ii ((((stepsL ar rs ((os.getD k ([], 0, (0, 0, []), 0)).1))).getD q (0, 0, [])).1), ii ((((stepsL ar rs ((os.getD k ([], 0, (0, 0, []), 0)).1))).getD q (0, 0, [])).2.1), a3] jH rfl rfl rfl (qn rfl (qn rfl (qn (qG (qz ha3)) qO))) rfl rfl rfl (qb (qc (qc (qa (qd (pv) rfl (cX (ql (2) jJ rfl qs (by decide) rfl rfl (cX (qj qU rfl (Rd.own [] rfl rfl) (cX (XOp.lend [_] _ _ rfl (fun F5 le5 hz2 => ?_)))))))))))))
   have hf2 : FoundsF _ pv ps pcs := (FoundsC.fz (FoundsC.mono hCi (qh le5 rF)) (by first | rfl | assumption | omega | (rw [List.length_append]; simp only [List.length_singleton]; omega)) hz2 : FoundsF _ pv ps pcs)
   refine id (qm (args := [pv, a3]) call246 rfl (found_spec hf2 ((ha3.mono le5)) (hlt := (by omega)) (hlu := (by have := hsok (by omega); omega))) ?_)
   rintro _ _ _ _ ⟨rfl, rfl, rfl⟩
   show XL _ _ _ _ _ _ _ (slH 194 6 pv pn pcs :: cellsH b2 [ii ((((stepsL ar rs ((os.getD k ([], 0, (0, 0, []), 0)).1))).getD q (0, 0, [])).1), ii ((((stepsL ar rs ((os.getD k ([], 0, (0, 0, []), 0)).1))).getD q (0, 0, [])).2.1), a3] 192 :: cellsH b1 [arv, rsv] 39 :: L)
   refine cX (jQ rfl rfl (qb ?_))
   refine qA (p := (foundI ps ((((stepsL ar rs ((os.getD k ([], 0, (0, 0, []), 0)).1))).getD q (0, 0, [])).2.2) : Int) ≥ 0) rfl (fun h4 => ?_) (fun h4 => ?_)
   ·have hin : isIn ps ((stepsL ar rs (os.getD k ([], 0, (0, 0, []), 0)).1).getD q (0, 0, [])).2.2 = true := foundI_iff.1 h4
    refine jk (qt (qM (qa (cX (qH (((q + 1 : Nat) : Int)) rfl rfl (by omega) (by omega) (qd (ii (((q + 1 : Nat) : Int))) rfl (qb ?_)))))))
    exact ⟨(q + 1, pv, ps, pcs, Us, pn, G2), _, leG2, rF, ⟨rfl, rfl, rfl, rfl, rfl, rfl, rfl, ⟨⟩⟩, (sC (sD (sC sR))), ⟨rfl, leG2, (hpv), (hCi), (hni), (hDi), ((Fresh.skipLeaf hZi ((hDo1.leaves).2 q a3 (by omega) hq2))), (by (try dsimp only) <;> omega), (by (try dsimp only) <;> omega), (hoki), (hdi), (by (try dsimp only) <;> omega), (hel), (by (try dsimp only); exact hgoi.trans (add_in (by omega) hin))⟩, (by omega)⟩
   have hnin : isIn ps ((stepsL ar rs (os.getD k ([], 0, (0, 0, []), 0)).1).getD q (0, 0, [])).2.2 = false := by rw [Bool.eq_false_iff]; exact fun h9 => h4 (foundI_iff.2 h9)
   refine qw (qc (qc (qa (qd (pv) rfl (cX (qE jN rfl (SlV.own [] rfl) (cX (js rfl rfl (qb ?_)))))))))
   refine qA (p := (((pn : Nat) : Int) : Int) = 60) rfl (fun h5 => ?_) (fun h5 => ?_)
   ·refine qc (qa (qd (pv) rfl (qg (pv) rfl (qg (.bool (false)) rfl (qb (qQ [] _ _ rfl (fun F6 le6 hz3 => ?_)))))))
    replace hC := hC.mono le6
    replace hCi := hCi.mono le6
    replace ha3 := ha3.mono le6
    have hf3 : FoundsF F6 pv ps pcs := FoundsC.fz hCi (by first | rfl | simp | omega) hz3.fz
    refine qu (qk (qC (qk (qk (qC (qC (qk (qk (qC (qk (qq (L' := L) [pv, .bool (false)] (.tuple #[pv, .bool (false)]) (.tmp rfl (.tmp rfl .nil)) rfl (qh (qh (qh (qh le1 leG1) le4) leG2) le6) rF (sD (sD sR)) ?_)))))))))))
    have h9 := hgoi.trans (add_full (by omega) hnin (by omega))
    have h8 := reach_stop (ar := ar) (rs := rs) (n := n) (f := 60 - k - 1) (show k < os.length by omega) (by omega) hdeep (by rw [h9])
    have e9 : reachL ar rs t n = (ps, false) := (hgo.trans h8).trans h9
    rw [e9]
    exact ⟨_, _, _, rfl, hf3, hDi, ((Fresh.noMore hZi).mono le6), rfl⟩
   refine qw ?_
   obtain ⟨a4, a5, ha4, ha5, hq3⟩ := hCi.get (i := k) (by omega)
   refine jY [slH 194 6 pv pn pcs, cellsH b2 [ii ((((stepsL ar rs ((os.getD k ([], 0, (0, 0, []), 0)).1))).getD q (0, 0, [])).1), ii ((((stepsL ar rs ((os.getD k ([], 0, (0, 0, []), 0)).1))).getD q (0, 0, [])).2.1), a3] 192, cellsH b1 [arv, rsv] 39] L 13 [] [[], [], [1], [], [], [], [], [5, 6], [7], [8], [9], [2, 3, 4, 10], [11]] (phiL [qe pv, qe (ptr b2 2), qe a3, qe (ii ((k : Int)) : Value), qe (.agg #[ii ((((stepsL ar rs ((os.getD k ([], 0, (0, 0, []), 0)).1))).getD q (0, 0, [])).1), ii ((((stepsL ar rs ((os.getD k ([], 0, (0, 0, []), 0)).1))).getD q (0, 0, [])).2.1), a3]), qe pv, qe (ii ((k : Int)) : Value), qe (.pointer (some (elemA pv (k * 6)))), qe (.pointer (some (elemA pv (k * 6 + 5)))), qe (ii ((ps.getD k ([], 0, (0, 0, []), 0)).2.2.2)), qe (ii (((ps.getD k ([], 0, (0, 0, []), 0)).2.2.2) + 1)), qe (.agg #[a3, ii ((k : Int)), ii ((((stepsL ar rs ((os.getD k ([], 0, (0, 0, []), 0)).1))).getD q (0, 0, [])).1), ii ((((stepsL ar rs ((os.getD k ([], 0, (0, 0, []), 0)).1))).getD q (0, 0, [])).2.1), a3, ii (((ps.getD k ([], 0, (0, 0, []), 0)).2.2.2) + 1)] : Value), fun us v => ∃ b, v = .slice (some ⟨b, 0, none⟩) 1 1]) (ownL [o0, o0, o0, o0, o0, o0, o0, o0, o0, o0, o0, o0, fun us v => [slH 194 6 v 1 [a3, ii ((k : Int)), ii ((((stepsL ar rs ((os.getD k ([], 0, (0, 0, []), 0)).1))).getD q (0, 0, [])).1), ii ((((stepsL ar rs ((os.getD k ([], 0, (0, 0, []), 0)).1))).getD q (0, 0, [])).2.1), a3, ii (((ps.getD k ([], 0, (0, 0, []), 0)).2.2.2) + 1)]]]) mixed rfl rfl (by kernel_rfl) ?_ ?_
   ·refine pD (fun W R z9 => ?_) ?_
    ·refine qi (qp (pv) rfl ?_)
     exact ⟨rfl, rfl, rfl⟩
    refine pD (fun W R z9 => ?_) ?_
    ·refine qi (ql (2) jJ rfl qs (by decide) rfl rfl ?_)
     exact ⟨rfl, rfl, rfl⟩
    refine pD (fun W R z9 => ?_) ?_
    ·rw [eS (l := [(1, _)]) ⟨z9 1 rfl, ⟨⟩⟩]
     refine qi (qj qU rfl (Rd.own [_] rfl rfl) ?_)
     exact ⟨rfl, rfl, rfl⟩
    refine pD (fun W R z9 => ?_) ?_
    ·refine qi (qp (ii ((k : Int))) rfl ?_)
     exact ⟨rfl, rfl, rfl⟩
    refine pD (fun W R z9 => ?_) ?_
    ·refine qi (qr [ii ((((stepsL ar rs ((os.getD k ([], 0, (0, 0, []), 0)).1))).getD q (0, 0, [])).1), ii ((((stepsL ar rs ((os.getD k ([], 0, (0, 0, []), 0)).1))).getD q (0, 0, [])).2.1), a3] isAgg192 jH rfl rfl (Rd.ownN [_] rfl rfl) ?_)
     exact ⟨rfl, rfl, rfl⟩
    refine pD (fun W R z9 => ?_) ?_
    ·refine qi (qp (pv) rfl ?_)
     exact ⟨rfl, rfl, rfl⟩
    refine pD (fun W R z9 => ?_) ?_
    ·refine qi (qp (ii ((k : Int))) rfl ?_)
     exact ⟨rfl, rfl, rfl⟩
    refine pD (fun W R z9 => ?_) ?_
    ·rw [eS (l := [(5, _), (6, _)]) ⟨z9 5 rfl, z9 6 rfl, ⟨⟩⟩]
     refine qi (qD k jN sizeOf194 rfl rfl rfl (SlV.own [] rfl) (by omega) rfl ?_)
     exact ⟨rfl, rfl, rfl⟩
    refine pD (fun W R z9 => ?_) ?_
    ·rw [eS (l := [(7, _)]) ⟨z9 7 rfl, ⟨⟩⟩]
     refine qi (XOp.fieldE (k * 6 + 5) runUnderlying194 rfl qB (by decide) rfl rfl ?_)
     exact ⟨rfl, rfl, rfl⟩
    refine pD (fun W R z9 => ?_) ?_
    ·rw [eS (l := [(8, _)]) ⟨z9 8 rfl, ⟨⟩⟩]
     refine qi (qj jm rfl (Rd.sl [] rfl (hq3 5 _ rfl)) ?_)
     exact ⟨rfl, rfl, rfl⟩
    refine pD (fun W R z9 => ?_) ?_
    ·rw [eS (l := [(9, _)]) ⟨z9 9 rfl, ⟨⟩⟩]
     refine qi (qH (((ps.getD k ([], 0, (0, 0, []), 0)).2.2.2) + 1) rfl rfl (by omega) (by omega) ?_)
     exact ⟨rfl, rfl, rfl⟩
    refine pD (fun W R z9 => ?_) ?_
    ·rw [eS (l := [(2, _), (3, _), (4, _), (10, _)]) ⟨z9 2 rfl, z9 3 rfl, z9 4 rfl, z9 10 rfl, ⟨⟩⟩]
     refine qi (jh [a3, ii ((k : Int)), ii ((((stepsL ar rs ((os.getD k ([], 0, (0, 0, []), 0)).1))).getD q (0, 0, [])).1), ii ((((stepsL ar rs ((os.getD k ([], 0, (0, 0, []), 0)).1))).getD q (0, 0, [])).2.1), a3, ii (((ps.getD k ([], 0, (0, 0, []), 0)).2.2.2) + 1)] [sN, ii (0), ii (0), ii (0), sN, ii (0)] [(0, 1), (1, 1), (2, 3), (5, 1)] [(0, [a3]), (1, [ii ((k : Int))]), (2, [ii ((((stepsL ar rs ((os.getD k ([], 0, (0, 0, []), 0)).1))).getD q (0, 0, [])).1), ii ((((stepsL ar rs ((os.getD k ([], 0, (0, 0, []), 0)).1))).getD q (0, 0, [])).2.1), a3]), (3, [ii (((ps.getD k ([], 0, (0, 0, []), 0)).2.2.2) + 1)])] runUnderlying194 zeroValue194 rfl (.cons rfl qs (.cons rfl jV (.cons rfl jH (.cons rfl qB PlacesAre.nil)))) rfl (.cons (cells_one (qz ha3)) (.cons rfl (.cons rfl (.cons rfl CellsAre.nil)))) ?_)
     exact ⟨rfl, rfl, rfl⟩
    refine pD (fun W R z9 => ?_) ?_
    ·rw [eS (l := [(11, _)]) ⟨z9 11 rfl, ⟨⟩⟩]
     refine qi (qo (s := 6) [a3, ii ((k : Int)), ii ((((stepsL ar rs ((os.getD k ([], 0, (0, 0, []), 0)).1))).getD q (0, 0, [])).1), ii ((((stepsL ar rs ((os.getD k ([], 0, (0, 0, []), 0)).1))).getD q (0, 0, [])).2.1), a3, ii (((ps.getD k ([], 0, (0, 0, []), 0)).2.2.2) + 1)] [sN, ii (0), ii (0), ii (0), sN, ii (0)] [(0, [a3, ii ((k : Int)), ii ((((stepsL ar rs ((os.getD k ([], 0, (0, 0, []), 0)).1))).getD q (0, 0, [])).1), ii ((((stepsL ar rs ((os.getD k ([], 0, (0, 0, []), 0)).1))).getD q (0, 0, [])).2.1), a3, ii (((ps.getD k ([], 0, (0, 0, []), 0)).2.2.2) + 1)])] jN sizeOf194 zeroValue194 rfl (by decide) rfl (.cons rfl CellsAre.nil) rfl ?_)
     intro v4 hv3
     exact ⟨rfl, hv3, rfl⟩
    exact stepsP.nil
   intro W hphi
   have f12 : ∃ b, (W 12) = .slice (some ⟨b, 0, none⟩) 1 1 := hphi 12 (by decide)
   generalize hu12 : W 12 = u2 at f12
   rw [eS (l := [(0, _), (12, u2)]) ⟨(hphi 0 (by decide)), hu12, ⟨⟩⟩]
   show XL _ _ _ _ _ _ _ (slH 194 6 u2 1 [a3, ii ((k : Int)), ii ((((stepsL ar rs ((os.getD k ([], 0, (0, 0, []), 0)).1))).getD q (0, 0, [])).1), ii ((((stepsL ar rs ((os.getD k ([], 0, (0, 0, []), 0)).1))).getD q (0, 0, [])).2.1), a3, ii (((ps.getD k ([], 0, (0, 0, []), 0)).2.2.2) + 1)] :: slH 194 6 pv pn pcs :: cellsH b2 [ii ((((stepsL ar rs ((os.getD k ([], 0, (0, 0, []), 0)).1))).getD q (0, 0, [])).1), ii ((((stepsL ar rs ((os.getD k ([], 0, (0, 0, []), 0)).1))).getD q (0, 0, [])).2.1), a3] 192 :: cellsH b1 [arv, rsv] 39 :: L)
   refine cX (jG (m := 1) (bytes := 80) (cs := pcs) [_] _ [a3, ii ((k : Int)), ii ((((stepsL ar rs ((os.getD k ([], 0, (0, 0, []), 0)).1))).getD q (0, 0, [])).1), ii ((((stepsL ar rs ((os.getD k ([], 0, (0, 0, []), 0)).1))).getD q (0, 0, [])).2.1), a3, ii (((ps.getD k ([], 0, (0, 0, []), 0)).2.2.2) + 1)] jN typeInfo194 rfl rfl rfl rfl rfl rfl rfl (SlV.own [] rfl) rfl (Rd.lit [] rfl) (qn (qG (qz ha3)) (qn rfl (qn rfl (qn rfl (qn (qG (qz ha3)) (qn rfl qO)))))) (by (try simp only [List.length_append, List.length_nil, List.length_cons, List.length_singleton]); omega) (by (try simp only [List.length_append, List.length_nil, List.length_cons, List.length_singleton]); omega) ?_)
   intro v5 hs2 hn1 hm1
   have hc2 := FoundsC.snoc hCi (y0 := (((stepsL ar rs ((os.getD k ([], 0, (0, 0, []), 0)).1))).getD q (0, 0, [])).2.2) (y1 := (k : Int)) (y2 := (((stepsL ar rs ((os.getD k ([], 0, (0, 0, []), 0)).1))).getD q (0, 0, [])).1) (y3 := (((stepsL ar rs ((os.getD k ([], 0, (0, 0, []), 0)).1))).getD q (0, 0, [])).2.1) (y4 := (((stepsL ar rs ((os.getD k ([], 0, (0, 0, []), 0)).1))).getD q (0, 0, [])).2.2) (y5 := ((ps.getD k ([], 0, (0, 0, []), 0)).2.2.2) + 1) ha3 ha3
   refine qg (v5) rfl (qb (qa (cX (qH (((q + 1 : Nat) : Int)) rfl rfl (by omega) (by omega) (qd (ii (((q + 1 : Nat) : Int))) rfl (qb ?_))))))
   exact ⟨(q + 1, v5, ps ++ [((((stepsL ar rs ((os.getD k ([], 0, (0, 0, []), 0)).1))).getD q (0, 0, [])).2.2, (k : Int), ((((stepsL ar rs ((os.getD k ([], 0, (0, 0, []), 0)).1))).getD q (0, 0, [])).1, (((stepsL ar rs ((os.getD k ([], 0, (0, 0, []), 0)).1))).getD q (0, 0, [])).2.1, (((stepsL ar rs ((os.getD k ([], 0, (0, 0, []), 0)).1))).getD q (0, 0, [])).2.2), ((ps.getD k ([], 0, (0, 0, []), 0)).2.2.2) + 1)], pcs ++ [a3, ii ((k : Int)), ii ((((stepsL ar rs ((os.getD k ([], 0, (0, 0, []), 0)).1))).getD q (0, 0, [])).1), ii ((((stepsL ar rs ((os.getD k ([], 0, (0, 0, []), 0)).1))).getD q (0, 0, [])).2.1), a3, ii (((ps.getD k ([], 0, (0, 0, []), 0)).2.2.2) + 1)], Us ++ [intsH 2 a3 ((stepsL ar rs (os.getD k ([], 0, (0, 0, []), 0)).1).getD q (0, 0, [])).2.2], (pn) + 1, G2), _, leG2, rF, ⟨rfl, rfl, rfl, rfl, rfl, rfl, rfl, ⟨⟩⟩, (sD (sC (sD (sC sR)))), ⟨rfl, leG2, (hs2), (hc2), (by (try dsimp only); rw [List.length_append, List.length_singleton]; omega), (DeepL.snoc hDi rfl ⟨_, _, rfl, rfl⟩), ((Fresh.keepLeaf hZi ((hDo1.leaves).2 q a3 (by omega) hq2))), (by (try dsimp only) <;> omega), (by (try dsimp only); rw [List.length_append, List.length_singleton]; omega), (hoki.snoc (steps_ok hsys (hdk (by omega)) (by omega))), (hdi.snoc (by have h9 := hdo k (by omega); have h8 : (EL ps k).2.2.2 = (EL os k).2.2.2 := (by rw [hel]); have h7 : (EL ps k).2.2.2 = (ps.getD k ([], 0, (0, 0, []), 0)).2.2.2 := rfl; have h6 : (EL os k).2.2.2 = (os.getD k ([], 0, (0, 0, []), 0)).2.2.2 := rfl; dsimp only; omega)), (by (try dsimp only); rw [List.length_append, List.length_singleton]; omega), (by (try dsimp only); rw [EL_snoc (by omega)]; exact hel), (by (try dsimp only); rw [show (ps.getD k ([], 0, (0, 0, []), 0)) = EL os k from hel]; exact hgoi.trans (add_new (by omega) hnin (by omega)))⟩, (by omega)⟩
  refine jk (qt (qt (qM (qa (qd (ii ((k : Int))) rfl (cX (qH (((k + 1 : Nat) : Int)) rfl rfl (by omega) (by omega) (qg (ii (((k + 1 : Nat) : Int))) rfl (qb ?_)))))))))
  exact ⟨(k + 1, pv, ps, pcs, Us, pn, G2), _, (qh (qh leG1 le4) leG2), rF, ⟨rfl, rfl, rfl, rfl, ⟨⟩⟩, (sC (sC sR)), ⟨rfl, (qh (qh leG1 le4) leG2), (hpv), (hCi), (hni), (hDi), ((Fresh.noMore hZi)), (by (try dsimp only); omega), (by (try dsimp only) <;> omega), (hoki), (hdi), (by (try dsimp only); have h9 := hgoi.trans (add_end (by omega)); have h8 := reach_more (ar := ar) (rs := rs) (n := n) (f := 60 - k - 1) (show k < os.length by omega) (by omega) hdeep (by rw [h9]); rw [h9] at h8; exact hgo.trans h8)⟩, (by (try dsimp only); omega)⟩
 refine jk (qt (qt (qM (qc (qa (qd (ov) rfl (qg (ov) rfl (qg (.bool (true)) rfl (qb (qQ [] _ _ rfl (fun F7 le7 hz4 => ?_)))))))))))
 replace hC := hC.mono le7
 have hf4 : FoundsF F7 ov os ocs := FoundsC.fz hC (by first | rfl | simp | omega) hz4.fz
 refine qu (qq (L' := L) [ov, .bool (true)] (.tuple #[ov, .bool (true)]) (.tmp rfl (.tmp rfl .nil)) rfl (qh (qh le1 leG1) le7) rF (sD sR) ?_)
 have e9 : reachL ar rs t n = (os, true) := hgo.trans (reach_done (by omega) hl)
 rw [e9]
 exact ⟨_, _, _, rfl, hf4, hD, (hZ.mono le7), rfl⟩

/- impl.reachOk -/
theorem reachOk_spec {F : FH} {L : List HP} {arv : Value} {ar : List Int} (har : IntsF F arv ar) {rsv : Value} {rs : List (List Int × List Int)} (hrs : PairsF F rsv rs) {n : Int} {tsv : Value} {ts : List (List Int)} (hts : RowsF F tsv ts) (hlt : ts.length ≤ 4000000) :
    Does prog 127 [.agg #[arv, rsv], ii (n), tsv] F (L) (fun v F' L' => (.bool (reachOkL ar rs n ts) : Value) = v ∧ F = F' ∧ L = L') := by
 refine qI func127 rfl rfl rfl (qc (qa (cX (jc [arv, rsv] rfl rfl ?_))))
 intro b1
 refine qg (.bool (false)) rfl (qb (qc (qc (qa (cX (qr [arv, rsv] ja qP rfl rfl (Rd.ownN [] rfl rfl) (cX (qm (args := [.agg #[arv, rsv]]) call172 rfl (SystemOk_spec har hrs) ?_))))))))
 rintro _ _ _ _ ⟨rfl, rfl, rfl⟩
 refine cX (jE rfl (qd (.bool (!(sysOk ar rs))) rfl ?_))
 by_cases h1 : (!(sysOk ar rs)) = true
 ·refine qx (t := 12) rfl (vB h1) (qx (t := 12) rfl (vB h1) (cX (jj (.bool (true)) (vB h1) rfl (qd (.bool (true)) rfl (qx (t := 16) rfl rfl (qx (t := 16) rfl rfl (cX (jj (.bool (true)) rfl rfl (qb (yd rfl (qc (qa ?_))))))))))))
  refine qg (.bool (false)) rfl (qb (qu (qk (qq (L' := L) [.bool (false)] (.bool (false)) (.tmp rfl .nil) rfl rF rF (sD sR) ?_))))
  exact ⟨(vB (by unfold reachOkL; simp_all <;> omega)), rfl, rfl⟩
 rw [Bool.not_eq_true] at h1
 refine qy (t := 12) rfl (vB h1) (qp (ii (n)) rfl (qy (t := 12) rfl (vB h1) (qW rfl rfl (cX (qY (.bool (decide ((n : Int) < 0))) (vB h1) rfl (qd (.bool (decide ((n : Int) < 0))) rfl ?_))))))
 by_cases h2 : (n : Int) < 0
 ·refine qx (t := 16) rfl (vT h2) (qx (t := 16) rfl (vT h2) (cX (jj (.bool (true)) (vT h2) rfl (qb (yd rfl (qc (qa (qg (.bool (false)) rfl (qb (qu (qk (qq (L' := L) [.bool (false)] (.bool (false)) (.tmp rfl .nil) rfl rF rF (sD sR) ?_))))))))))))
  exact ⟨(vB (by unfold reachOkL; simp_all <;> omega)), rfl, rfl⟩
 refine qy (t := 16) rfl (vF h2) (qp (ii (n)) rfl (qy (t := 16) rfl (vF h2) (jI rfl rfl (cX (qY (.bool (decide ((n : Int) > 20))) (vF h2) rfl (qb ?_))))))
 refine qA (p := (n : Int) > 20) rfl (fun h3 => ?_) (fun h3 => ?_)
 ·refine qc (qa (qg (.bool (false)) rfl (qb (qu (qk (qq (L' := L) [.bool (false)] (.bool (false)) (.tmp rfl .nil) rfl rF rF (sD sR) ?_))))))
  exact ⟨(vB (by unfold reachOkL; simp_all <;> omega)), rfl, rfl⟩
 refine qw (qc (qc (qa (qd (tsv) rfl (cX (qE qv rfl hts.slv (qd (ii (0)) rfl (qb (qK (jl (α := Nat) (fun k => [(3, ptr b1 0), (20, tsv), (21, ii ((ts.length : Int))), (22, ii ((k : Int)))]) (fun k => cellsH b1 [arv, rsv] 39 :: L) (fun k F' => F = F' ∧ (k ≤ ts.length) ∧ (∀ i, i < k → termOk ar (ts.getD i []) = true)) (fun k => ts.length - k) 0 ⟨rfl, rfl, rfl, rfl, ⟨⟩⟩ (sC sR) ⟨rfl, (by (try dsimp only) <;> omega), (fun i hi => absurd hi (by omega))⟩ ?_))))))))))
 rintro k rE _ _ ⟨rfl, hk, hall⟩
 show X _ _ _ _ (envs [(3, ptr b1 0), (20, tsv), (21, ii ((ts.length : Int))), (22, ii ((k : Int)))] rE) _ (cellsH b1 [arv, rsv] 39 :: L)
 refine qc (qa (cX (qW rfl rfl (qb (qc ?_)))))
 refine qA (p := (k : Int) < (ts.length : Int)) rfl (fun h4 => ?_) (fun h4 => ?_)
 ·refine qw (qc (qK (qc (qa (cX (qD k qv qs rfl rfl rfl hts.slv (by omega) (Nat.mul_one _) ?_))))))
  obtain ⟨a1, ha1, hr1⟩ := hts.rd (i := k) (by omega)
  refine cX (qj qU rfl (hr1 _) (qg (a1) rfl (qb (qc (qa (cX (ql (0) qJ rfl qF (by decide) rfl rfl (cX (qr [arv] qX qF rfl rfl (Rd.ownN [] rfl rfl) (qd (a1) rfl (cX (qm (args := [.agg #[arv], a1]) call112 rfl (TermOk_spec har ha1) ?_))))))))))))
  rintro _ _ _ _ ⟨rfl, rfl, rfl⟩
  refine cX (jE rfl (qb ?_))
  refine jz (t := !(termOk ar ((ts.getD k [])))) rfl (fun h5 => ?_) (fun h5 => ?_)
  ·refine qc (qa (qg (.bool (false)) rfl (qb (qu (qC (qk (qk (qC (qk (qq (L' := L) [.bool (false)] (.bool (false)) (.tmp rfl .nil) rfl rF rF (sD sR) ?_))))))))))
   exact ⟨(vB (reachOk_fail (k := k) (by omega) (by simp_all))), rfl, rfl⟩
  refine qw (qa (cX (qH (((k + 1 : Nat) : Int)) rfl rfl (by omega) (by omega) (qd (ii (((k + 1 : Nat) : Int))) rfl (qb ?_)))))
  exact ⟨k + 1, _, FLe.refl _, rF, ⟨rfl, rfl, rfl, rfl, ⟨⟩⟩, (sC sR), ⟨rfl, (by (try dsimp only) <;> omega), (fun i hi => (Nat.lt_or_ge i k).elim (fun h => hall i h) (fun h => by obtain rfl : i = k := (by omega); simp_all))⟩, (by omega)⟩
 refine jk (qt (qt (qM (qc (qa (qg (.bool (true)) rfl (qb (qu (qq (L' := L) [.bool (true)] (.bool (true)) (.tmp rfl .nil) rfl rF rF (sD sR) ?_)))))))))
 exact ⟨(vB (reachOk_all (by simp_all) (by omega) (fun i hi => hall i (by omega)))), rfl, rfl⟩

/- spec.l7Steps -/
theorem l7Steps_spec {F : FH} {L : List HP} {arv : Value} {ar : List Int} (har : IntsF F arv ar) {rsv : Value} {rs : List (List Int × List Int)} (hrs : PairsF F rsv rs) {tv : Value} {t : List Int} (ht : IntsF F tv t) (hsys : sysOk ar rs = true) (ho : termOk ar t = true) :
    Does prog 243 [.agg #[arv, rsv], tv] F (L) (fun v F' L' => ∃ (a : Value), (a : Value) = v ∧ (StepsF F' a (stepsL ar rs t)) ∧ L = L') := by
 refine qI func243 rfl rfl rfl ?_
 have hnn := jt ht (by have := termOk_len ho; omega)
 have htl := termOk_len ho
 have hrl := (sysOk_iff.1 hsys).2.1
 have hsig := (sysOk_iff.1 hsys).1
 have hsl := sigOk_spec hsig
 refine qc (qa (cX (jc [arv, rsv] rfl rfl ?_)))
 intro b1
 refine qg (sN) rfl (qb (qc (qa (cX (qo (s := 3) [] [ii (0), ii (0), sN] [] jp jH jX rfl (by decide) rfl CellsAre.nil rfl ?_)))))
 intro v1 hv1
 refine qg (v1) rfl (qb (qc (qc (qa (qg (ii (0)) rfl (qb (qK (jl (α := Nat × Value × List StepT × List Value × Nat × FH) (fun xQ => [(1, tv), (2, ptr b1 0), (5, xQ.2.1), (6, ii (((xQ.1 : Nat) : Int)))]) (fun xQ => slH 192 3 xQ.2.1 xQ.2.2.2.2.1 xQ.2.2.2.1 :: cellsH b1 [arv, rsv] 39 :: L) (fun xQ F' => xQ.2.2.2.2.2 = F' ∧ F ≤ xQ.2.2.2.2.2 ∧ (xQ.1 ≤ t.length) ∧ (IsSl xQ.2.1) ∧ (StepsC xQ.2.2.2.2.2 xQ.2.2.2.1 xQ.2.2.1) ∧ (xQ.2.2.2.2.1 = xQ.2.2.1.length) ∧ (xQ.2.2.1 = stepsTo ar rs t xQ.1)) (fun xQ => t.length - xQ.1) (0, v1, [], [], 0, F) ⟨rfl, rfl, rfl, rfl, ⟨⟩⟩ (sC (sC sR)) ⟨rfl, FLe.refl _, (by (try dsimp only) <;> omega), ((qN hv1)), (CO.nil), (rfl), (rfl)⟩ ?_))))))))
 rintro ⟨k, sv, ss, cs, m, G1⟩ rE _ _ ⟨rfl, leG, hk, hsv, hC, hm, hss⟩
 show X _ _ _ _ (envs [(1, tv), (2, ptr b1 0), (5, sv), (6, ii ((k : Int)))] rE) _ (slH 192 3 sv m cs :: cellsH b1 [arv, rsv] 39 :: L)
 replace leG : F ≤ G1 := leG
 dsimp only at hk hsv hC hm hss
 have hsl1 := stepsTo_len (ar := ar) (t := t) (rs := rs) hrl k
 have hss0 := hss
 have leG1 := leG
 replace har := har.mono leG1
 replace hrs := hrs.mono leG1
 replace ht := ht.mono leG1
 refine qc (qc (qa (qd (ii ((k : Int))) rfl (qd (tv) rfl (cX (qE qf rfl ht.slv (cX (qW rfl rfl (qb ?_)))))))))
 refine qA (p := (k : Int) < (t.length : Int)) rfl (fun h1 => ?_) (fun h1 => ?_)
 ·refine qw (qc (qK (qc (qa (qg (ii (0)) rfl (qb (qK (jl (α := Nat × Value × List StepT × List Value × Nat × FH) (fun xQ => [(1, tv), (2, ptr b1 0), (5, xQ.2.1), (6, ii ((k : Int))), (7, ii (((xQ.1 : Nat) : Int)))]) (fun xQ => slH 192 3 xQ.2.1 xQ.2.2.2.2.1 xQ.2.2.2.1 :: cellsH b1 [arv, rsv] 39 :: L) (fun xQ F' => xQ.2.2.2.2.2 = F' ∧ G1 ≤ xQ.2.2.2.2.2 ∧ (xQ.1 ≤ rs.length) ∧ (IsSl xQ.2.1) ∧ (StepsC xQ.2.2.2.2.2 xQ.2.2.2.1 xQ.2.2.1) ∧ (xQ.2.2.2.2.1 = xQ.2.2.1.length) ∧ (xQ.2.2.1 = stepsTo ar rs t k ++ stepsRow ar rs t k xQ.1)) (fun xQ => rs.length - xQ.1) (0, sv, ss, cs, m, G1) ⟨rfl, rfl, rfl, rfl, rfl, ⟨⟩⟩ (sC (sC sR)) ⟨rfl, FLe.refl _, (by (try dsimp only) <;> omega), (hsv), (hC), (hm), (by (try dsimp only); rw [hss0]; simp [stepsRow])⟩ ?_))))))))
  rintro ⟨r, sv, ss, cs, m, G2⟩ rE _ _ ⟨rfl, leG, hr, hsvi, hCi, hmi, hssi⟩
  show X _ _ _ _ (envs [(1, tv), (2, ptr b1 0), (5, sv), (6, ii ((k : Int))), (7, ii ((r : Int)))] rE) _ (slH 192 3 sv m cs :: cellsH b1 [arv, rsv] 39 :: L)
  replace leG : G1 ≤ G2 := leG
  dsimp only at hr hsvi hCi hmi hssi
  have hsl2 := stepsRow_len (ar := ar) (rs := rs) (t := t) (p := k) r
  have hssl : ss.length ≤ 1000 := by rw [hssi, List.length_append]; omega
  have leG2 := leG
  replace har := har.mono leG2
  replace hrs := hrs.mono leG2
  replace ht := ht.mono leG2
  replace hC := hC.mono leG2
  refine qc (qc (qa (qd (ii ((r : Int))) rfl (cX (ql (1) qJ rfl jw (by decide) rfl rfl (cX (qj yb rfl (Rd.own [_] rfl rfl) (cX (qE jd rfl hrs.slv (cX (qW rfl rfl (qb ?_))))))))))))
  refine qA (p := (r : Int) < (rs.length : Int)) rfl (fun h2 => ?_) (fun h2 => ?_)
  ·refine qw (qc (qK (qc (qa (cX (qr [arv, rsv] ja qP rfl rfl (Rd.ownN [_] rfl rfl) (qd (tv) rfl (qd (ii ((k : Int))) rfl (qd (ii ((r : Int))) rfl (cX (qm (args := [.agg #[arv, rsv], tv, ii (k : Int), ii (r : Int)]) call110 rfl (l7Step_spec (p := k) (r := r) har hrs ht (hsys := (by first | assumption | rfl | omega | simp)) (ho := (by first | assumption | rfl | omega | simp)) (hp := (by first | assumption | rfl | omega | simp)) (hr := (by first | assumption | rfl | omega | simp))) ?_)))))))))))
   rintro _ F1 _ le1 ⟨x1, rfl, hr1, rfl⟩
   replace hC := hC.mono le1
   replace hCi := hCi.mono le1
   refine qd (.tuple #[x1, .bool ((stepL ar rs t k r).isSome)]) rfl (cX (je (x1) rfl rfl (cX (je (.bool ((stepL ar rs t k r).isSome)) rfl rfl (qg (x1) rfl (qg (.bool ((stepL ar rs t k r).isSome)) rfl (qb (qc (qa (qd (.bool ((stepL ar rs t k r).isSome)) rfl (qb ?_)))))))))))
   refine jz (t := (stepL ar rs t k r).isSome) rfl (fun h3 => ?_) (fun h3 => ?_)
   ·have hone : stepOne ar rs t k r = [((k : Int), (r : Int), (stepL ar rs t k r).getD [])] := (one_some h3).1
    refine qa (qd (sv) rfl (qd (ii ((k : Int))) rfl (qd (ii ((r : Int))) rfl (qd (x1) rfl (cX (jh [ii ((k : Int)), ii ((r : Int)), x1] [ii (0), ii (0), sN] [(0, 1), (1, 1), (2, 1)] [(0, [ii ((k : Int))]), (1, [ii ((r : Int))]), (2, [x1])] jJ jX rfl (.cons rfl qB (.cons rfl qB (.cons rfl qs PlacesAre.nil))) rfl (.cons rfl (.cons rfl (.cons (cells_one (qz hr1)) CellsAre.nil))) (cX (qo (s := 3) [ii ((k : Int)), ii ((r : Int)), x1] [ii (0), ii (0), sN] [(0, [ii ((k : Int)), ii ((r : Int)), x1])] jp jH jX rfl (by decide) rfl (.cons rfl CellsAre.nil) rfl ?_))))))))
    intro v2 hv2
    refine cX (jG (m := 1) (bytes := 40) (cs := cs) [_] _ [ii ((k : Int)), ii ((r : Int)), x1] jp typeInfo192 rfl rfl rfl rfl rfl rfl rfl (SlV.own [] rfl) rfl (Rd.lit [] rfl) (qn rfl (qn rfl (qn (qG (qz hr1)) qO))) (by (try simp only [List.length_append, List.length_nil, List.length_cons, List.length_singleton]); omega) (by (try simp only [List.length_append, List.length_nil, List.length_cons, List.length_singleton]); omega) ?_)
    intro v3 hs1 hn1 hm1
    have hc1 := StepsC.snoc hCi (i := (k : Int)) (j := (r : Int)) hr1
    refine qg (v3) rfl (qb (qa (qd (ii ((r : Int))) rfl (cX (qH (((r + 1 : Nat) : Int)) rfl rfl (by omega) (by omega) (qg (ii (((r + 1 : Nat) : Int))) rfl (qb ?_)))))))
    exact ⟨(r + 1, v3, ss ++ [((k : Int), (r : Int), (stepL ar rs t k r).getD [])], cs ++ [ii ((k : Int)), ii ((r : Int)), x1], (m) + 1, F1), _, (qh leG2 le1), rF, ⟨rfl, rfl, rfl, rfl, rfl, ⟨⟩⟩, (sD (sC (sC sR))), ⟨rfl, (qh leG2 le1), (by (try dsimp only) <;> omega), (hs1), (hc1), (by (try dsimp only); (try rw [List.length_append, List.length_singleton]); omega), (by (try dsimp only); rw [hssi, stepsRow_succ, hone]; simp)⟩, (by omega)⟩
   have hone : stepOne ar rs t k r = [] := stepOne_no h3
   refine qw (qa (qd (ii ((r : Int))) rfl (cX (qH (((r + 1 : Nat) : Int)) rfl rfl (by omega) (by omega) (qg (ii (((r + 1 : Nat) : Int))) rfl (qb ?_))))))
   exact ⟨(r + 1, sv, ss, cs, m, F1), _, (qh leG2 le1), rF, ⟨rfl, rfl, rfl, rfl, rfl, ⟨⟩⟩, (sC (sC sR)), ⟨rfl, (qh leG2 le1), (by (try dsimp only) <;> omega), (hsvi), (hCi), (by (try dsimp only); (try rw [List.length_append, List.length_singleton]); omega), (by (try dsimp only); rw [hssi, stepsRow_succ, hone]; simp)⟩, (by omega)⟩
  refine jk (qt (qt (qM (qa (qd (ii ((k : Int))) rfl (cX (qH (((k + 1 : Nat) : Int)) rfl rfl (by omega) (by omega) (qg (ii (((k + 1 : Nat) : Int))) rfl (qb ?_)))))))))
  exact ⟨(k + 1, sv, ss, cs, m, G2), _, (qh leG1 leG2), rF, ⟨rfl, rfl, rfl, rfl, ⟨⟩⟩, (sC (sC sR)), ⟨rfl, (qh leG1 leG2), (by (try dsimp only) <;> omega), (hsvi), (hCi), (hmi), (by (try dsimp only); rw [hssi, stepsTo_succ, show r = rs.length from by omega])⟩, (by omega)⟩
 refine jk (qt (qt (qM (qc (qa (qd (sv) rfl (qg (sv) rfl (qb (qQ [] _ _ rfl (fun F2 le2 hz1 => ?_))))))))))
 replace hC := hC.mono le2
 have hf1 : StepsF F2 sv ss := CO.fz hC (by first | rfl | omega | (rw [List.length_set]; omega) | (simp; done)) hz1.fz
 refine qu (qq (L' := L) [sv] (sv) (.tmp rfl .nil) rfl (qh leG1 le2) rF (sD sR) ?_)
 have e1 : stepsL ar rs t = ss := by rw [hss, show k = t.length from by omega]; rfl
 rw [e1]
 exact ⟨_, rfl, hf1, rfl⟩

/- spec.l1TermPlace -/
theorem l1TermPlace_spec {F : FH} {L : List HP} {tsv : Value} {ts : List (List Int)} (hts : RowsF F tsv ts) {xv : Value} {x : List Int} (hx : IntsF F xv x) (hlt : ts.length ≤ 4000000) (htb : ∀ i, i < ts.length → (ts.getD i []).length ≤ 4000000) (hlx : x.length ≤ 4000000) :
    Does prog 245 [tsv, xv] F (L) (fun v F' L' => (ii (badG (fun y => !decide (y = x)) ts) : Value) = v ∧ F = F' ∧ L = L') := by
 refine qI func245 rfl rfl rfl (qc (qa (qg (ii (0)) rfl (qb (qc (qc (qa (qg (ii (0)) rfl (qb (qK (jl (α := Nat) (fun k => [(0, tsv), (1, xv), (5, ii ((k : Int)))]) (fun k => L) (fun k F' => F = F' ∧ (k ≤ ts.length) ∧ (∀ i, i < k → (fun y => !decide (y = x)) (ts.getD i []) = true)) (fun k => ts.length - k) 0 ⟨rfl, rfl, rfl, ⟨⟩⟩ sR ⟨rfl, (by (try dsimp only) <;> omega), (fun i hi => absurd hi (by omega))⟩ ?_)))))))))))
 rintro k rE _ _ ⟨rfl, hk, hall⟩
 show X _ _ _ _ (envs [(0, tsv), (1, xv), (5, ii ((k : Int)))] rE) _ (L)
 have htbk := htb k
 refine qc (qc (qa (qd (ii ((k : Int))) rfl (qd (tsv) rfl (cX (qE qv rfl hts.slv (cX (qW rfl rfl (qb ?_)))))))))
 refine qA (p := (k : Int) < (ts.length : Int)) rfl (fun h1 => ?_) (fun h1 => ?_)
 ·refine qw (qc (qK (qc (qa (qd (tsv) rfl (qd (ii ((k : Int))) rfl (cX (qD k qv qs rfl rfl rfl hts.slv (by omega) (Nat.mul_one _) ?_))))))))
  obtain ⟨a1, ha1, hr1⟩ := hts.rd (i := k) (by omega)
  refine cX (qj qU rfl (hr1 _) (qd (xv) rfl (cX (qm (args := [a1, xv]) call32 rfl (SameTerm_spec ha1 hx (hbd := (by first | assumption | rfl | omega | (left; simp; done) | (right; simp; done)))) ?_))))
  rintro _ _ _ _ ⟨rfl, rfl, rfl⟩
  refine qb ?_
  refine qA (p := ((ts.getD k [])) = x) rfl (fun h2 => ?_) (fun h2 => ?_)
  ·refine qc (qa (qd (ii ((k : Int))) rfl (qg (ii ((k : Int))) rfl (qb (qu (qC (qk (qk (qC (qk (qq (L' := L) [ii ((k : Int))] (ii ((k : Int))) (.tmp rfl .nil) rfl rF rF sR ?_)))))))))))
   exact ⟨(vI (badG_at [] (by omega) (by simp_all) hall)), rfl, rfl⟩
  refine qw (qa (qd (ii ((k : Int))) rfl (cX (qH (((k + 1 : Nat) : Int)) rfl rfl (by omega) (by omega) (qg (ii (((k + 1 : Nat) : Int))) rfl (qb ?_))))))
  exact ⟨k + 1, _, FLe.refl _, rF, ⟨rfl, rfl, rfl, ⟨⟩⟩, sR, ⟨rfl, (by (try dsimp only) <;> omega), (fun i hi => (Nat.lt_or_ge i k).elim (fun h => hall i h) (fun h => by obtain rfl : i = k := (by omega); simp_all))⟩, (by omega)⟩
 refine jk (qt (qt (qM (qc (qa (qg (ii (-1)) rfl (qb (qu (qq (L' := L) [ii (-1)] (ii (-1)) (.tmp rfl .nil) rfl rF rF sR ?_)))))))))
 exact ⟨(vI (badG_none [] (fun i hi => hall i (by omega)))), rfl, rfl⟩

/- spec.l9Right -/
theorem l9Right_spec {F : FH} {L : List HP} {arv : Value} {ar : List Int} (har : IntsF F arv ar) {rsv : Value} {rs : List (List Int × List Int)} (hrs : PairsF F rsv rs) {tv : Value} {t : List Int} (ht : IntsF F tv t) {n : Int} (hla : ar.length ≤ 4000000) (hlr : rs.length ≤ 4000000) (hrb : ∀ i, i < rs.length → (rs.getD i ([], [])).1.length ≤ 4000000 ∧ (rs.getD i ([], [])).2.length ≤ 4000000) (hlt : t.length ≤ 4000000) :
    Does prog 129 [.agg #[arv, rsv], tv, ii (n)] F (L) (fun v F' L' => (.bool (reachOkL ar rs n [t]) : Value) = v ∧ F = F' ∧ L = L') := by
 refine qI func129 rfl rfl rfl (qc (qa (cX (jc [arv, rsv] rfl rfl ?_))))
 intro b1
 refine qg (.bool (false)) rfl (qb (qc (qa (cX (qr [arv, rsv] ja qP rfl rfl (Rd.ownN [] rfl rfl) (qd (tv) rfl (cX (qm (args := [.agg #[arv, rsv], tv]) call107 rfl (l7Right_spec har hrs ht (hla := (by first | assumption | rfl | omega | simp)) (hlr := (by first | assumption | rfl | omega | simp)) (hrb := (by first | assumption | rfl | omega | simp)) (hlt := (by first | assumption | rfl | omega | simp))) ?_))))))))
 rintro _ _ _ _ ⟨rfl, rfl, rfl⟩
 refine qd (.bool (rightB ar rs t)) rfl ?_
 by_cases h1 : (rightB ar rs t) = true
 ·refine qy (t := 10) rfl (vB h1) (qp (ii (n)) rfl (qy (t := 10) rfl (vB h1) (qm (args := [ii (n), ii (0), ii (20)]) call109 rfl (l1In_spec (n := n) (a := 0) (b := 20)) ?_)))
  rintro _ _ _ _ ⟨rfl, rfl, rfl⟩
  refine cX (jj (.bool (decide (0 ≤ n ∧ n ≤ 20))) (vB h1) rfl (qg (.bool (decide (0 ≤ n ∧ n ≤ 20))) rfl (qb (qu (qq (L' := L) [.bool (decide (0 ≤ n ∧ n ≤ 20))] (.bool (decide (0 ≤ n ∧ n ≤ 20))) (.tmp rfl .nil) rfl rF rF (sD sR) ?_)))))
  exact ⟨(vB (by rw [reachOk_right]; simp_all)), rfl, rfl⟩
 rw [Bool.not_eq_true] at h1
 refine qx (t := 10) rfl (vB h1) (qx (t := 10) rfl (vB h1) (cX (qY (.bool (false)) (vB h1) rfl (qg (.bool (false)) rfl (qb (qu (qq (L' := L) [.bool (false)] (.bool (false)) (.tmp rfl .nil) rfl rF rF (sD sR) ?_)))))))
 exact ⟨(vB (by rw [reachOk_right]; simp_all)), rfl, rfl⟩

/- spec.l9Find -/
set_option maxHeartbeats 1000000 in
set_option maxRecDepth 20000 in
theorem l9Find_spec {F : FH} {L : List HP} {arv : Value} {ar : List Int} (har : IntsF F arv ar) {rsv : Value} {rs : List (List Int × List Int)} (hrs : PairsF F rsv rs) {tv : Value} {t : List Int} (ht : IntsF F tv t) {n : Int} (hsys : sysOk ar rs = true) (ho : termOk ar t = true) (hn20 : 0 ≤ n ∧ n ≤ 20) :
    Does prog 133 [.agg #[arv, rsv], tv, ii (n)] F (L) (fun v F' L' => ∃ (x1 : Value), ∃ (x2 : Value), ∃ (x3 : Value), ∃ (x4 : Value), (.agg #[x1, x2, x3, x4, .bool ((reachL ar rs t n).2)] : Value) = v ∧ (RowsF F' x1 (terms (reachL ar rs t n).1)) ∧ (IntsF F' x2 (froms (reachL ar rs t n).1)) ∧ (StepsF F' x3 (bys (reachL ar rs t n).1)) ∧ (IntsF F' x4 (deeps (reachL ar rs t n).1)) ∧ L = L') := by
 refine qI func133 rfl rfl rfl ?_
 have hnn := jt ht (by have := termOk_len ho; omega)
 have htl := termOk_len ho
 have hrl := (sysOk_iff.1 hsys).2.1
 have hsig := (sysOk_iff.1 hsys).1
 have hsl := sigOk_spec hsig
 refine qc (qa (cX (jc [arv, rsv] rfl rfl ?_)))
 intro b1
 refine cX (ji [sN, sN, sN, sN, .bool (false)] zeroValue196 rfl ?_)
 intro b2
 refine qb (qc (qa (qd (tv) rfl (cX (jZ <| qm (args := [tv]) call105 rfl (l1Copy_spec ht (hlt := (by first | assumption | rfl | omega | simp))) ?_)))))
 rintro v1 _ _ _ ⟨rfl, hs1, rfl⟩
 refine ⟨_, _, rfl, fun F1 le1 hz1 => ?_⟩
 replace har := har.mono le1
 replace hrs := hrs.mono le1
 have hf1 : IntsF F1 v1 ((t)) := intsH.fz (xs := (t)) hz1.fz
 refine cX (qo (s := 1) [v1] [sN] [(0, [v1])] qv qs jD rfl (by decide) rfl (.cons (cells_one (qz hf1)) CellsAre.nil) rfl ?_)
 intro v2 hv1
 refine cX (qo (s := 1) [ii (-1)] [ii (0)] [(0, [ii (-1)])] qf qB qS rfl (by decide) rfl (.cons rfl CellsAre.nil) rfl ?_)
 intro v3 hv2
 refine cX (jh [ii (0), ii (0), sN] [ii (0), ii (0), sN] [(0, 1), (1, 1), (2, 1)] [] jJ jX rfl (.cons rfl qB (.cons rfl qB (.cons rfl qs PlacesAre.nil))) rfl CellsAre.nil (cX (qo (s := 3) [ii (0), ii (0), sN] [ii (0), ii (0), sN] [(0, [ii (0), ii (0), sN])] jp jH jX rfl (by decide) rfl (.cons rfl CellsAre.nil) rfl ?_)))
 intro v4 hv3
 refine cX (qo (s := 1) [ii (0)] [ii (0)] [(0, [ii (0)])] qf qB qS rfl (by decide) rfl (.cons rfl CellsAre.nil) rfl ?_)
 intro v5 hv4
 refine cX (jh [v2, v3, v4, v5, .bool (true)] [sN, sN, sN, sN, .bool (false)] [(0, 1), (1, 1), (2, 1), (3, 1), (4, 1)] [(0, [v2]), (1, [v3]), (2, [v4]), (3, [v5]), (4, [.bool (true)])] jx zeroValue196 rfl (.cons rfl jb (.cons rfl qs (.cons rfl sizeOf43 (.cons rfl qs (.cons rfl sizeOf4 PlacesAre.nil))))) rfl (.cons (cells_one (qN hv1)) (.cons (cells_one (qN hv2)) (.cons (cells_one (qN hv3)) (.cons (cells_one (qN hv4)) (.cons rfl CellsAre.nil))))) (cX (ji [sN, sN, sN, sN, .bool (false)] zeroValue196 rfl ?_)))
 intro b3
 refine cX (qL [] _ [v2, v3, v4, v5, .bool (true)] sizeOf196 rfl rfl rfl (qn (qG (qN hv1)) (qn (qG (qN hv2)) (qn (qG (qN hv3)) (qn (qG (qN hv4)) (qn rfl qO))))) rfl rfl rfl (qb (qc (qc (qa (qg (ii (0)) rfl (qb (qK ?_))))))))
 have hc1 : RowsC F1 [v1] ([(t)] : List (List Int)) := (RowsC.snoc (CO.nil : RowsC F1 [] []) hf1)
 show X _ _ _ _ _ _ (cellsH b3 [v2, v3, v4, v5, .bool (true)] 196 :: slH 2 1 v5 1 [ii (0)] :: slH 192 3 v4 1 [ii (0), ii (0), sN] :: intsH 2 v3 ([-1] : List Int) :: slH 22 1 v2 1 ([v1]) :: cellsH b2 [sN, sN, sN, sN, .bool (false)] 196 :: cellsH b1 [arv, rsv] 39 :: L)
 have hc2 : StepsC F1 [ii (0), ii (0), sN] ([(0, 0, [])] : List StepT) := (StepsC.snoc (CO.nil : StepsC F1 [] []) (i := 0) (j := 0) IntsF.nilV)
 show X _ _ _ _ _ _ (cellsH b3 [v2, v3, v4, v5, .bool (true)] 196 :: intsH 2 v5 ([0] : List Int) :: slH 192 3 v4 1 ([ii (0), ii (0), sN]) :: intsH 2 v3 ([-1] : List Int) :: slH 22 1 v2 1 ([v1]) :: cellsH b2 [sN, sN, sN, sN, .bool (false)] 196 :: cellsH b1 [arv, rsv] 39 :: L)
 refine jl (α := Nat × List FoundT × Value × RowL × List Value × Nat × Value × List Int × Value × List StepT × List Value × Nat × Value × List Int × FH) (fun xQ => [(2, ii (n)), (3, ptr b1 0), (6, ptr b2 0), (7, ptr b3 0), (8, ii (((xQ.1 : Nat) : Int)))]) (fun xQ => slH 22 1 xQ.2.2.1 xQ.2.2.2.2.2.1 xQ.2.2.2.2.1 :: intsH 2 xQ.2.2.2.2.2.2.1 xQ.2.2.2.2.2.2.2.1 :: slH 192 3 xQ.2.2.2.2.2.2.2.2.1 xQ.2.2.2.2.2.2.2.2.2.2.2.1 xQ.2.2.2.2.2.2.2.2.2.2.1 :: intsH 2 xQ.2.2.2.2.2.2.2.2.2.2.2.2.1 xQ.2.2.2.2.2.2.2.2.2.2.2.2.2.1 :: cellsH b3 [xQ.2.2.1, xQ.2.2.2.2.2.2.1, xQ.2.2.2.2.2.2.2.2.1, xQ.2.2.2.2.2.2.2.2.2.2.2.2.1, .bool (true)] 196 :: cellsH b2 [sN, sN, sN, sN, .bool (false)] 196 :: cellsH b1 [arv, rsv] 39 :: L) (fun xQ F' => xQ.2.2.2.2.2.2.2.2.2.2.2.2.2.2 = F' ∧ F1 ≤ xQ.2.2.2.2.2.2.2.2.2.2.2.2.2.2 ∧ (IsSl xQ.2.2.1) ∧ (IsSl xQ.2.2.2.2.2.2.1) ∧ (IsSl xQ.2.2.2.2.2.2.2.2.1) ∧ (IsSl xQ.2.2.2.2.2.2.2.2.2.2.2.2.1) ∧ (RowsC xQ.2.2.2.2.2.2.2.2.2.2.2.2.2.2 xQ.2.2.2.2.1 xQ.2.2.2.1) ∧ (StepsC xQ.2.2.2.2.2.2.2.2.2.2.2.2.2.2 xQ.2.2.2.2.2.2.2.2.2.2.1 xQ.2.2.2.2.2.2.2.2.2.1) ∧ (xQ.2.2.2.2.2.1 = xQ.2.2.2.1.length) ∧ (xQ.2.2.2.2.2.2.2.2.2.2.2.1 = xQ.2.2.2.2.2.2.2.2.2.1.length) ∧ (xQ.2.2.2.1 = terms xQ.2.1) ∧ (xQ.2.2.2.2.2.2.2.1 = froms xQ.2.1) ∧ (xQ.2.2.2.2.2.2.2.2.2.1 = bys xQ.2.1) ∧ (xQ.2.2.2.2.2.2.2.2.2.2.2.2.2.1 = deeps xQ.2.1) ∧ (xQ.2.1.length ≤ 60) ∧ (AllOk ar xQ.2.1) ∧ (DeepOk n xQ.2.1) ∧ (xQ.1 ≤ xQ.2.1.length) ∧ (reachL ar rs t n = reachGo ar rs n (60 - xQ.1) xQ.1 xQ.2.1)) (fun xQ => 60 - xQ.1) (0, start0 t, v2, ([(t)] : List (List Int)), [v1], 1, v3, [-1], v4, ([(0, 0, [])] : List StepT), [ii (0), ii (0), sN], 1, v5, [0], F1) ⟨rfl, rfl, rfl, rfl, rfl, ⟨⟩⟩ (qR (qZ (A := [_, _, _, _, _, _])) (qR (qZ (A := [_, _, _, _, _, _])) (qR (qZ (A := [_, _])) (qR (qZ (A := [_, _, _])) (qR (qZ (A := [_, _, _, _])) (qR (qZ (A := [_, _, _, _, _])) (qR (qZ (A := [_, _, _, _, _, _])) (sC (sC (sC (sC (sC (sC (sC sR)))))))))))))) ⟨rfl, FLe.refl _, ((qN hv1)), ((qN hv2)), ((qN hv3)), ((qN hv4)), (hc1), (hc2), (rfl), (rfl), (rfl), (rfl), (rfl), (rfl), (by simp [start0]), (AllOk.start ho), (DeepOk.start hn20.1), (by simp), (rfl)⟩ ?_
 rintro ⟨k, os, av, ts, acs, an, bv, fs, cv, bs, ccs, cn, dv, ds, G1⟩ rE _ _ ⟨rfl, leG, hav, hbv, hcv, hdv, hA, hB, han, hcn, hts, hfs, hbs, hds, hl, hok, hdo, hk, hgo⟩
 show X _ _ _ _ (envs [(2, ii (n)), (3, ptr b1 0), (6, ptr b2 0), (7, ptr b3 0), (8, ii ((k : Int)))] rE) _ (slH 22 1 av an acs :: intsH 2 bv fs :: slH 192 3 cv cn ccs :: intsH 2 dv ds :: cellsH b3 [av, bv, cv, dv, .bool (true)] 196 :: cellsH b2 [sN, sN, sN, sN, .bool (false)] 196 :: cellsH b1 [arv, rsv] 39 :: L)
 replace leG : F1 ≤ G1 := leG
 dsimp only at hav hbv hcv hdv hA hB han hcn hts hfs hbs hds hl hok hdo hk hgo
 have htl9 : ts.length = os.length := by rw [hts]; exact terms_len
 have hfl9 : fs.length = os.length := by rw [hfs]; exact froms_len
 have hbl9 : bs.length = os.length := by rw [hbs]; exact bys_len
 have hdl9 : ds.length = os.length := by rw [hds]; exact deeps_len
 have hdk := fun (h : k < os.length) => hok k h
 have hdl := fun (h : k < os.length) => termOk_len (hok k h)
 have hEt : ts.getD k [] = (EL os k).1 := by rw [hts]; exact terms_get k
 have hEd := fun (h : k < os.length) => (show ds.getD k 0 = (EL os k).2.2.2 from by rw [hds]; exact deeps_get h)
 have leG1 := leG
 replace har := har.mono leG1
 replace hrs := hrs.mono leG1
 refine qc (qc (qa (qd (ii ((k : Int))) rfl (cX (ql (0) jx rfl jb (by decide) rfl rfl (cX (qj jC rfl (Rd.own [_, _, _, _] rfl rfl) (cX (qE qv rfl (SlV.own [] rfl) (cX (qW rfl rfl (qb ?_))))))))))))
 refine qA (p := (k : Int) < ((an : Nat) : Int)) rfl (fun h1 => ?_) (fun h1 => ?_)
 ·refine qw (qc (qK (qc (qc (qa (cX (ql (3) jx rfl qs (by decide) rfl rfl (cX (qj qU rfl (Rd.own [_, _, _, _] rfl rfl) (qd (ii ((k : Int))) rfl (cX (qD k qf qB rfl rfl rfl (intsH.slv [_, _, _] rfl) (by omega) (Nat.mul_one _) (cX (qj jm rfl (intsH.rd [_, _, _] rfl (by omega)) (qd (ii (n)) rfl (cX (js rfl rfl (qb ?_))))))))))))))))))
  refine qA (p := (ds.getD k 0 : Int) = n) rfl (fun h2 => ?_) (fun h2 => ?_)
  ·have hdeep : (EL os k).2.2.2 = n := by rw [← hEd (by omega)]; exact h2
   refine jk (qt (qM (qa (qd (ii ((k : Int))) rfl (cX (qH (((k + 1 : Nat) : Int)) rfl rfl (by omega) (by omega) (qg (ii (((k + 1 : Nat) : Int))) rfl (qb ?_))))))))
   exact ⟨(k + 1, os, av, ts, acs, an, bv, fs, cv, bs, ccs, cn, dv, ds, G1), _, leG1, rF, ⟨rfl, rfl, rfl, rfl, rfl, ⟨⟩⟩, (sC (sC (sC (sC (sC (sC (sC sR))))))), ⟨rfl, leG1, (hav), (hbv), (hcv), (hdv), (hA), (hB), (han), (hcn), (hts), (hfs), (hbs), (hds), (hl), (hok), (hdo), (by (try dsimp only) <;> omega), (by (try dsimp only); exact hgo.trans (reach_same (f := 60 - k - 1) (by omega) (by omega) hdeep))⟩, (by (try dsimp only); omega)⟩
  have hdeep : (EL os k).2.2.2 ≠ n := by rw [← hEd (by omega)]; exact h2
  refine qw (qc ?_)
  obtain ⟨a1, ha1, he1⟩ := hA.get (i := k) (by omega)
  refine jY [slH 22 1 av an acs, intsH 2 bv fs, slH 192 3 cv cn ccs, intsH 2 dv ds, cellsH b3 [av, bv, cv, dv, .bool (true)] 196, cellsH b2 [sN, sN, sN, sN, .bool (false)] 196, cellsH b1 [arv, rsv] 39] L 6 [] [[], [], [1], [], [2, 3], [4]] (phiL [qe (.agg #[arv, rsv]), qe (ptr b3 0), qe av, qe (ii ((k : Int)) : Value), qe (.pointer (some (elemA av (k)))), qe a1]) (ownL []) mixed rfl rfl (by kernel_rfl) ?_ ?_
  ·refine pD (fun W R z9 => ?_) ?_
   ·refine qi (qr [arv, rsv] ja qP rfl rfl (Rd.ownN [_, _, _, _, _, _] rfl rfl) ?_)
    exact ⟨rfl, rfl, rfl⟩
   refine pD (fun W R z9 => ?_) ?_
   ·refine qi (ql (0) jx rfl jb (by decide) rfl rfl ?_)
    exact ⟨rfl, rfl, rfl⟩
   refine pD (fun W R z9 => ?_) ?_
   ·rw [eS (l := [(1, _)]) ⟨z9 1 rfl, ⟨⟩⟩]
    refine qi (qj jC rfl (Rd.own [_, _, _, _] rfl rfl) ?_)
    exact ⟨rfl, rfl, rfl⟩
   refine pD (fun W R z9 => ?_) ?_
   ·refine qi (qp (ii ((k : Int))) rfl ?_)
    exact ⟨rfl, rfl, rfl⟩
   refine pD (fun W R z9 => ?_) ?_
   ·rw [eS (l := [(2, _), (3, _)]) ⟨z9 2 rfl, z9 3 rfl, ⟨⟩⟩]
    refine qi (qD k qv qs rfl rfl rfl (SlV.own [] rfl) (by omega) (Nat.mul_one _) ?_)
    exact ⟨rfl, rfl, rfl⟩
   refine pD (fun W R z9 => ?_) ?_
   ·rw [eS (l := [(4, _)]) ⟨z9 4 rfl, ⟨⟩⟩]
    refine qi (qj qU rfl (Rd.sl [] rfl he1) ?_)
    exact ⟨rfl, rfl, rfl⟩
   exact stepsP.nil
  intro W hphi
  rw [eS (l := [(0, _), (5, _)]) ⟨(hphi 0 (by decide)), (hphi 5 (by decide)), ⟨⟩⟩]
  show XL _ _ _ _ _ _ _ (slH 22 1 av an acs :: intsH 2 bv fs :: slH 192 3 cv cn ccs :: intsH 2 dv ds :: cellsH b3 [av, bv, cv, dv, .bool (true)] 196 :: cellsH b2 [sN, sN, sN, sN, .bool (false)] 196 :: cellsH b1 [arv, rsv] 39 :: L)
  refine cX (qm (args := [.agg #[arv, rsv], a1]) call243 rfl (l7Steps_spec har hrs ha1 (hsys := (hsys)) (ho := (by rw [hEt]; exact hdk (by omega)))) ?_)
  rintro _ F2 _ le2 ⟨x1, rfl, hr1, rfl⟩
  replace hA := hA.mono le2
  replace hB := hB.mono le2
  refine qg (x1) rfl (qb (qc (qa ?_)))
  have hk7 : k < os.length := by omega
  obtain ⟨nx, hnx⟩ : ∃ nx, stepsL ar rs (ts.getD k []) = nx := ⟨_, rfl⟩
  rw [hnx] at hr1
  obtain ⟨os0, hos0⟩ : ∃ o, o = os := ⟨_, rfl⟩
  have hdeep0 := hdeep
  have hgo0 := hgo
  rw [← hos0] at hdeep0 hgo0
  have hnx0 : stepsL ar rs (EL os0 k).1 = nx := by rw [hos0, ← hEt]; exact hnx
  have hdk0 := hdk hk7
  have hdo0 := hdo k hk7
  have hl0 : os0.length ≤ 60 := by rw [hos0]; exact hl
  rw [← hos0] at hdk0 hdo0
  have hk70 := hk7
  rw [← hos0] at hk70
  have hnxo : ∀ i, i < nx.length → termOk ar (nx.getD i (0, 0, [])).2.2 = true := fun i hi => by rw [← hnx0] at hi ⊢; exact steps_ok hsys hdk0 hi
  have hnxl : nx.length ≤ 1000 := by have h9 := stepsTo_len (ar := ar) (t := (EL os0 k).1) (rs := rs) hrl (EL os0 k).1.length; have h8 := termOk_len hdk0; rw [← hnx0]; show (stepsTo ar rs (EL os0 k).1 (EL os0 k).1.length).length ≤ 1000; omega
  skip
  refine qg (ii (0)) rfl (qb (qK (jl (α := Nat × List FoundT × Value × RowL × List Value × Nat × Value × List Int × Value × List StepT × List Value × Nat × Value × List Int × FH) (fun xQ => [(2, ii (n)), (3, ptr b1 0), (6, ptr b2 0), (7, ptr b3 0), (8, ii ((k : Int))), (9, x1), (10, ii (((xQ.1 : Nat) : Int)))]) (fun xQ => slH 22 1 xQ.2.2.1 xQ.2.2.2.2.2.1 xQ.2.2.2.2.1 :: intsH 2 xQ.2.2.2.2.2.2.1 xQ.2.2.2.2.2.2.2.1 :: slH 192 3 xQ.2.2.2.2.2.2.2.2.1 xQ.2.2.2.2.2.2.2.2.2.2.2.1 xQ.2.2.2.2.2.2.2.2.2.2.1 :: intsH 2 xQ.2.2.2.2.2.2.2.2.2.2.2.2.1 xQ.2.2.2.2.2.2.2.2.2.2.2.2.2.1 :: cellsH b3 [xQ.2.2.1, xQ.2.2.2.2.2.2.1, xQ.2.2.2.2.2.2.2.2.1, xQ.2.2.2.2.2.2.2.2.2.2.2.2.1, .bool (true)] 196 :: cellsH b2 [sN, sN, sN, sN, .bool (false)] 196 :: cellsH b1 [arv, rsv] 39 :: L) (fun xQ F' => xQ.2.2.2.2.2.2.2.2.2.2.2.2.2.2 = F' ∧ F2 ≤ xQ.2.2.2.2.2.2.2.2.2.2.2.2.2.2 ∧ (IsSl xQ.2.2.1) ∧ (IsSl xQ.2.2.2.2.2.2.1) ∧ (IsSl xQ.2.2.2.2.2.2.2.2.1) ∧ (IsSl xQ.2.2.2.2.2.2.2.2.2.2.2.2.1) ∧ (RowsC xQ.2.2.2.2.2.2.2.2.2.2.2.2.2.2 xQ.2.2.2.2.1 xQ.2.2.2.1) ∧ (StepsC xQ.2.2.2.2.2.2.2.2.2.2.2.2.2.2 xQ.2.2.2.2.2.2.2.2.2.2.1 xQ.2.2.2.2.2.2.2.2.2.1) ∧ (xQ.2.2.2.2.2.1 = xQ.2.2.2.1.length) ∧ (xQ.2.2.2.2.2.2.2.2.2.2.2.1 = xQ.2.2.2.2.2.2.2.2.2.1.length) ∧ (xQ.2.2.2.1 = terms xQ.2.1) ∧ (xQ.2.2.2.2.2.2.2.1 = froms xQ.2.1) ∧ (xQ.2.2.2.2.2.2.2.2.2.1 = bys xQ.2.1) ∧ (xQ.2.2.2.2.2.2.2.2.2.2.2.2.2.1 = deeps xQ.2.1) ∧ (xQ.2.1.length ≤ 60) ∧ (AllOk ar xQ.2.1) ∧ (DeepOk n xQ.2.1) ∧ (xQ.1 ≤ nx.length) ∧ (k < xQ.2.1.length) ∧ (EL xQ.2.1 k = EL os0 k) ∧ (addGo (k : Int) (EL os0 k).2.2.2 nx os0 = addGo (k : Int) (EL os0 k).2.2.2 (nx.drop xQ.1) xQ.2.1)) (fun xQ => nx.length - xQ.1) (0, os, av, ts, acs, an, bv, fs, cv, bs, ccs, cn, dv, ds, F2) ⟨rfl, rfl, rfl, rfl, rfl, rfl, rfl, ⟨⟩⟩ (sC (sC (sC (sC (sC (sC (sC sR))))))) ⟨rfl, FLe.refl _, (hav), (hbv), (hcv), (hdv), (hA), (hB), (han), (hcn), (hts), (hfs), (hbs), (hds), (hl), (hok), (hdo), (by (try dsimp only) <;> omega), (by (try dsimp only); omega), (by (try dsimp only); rw [hos0]), (by (try dsimp only); rw [hos0]; rfl)⟩ ?_)))
  rintro ⟨q, os, av, ts, acs, an, bv, fs, cv, bs, ccs, cn, dv, ds, G2⟩ rE _ _ ⟨rfl, leG, havi, hbvi, hcvi, hdvi, hAi, hBi, hani, hcni, htsi, hfsi, hbsi, hdsi, hli, hoki, hdoi, hq, hkp, hel, hgoi⟩
  show X _ _ _ _ (envs [(2, ii (n)), (3, ptr b1 0), (6, ptr b2 0), (7, ptr b3 0), (8, ii ((k : Int))), (9, x1), (10, ii ((q : Int)))] rE) _ (slH 22 1 av an acs :: intsH 2 bv fs :: slH 192 3 cv cn ccs :: intsH 2 dv ds :: cellsH b3 [av, bv, cv, dv, .bool (true)] 196 :: cellsH b2 [sN, sN, sN, sN, .bool (false)] 196 :: cellsH b1 [arv, rsv] 39 :: L)
  replace leG : F2 ≤ G2 := leG
  dsimp only at havi hbvi hcvi hdvi hAi hBi hani hcni htsi hfsi hbsi hdsi hli hoki hdoi hq hkp hel hgoi
  have htl9i : ts.length = os.length := by rw [htsi]; exact terms_len
  have hfl9i : fs.length = os.length := by rw [hfsi]; exact froms_len
  have hbl9i : bs.length = os.length := by rw [hbsi]; exact bys_len
  have hdl9i : ds.length = os.length := by rw [hdsi]; exact deeps_len
  have hsok := fun (h : q < nx.length) => termOk_len (hnxo q h)
  have hdk9 : ds.getD k 0 = (EL os0 k).2.2.2 := by rw [hdsi, deeps_get hkp, hel]
  have leG2 := leG
  replace hA := hA.mono leG2
  replace hB := hB.mono leG2
  replace hr1 := hr1.mono leG2
  refine qc (qc (qa (qd (ii ((q : Int))) rfl (qd (x1) rfl (cX (qE jp rfl hr1.slv (cX (qW rfl rfl (qb ?_)))))))))
  refine qA (p := (q : Int) < (nx.length : Int)) rfl (fun h3 => ?_) (fun h3 => ?_)
  ·refine qw (qc (qK (qc (qc ?_))))
   obtain ⟨a2, ha2, hr2, hr3, hr4⟩ := hr1.rd (i := q) (by omega)
   refine jY [slH 22 1 av an acs, intsH 2 bv fs, slH 192 3 cv cn ccs, intsH 2 dv ds, cellsH b3 [av, bv, cv, dv, .bool (true)] 196, cellsH b2 [sN, sN, sN, sN, .bool (false)] 196, cellsH b1 [arv, rsv] 39] L 7 [] [[], [0], [], [], [2, 3], [4], [5]] (phiL [qe (ptr b3 0), qe av, qe x1, qe (ii ((q : Int)) : Value), qe (.pointer (some (elemA x1 (q * 3)))), qe (.pointer (some (elemA x1 (q * 3 + 2)))), qe a2]) (ownL []) mixed rfl rfl (by kernel_rfl) ?_ ?_
   ·refine pD (fun W R z9 => ?_) ?_
    ·refine qi (ql (0) jx rfl jb (by decide) rfl rfl ?_)
     exact ⟨rfl, rfl, rfl⟩
    refine pD (fun W R z9 => ?_) ?_
    ·rw [eS (l := [(0, _)]) ⟨z9 0 rfl, ⟨⟩⟩]
     refine qi (qj jC rfl (Rd.own [_, _, _, _] rfl rfl) ?_)
     exact ⟨rfl, rfl, rfl⟩
    refine pD (fun W R z9 => ?_) ?_
    ·refine qi (qp (x1) rfl ?_)
     exact ⟨rfl, rfl, rfl⟩
    refine pD (fun W R z9 => ?_) ?_
    ·refine qi (qp (ii ((q : Int))) rfl ?_)
     exact ⟨rfl, rfl, rfl⟩
    refine pD (fun W R z9 => ?_) ?_
    ·rw [eS (l := [(2, _), (3, _)]) ⟨z9 2 rfl, z9 3 rfl, ⟨⟩⟩]
     refine qi (qD q jp jH rfl rfl rfl hr1.slv (by omega) rfl ?_)
     exact ⟨rfl, rfl, rfl⟩
    refine pD (fun W R z9 => ?_) ?_
    ·rw [eS (l := [(4, _)]) ⟨z9 4 rfl, ⟨⟩⟩]
     refine qi (XOp.fieldE (q * 3 + 2) jJ rfl qs (by decide) rfl rfl ?_)
     exact ⟨rfl, rfl, rfl⟩
    refine pD (fun W R z9 => ?_) ?_
    ·rw [eS (l := [(5, _)]) ⟨z9 5 rfl, ⟨⟩⟩]
     refine qi (qj qU rfl (hr4 _) ?_)
     exact ⟨rfl, rfl, rfl⟩
    exact stepsP.nil
   intro W hphi
   rw [eS (l := [(1, _), (6, _)]) ⟨(hphi 1 (by decide)), (hphi 6 (by decide)), ⟨⟩⟩]
   show XL _ _ _ _ _ _ _ (slH 22 1 av an acs :: intsH 2 bv fs :: slH 192 3 cv cn ccs :: intsH 2 dv ds :: cellsH b3 [av, bv, cv, dv, .bool (true)] 196 :: cellsH b2 [sN, sN, sN, sN, .bool (false)] 196 :: cellsH b1 [arv, rsv] 39 :: L)
   refine cX (XOp.lend [] _ _ rfl (fun F3 le3 hz2 => ?_))
   have hf2 : RowsF _ av ts := (CO.fz (RowsC.mono hAi (qh le3 rF)) (by first | rfl | assumption | omega | (rw [List.length_append]; simp only [List.length_singleton]; omega)) hz2 : RowsF _ av ts)
   refine id (qm (args := [av, a2]) call245 rfl (l1TermPlace_spec hf2 ((ha2.mono le3)) (hlt := (by omega)) (htb := (fun i hi => by rw [htsi, terms_get]; have := termOk_len (hoki i (by omega)); omega)) (hlx := (by have := hsok (by omega); omega))) ?_)
   rintro _ _ _ _ ⟨rfl, rfl, rfl⟩
   show XL _ _ _ _ _ _ _ (slH 22 1 av an acs :: intsH 2 bv fs :: slH 192 3 cv cn ccs :: intsH 2 dv ds :: cellsH b3 [av, bv, cv, dv, .bool (true)] 196 :: cellsH b2 [sN, sN, sN, sN, .bool (false)] 196 :: cellsH b1 [arv, rsv] 39 :: L)
   refine cX (jQ rfl rfl (qb ?_))
   refine qA (p := (badG (fun y => !decide (y = ((nx.getD q (0, 0, [])).2.2))) ts : Int) ≥ 0) rfl (fun h4 => ?_) (fun h4 => ?_)
   ·have hbg : badG (fun y => !decide (y = (nx.getD q (0, 0, [])).2.2)) ts = foundI os (nx.getD q (0, 0, [])).2.2 := by rw [htsi]; exact foundI_terms
    have hin : isIn os (nx.getD q (0, 0, [])).2.2 = true := foundI_iff.1 (by rw [← hbg]; exact h4)
    refine jk (qt (qM (qa (qd (ii ((q : Int))) rfl (cX (qH (((q + 1 : Nat) : Int)) rfl rfl (by omega) (by omega) (qg (ii (((q + 1 : Nat) : Int))) rfl (qb ?_))))))))
    exact ⟨(q + 1, os, av, ts, acs, an, bv, fs, cv, bs, ccs, cn, dv, ds, G2), _, leG2, rF, ⟨rfl, rfl, rfl, rfl, rfl, rfl, rfl, ⟨⟩⟩, (sC (sC (sC (sC (sC (sC (sC sR))))))), ⟨rfl, leG2, (havi), (hbvi), (hcvi), (hdvi), (hAi), (hBi), (hani), (hcni), (htsi), (hfsi), (hbsi), (hdsi), (hli), (hoki), (hdoi), (by (try dsimp only) <;> omega), (hkp), (hel), (by (try dsimp only); exact hgoi.trans (add_in (by omega) hin))⟩, (by omega)⟩
   have hbg : badG (fun y => !decide (y = (nx.getD q (0, 0, [])).2.2)) ts = foundI os (nx.getD q (0, 0, [])).2.2 := by rw [htsi]; exact foundI_terms
   have hnin : isIn os (nx.getD q (0, 0, [])).2.2 = false := by rw [Bool.eq_false_iff]; intro h9; exact absurd (foundI_iff.2 h9) (by rw [← hbg]; exact h4)
   refine qw (qc (qc (qa (cX (ql (0) jx rfl jb (by decide) rfl rfl (cX (qj jC rfl (Rd.own [_, _, _, _] rfl rfl) (cX (qE qv rfl (SlV.own [] rfl) (cX (js rfl rfl (qb ?_))))))))))))
   refine qA (p := (((an : Nat) : Int) : Int) = 60) rfl (fun h5 => ?_) (fun h5 => ?_)
   ·refine qc (qa (cX (ql (4) jx rfl sizeOf4 (by decide) rfl rfl (cX (jv [_, _, _, _] _ [av, bv, cv, dv, .bool (false)] sizeOf4 rfl rfl rfl rfl rfl rfl (qb (qc (qa (cX (qr [av, bv, cv, dv, .bool (false)] isAgg196 sizeOf196 rfl rfl (Rd.ownN [_, _, _, _] rfl rfl) (cX (qL [_, _, _, _, _] _ [av, bv, cv, dv, .bool (false)] sizeOf196 rfl rfl rfl (qn (qG havi) (qn (qG hbvi) (qn (qG hcvi) (qn (qG hdvi) (qn rfl qO))))) rfl rfl rfl (qb (qQ [] _ _ rfl (fun F4 le4 hz3 => ?_)))))))))))))))
    replace hA := hA.mono le4
    replace hB := hB.mono le4
    replace hr1 := hr1.mono le4
    replace hAi := hAi.mono le4
    replace hBi := hBi.mono le4
    replace ha2 := ha2.mono le4
    replace hr2 := Rd.monoA hr2 le4
    replace hr3 := Rd.monoA hr3 le4
    replace hr4 := Rd.monoA hr4 le4
    have hf3 : RowsF F4 av ts := CO.fz hAi (by first | rfl | omega | (rw [List.length_set]; omega) | (simp; done)) hz3.fz
    refine qQ [] _ _ rfl (fun F5 le5 hz4 => ?_)
    replace hA := hA.mono le5
    replace hB := hB.mono le5
    replace hr1 := hr1.mono le5
    replace hAi := hAi.mono le5
    replace hBi := hBi.mono le5
    replace ha2 := ha2.mono le5
    replace hf3 := hf3.mono le5
    replace hr2 := Rd.monoA hr2 le5
    replace hr3 := Rd.monoA hr3 le5
    replace hr4 := Rd.monoA hr4 le5
    have hf4 : IntsF F5 bv fs := intsH.fz (xs := fs) hz4.fz
    refine qQ [] _ _ rfl (fun F6 le6 hz5 => ?_)
    replace hA := hA.mono le6
    replace hB := hB.mono le6
    replace hr1 := hr1.mono le6
    replace hAi := hAi.mono le6
    replace hBi := hBi.mono le6
    replace ha2 := ha2.mono le6
    replace hf3 := hf3.mono le6
    replace hf4 := hf4.mono le6
    replace hr2 := Rd.monoA hr2 le6
    replace hr3 := Rd.monoA hr3 le6
    replace hr4 := Rd.monoA hr4 le6
    have hf5 : StepsF F6 cv bs := CO.fz hBi (by first | rfl | omega | (rw [List.length_set]; omega) | (simp; done)) hz5.fz
    refine qQ [] _ _ rfl (fun F7 le7 hz6 => ?_)
    replace hA := hA.mono le7
    replace hB := hB.mono le7
    replace hr1 := hr1.mono le7
    replace hAi := hAi.mono le7
    replace hBi := hBi.mono le7
    replace ha2 := ha2.mono le7
    replace hf3 := hf3.mono le7
    replace hf4 := hf4.mono le7
    replace hf5 := hf5.mono le7
    replace hr2 := Rd.monoA hr2 le7
    replace hr3 := Rd.monoA hr3 le7
    replace hr4 := Rd.monoA hr4 le7
    have hf6 : IntsF F7 dv ds := intsH.fz (xs := ds) hz6.fz
    refine qu (qk (qC (qk (qk (qC (qC (qk (qk (qC (qk (qq (L' := L) [.agg #[av, bv, cv, dv, .bool (false)]] (.agg #[av, bv, cv, dv, .bool (false)]) (.cell rfl (ju [av, bv, cv, dv, .bool (false)] isAgg196 sizeOf196 rfl (Rd.ownN [_] rfl rfl)) .nil) rfl (qh (qh (qh (qh (qh (qh (qh le1 leG1) le2) leG2) le4) le5) le6) le7) rF (sD (sD (sD sR))) ?_)))))))))))
    have h9 := hgoi.trans (add_full (by omega) hnin (by omega))
    have h8 := reach_stop (ar := ar) (rs := rs) (n := n) (f := 60 - k - 1) hk70 (by omega) hdeep0 (by rw [hnx0, h9])
    rw [hnx0, h9] at h8
    have e9 : reachL ar rs t n = (os, false) := hgo0.trans h8
    rw [e9]
    exact ⟨_, _, _, _, rfl, by rw [← htsi]; exact hf3, by rw [← hfsi]; exact hf4, by rw [← hbsi]; exact hf5, by rw [← hdsi]; exact hf6, rfl⟩
   refine qw (qc ?_)
   refine jY [slH 22 1 av an acs, intsH 2 bv fs, slH 192 3 cv cn ccs, intsH 2 dv ds, cellsH b3 [av, bv, cv, dv, .bool (true)] 196, cellsH b2 [sN, sN, sN, sN, .bool (false)] 196, cellsH b1 [arv, rsv] 39] L 8 [] [[], [0], [], [], [2, 3], [4], [5], [6]] (phiL [qe (ptr b3 0), qe av, qe x1, qe (ii ((q : Int)) : Value), qe (.pointer (some (elemA x1 (q * 3)))), qe (.pointer (some (elemA x1 (q * 3 + 2)))), qe a2, fun us v => ∃ b, v = .slice (some ⟨b, 0, none⟩) 1 1]) (ownL [o0, o0, o0, o0, o0, o0, o0, fun us v => [slH 22 1 v 1 [a2]]]) mixed rfl rfl (by kernel_rfl) ?_ ?_
   ·refine pD (fun W R z9 => ?_) ?_
    ·refine qi (ql (0) jx rfl jb (by decide) rfl rfl ?_)
     exact ⟨rfl, rfl, rfl⟩
    refine pD (fun W R z9 => ?_) ?_
    ·rw [eS (l := [(0, _)]) ⟨z9 0 rfl, ⟨⟩⟩]
     refine qi (qj jC rfl (Rd.own [_, _, _, _] rfl rfl) ?_)
     exact ⟨rfl, rfl, rfl⟩
    refine pD (fun W R z9 => ?_) ?_
    ·refine qi (qp (x1) rfl ?_)
     exact ⟨rfl, rfl, rfl⟩
    refine pD (fun W R z9 => ?_) ?_
    ·refine qi (qp (ii ((q : Int))) rfl ?_)
     exact ⟨rfl, rfl, rfl⟩
    refine pD (fun W R z9 => ?_) ?_
    ·rw [eS (l := [(2, _), (3, _)]) ⟨z9 2 rfl, z9 3 rfl, ⟨⟩⟩]
     refine qi (qD q jp jH rfl rfl rfl hr1.slv (by omega) rfl ?_)
     exact ⟨rfl, rfl, rfl⟩
    refine pD (fun W R z9 => ?_) ?_
    ·rw [eS (l := [(4, _)]) ⟨z9 4 rfl, ⟨⟩⟩]
     refine qi (XOp.fieldE (q * 3 + 2) jJ rfl qs (by decide) rfl rfl ?_)
     exact ⟨rfl, rfl, rfl⟩
    refine pD (fun W R z9 => ?_) ?_
    ·rw [eS (l := [(5, _)]) ⟨z9 5 rfl, ⟨⟩⟩]
     refine qi (qj qU rfl (hr4 _) ?_)
     exact ⟨rfl, rfl, rfl⟩
    refine pD (fun W R z9 => ?_) ?_
    ·rw [eS (l := [(6, _)]) ⟨z9 6 rfl, ⟨⟩⟩]
     refine qi (qo (s := 1) [a2] [sN] [(0, [a2])] qv qs jD rfl (by decide) rfl (.cons (cells_one (qz ha2)) CellsAre.nil) rfl ?_)
     intro v7 hv6
     exact ⟨rfl, hv6, rfl⟩
    exact stepsP.nil
   intro W hphi
   have f7 : ∃ b, (W 7) = .slice (some ⟨b, 0, none⟩) 1 1 := hphi 7 (by decide)
   generalize hu7 : W 7 = u1 at f7
   rw [eS (l := [(1, _), (7, u1)]) ⟨(hphi 1 (by decide)), hu7, ⟨⟩⟩]
   show XL _ _ _ _ _ _ _ (slH 22 1 u1 1 [a2] :: slH 22 1 av an acs :: intsH 2 bv fs :: slH 192 3 cv cn ccs :: intsH 2 dv ds :: cellsH b3 [av, bv, cv, dv, .bool (true)] 196 :: cellsH b2 [sN, sN, sN, sN, .bool (false)] 196 :: cellsH b1 [arv, rsv] 39 :: L)
   refine cX (jG (m := 1) (bytes := 24) (cs := acs) [_] _ [a2] qv typeInfo22 rfl rfl rfl rfl rfl rfl rfl (SlV.own [] rfl) rfl (Rd.lit [] rfl) (qn (qG (qz ha2)) qO) (by (try simp only [List.length_append, List.length_nil, List.length_cons, List.length_singleton]); omega) (by (try simp only [List.length_append, List.length_nil, List.length_cons, List.length_singleton]); omega) ?_)
   intro v8 hs2 hn1 hm1
   have hc3 := RowsC.snoc hAi ha2
   refine cX (ql (0) jx rfl jb (by decide) rfl rfl (cX (jv [_, _, _, _, _] _ [v8, bv, cv, dv, .bool (true)] jb rfl rfl (qG hs2) rfl rfl rfl (qb (qc (qa (cX (ql (1) jx rfl qs (by decide) rfl rfl (cX (qj qU rfl (Rd.own [_, _, _, _, _] rfl rfl) (qd (ii ((k : Int))) rfl (cX (qo (s := 1) [ii ((k : Int))] [ii (0)] [(0, [ii ((k : Int))])] qf qB qS rfl (by decide) rfl (.cons rfl CellsAre.nil) rfl ?_)))))))))))))
   intro v9 hv7
   refine cX (XOp.append1 (u := (k : Int)) [_, _, _] _ qf typeInfo2 rfl rfl rfl rfl rfl rfl (SlV.own [] rfl) (Rd.sl [] rfl rfl) (by (try simp only [List.length_append, List.length_nil, List.length_cons, List.length_singleton, List.length_take, List.length_drop]); omega) ?_)
   intro v10 hs3 hn2
   refine cX (ql (1) jx rfl qs (by decide) rfl rfl (cX (jv [_, _, _, _, _, _] _ [v8, v10, cv, dv, .bool (true)] qs rfl rfl (qG hs3) rfl rfl rfl (qb (qc ?_)))))
   refine jY [slH 2 1 v9 1 [ii ((k : Int))], slH 22 1 u1 1 [a2], slH 22 1 v8 ((an) + 1) (acs ++ [a2]), intsH 2 v10 (fs ++ [(k : Int)]), slH 192 3 cv cn ccs, intsH 2 dv ds, cellsH b3 [v8, v10, cv, dv, .bool (true)] 196, cellsH b2 [sN, sN, sN, sN, .bool (false)] 196, cellsH b1 [arv, rsv] 39] L 7 [] [[], [0], [], [], [2, 3], [4], [5]] (phiL [qe (ptr b3 2), qe cv, qe x1, qe (ii ((q : Int)) : Value), qe (.pointer (some (elemA x1 (q * 3)))), qe (.agg #[ii ((nx.getD q (0, 0, [])).1), ii ((nx.getD q (0, 0, [])).2.1), a2]), fun us v => ∃ b, v = .slice (some ⟨b, 0, none⟩) 1 1]) (ownL [o0, o0, o0, o0, o0, o0, fun us v => [slH 192 3 v 1 [ii ((nx.getD q (0, 0, [])).1), ii ((nx.getD q (0, 0, [])).2.1), a2]]]) mixed rfl rfl (by kernel_rfl) ?_ ?_
   ·refine pD (fun W R z9 => ?_) ?_
    ·refine qi (ql (2) jx rfl sizeOf43 (by decide) rfl rfl ?_)
     exact ⟨rfl, rfl, rfl⟩
    refine pD (fun W R z9 => ?_) ?_
    ·rw [eS (l := [(0, _)]) ⟨z9 0 rfl, ⟨⟩⟩]
     refine qi (qj isAgg43 rfl (Rd.own [_, _, _, _, _, _] rfl rfl) ?_)
     exact ⟨rfl, rfl, rfl⟩
    refine pD (fun W R z9 => ?_) ?_
    ·refine qi (qp (x1) rfl ?_)
     exact ⟨rfl, rfl, rfl⟩
    refine pD (fun W R z9 => ?_) ?_
    ·refine qi (qp (ii ((q : Int))) rfl ?_)
     exact ⟨rfl, rfl, rfl⟩
    refine pD (fun W R z9 => ?_) ?_
    ·rw [eS (l := [(2, _), (3, _)]) ⟨z9 2 rfl, z9 3 rfl, ⟨⟩⟩]
     refine qi (qD q jp jH rfl rfl rfl hr1.slv (by omega) rfl ?_)
     exact ⟨rfl, rfl, rfl⟩
    refine pD (fun W R z9 => ?_) ?_
    ·rw [eS (l := [(4, _)]) ⟨z9 4 rfl, ⟨⟩⟩]
     refine qi (qr [ii ((nx.getD q (0, 0, [])).1), ii ((nx.getD q (0, 0, [])).2.1), a2] isAgg192 jH rfl rfl (Rd.three (hr2 _) (hr3 _) (hr4 _)) ?_)
     exact ⟨rfl, rfl, rfl⟩
    refine pD (fun W R z9 => ?_) ?_
    ·rw [eS (l := [(5, _)]) ⟨z9 5 rfl, ⟨⟩⟩]
     refine qi (qo (s := 3) [ii ((nx.getD q (0, 0, [])).1), ii ((nx.getD q (0, 0, [])).2.1), a2] [ii (0), ii (0), sN] [(0, [ii ((nx.getD q (0, 0, [])).1), ii ((nx.getD q (0, 0, [])).2.1), a2])] jp jH jX rfl (by decide) rfl (.cons rfl CellsAre.nil) rfl ?_)
     intro v12 hv9
     exact ⟨rfl, hv9, rfl⟩
    exact stepsP.nil
   intro W hphi
   have f6 : ∃ b, (W 6) = .slice (some ⟨b, 0, none⟩) 1 1 := hphi 6 (by decide)
   generalize hu6 : W 6 = u2 at f6
   rw [eS (l := [(1, _), (6, u2)]) ⟨(hphi 1 (by decide)), hu6, ⟨⟩⟩]
   show XL _ _ _ _ _ _ _ (slH 192 3 u2 1 [ii ((nx.getD q (0, 0, [])).1), ii ((nx.getD q (0, 0, [])).2.1), a2] :: slH 2 1 v9 1 [ii ((k : Int))] :: slH 22 1 u1 1 [a2] :: slH 22 1 v8 ((an) + 1) (acs ++ [a2]) :: intsH 2 v10 (fs ++ [(k : Int)]) :: slH 192 3 cv cn ccs :: intsH 2 dv ds :: cellsH b3 [v8, v10, cv, dv, .bool (true)] 196 :: cellsH b2 [sN, sN, sN, sN, .bool (false)] 196 :: cellsH b1 [arv, rsv] 39 :: L)
   refine cX (jG (m := 1) (bytes := 40) (cs := ccs) [_, _, _, _, _] _ [ii ((nx.getD q (0, 0, [])).1), ii ((nx.getD q (0, 0, [])).2.1), a2] jp typeInfo192 rfl rfl rfl rfl rfl rfl rfl (SlV.own [] rfl) rfl (Rd.lit [] rfl) (qn rfl (qn rfl (qn (qG (qz ha2)) qO))) (by (try simp only [List.length_append, List.length_nil, List.length_cons, List.length_singleton]); omega) (by (try simp only [List.length_append, List.length_nil, List.length_cons, List.length_singleton]); omega) ?_)
   intro v13 hs4 hn3 hm2
   have hc4 := StepsC.snoc hBi (i := (nx.getD q (0, 0, [])).1) (j := (nx.getD q (0, 0, [])).2.1) ha2
   refine cX (ql (2) jx rfl sizeOf43 (by decide) rfl rfl (cX (jv [_, _, _, _, _, _, _] _ [v8, v10, v13, dv, .bool (true)] sizeOf43 rfl rfl (qG hs4) rfl rfl rfl (qb ?_))))
   refine jY [slH 192 3 u2 1 [ii ((nx.getD q (0, 0, [])).1), ii ((nx.getD q (0, 0, [])).2.1), a2], slH 2 1 v9 1 [ii ((k : Int))], slH 22 1 u1 1 [a2], slH 22 1 v8 ((an) + 1) (acs ++ [a2]), intsH 2 v10 (fs ++ [(k : Int)]), slH 192 3 v13 ((cn) + 1) (ccs ++ [ii ((nx.getD q (0, 0, [])).1), ii ((nx.getD q (0, 0, [])).2.1), a2]), intsH 2 dv ds, cellsH b3 [v8, v10, v13, dv, .bool (true)] 196, cellsH b2 [sN, sN, sN, sN, .bool (false)] 196, cellsH b1 [arv, rsv] 39] L 9 [] [[], [0], [], [2], [], [3, 4], [5], [6], [7]] (phiL [qe (ptr b3 3), qe dv, qe (ptr b3 3), qe dv, qe (ii ((k : Int)) : Value), qe (.pointer (some (elemA dv (k)))), qe (ii (ds.getD k 0)), qe (ii ((ds.getD k 0) + 1)), fun us v => ∃ b, v = .slice (some ⟨b, 0, none⟩) 1 1]) (ownL [o0, o0, o0, o0, o0, o0, o0, o0, fun us v => [slH 2 1 v 1 [ii ((ds.getD k 0) + 1)]]]) mixed rfl rfl (by kernel_rfl) ?_ ?_
   ·refine pD (fun W R z9 => ?_) ?_
    ·refine qi (ql (3) jx rfl qs (by decide) rfl rfl ?_)
     exact ⟨rfl, rfl, rfl⟩
    refine pD (fun W R z9 => ?_) ?_
    ·rw [eS (l := [(0, _)]) ⟨z9 0 rfl, ⟨⟩⟩]
     refine qi (qj qU rfl (Rd.own [_, _, _, _, _, _, _] rfl rfl) ?_)
     exact ⟨rfl, rfl, rfl⟩
    refine pD (fun W R z9 => ?_) ?_
    ·refine qi (ql (3) jx rfl qs (by decide) rfl rfl ?_)
     exact ⟨rfl, rfl, rfl⟩
    refine pD (fun W R z9 => ?_) ?_
    ·rw [eS (l := [(2, _)]) ⟨z9 2 rfl, ⟨⟩⟩]
     refine qi (qj qU rfl (Rd.own [_, _, _, _, _, _, _] rfl rfl) ?_)
     exact ⟨rfl, rfl, rfl⟩
    refine pD (fun W R z9 => ?_) ?_
    ·refine qi (qp (ii ((k : Int))) rfl ?_)
     exact ⟨rfl, rfl, rfl⟩
    refine pD (fun W R z9 => ?_) ?_
    ·rw [eS (l := [(3, _), (4, _)]) ⟨z9 3 rfl, z9 4 rfl, ⟨⟩⟩]
     refine qi (qD k qf qB rfl rfl rfl (intsH.slv [_, _, _, _, _, _] rfl) (by omega) (Nat.mul_one _) ?_)
     exact ⟨rfl, rfl, rfl⟩
    refine pD (fun W R z9 => ?_) ?_
    ·rw [eS (l := [(5, _)]) ⟨z9 5 rfl, ⟨⟩⟩]
     refine qi (qj jm rfl (intsH.rd [_, _, _, _, _, _] rfl (by omega)) ?_)
     exact ⟨rfl, rfl, rfl⟩
    refine pD (fun W R z9 => ?_) ?_
    ·rw [eS (l := [(6, _)]) ⟨z9 6 rfl, ⟨⟩⟩]
     refine qi (qH ((ds.getD k 0) + 1) rfl rfl (by omega) (by omega) ?_)
     exact ⟨rfl, rfl, rfl⟩
    refine pD (fun W R z9 => ?_) ?_
    ·rw [eS (l := [(7, _)]) ⟨z9 7 rfl, ⟨⟩⟩]
     refine qi (qo (s := 1) [ii ((ds.getD k 0) + 1)] [ii (0)] [(0, [ii ((ds.getD k 0) + 1)])] qf qB qS rfl (by decide) rfl (.cons rfl CellsAre.nil) rfl ?_)
     intro v15 hv11
     exact ⟨rfl, hv11, rfl⟩
    exact stepsP.nil
   intro W hphi
   have f8 : ∃ b, (W 8) = .slice (some ⟨b, 0, none⟩) 1 1 := hphi 8 (by decide)
   generalize hu8 : W 8 = u3 at f8
   rw [eS (l := [(1, _), (8, u3)]) ⟨(hphi 1 (by decide)), hu8, ⟨⟩⟩]
   show XL _ _ _ _ _ _ _ (slH 2 1 u3 1 [ii ((ds.getD k 0) + 1)] :: slH 192 3 u2 1 [ii ((nx.getD q (0, 0, [])).1), ii ((nx.getD q (0, 0, [])).2.1), a2] :: slH 2 1 v9 1 [ii ((k : Int))] :: slH 22 1 u1 1 [a2] :: slH 22 1 v8 ((an) + 1) (acs ++ [a2]) :: intsH 2 v10 (fs ++ [(k : Int)]) :: slH 192 3 v13 ((cn) + 1) (ccs ++ [ii ((nx.getD q (0, 0, [])).1), ii ((nx.getD q (0, 0, [])).2.1), a2]) :: intsH 2 dv ds :: cellsH b3 [v8, v10, v13, dv, .bool (true)] 196 :: cellsH b2 [sN, sN, sN, sN, .bool (false)] 196 :: cellsH b1 [arv, rsv] 39 :: L)
   refine cX (XOp.append1 (u := (ds.getD k 0) + 1) [_, _, _, _, _, _, _] _ qf typeInfo2 rfl rfl rfl rfl rfl rfl (SlV.own [] rfl) (Rd.sl [] rfl rfl) (by (try simp only [List.length_append, List.length_nil, List.length_cons, List.length_singleton, List.length_take, List.length_drop]); omega) ?_)
   intro v16 hs5 hn4
   refine cX (ql (3) jx rfl qs (by decide) rfl rfl (cX (jv [_, _, _, _, _, _, _, _] _ [v8, v10, v13, v16, .bool (true)] qs rfl rfl (qG hs5) rfl rfl rfl (qb (qa (qd (ii ((q : Int))) rfl (cX (qH (((q + 1 : Nat) : Int)) rfl rfl (by omega) (by omega) (qg (ii (((q + 1 : Nat) : Int))) rfl (qb ?_))))))))))
   exact ⟨(q + 1, os ++ [((nx.getD q (0, 0, [])).2.2, (k : Int), nx.getD q (0, 0, []), (EL os0 k).2.2.2 + 1)], v8, ts ++ [(nx.getD q (0, 0, [])).2.2], acs ++ [a2], (an) + 1, v10, fs ++ [(k : Int)], v13, bs ++ [((nx.getD q (0, 0, [])).1, (nx.getD q (0, 0, [])).2.1, (nx.getD q (0, 0, [])).2.2)], ccs ++ [ii ((nx.getD q (0, 0, [])).1), ii ((nx.getD q (0, 0, [])).2.1), a2], (cn) + 1, v16, ds ++ [(ds.getD k 0) + 1], G2), _, leG2, rF, ⟨rfl, rfl, rfl, rfl, rfl, rfl, rfl, ⟨⟩⟩, (sD (sD (sD (sD (sC (sC (sC (sC (sC (sC (sC sR))))))))))), ⟨rfl, leG2, (hs2), (hs3), (hs4), (hs5), (hc3), (hc4), (by (try dsimp only); rw [List.length_append, List.length_singleton]; omega), (by (try dsimp only); rw [List.length_append, List.length_singleton]; omega), (by (try dsimp only); rw [terms_snoc, htsi]), (by (try dsimp only); rw [froms_snoc, hfsi]), (by (try dsimp only); rw [bys_snoc, hbsi]), (by (try dsimp only); rw [deeps_snoc, ← hdsi, hdk9]), (by (try dsimp only); rw [List.length_append, List.length_singleton]; omega), (hoki.snoc (hnxo q (by omega))), (hdoi.snoc (by dsimp only; omega)), (by (try dsimp only) <;> omega), (by (try dsimp only); rw [List.length_append, List.length_singleton]; omega), (by (try dsimp only); rw [EL_snoc hkp]; exact hel), (by (try dsimp only); exact hgoi.trans (add_new (by omega) hnin (by omega)))⟩, (by omega)⟩
  refine jk (qt (qt (qM (qa (qd (ii ((k : Int))) rfl (cX (qH (((k + 1 : Nat) : Int)) rfl rfl (by omega) (by omega) (qg (ii (((k + 1 : Nat) : Int))) rfl (qb ?_)))))))))
  exact ⟨(k + 1, os, av, ts, acs, an, bv, fs, cv, bs, ccs, cn, dv, ds, G2), _, (qh (qh leG1 le2) leG2), rF, ⟨rfl, rfl, rfl, rfl, rfl, ⟨⟩⟩, (sC (sC (sC (sC (sC (sC (sC sR))))))), ⟨rfl, (qh (qh leG1 le2) leG2), (havi), (hbvi), (hcvi), (hdvi), (hAi), (hBi), (hani), (hcni), (htsi), (hfsi), (hbsi), (hdsi), (hli), (hoki), (hdoi), (by (try dsimp only); omega), (by (try dsimp only); have h9 := hgoi.trans (add_end (by omega)); have h8 := reach_more (ar := ar) (rs := rs) (n := n) (f := 60 - k - 1) hk70 (by omega) hdeep0 (by rw [hnx0, h9]); rw [hnx0, h9] at h8; exact hgo0.trans h8)⟩, (by (try dsimp only); omega)⟩
 refine jk (qt (qt (qM (qc (qa (cX (qr [av, bv, cv, dv, .bool (true)] isAgg196 sizeOf196 rfl rfl (Rd.ownN [_, _, _, _] rfl rfl) (cX (qL [_, _, _, _, _] _ [av, bv, cv, dv, .bool (true)] sizeOf196 rfl rfl rfl (qn (qG hav) (qn (qG hbv) (qn (qG hcv) (qn (qG hdv) (qn rfl qO))))) rfl rfl rfl (qb (qQ [] _ _ rfl (fun F8 le8 hz7 => ?_))))))))))))
 replace hA := hA.mono le8
 replace hB := hB.mono le8
 have hf7 : RowsF F8 av ts := CO.fz hA (by first | rfl | omega | (rw [List.length_set]; omega) | (simp; done)) hz7.fz
 refine qQ [] _ _ rfl (fun F9 le9 hz8 => ?_)
 replace hB := hB.mono le9
 replace hf7 := hf7.mono le9
 have hf8 : IntsF F9 bv fs := intsH.fz (xs := fs) hz8.fz
 refine qQ [] _ _ rfl (fun F10 le10 hz9 => ?_)
 replace hB := hB.mono le10
 replace hf7 := hf7.mono le10
 replace hf8 := hf8.mono le10
 have hf9 : StepsF F10 cv bs := CO.fz hB (by first | rfl | omega | (rw [List.length_set]; omega) | (simp; done)) hz9.fz
 refine qQ [] _ _ rfl (fun F11 le11 hz10 => ?_)
 replace hf7 := hf7.mono le11
 replace hf8 := hf8.mono le11
 replace hf9 := hf9.mono le11
 have hf10 : IntsF F11 dv ds := intsH.fz (xs := ds) hz10.fz
 refine qu (qq (L' := L) [.agg #[av, bv, cv, dv, .bool (true)]] (.agg #[av, bv, cv, dv, .bool (true)]) (.cell rfl (ju [av, bv, cv, dv, .bool (true)] isAgg196 sizeOf196 rfl (Rd.ownN [_] rfl rfl)) .nil) rfl (qh (qh (qh (qh (qh le1 leG1) le8) le9) le10) le11) rF (sD (sD (sD sR))) ?_)
 have e9 : reachL ar rs t n = (os, true) := hgo.trans (reach_done (by omega) hl)
 rw [e9]
 exact ⟨_, _, _, _, rfl, by rw [← hts]; exact hf7, by rw [← hfs]; exact hf8, by rw [← hbs]; exact hf9, by rw [← hds]; exact hf10, rfl⟩

/- (*strings.Builder).copyCheck -/
theorem copyCheck_fresh {F : FH} {L : List HP} {b0 : Nat} {v0 : Value} :
    Does prog 362 [ptr b0 0] F (cellsH b0 [(.pointer none), v0] 351 :: L) (fun v F' L' => F = F' ∧ cellsH b0 [ptr b0 0, v0] 351 :: L = L') := by
 refine qI func362 rfl rfl rfl (qc (qa (qd (ptr b0 0) rfl (cX (jn rfl (cX (ql (0) runUnderlying351 rfl sizeOf349 (by decide) rfl rfl (cX (qj isAgg349 rfl (Rd.own [] rfl rfl) (cX (XOp.eqNilT underlying349 rfl rfl (qb (yd rfl (qa ?_))))))))))))))
 refine qd (ptr b0 0) rfl (qd (ptr b0 0) rfl (cX (XOp.toUnsafe [] underlying349 underlying425 (info_of_run typeInfo351) (by decide) rfl rfl (Nat.succ_pos _) (cX (XOp.externSame (fn := f383) (v := ptr b0 0) (e := Extern.AbiNoEscape.same) func383 (by kernel_rfl) (by kernel_rfl) (by kernel_rfl) (by kernel_rfl) (fun _ => rfl) rfl (cX (XOp.fromUnsafe (n := 2) (m := 2) [] underlying425 underlying349 (info_of_run typeInfo351) rfl rfl rfl (by kernel_rfl) (by kernel_rfl) (cX (jn rfl (cX (ql (0) runUnderlying351 rfl sizeOf349 (by decide) rfl rfl (cX (jv [] _ [ptr b0 0, v0] sizeOf349 rfl rfl rfl rfl rfl rfl (qb (id (retEndN (L' := cellsH b0 [ptr b0 0, v0] 351 :: L) [] (.tuple #[]) (by exact .nil) rfl rF rF (sC sR) ?_))))))))))))))))
 exact ⟨rfl, rfl⟩

/- (*strings.Builder).copyCheck -/
theorem copyCheck_used {F : FH} {L : List HP} {b0 : Nat} {v0 : Value} :
    Does prog 362 [ptr b0 0] F (cellsH b0 [ptr b0 0, v0] 351 :: L) (fun v F' L' => F = F' ∧ cellsH b0 [ptr b0 0, v0] 351 :: L = L') := by
 refine qI func362 rfl rfl rfl (qc (qa (qd (ptr b0 0) rfl (cX (jn rfl (cX (ql (0) runUnderlying351 rfl sizeOf349 (by decide) rfl rfl (cX (qj isAgg349 rfl (Rd.own [] rfl rfl) (cX (XOp.eqNilF underlying349 rfl rfl (qb (X.condF rfl (qc (qa ?_)))))))))))))))
 refine qd (ptr b0 0) rfl (cX (jn rfl (cX (ql (0) runUnderlying351 rfl sizeOf349 (by decide) rfl rfl (cX (qj isAgg349 rfl (Rd.own [] rfl rfl) (qd (ptr b0 0) rfl (cX (XOp.neSamePtr underlying349 (info_of_run typeInfo351) rfl rfl (qb (X.condF rfl (qw (id (retEndN (L' := cellsH b0 [ptr b0 0, v0] 351 :: L) [] (.tuple #[]) (by exact .nil) rfl rF rF (sC sR) ?_))))))))))))))
 exact ⟨rfl, rfl⟩

theorem copyCheck_spec {F : FH} {L : List HP} {b0 : Nat} {v0 pv : Value} (hp : pv = .pointer none ∨ pv = ptr b0 0) : Does prog 362 [ptr b0 0] F (cellsH b0 [pv, v0] 351 :: L) (fun v F' L' => F = F' ∧ cellsH b0 [ptr b0 0, v0] 351 :: L = L') := by
  rcases hp with rfl | rfl
  · exact copyCheck_fresh
  · exact copyCheck_used


/- (*strings.Builder).WriteByte -/
theorem WriteByte_spec {F : FH} {L : List HP} {b0 n : Nat} {v0 pv : Value} {cs : List Value} {m : Int} (hp : pv = .pointer none ∨ pv = ptr b0 0) (hv0 : IsSl v0) (hn : n ≤ 4000000) :
    Does prog 316 [ptr b0 0, .int .u8 (m)] F (cellsH b0 [pv, v0] 351 :: slH 5 1 v0 n cs :: L) (fun v F' L' => (.nilIface : Value) = v ∧ F = F' ∧ ∃ v1, IsSl v1 ∧ cellsH b0 [ptr b0 0, v1] 351 :: slH 5 1 v1 (n + 1) (cs ++ [.int .u8 m]) :: L = L') := by
 refine qI func316 rfl rfl rfl (qc (qa (qg (.nilIface) rfl (qb (qc (qa (qd (ptr b0 0) rfl (cX (qm (args := [ptr b0 0]) call362 rfl (copyCheck_spec (hp := by assumption)) ?_)))))))))
 rintro _ _ _ _ ⟨rfl, rfl⟩
 show XL _ _ _ _ _ _ _ (cellsH b0 [ptr b0 0, v0] 351 :: slH 5 1 v0 n cs :: L)
 refine qb (qc (qa (qd (ptr b0 0) rfl (qd (ptr b0 0) rfl (cX (jn rfl (cX (ql (1) runUnderlying351 rfl sizeOf60 (by decide) rfl rfl (cX (qj isAgg60 rfl (Rd.own [] rfl rfl) (qd (.int .u8 (m)) rfl (cX (qo (s := 1) [.int .u8 (m)] [.int .u8 (0)] [(0, [.int .u8 (m)])] runUnderlying60 sizeOf5 zeroValue5 rfl (by decide) rfl (.cons rfl CellsAre.nil) rfl ?_)))))))))))))
 intro v1 hv1
 refine cX (jG (s := 1) (n := n) (m := 1) (bytes := 1) (cs := cs) [_, _] _ [(.int .u8 (m) : Value)] runUnderlying60 typeInfo5 rfl rfl rfl rfl rfl rfl rfl (SlV.own [] rfl) rfl (fun j9 u9 h9 => Rd.sl [] rfl h9) (qn rfl qO) (by omega) (by omega) ?_)
 intro v2 hs1 _ _
 refine cX (jn rfl (cX (ql (1) runUnderlying351 rfl sizeOf60 (by decide) rfl rfl (cX (jv [_] _ [ptr b0 0, v2] sizeOf60 rfl rfl (qG hs1) rfl rfl rfl (qb (qc (qa (qg (.nilIface) rfl (qb (qu (qq (L' := cellsH b0 [ptr b0 0, v2] 351 :: slH 5 1 v2 ((n + 1)) ((cs ++ [(.int .u8 (m) : Value)])) :: L) [.nilIface] (.nilIface) (.tmp rfl .nil) rfl rF rF (sD (sC (sC sR))) ?_))))))))))))
 exact ⟨rfl, rfl, _, hs1, rfl⟩

/- (*strings.Builder).String -/
theorem String_spec {F : FH} {L : List HP} {b0 n : Nat} {v0 pv : Value} {cs : List Value} (us : List UInt8) (hv0 : IsSl v0) (hn : n ≤ 4000000) (hn0 : 0 < n) (hcs : cs = Go.Lib.byteCells us) :
    Does prog 317 [ptr b0 0] F (cellsH b0 [pv, v0] 351 :: slH 5 1 v0 n cs :: L) (fun v F' L' => (.string ⟨us.toArray⟩ : Value) = v ∧ F = F' ∧ L = L') := by
 refine qI func317 rfl rfl rfl (qc (qa (qg (.string (⟨#[]⟩)) rfl (qb (qc ?_)))))
 refine jY [cellsH b0 [pv, v0] 351, slH 5 1 v0 n cs] L 10 [] [[], [0], [1], [2], [3], [], [5], [6], [7], [8]] (phiL [qe (ptr b0 0), qe (ptr b0 0), qe (ptr b0 1), qe v0, qe (.pointer (some (elemA v0 0))), qe (ptr b0 0), qe (ptr b0 0), qe (ptr b0 1), qe v0, qe (ii ((n : Int)) : Value)]) (ownL []) mixed rfl rfl (by kernel_rfl) ?_ ?_
 ·refine pD (fun W R z9 => ?_) ?_
  ·refine qi (qp (ptr b0 0) rfl ?_)
   exact ⟨rfl, rfl, rfl⟩
  refine pD (fun W R z9 => ?_) ?_
  ·rw [eS (l := [(0, _)]) ⟨z9 0 rfl, ⟨⟩⟩]
   refine qi (jn rfl ?_)
   exact ⟨rfl, rfl, rfl⟩
  refine pD (fun W R z9 => ?_) ?_
  ·rw [eS (l := [(1, _)]) ⟨z9 1 rfl, ⟨⟩⟩]
   refine qi (ql (1) runUnderlying351 rfl sizeOf60 (by decide) rfl rfl ?_)
   exact ⟨rfl, rfl, rfl⟩
  refine pD (fun W R z9 => ?_) ?_
  ·rw [eS (l := [(2, _)]) ⟨z9 2 rfl, ⟨⟩⟩]
   refine qi (qj isAgg60 rfl (Rd.own [] rfl rfl) ?_)
   exact ⟨rfl, rfl, rfl⟩
  refine pD (fun W R z9 => ?_) ?_
  ·rw [eS (l := [(3, _)]) ⟨z9 3 rfl, ⟨⟩⟩]
   refine qi (XOp.sliceData (v := v0) (n := n) rfl (SlV.own [_] rfl) (by omega) ?_)
   exact ⟨rfl, rfl, rfl⟩
  refine pD (fun W R z9 => ?_) ?_
  ·refine qi (qp (ptr b0 0) rfl ?_)
   exact ⟨rfl, rfl, rfl⟩
  refine pD (fun W R z9 => ?_) ?_
  ·rw [eS (l := [(5, _)]) ⟨z9 5 rfl, ⟨⟩⟩]
   refine qi (jn rfl ?_)
   exact ⟨rfl, rfl, rfl⟩
  refine pD (fun W R z9 => ?_) ?_
  ·rw [eS (l := [(6, _)]) ⟨z9 6 rfl, ⟨⟩⟩]
   refine qi (ql (1) runUnderlying351 rfl sizeOf60 (by decide) rfl rfl ?_)
   exact ⟨rfl, rfl, rfl⟩
  refine pD (fun W R z9 => ?_) ?_
  ·rw [eS (l := [(7, _)]) ⟨z9 7 rfl, ⟨⟩⟩]
   refine qi (qj isAgg60 rfl (Rd.own [] rfl rfl) ?_)
   exact ⟨rfl, rfl, rfl⟩
  refine pD (fun W R z9 => ?_) ?_
  ·rw [eS (l := [(8, _)]) ⟨z9 8 rfl, ⟨⟩⟩]
   refine qi (qE runUnderlying60 rfl (SlV.own [_] rfl) ?_)
   exact ⟨rfl, rfl, rfl⟩
  exact stepsP.nil
 intro W hphi
 rw [eS (l := [(4, _), (9, _)]) ⟨(hphi 4 (by decide)), (hphi 9 (by decide)), ⟨⟩⟩]
 show XL _ _ _ _ _ _ _ (cellsH b0 [pv, v0] 351 :: slH 5 1 v0 n cs :: L)
 refine cX (XOp.unsafeStr (us := us) (n := n) [_] underlying408 (by kernel_rfl) rfl rfl rfl hcs (by omega) (by omega) (qg (.string (⟨(us).toArray⟩)) rfl (qb (qu (qq (L' := L) [.string (⟨(us).toArray⟩)] (.string (⟨(us).toArray⟩)) (.tmp rfl .nil) rfl rF rF (sD sR) ?_)))))
 exact ⟨rfl, rfl, rfl⟩

/- impl.key -/
theorem key_spec {F : FH} {L : List HP} {tv : Value} {t : List Int} (ht : IntsF F tv t) (hlt : 1 ≤ t.length ∧ t.length ≤ 60) (hsm : ∀ x ∈ t, -24 ≤ x ∧ x < 200) :
    Does prog 242 [tv] F (L) (fun v F' L' => (.string (keyS t) : Value) = v ∧ F = F' ∧ L = L') := by
 refine qI func242 rfl rfl rfl (qc (qa (qg (.string (⟨#[]⟩)) rfl (qb (qc (qa (cX (ji [(.pointer none), sN] zeroValue351 rfl ?_))))))))
 intro b1
 refine qb (qc (qc (qa (qd (tv) rfl (cX (qE qf rfl ht.slv (qd (ii (0)) rfl (qb (qK (X.weaken (Sub.addNil 5 1 none _) ?_))))))))))
 show X _ _ _ _ _ _ (slH 5 1 (sN) 0 ([]) :: cellsH b1 [(.pointer none), sN] 351 :: L)
 refine jl (α := Nat × Value × Value × List Value) (fun xQ => [(3, ptr b1 0), (6, tv), (7, ii ((t.length : Int))), (8, ii (((xQ.1 : Nat) : Int)))]) (fun xQ => cellsH b1 [xQ.2.1, xQ.2.2.1] 351 :: slH 5 1 xQ.2.2.1 xQ.1 xQ.2.2.2 :: L) (fun xQ F' => F = F' ∧ (xQ.1 ≤ t.length) ∧ (xQ.2.1 = .pointer none ∨ xQ.2.1 = ptr b1 0) ∧ (IsSl xQ.2.2.1) ∧ (xQ.2.2.2 = bytesC (t.take xQ.1))) (fun xQ => t.length - xQ.1) (0, (.pointer none), sN, []) ⟨rfl, rfl, rfl, rfl, ⟨⟩⟩ (qR (qZ (A := [_])) (sC (sC sR))) ⟨rfl, (by (try dsimp only) <;> omega), (.inl rfl), (⟨_, _, _, rfl⟩), (rfl)⟩ ?_
 rintro ⟨k, pv, bv, cs⟩ rE _ _ ⟨rfl, hk, hp, hbv, hcs⟩
 show X _ _ _ _ (envs [(3, ptr b1 0), (6, tv), (7, ii ((t.length : Int))), (8, ii ((k : Int)))] rE) _ (cellsH b1 [pv, bv] 351 :: slH 5 1 bv k cs :: L)
 dsimp only at hk hp hbv hcs
 have hs9 := fun h : k < t.length => small_get (hsm) h
 refine qc (qa (cX (qW rfl rfl (qb (qc ?_)))))
 refine qA (p := (k : Int) < (t.length : Int)) rfl (fun h1 => ?_) (fun h1 => ?_)
 ·refine qw (qc (qK (qc (qa (cX (qD k qf qB rfl rfl rfl ht.slv (by omega) (Nat.mul_one _) (cX (qj jm rfl (ht.rd (by omega)) (qg (ii (t.getD k 0)) rfl (qb (qa (qd (ii (t.getD k 0)) rfl (cX (qH ((t.getD k 0) + 24) rfl rfl (by omega) (by omega) ?_))))))))))))))
  have hs8 := hs9 (by omega)
  refine cX (XOp.convI (k' := .i64) (a := (t.getD k 0) + 24) ((t.getD k 0) + 24) runUnderlying2 runUnderlying5 rfl (IntWalk.u8_in _ (by omega)) (XL.weaken (qZ (A := [_])) ?_))
  show XL _ _ _ _ _ _ _ (slH 5 1 bv k cs :: cellsH b1 [pv, bv] 351 :: L)
  refine XL.weaken (qZ (A := [_])) ?_
  show XL _ _ _ _ _ _ _ (cellsH b1 [pv, bv] 351 :: slH 5 1 bv k cs :: L)
  refine cX (qm (args := [ptr b1 0, .int .u8 ((t.getD k 0) + 24)]) call316 rfl (WriteByte_spec (m := (t.getD k 0) + 24) (hp := by assumption) (hv0 := by assumption) (hn := by omega)) ?_)
  rintro _ _ _ _ ⟨rfl, rfl, bv1, hs1, rfl⟩
  show XL _ _ _ _ _ _ _ (cellsH b1 [ptr b1 0, bv1] 351 :: slH 5 1 bv1 ((k + 1)) ((cs ++ [(.int .u8 ((t.getD k 0) + 24) : Value)])) :: L)
  refine qb (qa (cX (qH (((k + 1 : Nat) : Int)) rfl rfl (by omega) (by omega) (qd (ii (((k + 1 : Nat) : Int))) rfl (qb ?_)))))
  exact ⟨(k + 1, (ptr b1 0), bv1, (cs ++ [(.int .u8 ((t.getD k 0) + 24) : Value)])), _, FLe.refl _, rF, ⟨rfl, rfl, rfl, rfl, ⟨⟩⟩, (sC (sC sR)), ⟨rfl, (by (try dsimp only) <;> omega), (.inr rfl), (hs1), (by (try dsimp only); rw [hcs]; exact bytesC_next (by omega))⟩, (by omega)⟩
 refine jk (qt (qt (qM (qc (qa (XL.weaken (qZ (A := [_])) ?_))))))
 show XL _ _ _ _ _ _ _ (slH 5 1 bv k cs :: cellsH b1 [pv, bv] 351 :: L)
 refine XL.weaken (qZ (A := [_])) ?_
 show XL _ _ _ _ _ _ _ (cellsH b1 [pv, bv] 351 :: slH 5 1 bv k cs :: L)
 refine cX (qm (args := [ptr b1 0]) call317 rfl (String_spec (keyU t) (hv0 := by assumption) (hn := by omega) (hn0 := by omega) (hcs := (by rw [hcs, show k = t.length from by omega, List.take_length]; exact bytesC_key hsm))) ?_)
 rintro _ _ _ _ ⟨rfl, rfl, rfl⟩
 refine qg (.string ((⟨(keyU t).toArray⟩ : ByteArray))) rfl (qb (qu (qq (L' := L) [.string ((⟨(keyU t).toArray⟩ : ByteArray))] (.string ((⟨(keyU t).toArray⟩ : ByteArray))) (.tmp rfl .nil) rfl rF rF sR ?_)))
 exact ⟨rfl, rfl, rfl⟩

/- impl.longest -/
set_option maxRecDepth 20000 in
theorem longest_spec {F : FH} {L : List HP} {arv : Value} {ar : List Int} (har : IntsF F arv ar) {rsv : Value} {rs : List (List Int × List Int)} (hrs : PairsF F rsv rs) {tv : Value} {t : List Int} (ht : IntsF F tv t) {n : Int} (hsys : sysOk ar rs = true) (ho : termOk ar t = true) (hn20 : 0 ≤ n ∧ n ≤ 20) :
    Does prog 128 [.agg #[arv, rsv], tv, ii (n)] F (L) (fun v F' L' => (ii (longestL ar rs t n) : Value) = v ∧ L = L') := by
 refine qI func128 rfl rfl rfl ?_
 have hnn := jt ht (by have := termOk_len ho; omega)
 have htl := termOk_len ho
 have hrl := (sysOk_iff.1 hsys).2.1
 have hsig := (sysOk_iff.1 hsys).1
 have hsl := sigOk_spec hsig
 refine qc (qa (cX (jc [arv, rsv] rfl rfl ?_)))
 intro b1
 refine qg (ii (0)) rfl (qb (qc (qa (qd (tv) rfl (cX (qo (s := 1) [tv] [sN] [(0, [tv])] qv qs jD rfl (by decide) rfl (.cons (cells_one (qz ht)) CellsAre.nil) rfl ?_))))))
 intro v1 hv1
 refine qg (v1) rfl (qb (qc (qa (cX (XOp.makeMap ?_)))))
 intro b2
 refine qg (.map (some b2)) rfl (qb (qc (qa (qg (ii (0)) rfl (qb (qK ?_))))))
 have hc1 : RowsC F [tv] ([t] : List (List Int)) := (RowsC.snoc (CO.nil : RowsC F [] []) ht)
 refine qQ [_] _ _ rfl (fun F1 le1 hz1 => ?_)
 replace har := har.mono le1
 replace hrs := hrs.mono le1
 replace hc1 := hc1.mono le1
 have hf1 : RowsF F1 v1 (([t] : List (List Int))) := CO.fz hc1 (by first | rfl | omega | (rw [List.length_set]; omega) | (simp; done)) hz1.fz
 refine jl (α := Nat × Value × RowL × FH) (fun xQ => [(2, ii (n)), (3, ptr b1 0), (7, xQ.2.1), (8, .map (some b2)), (9, ii (((xQ.1 : Nat) : Int)))]) (fun xQ => mapH b2 ([]) :: cellsH b1 [arv, rsv] 39 :: L) (fun xQ F' => xQ.2.2.2 = F' ∧ F1 ≤ xQ.2.2.2 ∧ (RowsF xQ.2.2.2 xQ.2.1 xQ.2.2.1) ∧ ((xQ.1 : Int) ≤ n) ∧ (OkRows ar xQ.2.2.1) ∧ (xQ.2.2.1.length ≤ 60) ∧ (longestL ar rs t n = longestGo ar rs (n.toNat + 1 - xQ.1) (xQ.1 : Int) xQ.2.2.1)) (fun xQ => n.toNat + 1 - xQ.1) (0, v1, ([t] : List (List Int)), F1) ⟨rfl, rfl, rfl, rfl, rfl, ⟨⟩⟩ (sC (sC sR)) ⟨rfl, FLe.refl _, (hf1), (by (try dsimp only) <;> omega), (OkRows.one ho), (by simp), (rfl)⟩ ?_
 rintro ⟨k, lvv, lv, G1⟩ rE _ _ ⟨rfl, leG, hlv, hkn, hok, hll, hgo⟩
 show X _ _ _ _ (envs [(2, ii (n)), (3, ptr b1 0), (7, lvv), (8, .map (some b2)), (9, ii ((k : Int)))] rE) _ (mapH b2 ([]) :: cellsH b1 [arv, rsv] 39 :: L)
 replace leG : F1 ≤ G1 := leG
 dsimp only at hlv hkn hok hll hgo
 have leG1 := leG
 replace har := har.mono leG1
 replace hrs := hrs.mono leG1
 refine qc (qK (qc (qa (qg (sN) rfl (qb (qc (qc (qa (qd (lvv) rfl (cX (qE qv rfl hlv.slv (qd (ii (0)) rfl (qb (qK (jl (α := Nat × Value × RowL × List Value × Nat × FH) (fun xQ => [(2, ii (n)), (3, ptr b1 0), (8, .map (some b2)), (9, ii ((k : Int))), (10, xQ.2.1), (24, lvv), (25, ii ((lv.length : Int))), (26, ii (((xQ.1 : Nat) : Int)))]) (fun xQ => slH 22 1 xQ.2.1 xQ.2.2.2.2.1 xQ.2.2.2.1 :: mapH b2 (xQ.2.2.1.map keyS) :: cellsH b1 [arv, rsv] 39 :: L) (fun xQ F' => xQ.2.2.2.2.2 = F' ∧ G1 ≤ xQ.2.2.2.2.2 ∧ (IsSl xQ.2.1) ∧ (RowsC xQ.2.2.2.2.2 xQ.2.2.2.1 xQ.2.2.1) ∧ (xQ.2.2.2.2.1 = xQ.2.2.1.length) ∧ (xQ.1 ≤ lv.length) ∧ (xQ.2.2.1.length ≤ 60) ∧ (OkRows ar xQ.2.2.1) ∧ (nextGo ar rs lv [] = nextGo ar rs (lv.drop xQ.1) xQ.2.2.1)) (fun xQ => lv.length - xQ.1) (0, sN, [], [], 0, G1) ⟨rfl, rfl, rfl, rfl, rfl, rfl, rfl, rfl, ⟨⟩⟩ (qR (Sub.addNil 22 1 _ _) (sC (sC (sC sR)))) ⟨rfl, FLe.refl _, (⟨_, _, _, rfl⟩), (CO.nil), (rfl), (Nat.zero_le _), (by simp), (OkRows.nil), (rfl)⟩ ?_)))))))))))))))
 rintro ⟨q, nv, nx, ncs, nn, G2⟩ rE _ _ ⟨rfl, leG, hnv, hNC, hnn, hq, hnl, hnok, hgo1⟩
 show X _ _ _ _ (envs [(2, ii (n)), (3, ptr b1 0), (8, .map (some b2)), (9, ii ((k : Int))), (10, nv), (24, lvv), (25, ii ((lv.length : Int))), (26, ii ((q : Int)))] rE) _ (slH 22 1 nv nn ncs :: mapH b2 (nx.map keyS) :: cellsH b1 [arv, rsv] 39 :: L)
 replace leG : G1 ≤ G2 := leG
 dsimp only at hnv hNC hnn hq hnl hnok hgo1
 have hqo := fun h : q < lv.length => hok q h
 have hql := fun h : q < lv.length => termOk_len (hok q h)
 have leG2 := leG
 replace har := har.mono leG2
 replace hrs := hrs.mono leG2
 replace hlv := hlv.mono leG2
 refine qc (qa (cX (qW rfl rfl (qb (qc ?_)))))
 refine qA (p := (q : Int) < (lv.length : Int)) rfl (fun h1 => ?_) (fun h1 => ?_)
 ·refine qw (qc (qK (qc (qa (cX (qD q qv qs rfl rfl rfl hlv.slv (by omega) (Nat.mul_one _) ?_))))))
  obtain ⟨a1, ha1, hr1⟩ := hlv.rd (i := q) (by omega)
  refine cX (qj qU rfl (hr1 _) (qg (a1) rfl (qb (qc (qa (cX (qr [arv, rsv] ja qP rfl rfl (Rd.ownN [_, _] rfl rfl) (qd (a1) rfl (cX (qm (args := [.agg #[arv, rsv], a1]) call241 rfl (stepsFrom_spec har hrs ha1 (hsys := (hsys)) (ho := (hqo (by omega)))) ?_))))))))))
  rintro _ F2 _ le2 ⟨x1, rfl, hx1, rfl⟩
  replace hNC := hNC.mono le2
  refine qd (.tuple #[x1, .bool (longL ar rs ((lv.getD q [])))]) rfl (cX (je (x1) rfl rfl (cX (je (.bool (longL ar rs ((lv.getD q [])))) rfl rfl (qg (x1) rfl (qg (.bool (longL ar rs ((lv.getD q [])))) rfl (qb (qc (qc (qa (qd (.bool (longL ar rs ((lv.getD q [])))) rfl (qb ?_))))))))))))
  refine jz (t := longL ar rs ((lv.getD q []))) rfl (fun h2 => ?_) (fun h2 => ?_)
  ·have hlo := h2
   refine qc (qa (qg (ii (-1)) rfl (qb (qu (qk (qC (qk (qk (qC (qk (qC (qk (qk (qC (qq (L' := L) [ii (-1)] (ii (-1)) (.tmp rfl .nil) rfl (qh (qh (qh le1 leG1) leG2) le2) rF (sD (sD (sD sR))) ?_)))))))))))))))
   have e9 : longestL ar rs t n = -1 := hgo.trans (longest_none (by omega) (hgo1.trans (next_long (by omega) hlo)))
   rw [e9]
   exact ⟨rfl, rfl⟩
  have hlo := h2
  refine qw (qc (qc (qa ?_)))
  obtain ⟨cso1, Lso1, hXo1, hDo1, hZo1⟩ := hx1
  skip
  refine qd (x1) rfl (cX (qE jp rfl hXo1.slv (qd (ii (0)) rfl (qb (qK (jl (α := Nat × Value × RowL × List Value × Nat × FH) (fun xQ => [(2, ii (n)), (3, ptr b1 0), (8, .map (some b2)), (9, ii ((k : Int))), (10, xQ.2.1), (24, lvv), (25, ii ((lv.length : Int))), (26, ii ((q : Int))), (37, x1), (38, ii (((((stepsL ar rs ((lv.getD q [])))).length : Nat) : Int))), (39, ii (((xQ.1 : Nat) : Int)))]) (fun xQ => slH 22 1 xQ.2.1 xQ.2.2.2.2.1 xQ.2.2.2.1 :: mapH b2 (xQ.2.2.1.map keyS) :: cellsH b1 [arv, rsv] 39 :: L) (fun xQ F' => xQ.2.2.2.2.2 = F' ∧ F2 ≤ xQ.2.2.2.2.2 ∧ (IsSl xQ.2.1) ∧ (RowsC xQ.2.2.2.2.2 xQ.2.2.2.1 xQ.2.2.1) ∧ (xQ.2.2.2.2.1 = xQ.2.2.1.length) ∧ (xQ.1 ≤ (stepsL ar rs (lv.getD q [])).length) ∧ (xQ.2.2.1.length ≤ 60 + xQ.1) ∧ (OkRows ar xQ.2.2.1) ∧ (addN (stepsL ar rs (lv.getD q [])) nx = addN ((stepsL ar rs (lv.getD q [])).drop xQ.1) xQ.2.2.1)) (fun xQ => (stepsL ar rs (lv.getD q [])).length - xQ.1) (0, nv, nx, ncs, nn, F2) ⟨rfl, rfl, rfl, rfl, rfl, rfl, rfl, rfl, rfl, rfl, rfl, ⟨⟩⟩ (sC (sC (sC sR))) ⟨rfl, FLe.refl _, (hnv), (hNC), (hnn), (Nat.zero_le _), (by (try dsimp only) <;> omega), (hnok), (rfl)⟩ ?_))))))
  rintro ⟨j, pv, px, pcs, pn, G3⟩ rE _ _ ⟨rfl, leG, hpv, hPC, hpn, hj, hpl, hpok, hadd⟩
  show X _ _ _ _ (envs [(2, ii (n)), (3, ptr b1 0), (8, .map (some b2)), (9, ii ((k : Int))), (10, pv), (24, lvv), (25, ii ((lv.length : Int))), (26, ii ((q : Int))), (37, x1), (38, ii (((((stepsL ar rs ((lv.getD q [])))).length : Nat) : Int))), (39, ii ((j : Int)))] rE) _ (slH 22 1 pv pn pcs :: mapH b2 (px.map keyS) :: cellsH b1 [arv, rsv] 39 :: L)
  replace leG : F2 ≤ G3 := leG
  dsimp only at hpv hPC hpn hj hpl hpok hadd
  have hnl9 : (stepsL ar rs (lv.getD q [])).length ≤ 1000 := by have h9 := stepsTo_len (ar := ar) (t := (lv.getD q [])) (rs := rs) hrl (lv.getD q []).length; have h8 := hql (by omega); show (stepsTo ar rs (lv.getD q []) (lv.getD q []).length).length ≤ 1000; omega
  have hso := fun h : j < (stepsL ar rs (lv.getD q [])).length => steps_ok hsys (hqo (by omega)) h
  have hsl9 := fun h : j < (stepsL ar rs (lv.getD q [])).length => termOk_len (hso h)
  have leG3 := leG
  replace hNC := hNC.mono leG3
  replace hXo1 := hXo1.mono leG3
  refine qc (qa (cX (qW rfl rfl (qb (qc ?_)))))
  refine qA (p := (j : Int) < ((((stepsL ar rs ((lv.getD q [])))).length : Nat) : Int)) rfl (fun h3 => ?_) (fun h3 => ?_)
  ·refine qw (qc (qK (qc (qa (cX (qD j jp jH rfl rfl rfl hXo1.slv (by omega) rfl ?_))))))
   obtain ⟨a2, ha2, hr2, hr3, hr4, hq1⟩ := hXo1.rd (i := j) (by omega)
   refine cX (qr [ii ((((stepsL ar rs ((lv.getD q [])))).getD j (0, 0, [])).1), ii ((((stepsL ar rs ((lv.getD q [])))).getD j (0, 0, [])).2.1), a2] isAgg192 jH rfl rfl (Rd.three (hr2 _) (hr3 _) (hr4 _)) (cX (ji [ii (0), ii (0), sN] jX rfl ?_)))
   intro b3
   refine cX (qL [] _ [ii ((((stepsL ar rs ((lv.getD q [])))).getD j (0, 0, [])).1), ii ((((stepsL ar rs ((lv.getD q [])))).getD j (0, 0, [])).2.1), a2] jH rfl rfl rfl (qn rfl (qn rfl (qn (qG (qz ha2)) qO))) rfl rfl rfl (qb (qc (qa (qd (.map (some b2)) rfl (cX (ql (2) jJ rfl qs (by decide) rfl rfl (cX (qj qU rfl (Rd.own [] rfl rfl) (cX (qm (args := [a2]) call242 rfl (key_spec ha2 (hlt := (hsl9 (by omega))) (hsm := (termOk_small hsig (hso (by omega))))) ?_)))))))))))
   rintro _ _ _ _ ⟨rfl, rfl, rfl⟩
   refine cX (XOp.lookupM (ks := (px.map keyS)) (s := (keyS ((((stepsL ar rs ((lv.getD q [])))).getD j (0, 0, [])).2.2))) (decide (((stepsL ar rs (lv.getD q [])).getD j (0, 0, [])).2.2 ∈ px)) [_, _] (decide_eq_true_iff.trans ⟨fun h9 => List.mem_map.2 ⟨_, h9, rfl⟩, key_in hsig hpok (hso (by omega))⟩) underlying281 underlying9 zeroValue4 rfl rfl rfl (cX (XOp.notD rfl (qb ?_))))
   refine qA (p := ¬(((stepsL ar rs (lv.getD q [])).getD j (0, 0, [])).2.2 ∈ px)) rfl (fun h4 => ?_) (fun h4 => ?_)
   ·have hin : ((stepsL ar rs (lv.getD q [])).getD j (0, 0, [])).2.2 ∉ px := h4
    refine qc (qa (qd (.map (some b2)) rfl (cX (ql (2) jJ rfl qs (by decide) rfl rfl (cX (qj qU rfl (Rd.own [] rfl rfl) (cX (qm (args := [a2]) call242 rfl (key_spec ha2 (hlt := (hsl9 (by omega))) (hsm := (termOk_small hsig (hso (by omega))))) ?_))))))))
    rintro _ _ _ _ ⟨rfl, rfl, rfl⟩
    refine cX (XOp.updateM (ks := (px.map keyS)) (s := (keyS ((((stepsL ar rs ((lv.getD q [])))).getD j (0, 0, [])).2.2))) [_, _] underlying281 underlying9 rfl rfl rfl rfl (fun h9 => hin (key_in hsig hpok (hso (by omega)) h9)) ?_)
    rw [← keys_snoc]
    skip
    refine qb (qa (qd (pv) rfl (cX (ql (2) jJ rfl qs (by decide) rfl rfl (cX (qj qU rfl (Rd.own [] rfl rfl) (cX (qo (s := 1) [a2] [sN] [(0, [a2])] qv qs jD rfl (by decide) rfl (.cons (cells_one (qz ha2)) CellsAre.nil) rfl ?_))))))))
    intro v2 hv2
    refine cX (jG (m := 1) (bytes := 24) (cs := pcs) [_, _] _ [a2] qv typeInfo22 rfl rfl rfl rfl rfl rfl rfl (SlV.own [] rfl) rfl (Rd.lit [] rfl) (qn (qG (qz ha2)) qO) (by (try simp only [List.length_append, List.length_nil, List.length_cons, List.length_singleton]); omega) (by (try simp only [List.length_append, List.length_nil, List.length_cons, List.length_singleton]); omega) ?_)
    intro v3 hs1 hn1 hm1
    have hc2 := RowsC.snoc hPC ha2
    refine qg (v3) rfl (qb (qa (cX (qH (((j + 1 : Nat) : Int)) rfl rfl (by omega) (by omega) (qd (ii (((j + 1 : Nat) : Int))) rfl (qb ?_))))))
    exact ⟨(j + 1, v3, px ++ [(((stepsL ar rs ((lv.getD q [])))).getD j (0, 0, [])).2.2], pcs ++ [a2], (pn) + 1, G3), _, leG3, rF, ⟨rfl, rfl, rfl, rfl, rfl, rfl, rfl, rfl, rfl, rfl, rfl, ⟨⟩⟩, (sD (sD (sC (sC (sC sR))))), ⟨rfl, leG3, (hs1), (hc2), (by (try dsimp only); (try rw [List.length_append, List.length_singleton]); omega), (by (try dsimp only) <;> omega), (by (try dsimp only); (try rw [List.length_append, List.length_singleton]); omega), (hpok.snoc (hso (by omega))), (by (try dsimp only); rw [hadd, addN_new (by omega) hin])⟩, (by omega)⟩
   have hin : ((stepsL ar rs (lv.getD q [])).getD j (0, 0, [])).2.2 ∈ px := Classical.not_not.1 h4
   refine qw (qa (cX (qH (((j + 1 : Nat) : Int)) rfl rfl (by omega) (by omega) (qd (ii (((j + 1 : Nat) : Int))) rfl (qb ?_)))))
   exact ⟨(j + 1, pv, px, pcs, pn, G3), _, leG3, rF, ⟨rfl, rfl, rfl, rfl, rfl, rfl, rfl, rfl, rfl, rfl, rfl, ⟨⟩⟩, (sD (sC (sC (sC sR)))), ⟨rfl, leG3, (hpv), (hPC), (by (try dsimp only); (try rw [List.length_append, List.length_singleton]); omega), (by (try dsimp only) <;> omega), (by (try dsimp only); (try rw [List.length_append, List.length_singleton]); omega), (hpok), (by (try dsimp only); rw [hadd, addN_in (by omega) hin])⟩, (by omega)⟩
  refine jk (qt (qt (qM (qc (qa ?_)))))
  have haq : addN (stepsL ar rs (lv.getD q [])) nx = px := hadd.trans (addN_end (by omega))
  refine qd (pv) rfl (cX (qE qv rfl (SlV.own [] rfl) (cX (jI rfl rfl (qb ?_)))))
  refine qA (p := (((pn : Nat) : Int) : Int) > 60) rfl (fun h5 => ?_) (fun h5 => ?_)
  ·refine qc (qa (qg (ii (-1)) rfl (qb (qu (qC (qk (qk (qC (qk (qC (qk (qk (qC (qq (L' := L) [ii (-1)] (ii (-1)) (.tmp rfl .nil) rfl (qh (qh (qh (qh le1 leG1) leG2) le2) leG3) rF (sD (sD (sD sR))) ?_))))))))))))))
   have e9 : longestL ar rs t n = -1 := hgo.trans (longest_none (by omega) (hgo1.trans (next_many (by omega) hlo (by rw [haq]; omega))))
   rw [e9]
   exact ⟨rfl, rfl⟩
  refine qw (qa (cX (qH (((q + 1 : Nat) : Int)) rfl rfl (by omega) (by omega) (qd (ii (((q + 1 : Nat) : Int))) rfl (qb ?_)))))
  exact ⟨(q + 1, pv, px, pcs, pn, G3), _, (qh (qh leG2 le2) leG3), rF, ⟨rfl, rfl, rfl, rfl, rfl, rfl, rfl, rfl, ⟨⟩⟩, (sC (sC (sC sR))), ⟨rfl, (qh (qh leG2 le2) leG3), (hpv), (hPC), (hpn), (by (try dsimp only) <;> omega), (by (try dsimp only); omega), (hpok), (by (try dsimp only); rw [hgo1, next_go (by omega) hlo (by rw [haq]; omega), haq])⟩, (by omega)⟩
 refine jk (qt (qt (qM (qc (qc (qa (qd (nv) rfl (cX (qE qv rfl (SlV.own [] rfl) (qd (ii (0)) rfl (qb (qK (jl (α := Nat) (fun d => [(2, ii (n)), (3, ptr b1 0), (8, .map (some b2)), (9, ii ((k : Int))), (10, nv), (63, nv), (64, ii (((nn : Nat) : Int))), (65, ii ((d : Int)))]) (fun d => slH 22 1 nv nn ncs :: mapH b2 ((nx.drop d).map keyS) :: cellsH b1 [arv, rsv] 39 :: L) (fun d F' => G2 = F' ∧ (d ≤ nx.length)) (fun d => nx.length - d) 0 ⟨rfl, rfl, rfl, rfl, rfl, rfl, rfl, rfl, ⟨⟩⟩ (sC (sC (sC sR))) ⟨rfl, (Nat.zero_le _)⟩ ?_)))))))))))))
 rintro d rE _ _ ⟨rfl, hd⟩
 show X _ _ _ _ (envs [(2, ii (n)), (3, ptr b1 0), (8, .map (some b2)), (9, ii ((k : Int))), (10, nv), (63, nv), (64, ii (((nn : Nat) : Int))), (65, ii ((d : Int)))] rE) _ (slH 22 1 nv nn ncs :: mapH b2 ((nx.drop d).map keyS) :: cellsH b1 [arv, rsv] 39 :: L)
 have hdo := fun h : d < nx.length => hnok d h
 have hdl := fun h : d < nx.length => termOk_len (hnok d h)
 refine qc (qa (cX (qW rfl rfl (qb (qc ?_)))))
 refine qA (p := (d : Int) < ((nn : Nat) : Int)) rfl (fun h6 => ?_) (fun h6 => ?_)
 ·refine qw (qc (qK (qc (qa (cX (qD d qv qs rfl rfl rfl (SlV.own [] rfl) (by omega) (Nat.mul_one _) ?_))))))
  obtain ⟨a3, ha3, he1⟩ := hNC.get (i := d) (by omega)
  refine cX (qj qU rfl (Rd.sl [] rfl he1) (qg (a3) rfl (qb (qa (qd (.map (some b2)) rfl (qd (a3) rfl (cX (qm (args := [a3]) call242 rfl (key_spec ha3 (hlt := (hdl (by omega))) (hsm := (termOk_small hsig (hdo (by omega))))) ?_))))))))
  rintro _ _ _ _ ⟨rfl, rfl, rfl⟩
  refine cX (XOp.deleteM (s := (keyS ((nx.getD d [])))) (ks := ((nx.drop (d + 1)).map keyS)) [_] underlying281 underlying9 rfl rfl (congrArg (fun z9 => slH 22 1 nv nn ncs :: mapH b2 z9 :: cellsH b1 [arv, rsv] 39 :: L) (keys_drop (by omega)))  (qb (qa (cX (qH (((d + 1 : Nat) : Int)) rfl rfl (by omega) (by omega) (qd (ii (((d + 1 : Nat) : Int))) rfl (qb ?_)))))))
  exact ⟨d + 1, _, FLe.refl _, rF, ⟨rfl, rfl, rfl, rfl, rfl, rfl, rfl, rfl, ⟨⟩⟩, (sC (sC (sC sR))), ⟨rfl, (by (try dsimp only) <;> omega)⟩, (by omega)⟩
 refine jk (qt (qt (qM (qc (qc (qa ?_))))))
 rw [show (nx.drop d).map keyS = [] from keys_done (by omega)]
 have hnx : nextGo ar rs lv [] = some nx := hgo1.trans (next_end (by omega))
 have hxok := hnok
 have hxl := hnl
 skip
 refine qd (nv) rfl (cX (qE qv rfl (SlV.own [] rfl) (cX (js rfl rfl (qb ?_)))))
 refine qA (p := (((nn : Nat) : Int) : Int) = 0) rfl (fun h7 => ?_) (fun h7 => ?_)
 ·refine qc (qa (qd (ii ((k : Int))) rfl (qg (ii ((k : Int))) rfl (qb (qu (qk (qC (qk (qk (qC (qq (L' := L) [ii ((k : Int))] (ii ((k : Int))) (.tmp rfl .nil) rfl (qh (qh le1 leG1) leG2) rF (sD (sD (sD sR))) ?_)))))))))))
  have e8 : nx = [] := List.eq_nil_of_length_eq_zero (by omega)
  have e9 : longestL ar rs t n = (k : Int) := hgo.trans (longest_done (by omega) (by rw [hnx, e8]))
  rw [e9]
  exact ⟨rfl, rfl⟩
 refine qw (qc (qc (qa (qd (ii ((k : Int))) rfl (qd (ii (n)) rfl (cX (js rfl rfl (qb ?_))))))))
 refine qA (p := (k : Int) = n) rfl (fun h8 => ?_) (fun h8 => ?_)
 ·refine qc (qa (qg (ii (-1)) rfl (qb (qu (qk (qC (qk (qk (qC (qq (L' := L) [ii (-1)] (ii (-1)) (.tmp rfl .nil) rfl (qh (qh le1 leG1) leG2) rF (sD (sD (sD sR))) ?_))))))))))
  have e7 : nx ≠ [] := fun e8 => by subst e8; simp at hnn; omega
  have e9 : longestL ar rs t n = -1 := hgo.trans ((longest_next (by omega) hnx e7).trans (by rw [show n.toNat + 1 - k - 1 = 0 from by omega]; rfl))
  rw [e9]
  exact ⟨rfl, rfl⟩
 refine qw (qa (qd (nv) rfl (qg (nv) rfl ?_)))
 have hnn9 : nx ≠ [] := fun e9 => by subst e9; simp at hnn; omega
 refine jO [] _ _ rfl (fun F3 le3 hz2 => ?_)
 replace hNC := hNC.mono le3
 have hf2 : RowsF F3 nv nx := CO.fz hNC (by first | rfl | omega | (rw [List.length_set]; omega) | (simp; done)) hz2.fz
 skip
 refine qb (qa (qd (ii ((k : Int))) rfl (cX (qH (((k + 1 : Nat) : Int)) rfl rfl (by omega) (by omega) (qg (ii (((k + 1 : Nat) : Int))) rfl (qb ?_))))))
 exact ⟨(k + 1, nv, nx, F3), _, (qh (qh leG1 leG2) le3), rF, ⟨rfl, rfl, rfl, rfl, rfl, ⟨⟩⟩, (sC (sC sR)), ⟨rfl, (qh (qh leG1 leG2) le3), (hf2), (by (try dsimp only) <;> omega), (hxok), (hxl), (by (try dsimp only); rw [hgo, longest_next (by omega) hnx hnn9, show n.toNat + 1 - k - 1 = n.toNat + 1 - (k + 1) from by omega]; rfl)⟩, (by omega)⟩

/- spec.l9Next -/
set_option maxRecDepth 20000 in
theorem l9Next_spec {F : FH} {L : List HP} {arv : Value} {ar : List Int} (har : IntsF F arv ar) {rsv : Value} {rs : List (List Int × List Int)} (hrs : PairsF F rsv rs) {lvv : Value} {lv : List (List Int)} (hlv : RowsF F lvv lv) (hsys : sysOk ar rs = true) (hok : OkRows ar lv) (hll : lv.length ≤ 60) :
    Does prog 130 [.agg #[arv, rsv], lvv] F (L) (fun v F' L' => ∃ (a : Value), (.tuple #[a, .bool (nextB ar rs lv)] : Value) = v ∧ (RowsF F' a (nextD ar rs lv)) ∧ L = L') := by
 refine qI func130 rfl rfl rfl ?_
 have hrl := (sysOk_iff.1 hsys).2.1
 have hsig := (sysOk_iff.1 hsys).1
 have hsl := sigOk_spec hsig
 refine qc (qa (cX (jc [arv, rsv] rfl rfl ?_)))
 intro b1
 refine qg (sN) rfl (qg (.bool (false)) rfl (qb (qc (qa (cX (qo (s := 1) [] [sN] [] qv qs jD rfl (by decide) rfl CellsAre.nil rfl ?_))))))
 intro v1 hv1
 refine qg (v1) rfl (qb (qc (qc (qa (qg (ii (0)) rfl (qb (qK (jl (α := Nat × Value × RowL × List Value × Nat × FH) (fun xQ => [(1, lvv), (2, ptr b1 0), (6, xQ.2.1), (7, ii (((xQ.1 : Nat) : Int)))]) (fun xQ => slH 22 1 xQ.2.1 xQ.2.2.2.2.1 xQ.2.2.2.1 :: cellsH b1 [arv, rsv] 39 :: L) (fun xQ F' => xQ.2.2.2.2.2 = F' ∧ F ≤ xQ.2.2.2.2.2 ∧ (IsSl xQ.2.1) ∧ (RowsC xQ.2.2.2.2.2 xQ.2.2.2.1 xQ.2.2.1) ∧ (xQ.2.2.2.2.1 = xQ.2.2.1.length) ∧ (xQ.1 ≤ lv.length) ∧ (xQ.2.2.1.length ≤ 60) ∧ (OkRows ar xQ.2.2.1) ∧ (nextGo ar rs lv [] = nextGo ar rs (lv.drop xQ.1) xQ.2.2.1)) (fun xQ => lv.length - xQ.1) (0, v1, [], [], 0, F) ⟨rfl, rfl, rfl, rfl, ⟨⟩⟩ (sC (sC sR)) ⟨rfl, FLe.refl _, ((qN hv1)), (CO.nil), (rfl), (Nat.zero_le _), (by simp), (OkRows.nil), (rfl)⟩ ?_))))))))
 rintro ⟨q, nv, nx, ncs, nn, G1⟩ rE _ _ ⟨rfl, leG, hnv, hNC, hnn, hq, hnl, hnok, hgo1⟩
 show X _ _ _ _ (envs [(1, lvv), (2, ptr b1 0), (6, nv), (7, ii ((q : Int)))] rE) _ (slH 22 1 nv nn ncs :: cellsH b1 [arv, rsv] 39 :: L)
 replace leG : F ≤ G1 := leG
 dsimp only at hnv hNC hnn hq hnl hnok hgo1
 have hqo := fun h : q < lv.length => hok q h
 have hql := fun h : q < lv.length => termOk_len (hok q h)
 have leG1 := leG
 replace har := har.mono leG1
 replace hrs := hrs.mono leG1
 replace hlv := hlv.mono leG1
 refine qc (qc (qa (qd (ii ((q : Int))) rfl (qd (lvv) rfl (cX (qE qv rfl hlv.slv (cX (qW rfl rfl (qb ?_)))))))))
 refine qA (p := (q : Int) < (lv.length : Int)) rfl (fun h1 => ?_) (fun h1 => ?_)
 ·refine qw (qc (qK (qc ?_)))
  obtain ⟨a1, ha1, hr1⟩ := hlv.rd (i := q) (by omega)
  refine jY [slH 22 1 nv nn ncs, cellsH b1 [arv, rsv] 39] L 5 [] [[], [], [], [1, 2], [3]] (phiL [qe (.agg #[arv, rsv]), qe lvv, qe (ii ((q : Int)) : Value), qe (.pointer (some (elemA lvv (q)))), qe a1]) (ownL []) mixed rfl rfl (by kernel_rfl) ?_ ?_
  ·refine pD (fun W R z9 => ?_) ?_
   ·refine qi (qr [arv, rsv] ja qP rfl rfl (Rd.ownN [_] rfl rfl) ?_)
    exact ⟨rfl, rfl, rfl⟩
   refine pD (fun W R z9 => ?_) ?_
   ·refine qi (qp (lvv) rfl ?_)
    exact ⟨rfl, rfl, rfl⟩
   refine pD (fun W R z9 => ?_) ?_
   ·refine qi (qp (ii ((q : Int))) rfl ?_)
    exact ⟨rfl, rfl, rfl⟩
   refine pD (fun W R z9 => ?_) ?_
   ·rw [eS (l := [(1, _), (2, _)]) ⟨z9 1 rfl, z9 2 rfl, ⟨⟩⟩]
    refine qi (qD q qv qs rfl rfl rfl hlv.slv (by omega) (Nat.mul_one _) ?_)
    exact ⟨rfl, rfl, rfl⟩
   refine pD (fun W R z9 => ?_) ?_
   ·rw [eS (l := [(3, _)]) ⟨z9 3 rfl, ⟨⟩⟩]
    refine qi (qj qU rfl (hr1 _) ?_)
    exact ⟨rfl, rfl, rfl⟩
   exact stepsP.nil
  intro W hphi
  rw [eS (l := [(0, _), (4, _)]) ⟨(hphi 0 (by decide)), (hphi 4 (by decide)), ⟨⟩⟩]
  show XL _ _ _ _ _ _ _ (slH 22 1 nv nn ncs :: cellsH b1 [arv, rsv] 39 :: L)
  refine cX (qm (args := [.agg #[arv, rsv], a1]) call243 rfl (l7Steps_spec har hrs ha1 (hsys := (hsys)) (ho := (hqo (by omega)))) ?_)
  rintro _ F1 _ le1 ⟨x1, rfl, hr2, rfl⟩
  replace har := har.mono le1
  replace hrs := hrs.mono le1
  replace hlv := hlv.mono le1
  replace hNC := hNC.mono le1
  replace ha1 := ha1.mono le1
  replace hr1 := Rd.monoA hr1 le1
  refine qg (x1) rfl (qb (qc (qc ?_)))
  refine jY [slH 22 1 nv nn ncs, cellsH b1 [arv, rsv] 39] L 8 [] [[], [0], [], [], [], [3, 4], [5], [2, 6]] (phiL [qe x1, qe (ii ((((stepsL ar rs ((lv.getD q []))).length : Nat) : Int)) : Value), qe (.agg #[arv, rsv]), qe lvv, qe (ii ((q : Int)) : Value), qe (.pointer (some (elemA lvv (q)))), qe a1, qe (ii (((cntP ar rs ((lv.getD q [])) ((lv.getD q [])).length : Nat) : Int)) : Value)]) (ownL []) mixed rfl rfl (by kernel_rfl) ?_ ?_
  ·refine pD (fun W R z9 => ?_) ?_
   ·refine qi (qp (x1) rfl ?_)
    exact ⟨rfl, rfl, rfl⟩
   refine pD (fun W R z9 => ?_) ?_
   ·rw [eS (l := [(0, _)]) ⟨z9 0 rfl, ⟨⟩⟩]
    refine qi (qE jp rfl hr2.slv ?_)
    exact ⟨rfl, rfl, rfl⟩
   refine pD (fun W R z9 => ?_) ?_
   ·refine qi (qr [arv, rsv] ja qP rfl rfl (Rd.ownN [_] rfl rfl) ?_)
    exact ⟨rfl, rfl, rfl⟩
   refine pD (fun W R z9 => ?_) ?_
   ·refine qi (qp (lvv) rfl ?_)
    exact ⟨rfl, rfl, rfl⟩
   refine pD (fun W R z9 => ?_) ?_
   ·refine qi (qp (ii ((q : Int))) rfl ?_)
    exact ⟨rfl, rfl, rfl⟩
   refine pD (fun W R z9 => ?_) ?_
   ·rw [eS (l := [(3, _), (4, _)]) ⟨z9 3 rfl, z9 4 rfl, ⟨⟩⟩]
    refine qi (qD q qv qs rfl rfl rfl hlv.slv (by omega) (Nat.mul_one _) ?_)
    exact ⟨rfl, rfl, rfl⟩
   refine pD (fun W R z9 => ?_) ?_
   ·rw [eS (l := [(5, _)]) ⟨z9 5 rfl, ⟨⟩⟩]
    refine qi (qj qU rfl (hr1 _) ?_)
    exact ⟨rfl, rfl, rfl⟩
   refine pD (fun W R z9 => ?_) ?_
   ·rw [eS (l := [(2, _), (6, _)]) ⟨z9 2 rfl, z9 6 rfl, ⟨⟩⟩]
    refine qi (qm (args := [.agg #[arv, rsv], a1]) call244 rfl (l7Redexes_spec har hrs ha1 (hsys := (hsys)) (ho := (hqo (by omega)))) ?_)
    rintro _ _ _ _ ⟨rfl, rfl, rfl⟩
    exact ⟨rfl, rfl, rfl⟩
   exact stepsP.nil
  intro W hphi
  rw [eS (l := [(1, _), (7, _)]) ⟨(hphi 1 (by decide)), (hphi 7 (by decide)), ⟨⟩⟩]
  show XL _ _ _ _ _ _ _ (slH 22 1 nv nn ncs :: cellsH b1 [arv, rsv] 39 :: L)
  refine cX (qW rfl rfl (qb ?_))
  refine qA (p := ((((stepsL ar rs ((lv.getD q []))).length : Nat) : Int) : Int) < ((cntP ar rs ((lv.getD q [])) ((lv.getD q [])).length : Nat) : Int)) rfl (fun h2 => ?_) (fun h2 => ?_)
  ·have hlo : longL ar rs (lv.getD q []) = true := long_cnt.1 h2
   refine qc (qa (cX (qo (s := 1) [] [sN] [] qv qs jD rfl (by decide) rfl CellsAre.nil rfl ?_)))
   intro v2 hv2
   refine qg (v2) rfl (qg (.bool (false)) rfl (qb ?_))
   have hc1 : RowsC F1 [] ([] : List (List Int)) := (CO.nil : RowsC F1 [] [])
   refine qQ [] _ _ rfl (fun F2 le2 hz1 => ?_)
   replace hNC := hNC.mono le2
   replace hr2 := hr2.mono le2
   replace hc1 := hc1.mono le2
   have hf1 : RowsF F2 v2 (([] : List (List Int))) := CO.fz hc1 (by first | rfl | omega | (rw [List.length_set]; omega) | (simp; done)) hz1.fz
   refine qu (qk (qC (qk (qk (qC (qk (qq (L' := L) [v2, .bool (false)] (.tuple #[v2, .bool (false)]) (.tmp rfl (.tmp rfl .nil)) rfl (qh (qh leG1 le1) le2) rF (sD (sD sR)) ?_)))))))
   obtain ⟨e1, e2⟩ := next_no (hgo1.trans (next_long (by omega) hlo))
   rw [e1, e2]
   exact ⟨_, rfl, hf1, rfl⟩
  have hlo : longL ar rs (lv.getD q []) = false := by rw [Bool.eq_false_iff]; exact fun h9 => h2 (long_cnt.2 h9)
  refine qw (qc (qc (qa (qg (ii (0)) rfl (qb (qK (jl (α := Nat × Value × RowL × List Value × Nat × FH) (fun xQ => [(1, lvv), (2, ptr b1 0), (6, xQ.2.1), (7, ii ((q : Int))), (8, x1), (9, ii (((xQ.1 : Nat) : Int)))]) (fun xQ => slH 22 1 xQ.2.1 xQ.2.2.2.2.1 xQ.2.2.2.1 :: cellsH b1 [arv, rsv] 39 :: L) (fun xQ F' => xQ.2.2.2.2.2 = F' ∧ F1 ≤ xQ.2.2.2.2.2 ∧ (IsSl xQ.2.1) ∧ (RowsC xQ.2.2.2.2.2 xQ.2.2.2.1 xQ.2.2.1) ∧ (xQ.2.2.2.2.1 = xQ.2.2.1.length) ∧ (xQ.1 ≤ (stepsL ar rs (lv.getD q [])).length) ∧ (xQ.2.2.1.length ≤ 60 + xQ.1) ∧ (OkRows ar xQ.2.2.1) ∧ (addN (stepsL ar rs (lv.getD q [])) nx = addN ((stepsL ar rs (lv.getD q [])).drop xQ.1) xQ.2.2.1)) (fun xQ => (stepsL ar rs (lv.getD q [])).length - xQ.1) (0, nv, nx, ncs, nn, F1) ⟨rfl, rfl, rfl, rfl, rfl, rfl, ⟨⟩⟩ (sC (sC sR)) ⟨rfl, FLe.refl _, (hnv), (hNC), (hnn), (Nat.zero_le _), (by (try dsimp only) <;> omega), (hnok), (rfl)⟩ ?_)))))))
  rintro ⟨j, pv, px, pcs, pn, G2⟩ rE _ _ ⟨rfl, leG, hpv, hPC, hpn, hj, hpl, hpok, hadd⟩
  show X _ _ _ _ (envs [(1, lvv), (2, ptr b1 0), (6, pv), (7, ii ((q : Int))), (8, x1), (9, ii ((j : Int)))] rE) _ (slH 22 1 pv pn pcs :: cellsH b1 [arv, rsv] 39 :: L)
  replace leG : F1 ≤ G2 := leG
  dsimp only at hpv hPC hpn hj hpl hpok hadd
  have hnl9 : (stepsL ar rs (lv.getD q [])).length ≤ 1000 := by have h9 := stepsTo_len (ar := ar) (t := (lv.getD q [])) (rs := rs) hrl (lv.getD q []).length; have h8 := hql (by omega); show (stepsTo ar rs (lv.getD q []) (lv.getD q []).length).length ≤ 1000; omega
  have hso := fun h : j < (stepsL ar rs (lv.getD q [])).length => steps_ok hsys (hqo (by omega)) h
  have hsl9 := fun h : j < (stepsL ar rs (lv.getD q [])).length => termOk_len (hso h)
  have hpl9 : ∀ i, i < px.length → (px.getD i []).length ≤ 60 := fun i hi => (termOk_len (hpok i hi)).2
  have leG2 := leG
  replace hNC := hNC.mono leG2
  replace hr2 := hr2.mono leG2
  refine qc (qc (qa (qd (ii ((j : Int))) rfl (qd (x1) rfl (cX (qE jp rfl hr2.slv (cX (qW rfl rfl (qb ?_)))))))))
  refine qA (p := (j : Int) < (((stepsL ar rs ((lv.getD q []))).length : Nat) : Int)) rfl (fun h3 => ?_) (fun h3 => ?_)
  ·refine qw (qc (qK (qc (qa ?_))))
   have hs8 := hsl9 (by omega)
   refine qd (pv) rfl (qd (x1) rfl (qd (ii ((j : Int))) rfl (cX (qD j jp jH rfl rfl rfl hr2.slv (by omega) rfl (cX (XOp.fieldE (j * 3 + 2) jJ rfl qs (by decide) rfl rfl ?_))))))
   obtain ⟨a2, ha2, hr3, hr4, hr5⟩ := hr2.rd (i := j) (by omega)
   refine cX (qj qU rfl (hr5 _) (cX (XOp.lend [] _ _ rfl (fun F3 le3 hz2 => ?_))))
   have hf2 : RowsF _ pv px := (CO.fz (RowsC.mono hPC (qh le3 rF)) (by first | rfl | assumption | omega | (rw [List.length_append]; simp only [List.length_singleton]; omega)) hz2 : RowsF _ pv px)
   refine id (qm (args := [pv, a2]) call245 rfl (l1TermPlace_spec hf2 ((ha2.mono le3)) (hlt := (by omega)) (htb := (fun i hi => by have := hpl9 i hi; omega)) (hlx := (by omega))) ?_)
   rintro _ _ _ _ ⟨rfl, rfl, rfl⟩
   show XL _ _ _ _ _ _ _ (slH 22 1 pv pn pcs :: cellsH b1 [arv, rsv] 39 :: L)
   refine cX (qW rfl rfl (qb ?_))
   refine qA (p := (badG (fun y => !decide (y = (((stepsL ar rs ((lv.getD q []))).getD j (0, 0, [])).2.2))) px : Int) < 0) rfl (fun h4 => ?_) (fun h4 => ?_)
   ·have hin : ((stepsL ar rs (lv.getD q [])).getD j (0, 0, [])).2.2 ∉ px := badG_out h4
    refine qa (qd (pv) rfl (qd (x1) rfl (qd (ii ((j : Int))) rfl (cX (qD j jp jH rfl rfl rfl hr2.slv (by omega) rfl (cX (XOp.fieldE (j * 3 + 2) jJ rfl qs (by decide) rfl rfl (cX (qj qU rfl (hr5 _) (cX (qo (s := 1) [a2] [sN] [(0, [a2])] qv qs jD rfl (by decide) rfl (.cons (cells_one (qz ha2)) CellsAre.nil) rfl ?_)))))))))))
    intro v3 hv3
    refine cX (jG (m := 1) (bytes := 24) (cs := pcs) [_] _ [a2] qv typeInfo22 rfl rfl rfl rfl rfl rfl rfl (SlV.own [] rfl) rfl (Rd.lit [] rfl) (qn (qG (qz ha2)) qO) (by (try simp only [List.length_append, List.length_nil, List.length_cons, List.length_singleton]); omega) (by (try simp only [List.length_append, List.length_nil, List.length_cons, List.length_singleton]); omega) ?_)
    intro v4 hs1 hn1 hm1
    have hc2 := RowsC.snoc hPC ha2
    refine qg (v4) rfl (qb (qa (qd (ii ((j : Int))) rfl (cX (qH (((j + 1 : Nat) : Int)) rfl rfl (by omega) (by omega) (qg (ii (((j + 1 : Nat) : Int))) rfl (qb ?_)))))))
    exact ⟨(j + 1, v4, px ++ [((stepsL ar rs ((lv.getD q []))).getD j (0, 0, [])).2.2], pcs ++ [a2], (pn) + 1, G2), _, leG2, rF, ⟨rfl, rfl, rfl, rfl, rfl, rfl, ⟨⟩⟩, (sD (sC (sC sR))), ⟨rfl, leG2, (hs1), (hc2), (by (try dsimp only); (try rw [List.length_append, List.length_singleton]); omega), (by (try dsimp only) <;> omega), (by (try dsimp only); (try rw [List.length_append, List.length_singleton]); omega), (hpok.snoc (hso (by omega))), (by (try dsimp only); rw [hadd, addN_new (by omega) hin])⟩, (by omega)⟩
   have hin : ((stepsL ar rs (lv.getD q [])).getD j (0, 0, [])).2.2 ∈ px := badG_in h4
   refine qw (qa (qd (ii ((j : Int))) rfl (cX (qH (((j + 1 : Nat) : Int)) rfl rfl (by omega) (by omega) (qg (ii (((j + 1 : Nat) : Int))) rfl (qb ?_))))))
   exact ⟨(j + 1, pv, px, pcs, pn, G2), _, leG2, rF, ⟨rfl, rfl, rfl, rfl, rfl, rfl, ⟨⟩⟩, (sC (sC sR)), ⟨rfl, leG2, (hpv), (hPC), (by (try dsimp only); (try rw [List.length_append, List.length_singleton]); omega), (by (try dsimp only) <;> omega), (by (try dsimp only); (try rw [List.length_append, List.length_singleton]); omega), (hpok), (by (try dsimp only); rw [hadd, addN_in (by omega) hin])⟩, (by omega)⟩
  refine jk (qt (qt (qM (qc (qa ?_)))))
  have haq : addN (stepsL ar rs (lv.getD q [])) nx = px := hadd.trans (addN_end (by omega))
  refine qd (pv) rfl (cX (qE qv rfl (SlV.own [] rfl) (cX (jI rfl rfl (qb ?_)))))
  refine qA (p := (((pn : Nat) : Int) : Int) > 60) rfl (fun h5 => ?_) (fun h5 => ?_)
  ·refine qc (qa (cX (qo (s := 1) [] [sN] [] qv qs jD rfl (by decide) rfl CellsAre.nil rfl ?_)))
   intro v5 hv4
   refine qg (v5) rfl (qg (.bool (false)) rfl (qb ?_))
   have hc3 : RowsC G2 [] ([] : List (List Int)) := (CO.nil : RowsC G2 [] [])
   refine qQ [] _ _ rfl (fun F4 le4 hz3 => ?_)
   replace hNC := hNC.mono le4
   replace hPC := hPC.mono le4
   replace hc3 := hc3.mono le4
   have hf3 : RowsF F4 v5 (([] : List (List Int))) := CO.fz hc3 (by first | rfl | omega | (rw [List.length_set]; omega) | (simp; done)) hz3.fz
   refine qu (qC (qk (qk (qC (qk (qq (L' := L) [v5, .bool (false)] (.tuple #[v5, .bool (false)]) (.tmp rfl (.tmp rfl .nil)) rfl (qh (qh (qh leG1 le1) leG2) le4) rF (sD (sD sR)) ?_))))))
   obtain ⟨e1, e2⟩ := next_no (hgo1.trans (next_many (by omega) hlo (by rw [haq]; omega)))
   rw [e1, e2]
   exact ⟨_, rfl, hf3, rfl⟩
  refine qw (qa (qd (ii ((q : Int))) rfl (cX (qH (((q + 1 : Nat) : Int)) rfl rfl (by omega) (by omega) (qg (ii (((q + 1 : Nat) : Int))) rfl (qb ?_))))))
  exact ⟨(q + 1, pv, px, pcs, pn, G2), _, (qh (qh leG1 le1) leG2), rF, ⟨rfl, rfl, rfl, rfl, ⟨⟩⟩, (sC (sC sR)), ⟨rfl, (qh (qh leG1 le1) leG2), (hpv), (hPC), (hpn), (by (try dsimp only) <;> omega), (by (try dsimp only); omega), (hpok), (by (try dsimp only); rw [hgo1, next_go (by omega) hlo (by rw [haq]; omega), haq])⟩, (by omega)⟩
 refine jk (qt (qt (qM (qc (qa (qd (nv) rfl (qg (nv) rfl (qg (.bool (true)) rfl (qb (qQ [] _ _ rfl (fun F5 le5 hz4 => ?_)))))))))))
 replace hNC := hNC.mono le5
 have hf4 : RowsF F5 nv nx := CO.fz hNC (by first | rfl | omega | (rw [List.length_set]; omega) | (simp; done)) hz4.fz
 refine qu (qq (L' := L) [nv, .bool (true)] (.tuple #[nv, .bool (true)]) (.tmp rfl (.tmp rfl .nil)) rfl (qh leG1 le5) rF (sD sR) ?_)
 obtain ⟨e1, e2⟩ := next_yes (hgo1.trans (next_end (by omega)))
 rw [e1, e2]
 exact ⟨_, rfl, hf4, rfl⟩

/- spec.LongestOf -/
set_option maxRecDepth 20000 in
theorem sLongestOf_spec {F : FH} {L : List HP} {arv : Value} {ar : List Int} (har : IntsF F arv ar) {rsv : Value} {rs : List (List Int × List Int)} (hrs : PairsF F rsv rs) {tv : Value} {t : List Int} (ht : IntsF F tv t) {n : Int} (hla : ar.length ≤ 4000000) (hlr : rs.length ≤ 4000000) (hrb : ∀ i, i < rs.length → (rs.getD i ([], [])).1.length ≤ 4000000 ∧ (rs.getD i ([], [])).2.length ≤ 4000000) (hlt : t.length ≤ 4000000) :
    Does prog 49 [.agg #[arv, rsv], tv, ii (n)] F (L) (fun v F' L' => (ii (longestF ar rs t n) : Value) = v ∧ L = L') := by
 refine qI func49 rfl rfl rfl (qc (qa (cX (jc [arv, rsv] rfl rfl ?_))))
 intro b1
 refine qg (ii (0)) rfl (qb (qc (qc (qa (cX (qr [arv, rsv] ja qP rfl rfl (Rd.ownN [] rfl rfl) (qd (tv) rfl (qd (ii (n)) rfl (cX (qm (args := [.agg #[arv, rsv], tv, ii (n)]) call129 rfl (l9Right_spec (n := n) har hrs ht (hla := (by first | assumption | rfl | omega | simp)) (hlr := (by first | assumption | rfl | omega | simp)) (hrb := (by first | assumption | rfl | omega | simp)) (hlt := (by first | assumption | rfl | omega | simp))) ?_))))))))))
 rintro _ _ _ _ ⟨rfl, rfl, rfl⟩
 refine cX (jE rfl (qb ?_))
 refine jz (t := !(reachOkL ar rs n [t])) rfl (fun h1 => ?_) (fun h1 => ?_)
 ·have hro : reachOkL ar rs n [t] = false := by simpa using h1
  refine qc (qa (qg (ii (-1)) rfl (qb (qu (qk (qq (L' := L) [ii (-1)] (ii (-1)) (.tmp rfl .nil) rfl rF rF (sD sR) ?_))))))
  rw [longestF_no hro]
  exact ⟨rfl, rfl⟩
 have hro : reachOkL ar rs n [t] = true := by simpa using h1
 have hr3 := reachOk_iff.1 hro
 have hsys := hr3.1.1
 have ho := hr3.1.2
 have hn20 := hr3.2
 have htl := termOk_len ho
 refine qw (qc (qa (qd (tv) rfl (cX (jZ <| qm (args := [tv]) call105 rfl (l1Copy_spec ht (hlt := (by first | assumption | rfl | omega | simp))) ?_)))))
 rintro v1 _ _ _ ⟨rfl, hs1, rfl⟩
 refine ⟨_, _, rfl, fun F1 le1 hz1 => ?_⟩
 replace har := har.mono le1
 replace hrs := hrs.mono le1
 have hf1 : IntsF F1 v1 ((t)) := intsH.fz (xs := (t)) hz1.fz
 refine cX (qo (s := 1) [v1] [sN] [(0, [v1])] qv qs jD rfl (by decide) rfl (.cons (cells_one (qz hf1)) CellsAre.nil) rfl ?_)
 intro v2 hv1
 refine qg (v2) rfl (qb (qc (qc (qa (qg (ii (0)) rfl (qb (qK ?_)))))))
 have hc1 : RowsC F1 [v1] ([(t)] : List (List Int)) := (RowsC.snoc (CO.nil : RowsC F1 [] []) hf1)
 refine qQ [] _ _ rfl (fun F2 le2 hz2 => ?_)
 replace har := har.mono le2
 replace hrs := hrs.mono le2
 replace hc1 := hc1.mono le2
 have hf2 : RowsF F2 v2 (([(t)] : List (List Int))) := CO.fz hc1 (by first | rfl | omega | (rw [List.length_set]; omega) | (simp; done)) hz2.fz
 refine jl (α := Nat × Value × RowL × FH) (fun xQ => [(2, ii (n)), (3, ptr b1 0), (7, xQ.2.1), (8, ii (((xQ.1 : Nat) : Int)))]) (fun xQ => cellsH b1 [arv, rsv] 39 :: L) (fun xQ F' => xQ.2.2.2 = F' ∧ F2 ≤ xQ.2.2.2 ∧ (RowsF xQ.2.2.2 xQ.2.1 xQ.2.2.1) ∧ ((xQ.1 : Int) ≤ n + 1) ∧ (OkRows ar xQ.2.2.1) ∧ (xQ.2.2.1.length ≤ 60) ∧ (longestL ar rs t n = longestGo ar rs (n.toNat + 1 - xQ.1) (xQ.1 : Int) xQ.2.2.1)) (fun xQ => n.toNat + 1 - xQ.1) (0, v2, ([(t)] : List (List Int)), F2) ⟨rfl, rfl, rfl, rfl, ⟨⟩⟩ (sC sR) ⟨rfl, FLe.refl _, (hf2), (by (try dsimp only) <;> omega), (OkRows.one ho), (by simp), (rfl)⟩ ?_
 rintro ⟨k, lvv, lv, G1⟩ rE _ _ ⟨rfl, leG, hlv, hkn, hok, hll, hgo⟩
 show X _ _ _ _ (envs [(2, ii (n)), (3, ptr b1 0), (7, lvv), (8, ii ((k : Int)))] rE) _ (cellsH b1 [arv, rsv] 39 :: L)
 replace leG : F2 ≤ G1 := leG
 dsimp only at hlv hkn hok hll hgo
 have leG1 := leG
 replace har := har.mono leG1
 replace hrs := hrs.mono leG1
 refine qc (qc (qa (qd (ii ((k : Int))) rfl (qd (ii (n)) rfl (cX (XOp.leq rfl rfl (qb ?_)))))))
 refine qA (p := (k : Int) ≤ n) rfl (fun h2 => ?_) (fun h2 => ?_)
 ·refine qw (qc (qK (qc (qa (cX (qr [arv, rsv] ja qP rfl rfl (Rd.ownN [] rfl rfl) (qd (lvv) rfl (cX (qm (args := [.agg #[arv, rsv], lvv]) call130 rfl (l9Next_spec har hrs hlv (hsys := (hsys)) (hok := (hok)) (hll := (hll))) ?_)))))))))
  rintro _ F3 _ le3 ⟨x1, rfl, hr1, rfl⟩
  refine qd (.tuple #[x1, .bool (nextB ar rs lv)]) rfl (cX (je (x1) rfl rfl (cX (je (.bool (nextB ar rs lv)) rfl rfl (qg (x1) rfl (qg (.bool (nextB ar rs lv)) rfl (qb (qc (qc (qa (qd (.bool (nextB ar rs lv)) rfl (cX (jE rfl (qb ?_))))))))))))))
  refine jz (t := !(nextB ar rs lv)) rfl (fun h3 => ?_) (fun h3 => ?_)
  ·have hnx := nextB_no (ar := ar) (rs := rs) (lv := lv) (by simpa using h3)
   refine qc (qa (qg (ii (-1)) rfl (qb (qu (qk (qC (qk (qk (qC (qk (qq (L' := L) [ii (-1)] (ii (-1)) (.tmp rfl .nil) rfl (qh (qh (qh le1 le2) leG1) le3) rF (sD sR) ?_)))))))))))
   have e9 : longestF ar rs t n = -1 := (longestF_yes hro).trans (hgo.trans (longest_none (by omega) hnx))
   rw [e9]
   exact ⟨rfl, rfl⟩
  have hxb : nextB ar rs lv = true := by simpa using h3
  have hnx := nextB_yes hxb
  obtain ⟨hxok, hxl⟩ := nextD_ok hsys hok hxb
  refine qw (qc (qc (qa (qd (x1) rfl (cX (qE qv rfl hr1.slv (cX (js rfl rfl (qb ?_)))))))))
  refine qA (p := ((((nextD ar rs lv).length : Nat) : Int) : Int) = 0) rfl (fun h4 => ?_) (fun h4 => ?_)
  ·refine qc (qa (qd (ii ((k : Int))) rfl (qg (ii ((k : Int))) rfl (qb (qu (qk (qC (qk (qk (qC (qk (qq (L' := L) [ii ((k : Int))] (ii ((k : Int))) (.tmp rfl .nil) rfl (qh (qh (qh le1 le2) leG1) le3) rF (sD sR) ?_))))))))))))
   have e9 : longestF ar rs t n = (k : Int) := (longestF_yes hro).trans (hgo.trans (longest_done (by omega) (by rw [hnx, List.eq_nil_of_length_eq_zero (show (nextD ar rs lv).length = 0 by omega)])))
   rw [e9]
   exact ⟨rfl, rfl⟩
  refine qw (qa ?_)
  have hnn9 : nextD ar rs lv ≠ [] := fun e9 => by simp_all
  refine qd (x1) rfl (qg (x1) rfl (qb (qa (qd (ii ((k : Int))) rfl (cX (qH (((k + 1 : Nat) : Int)) rfl rfl (by omega) (by omega) (qg (ii (((k + 1 : Nat) : Int))) rfl (qb ?_))))))))
  exact ⟨(k + 1, x1, nextD ar rs lv, F3), _, (qh leG1 le3), rF, ⟨rfl, rfl, rfl, rfl, ⟨⟩⟩, (sC sR), ⟨rfl, (qh leG1 le3), (hr1), (by (try dsimp only) <;> omega), (hxok), (hxl), (by (try dsimp only); rw [hgo, longest_next (by omega) hnx hnn9, show n.toNat + 1 - k - 1 = n.toNat + 1 - (k + 1) from by omega]; rfl)⟩, (by omega)⟩
 refine jk (qt (qt (qM (qc (qa (qg (ii (-1)) rfl (qb (qu (qq (L' := L) [ii (-1)] (ii (-1)) (.tmp rfl .nil) rfl (qh (qh le1 le2) leG1) rF (sD sR) ?_)))))))))
 have e9 : longestF ar rs t n = -1 := (longestF_yes hro).trans (hgo.trans (by rw [show n.toNat + 1 - k = 0 from by omega]; rfl))
 rw [e9]
 exact ⟨rfl, rfl⟩

/- impl.LongestOf -/
theorem LongestOf_spec {F : FH} {L : List HP} {arv : Value} {ar : List Int} (har : IntsF F arv ar) {rsv : Value} {rs : List (List Int × List Int)} (hrs : PairsF F rsv rs) {tv : Value} {t : List Int} (ht : IntsF F tv t) {n : Int} (hlt9 : t.length ≤ 4000000) :
    Does prog 48 [.agg #[arv, rsv], tv, ii (n)] F (L) (fun v F' L' => (ii (longestF ar rs t n) : Value) = v ∧ L = L') := by
 refine qI func48 rfl rfl rfl (qc (qa (cX (jc [arv, rsv] rfl rfl ?_))))
 intro b1
 refine qg (ii (0)) rfl (qb (qc (qc (qa (cX (qr [arv, rsv] ja qP rfl rfl (Rd.ownN [] rfl rfl) (qd (ii (n)) rfl (qd (tv) rfl (cX (qo (s := 1) [tv] [sN] [(0, [tv])] qv qs jD rfl (by decide) rfl (.cons (cells_one (qz ht)) CellsAre.nil) rfl ?_))))))))))
 intro v1 hv1
 have hc1 : RowsC F [tv] ([t] : List (List Int)) := (RowsC.snoc (CO.nil : RowsC F [] []) ht)
 refine jO [] _ _ rfl (fun F1 le1 hz1 => ?_)
 replace har := har.mono le1
 replace hrs := hrs.mono le1
 replace ht := ht.mono le1
 replace hc1 := hc1.mono le1
 have hf1 : RowsF F1 v1 (([t] : List (List Int))) := CO.fz hc1 (by first | rfl | omega | (rw [List.length_set]; omega) | (simp; done)) hz1.fz
 refine cX (qm (args := [.agg #[arv, rsv], ii (n), v1]) call127 rfl (reachOk_spec (n := n) har hrs hf1 (hlt := (by first | assumption | rfl | omega | simp))) ?_)
 rintro _ _ _ _ ⟨rfl, rfl, rfl⟩
 refine cX (jE rfl (qb ?_))
 refine jz (t := !(reachOkL ar rs n (([t] : List (List Int))))) rfl (fun h1 => ?_) (fun h1 => ?_)
 ·have hro : reachOkL ar rs n [t] = false := by simpa using h1
  refine qc (qa (qg (ii (-1)) rfl (qb (qu (qk (qq (L' := L) [ii (-1)] (ii (-1)) (.tmp rfl .nil) rfl le1 rF (sD sR) ?_))))))
  rw [longestF_no hro]
  exact ⟨rfl, rfl⟩
 have hro : reachOkL ar rs n [t] = true := by simpa using h1
 have hr3 := reachOk_iff.1 hro
 have hsys := hr3.1.1
 have ho := hr3.1.2
 have hn20 := hr3.2
 have htl := termOk_len ho
 refine qw (qc (qa (cX (qr [arv, rsv] ja qP rfl rfl (Rd.ownN [] rfl rfl) (qd (tv) rfl (qd (ii (n)) rfl (cX (qm (args := [.agg #[arv, rsv], tv, ii (n)]) call128 rfl (longest_spec (n := n) har hrs ht (hsys := (hsys)) (ho := (ho)) (hn20 := (hn20))) ?_))))))))
 rintro _ F2 _ le2 ⟨rfl, rfl⟩
 refine qg (ii (longestL ar rs t n)) rfl (qb (qu (qq (L' := L) [ii (longestL ar rs t n)] (ii (longestL ar rs t n)) (.tmp rfl .nil) rfl (qh le1 le2) rF (sD sR) ?_)))
 rw [longestF_yes hro]
 exact ⟨rfl, rfl⟩

/- impl.FiniteIn -/
theorem FiniteIn_spec {F : FH} {L : List HP} {arv : Value} {ar : List Int} (har : IntsF F arv ar) {rsv : Value} {rs : List (List Int × List Int)} (hrs : PairsF F rsv rs) {tv : Value} {t : List Int} (ht : IntsF F tv t) {n : Int} (hlt9 : t.length ≤ 4000000) :
    Does prog 50 [.agg #[arv, rsv], tv, ii (n)] F (L) (fun v F' L' => (.bool (finF ar rs t n) : Value) = v ∧ L = L') := by
 refine qI func50 rfl rfl rfl (qc (qa (cX (jc [arv, rsv] rfl rfl ?_))))
 intro b1
 refine qg (.bool (false)) rfl (qb (qc (qa (cX (qr [arv, rsv] ja qP rfl rfl (Rd.ownN [] rfl rfl) (qd (tv) rfl (qd (ii (n)) rfl (cX (qm (args := [.agg #[arv, rsv], tv, ii (n)]) call48 rfl (LongestOf_spec (n := n) har hrs ht (hlt9 := (by first | assumption | rfl | omega | simp))) ?_)))))))))
 rintro _ F1 _ le1 ⟨rfl, rfl⟩
 refine cX (jQ rfl rfl (qg (.bool (decide ((longestF ar rs t n : Int) ≥ 0))) rfl (qb (qu (qq (L' := L) [.bool (decide ((longestF ar rs t n : Int) ≥ 0))] (.bool (decide ((longestF ar rs t n : Int) ≥ 0))) (.tmp rfl .nil) rfl le1 rF (sD sR) ?_)))))
 exact ⟨rfl, rfl⟩

/- impl.NormalsOf -/
set_option maxRecDepth 20000 in
theorem NormalsOf_spec {F : FH} {L : List HP} {arv : Value} {ar : List Int} (har : IntsF F arv ar) {rsv : Value} {rs : List (List Int × List Int)} (hrs : PairsF F rsv rs) {tv : Value} {t : List Int} (ht : IntsF F tv t) {n : Int} (hlt9 : t.length ≤ 4000000) :
    Does prog 51 [.agg #[arv, rsv], tv, ii (n)] F (L) (fun v F' L' => ∃ (a : Value), (a : Value) = v ∧ (RowsF F' a (normsF ar rs t n)) ∧ (Fresh F F' (star [rowsD 2 22 a (normsF ar rs t n)])) ∧ L = L') := by
 refine qI func51 rfl rfl rfl (qc (qa (cX (jc [arv, rsv] rfl rfl ?_))))
 intro b1
 refine qg (sN) rfl (qb (qc (qc (qa (cX (qr [arv, rsv] ja qP rfl rfl (Rd.ownN [] rfl rfl) (qd (ii (n)) rfl (qd (tv) rfl (cX (qo (s := 1) [tv] [sN] [(0, [tv])] qv qs jD rfl (by decide) rfl (.cons (cells_one (qz ht)) CellsAre.nil) rfl ?_))))))))))
 intro v1 hv1
 have hc1 : RowsC F [tv] ([t] : List (List Int)) := (RowsC.snoc (CO.nil : RowsC F [] []) ht)
 refine jO [] _ _ rfl (fun F1 le1 hz1 => ?_)
 replace har := har.mono le1
 replace hrs := hrs.mono le1
 replace ht := ht.mono le1
 replace hc1 := hc1.mono le1
 have hf1 : RowsF F1 v1 (([t] : List (List Int))) := CO.fz hc1 (by first | rfl | omega | (rw [List.length_set]; omega) | (simp; done)) hz1.fz
 refine cX (qm (args := [.agg #[arv, rsv], ii (n), v1]) call127 rfl (reachOk_spec (n := n) har hrs hf1 (hlt := (by first | assumption | rfl | omega | simp))) ?_)
 rintro _ _ _ _ ⟨rfl, rfl, rfl⟩
 refine cX (jE rfl (qb ?_))
 refine jz (t := !(reachOkL ar rs n (([t] : List (List Int))))) rfl (fun h1 => ?_) (fun h1 => ?_)
 ·have hro : reachOkL ar rs n [t] = false := by simpa using h1
  refine qc (qa (qg (sN) rfl (qb (qu (qk (qq (L' := L) [sN] (sN) (.tmp rfl .nil) rfl le1 rF (sD sR) ?_))))))
  have e2 : normsF ar rs t n = [] := by unfold normsF; rw [reachF_no hro]; rfl
  rw [e2]
  exact ⟨_, rfl, SlOf.nilV, Fresh.empty nilRowsD, rfl⟩
 have hro : reachOkL ar rs n [t] = true := by simpa using h1
 have hr3 := reachOk_iff.1 hro
 have hsys := hr3.1.1
 have ho := hr3.1.2
 have hro2 := reachL_ok (n := n) hsys ho
 have hro3 := hro2.1
 refine qw (qc (qa (qg (sN) rfl (qb (qc (qa (cX (qr [arv, rsv] ja qP rfl rfl (Rd.ownN [] rfl rfl) (qd (tv) rfl (qd (ii (n)) rfl (cX (qm (args := [.agg #[arv, rsv], tv, ii (n)]) call131 rfl (reach_spec (n := n) har hrs ht (hsys := (by first | assumption | rfl | omega | (left; simp; done) | (right; simp; done))) (ho := (by first | assumption | rfl | omega | (left; simp; done) | (right; simp; done))) (hn20 := (by first | assumption | rfl | omega | (left; simp; done) | (right; simp; done)))) ?_))))))))))))
 rintro _ F2 _ le2 ⟨x1, xcs1, xLs1, rfl, hx1, hxD1, hxZ1, rfl⟩
 replace har := har.mono le2
 replace hrs := hrs.mono le2
 refine qd (.tuple #[x1, .bool ((reachL ar rs t n).2)]) rfl (cX (je (x1) rfl rfl (cX (je (.bool ((reachL ar rs t n).2)) rfl rfl (qg (x1) rfl (qg (.bool ((reachL ar rs t n).2)) rfl (qb (qc (qc (qa (qd (x1) rfl (cX (qE jN rfl hx1.slv (qd (ii (0)) rfl (qb (qK ?_))))))))))))))))
 refine jl (α := Nat × Value × RowL × List Value × List HP × Nat) (fun xQ => [(3, ptr b1 0), (7, xQ.2.1), (25, x1), (26, ii (((((reachL ar rs t n).1).length : Nat) : Int))), (27, ii (((xQ.1 : Nat) : Int)))]) (fun xQ => slH 22 1 xQ.2.1 xQ.2.2.2.2.2 xQ.2.2.2.1 :: cellsH b1 [arv, rsv] 39 :: L) (fun xQ F' => F2 = F' ∧ (IsSl xQ.2.1) ∧ (xQ.1 ≤ (reachL ar rs t n).1.length) ∧ (RowsC F2 xQ.2.2.2.1 xQ.2.2.1) ∧ (xQ.2.2.2.2.2 = xQ.2.2.1.length) ∧ (DeepL 1 (RowO 2) xQ.2.2.2.1 xQ.2.2.1 xQ.2.2.2.2.1) ∧ (Fresh F1 F2 (star (xQ.2.2.2.2.1 ++ xLs1.drop xQ.1))) ∧ (xQ.2.2.1 = normTo ar rs (reachL ar rs t n).1 xQ.1)) (fun xQ => (reachL ar rs t n).1.length - xQ.1) (0, sN, [], [], [], 0) ⟨rfl, rfl, rfl, rfl, rfl, ⟨⟩⟩ (qR (Sub.addNil 22 1 _ _) (sC (sC sR))) ⟨rfl, (⟨_, _, _, rfl⟩), (by (try dsimp only) <;> omega), (CO.nil), (rfl), (DeepL.nil), (hxZ1), (by (try dsimp only); simp [normTo])⟩ ?_
 rintro ⟨k, ov, os, ocs, Us, m⟩ rE _ _ ⟨rfl, hov, hk, hC, hm, hD, hZ, hos⟩
 show X _ _ _ _ (envs [(3, ptr b1 0), (7, ov), (25, x1), (26, ii (((((reachL ar rs t n).1).length : Nat) : Int))), (27, ii ((k : Int)))] rE) _ (slH 22 1 ov m ocs :: cellsH b1 [arv, rsv] 39 :: L)
 dsimp only at hov hk hC hm hD hZ hos
 have hol : os.length ≤ k := by rw [hos]; exact normTo_len k
 have hDf := hxD1
 refine qc (qa (cX (qW rfl rfl (qb (qc ?_)))))
 refine qA (p := (k : Int) < ((((reachL ar rs t n).1).length : Nat) : Int)) rfl (fun h2 => ?_) (fun h2 => ?_)
 ·refine qw (qc (qK (qc (qa (cX (qD k jN sizeOf194 rfl rfl rfl hx1.slv (by omega) rfl ?_))))))
  obtain ⟨a1, a2, ha1, ha2, hrg1, hq1⟩ := hx1.rd (i := k) (by omega)
  refine cX (qr [a1, ii ((((reachL ar rs t n).1).getD k ([], 0, (0, 0, []), 0)).2.1), ii ((((reachL ar rs t n).1).getD k ([], 0, (0, 0, []), 0)).2.2.1.1), ii ((((reachL ar rs t n).1).getD k ([], 0, (0, 0, []), 0)).2.2.1.2.1), a2, ii ((((reachL ar rs t n).1).getD k ([], 0, (0, 0, []), 0)).2.2.2)] isAgg194 sizeOf194 rfl rfl (Rd.all (hrg1 _)) (cX (ji [sN, ii (0), ii (0), ii (0), sN, ii (0)] zeroValue194 rfl ?_)))
  intro b2
  refine cX (qL [] _ [a1, ii ((((reachL ar rs t n).1).getD k ([], 0, (0, 0, []), 0)).2.1), ii ((((reachL ar rs t n).1).getD k ([], 0, (0, 0, []), 0)).2.2.1.1), ii ((((reachL ar rs t n).1).getD k ([], 0, (0, 0, []), 0)).2.2.1.2.1), a2, ii ((((reachL ar rs t n).1).getD k ([], 0, (0, 0, []), 0)).2.2.2)] sizeOf194 rfl rfl rfl (qn (qG (qz ha1)) (qn rfl (qn rfl (qn rfl (qn (qG (qz ha2)) (qn rfl qO)))))) rfl rfl rfl (qb (qc (qa (cX (qr [arv, rsv] ja qP rfl rfl (Rd.ownN [_, _] rfl rfl) (cX (ql (0) runUnderlying194 rfl qs (by decide) rfl rfl (cX (qj qU rfl (Rd.own [] rfl rfl) (cX (qm (args := [.agg #[arv, rsv], a1]) call132 rfl (normal_spec har hrs ha1 (hsys := (by first | assumption | rfl | omega | simp)) (ho := (hro2.2 k (by omega)))) ?_))))))))))))
  rintro _ _ _ _ ⟨rfl, rfl, rfl⟩
  refine qb ?_
  refine jz (t := normalL ar rs ((((reachL ar rs t n).1).getD k ([], 0, (0, 0, []), 0)).1)) rfl (fun h3 => ?_) (fun h3 => ?_)
  ·have hnk : normalL ar rs (EL (reachL ar rs t n).1 k).1 = true := by exact h3
   refine qa (qd (ov) rfl (cX (ql (0) runUnderlying194 rfl qs (by decide) rfl rfl (cX (qj qU rfl (Rd.own [] rfl rfl) (cX (qo (s := 1) [a1] [sN] [(0, [a1])] qv qs jD rfl (by decide) rfl (.cons (cells_one (qz ha1)) CellsAre.nil) rfl ?_)))))))
   intro v2 hv2
   refine cX (jG (m := 1) (bytes := 24) (cs := ocs) [_, _] _ [a1] qv typeInfo22 rfl rfl rfl rfl rfl rfl rfl (SlV.own [] rfl) rfl (Rd.lit [] rfl) (qn (qG (qz ha1)) qO) (by (try simp only [List.length_append, List.length_nil, List.length_cons, List.length_singleton]); omega) (by (try simp only [List.length_append, List.length_nil, List.length_cons, List.length_singleton]); omega) ?_)
   intro v3 hs1 hn1 hm1
   have hc2 := RowsC.snoc hC ha1
   refine qg (v3) rfl (qb (qa (cX (qH (((k + 1 : Nat) : Int)) rfl rfl (by omega) (by omega) (qd (ii (((k + 1 : Nat) : Int))) rfl (qb ?_))))))
   exact ⟨(k + 1, v3, os ++ [(((reachL ar rs t n).1).getD k ([], 0, (0, 0, []), 0)).1], ocs ++ [a1], Us ++ [intsH 2 a1 ((reachL ar rs t n).1.getD k ([], 0, (0, 0, []), 0)).1], (m) + 1), _, FLe.refl _, rF, ⟨rfl, rfl, rfl, rfl, rfl, ⟨⟩⟩, (sD (sD (sC (sC sR)))), ⟨rfl, (hs1), (by (try dsimp only) <;> omega), (hc2), (by (try dsimp only); (try rw [List.length_append, List.length_singleton]); omega), (DeepL.snoc hD rfl ⟨_, rfl, rfl⟩), ((Fresh.keepLeaf hZ ((hxD1.leaves6).2 k _ (by omega) (hq1 0 _ rfl)))), (by (try dsimp only); rw [hos]; exact (normTo_yes (by omega) hnk).symm)⟩, (by omega)⟩
  have hnk : normalL ar rs (EL (reachL ar rs t n).1 k).1 = false := by exact h3
  refine qw (qa (cX (qH (((k + 1 : Nat) : Int)) rfl rfl (by omega) (by omega) (qd (ii (((k + 1 : Nat) : Int))) rfl (qb ?_)))))
  exact ⟨(k + 1, ov, os, ocs, Us, m), _, FLe.refl _, rF, ⟨rfl, rfl, rfl, rfl, rfl, ⟨⟩⟩, (sD (sC (sC sR))), ⟨rfl, (hov), (by (try dsimp only) <;> omega), (hC), (by (try dsimp only); (try rw [List.length_append, List.length_singleton]); omega), (hD), ((Fresh.skipLeaf hZ ((hxD1.leaves6).2 k _ (by omega) (hq1 0 _ rfl)))), (by (try dsimp only); rw [hos]; exact (normTo_no (by omega) hnk).symm)⟩, (by omega)⟩
 refine jk (qt (qt (qM (qc (qa (qd (ov) rfl (qg (ov) rfl (qb (qQ [] _ _ rfl (fun F3 le3 hz2 => ?_))))))))))
 replace hC := hC.mono le3
 have hf2 : RowsF F3 ov os := CO.fz hC (by first | rfl | omega | (rw [List.length_set]; omega) | (simp; done)) hz2.fz
 refine qu (qq (L' := L) [ov] (ov) (.tmp rfl .nil) rfl (qh (qh le1 le2) le3) rF (sD sR) ?_)
 have hkl : k = (reachL ar rs t n).1.length := by omega
 have e1 : os = normTo ar rs (reachL ar rs t n).1 (reachL ar rs t n).1.length := by rw [hos, hkl]
 have hz9 := hz2
 have hZ8 := Fresh.noMore hZ
 have e2 : normsF ar rs t n = os := by unfold normsF; rw [reachF_yes hro, e1]
 rw [e2]
 exact ⟨_, rfl, hf2, Fresh.one ((Fresh.deep hD hZ8 le2 hz9 hm le3).base le1), rfl⟩

/- spec.NormalsOf -/
set_option maxRecDepth 20000 in
theorem sNormalsOf_spec {F : FH} {L : List HP} {arv : Value} {ar : List Int} (har : IntsF F arv ar) {rsv : Value} {rs : List (List Int × List Int)} (hrs : PairsF F rsv rs) {tv : Value} {t : List Int} (ht : IntsF F tv t) {n : Int} (hla : ar.length ≤ 4000000) (hlr : rs.length ≤ 4000000) (hrb : ∀ i, i < rs.length → (rs.getD i ([], [])).1.length ≤ 4000000 ∧ (rs.getD i ([], [])).2.length ≤ 4000000) (hlt : t.length ≤ 4000000) :
    Does prog 52 [.agg #[arv, rsv], tv, ii (n)] F (L) (fun v F' L' => ∃ (a : Value), (a : Value) = v ∧ (RowsF F' a (normsF ar rs t n)) ∧ L = L') := by
 refine qI func52 rfl rfl rfl (qc (qa (cX (jc [arv, rsv] rfl rfl ?_))))
 intro b1
 refine qg (sN) rfl (qb (qc (qa (cX (qo (s := 1) [] [sN] [] qv qs jD rfl (by decide) rfl CellsAre.nil rfl ?_)))))
 intro v1 hv1
 refine qg (v1) rfl (qb (qc (qc (qa (cX (qr [arv, rsv] ja qP rfl rfl (Rd.ownN [_] rfl rfl) (qd (tv) rfl (qd (ii (n)) rfl (cX (qm (args := [.agg #[arv, rsv], tv, ii (n)]) call129 rfl (l9Right_spec (n := n) har hrs ht (hla := (by first | assumption | rfl | omega | simp)) (hlr := (by first | assumption | rfl | omega | simp)) (hrb := (by first | assumption | rfl | omega | simp)) (hlt := (by first | assumption | rfl | omega | simp))) ?_))))))))))
 rintro _ _ _ _ ⟨rfl, rfl, rfl⟩
 refine cX (jE rfl (qb ?_))
 refine jz (t := !(reachOkL ar rs n [t])) rfl (fun h1 => ?_) (fun h1 => ?_)
 ·have hro : reachOkL ar rs n [t] = false := by simpa using h1
  refine qc (qa (qd (v1) rfl (qg (v1) rfl (qb ?_))))
  have hc1 : RowsC F [] ([] : List (List Int)) := (CO.nil : RowsC F [] [])
  refine qQ [] _ _ rfl (fun F1 le1 hz1 => ?_)
  replace har := har.mono le1
  replace hrs := hrs.mono le1
  replace ht := ht.mono le1
  replace hc1 := hc1.mono le1
  have hf1 : RowsF F1 v1 (([] : List (List Int))) := CO.fz hc1 (by first | rfl | omega | (rw [List.length_set]; omega) | (simp; done)) hz1.fz
  refine qu (qk (qq (L' := L) [v1] (v1) (.tmp rfl .nil) rfl le1 rF (sD sR) ?_))
  have e2 : normsF ar rs t n = [] := by unfold normsF; rw [reachF_no hro]; rfl
  rw [e2]
  exact ⟨_, rfl, hf1, rfl⟩
 have hro : reachOkL ar rs n [t] = true := by simpa using h1
 have hr3 := reachOk_iff.1 hro
 have hsys := hr3.1.1
 have ho := hr3.1.2
 have hro2 := reachL_ok (n := n) hsys ho
 have hro3 := hro2.1
 have htl9 : (terms (reachL ar rs t n).1).length = (reachL ar rs t n).1.length := terms_len
 refine qw (qc (qa (cX (qr [arv, rsv] ja qP rfl rfl (Rd.ownN [_] rfl rfl) (qd (tv) rfl (qd (ii (n)) rfl (cX (qm (args := [.agg #[arv, rsv], tv, ii (n)]) call133 rfl (l9Find_spec (n := n) har hrs ht (hsys := (by first | assumption | rfl | omega | simp)) (ho := (by first | assumption | rfl | omega | simp)) (hn20 := (by first | assumption | rfl | omega | simp))) ?_))))))))
 rintro _ F2 _ le2 ⟨x1, x2, x3, x4, rfl, hr1, hr2, hr3, hr4, rfl⟩
 replace har := har.mono le2
 replace hrs := hrs.mono le2
 refine cX (ji [sN, sN, sN, sN, .bool (false)] zeroValue196 rfl ?_)
 intro b2
 refine cX (qL [] _ [x1, x2, x3, x4, .bool ((reachL ar rs t n).2)] sizeOf196 rfl rfl rfl (qn (qG (RowsF.isSl hr1)) (qn (qG (qz hr2)) (qn (qG (StepsF.isSl hr3)) (qn (qG (qz hr4)) (qn rfl qO))))) rfl rfl rfl (qb (qc (qc (qa (qg (ii (0)) rfl (qb (qK (jl (α := Nat × Value × RowL × List Value × Nat × FH) (fun xQ => [(3, ptr b1 0), (7, xQ.2.1), (8, ptr b2 0), (9, ii (((xQ.1 : Nat) : Int)))]) (fun xQ => slH 22 1 xQ.2.1 xQ.2.2.2.2.1 xQ.2.2.2.1 :: cellsH b2 [x1, x2, x3, x4, .bool ((reachL ar rs t n).2)] 196 :: cellsH b1 [arv, rsv] 39 :: L) (fun xQ F' => xQ.2.2.2.2.2 = F' ∧ F2 ≤ xQ.2.2.2.2.2 ∧ (IsSl xQ.2.1) ∧ (xQ.1 ≤ (terms (reachL ar rs t n).1).length) ∧ (RowsC xQ.2.2.2.2.2 xQ.2.2.2.1 xQ.2.2.1) ∧ (xQ.2.2.2.2.1 = xQ.2.2.1.length) ∧ (xQ.2.2.1 = normTo ar rs (reachL ar rs t n).1 xQ.1)) (fun xQ => (terms (reachL ar rs t n).1).length - xQ.1) (0, v1, [], [], 0, F2) ⟨rfl, rfl, rfl, rfl, ⟨⟩⟩ (qR (qZ (A := [_, _])) (qR (qZ (A := [_])) (qR (qZ (A := [_, _])) (sC (sC (sC sR)))))) ⟨rfl, FLe.refl _, ((qN hv1)), (by (try dsimp only) <;> omega), (CO.nil), (rfl), (by (try dsimp only); simp [normTo])⟩ ?_)))))))))
 rintro ⟨k, ov, os, ocs, m, G1⟩ rE _ _ ⟨rfl, leG, hov, hk, hC, hm, hos⟩
 show X _ _ _ _ (envs [(3, ptr b1 0), (7, ov), (8, ptr b2 0), (9, ii ((k : Int)))] rE) _ (slH 22 1 ov m ocs :: cellsH b2 [x1, x2, x3, x4, .bool ((reachL ar rs t n).2)] 196 :: cellsH b1 [arv, rsv] 39 :: L)
 replace leG : F2 ≤ G1 := leG
 dsimp only at hov hk hC hm hos
 have hol : os.length ≤ k := by rw [hos]; exact normTo_len k
 have hgt : (terms (reachL ar rs t n).1).getD k [] = (EL (reachL ar rs t n).1 k).1 := terms_get k
 have hgl : k < (terms (reachL ar rs t n).1).length → 1 ≤ ((terms (reachL ar rs t n).1).getD k []).length ∧ ((terms (reachL ar rs t n).1).getD k []).length ≤ 60 := fun h => by rw [hgt]; exact termOk_len (hro2.2 k (by omega))
 have leG1 := leG
 replace har := har.mono leG1
 replace hrs := hrs.mono leG1
 replace hr1 := hr1.mono leG1
 refine qc (qc (qa (qd (ii ((k : Int))) rfl (cX (ql (0) jx rfl jb (by decide) rfl rfl (cX (qj jC rfl (Rd.own [_] rfl rfl) (cX (qE qv rfl hr1.slv (cX (qW rfl rfl (qb ?_))))))))))))
 refine qA (p := (k : Int) < (((terms (reachL ar rs t n).1).length : Nat) : Int)) rfl (fun h2 => ?_) (fun h2 => ?_)
 ·refine qw (qc (qK (qc ?_)))
  obtain ⟨a1, ha1, hr5⟩ := hr1.rd (i := k) (by omega)
  refine jY [slH 22 1 ov m ocs, cellsH b2 [x1, x2, x3, x4, .bool ((reachL ar rs t n).2)] 196, cellsH b1 [arv, rsv] 39] L 6 [] [[], [], [1], [], [2, 3], [4]] (phiL [qe (.agg #[arv, rsv]), qe (ptr b2 0), qe x1, qe (ii ((k : Int)) : Value), qe (.pointer (some (elemA x1 (k)))), qe a1]) (ownL []) mixed rfl rfl (by kernel_rfl) ?_ ?_
  ·refine pD (fun W R z9 => ?_) ?_
   ·refine qi (qr [arv, rsv] ja qP rfl rfl (Rd.ownN [_, _] rfl rfl) ?_)
    exact ⟨rfl, rfl, rfl⟩
   refine pD (fun W R z9 => ?_) ?_
   ·refine qi (ql (0) jx rfl jb (by decide) rfl rfl ?_)
    exact ⟨rfl, rfl, rfl⟩
   refine pD (fun W R z9 => ?_) ?_
   ·rw [eS (l := [(1, _)]) ⟨z9 1 rfl, ⟨⟩⟩]
    refine qi (qj jC rfl (Rd.own [_] rfl rfl) ?_)
    exact ⟨rfl, rfl, rfl⟩
   refine pD (fun W R z9 => ?_) ?_
   ·refine qi (qp (ii ((k : Int))) rfl ?_)
    exact ⟨rfl, rfl, rfl⟩
   refine pD (fun W R z9 => ?_) ?_
   ·rw [eS (l := [(2, _), (3, _)]) ⟨z9 2 rfl, z9 3 rfl, ⟨⟩⟩]
    refine qi (qD k qv qs rfl rfl rfl hr1.slv (by omega) (Nat.mul_one _) ?_)
    exact ⟨rfl, rfl, rfl⟩
   refine pD (fun W R z9 => ?_) ?_
   ·rw [eS (l := [(4, _)]) ⟨z9 4 rfl, ⟨⟩⟩]
    refine qi (qj qU rfl (hr5 _) ?_)
    exact ⟨rfl, rfl, rfl⟩
   exact stepsP.nil
  intro W hphi
  rw [eS (l := [(0, _), (5, _)]) ⟨(hphi 0 (by decide)), (hphi 5 (by decide)), ⟨⟩⟩]
  show XL _ _ _ _ _ _ _ (slH 22 1 ov m ocs :: cellsH b2 [x1, x2, x3, x4, .bool ((reachL ar rs t n).2)] 196 :: cellsH b1 [arv, rsv] 39 :: L)
  refine cX (qm (args := [.agg #[arv, rsv], a1]) call134 rfl (sNormalIn_spec har hrs ha1 (hla := (by first | assumption | rfl | omega | simp)) (hlr := (by first | assumption | rfl | omega | simp)) (hrb := (by first | assumption | rfl | omega | simp)) (hlt := (by have := hgl (by omega); omega))) ?_)
  rintro _ _ _ _ ⟨rfl, rfl, rfl⟩
  refine qb ?_
  refine jz (t := (rightB ar rs (((terms (reachL ar rs t n).1).getD k [])) && normalL ar rs (((terms (reachL ar rs t n).1).getD k [])))) rfl (fun h3 => ?_) (fun h3 => ?_)
  ·have hnk : normalL ar rs (EL (reachL ar rs t n).1 k).1 = true := by
    have h7 : rightB ar rs ((terms (reachL ar rs t n).1).getD k []) = true := by rw [hgt]; unfold rightB; rw [hsys]; exact hro2.2 k (by omega)
    have h8 := h3
    rw [h7, hgt] at h8
    simpa using h8
   refine qa (qd (ov) rfl (cX (ql (0) jx rfl jb (by decide) rfl rfl (cX (qj jC rfl (Rd.own [_] rfl rfl) (qd (ii ((k : Int))) rfl (cX (qD k qv qs rfl rfl rfl hr1.slv (by omega) (Nat.mul_one _) (cX (qj qU rfl (hr5 _) (cX (jZ <| qm (args := [a1]) call105 rfl (l1Copy_spec ha1 (hlt := (by have := hgl (by omega); omega))) ?_))))))))))))
   rintro v2 _ _ _ ⟨rfl, hs1, rfl⟩
   refine ⟨_, _, rfl, fun F3 le3 hz2 => ?_⟩
   replace hC := hC.mono le3
   have hf2 : IntsF F3 v2 (((((terms (reachL ar rs t n).1).getD k [])))) := intsH.fz (xs := ((((terms (reachL ar rs t n).1).getD k [])))) hz2.fz
   refine cX (qo (s := 1) [v2] [sN] [(0, [v2])] qv qs jD rfl (by decide) rfl (.cons (cells_one (qz hf2)) CellsAre.nil) rfl ?_)
   intro v3 hv2
   refine cX (jG (m := 1) (bytes := 24) (cs := ocs) [_] _ [v2] qv typeInfo22 rfl rfl rfl rfl rfl rfl rfl (SlV.own [] rfl) rfl (Rd.lit [] rfl) (qn (qG (qz hf2)) qO) (by (try simp only [List.length_append, List.length_nil, List.length_cons, List.length_singleton]); omega) (by (try simp only [List.length_append, List.length_nil, List.length_cons, List.length_singleton]); omega) ?_)
   intro v4 hs2 hn1 hm1
   have hc2 := RowsC.snoc hC hf2
   refine qg (v4) rfl (qb (qa (qd (ii ((k : Int))) rfl (cX (qH (((k + 1 : Nat) : Int)) rfl rfl (by omega) (by omega) (qg (ii (((k + 1 : Nat) : Int))) rfl (qb ?_)))))))
   exact ⟨(k + 1, v4, os ++ [((((terms (reachL ar rs t n).1).getD k [])))], ocs ++ [v2], (m) + 1, F3), _, (qh leG1 le3), rF, ⟨rfl, rfl, rfl, rfl, ⟨⟩⟩, (sD (sC (sC (sC sR)))), ⟨rfl, (qh leG1 le3), (hs2), (by (try dsimp only) <;> omega), (hc2), (by (try dsimp only); (try rw [List.length_append, List.length_singleton]); omega), (by (try dsimp only); rw [hos, hgt]; exact (normTo_yes (by omega) hnk).symm)⟩, (by omega)⟩
  have hnk : normalL ar rs (EL (reachL ar rs t n).1 k).1 = false := by
   have h7 : rightB ar rs ((terms (reachL ar rs t n).1).getD k []) = true := by rw [hgt]; unfold rightB; rw [hsys]; exact hro2.2 k (by omega)
   have h8 := h3
   rw [h7, hgt] at h8
   simpa using h8
  refine qw (qa (qd (ii ((k : Int))) rfl (cX (qH (((k + 1 : Nat) : Int)) rfl rfl (by omega) (by omega) (qg (ii (((k + 1 : Nat) : Int))) rfl (qb ?_))))))
  exact ⟨(k + 1, ov, os, ocs, m, G1), _, leG1, rF, ⟨rfl, rfl, rfl, rfl, ⟨⟩⟩, (sC (sC (sC sR))), ⟨rfl, leG1, (hov), (by (try dsimp only) <;> omega), (hC), (by (try dsimp only); (try rw [List.length_append, List.length_singleton]); omega), (by (try dsimp only); rw [hos]; exact (normTo_no (by omega) hnk).symm)⟩, (by omega)⟩
 refine jk (qt (qt (qM (qc (qa (qd (ov) rfl (qg (ov) rfl (qb (qQ [] _ _ rfl (fun F4 le4 hz3 => ?_))))))))))
 replace hC := hC.mono le4
 have hf3 : RowsF F4 ov os := CO.fz hC (by first | rfl | omega | (rw [List.length_set]; omega) | (simp; done)) hz3.fz
 refine qu (qq (L' := L) [ov] (ov) (.tmp rfl .nil) rfl (qh (qh le2 leG1) le4) rF (sD (sD sR)) ?_)
 have e2 : normsF ar rs t n = os := by unfold normsF; rw [reachF_yes hro, hos, show k = (reachL ar rs t n).1.length from by omega]
 rw [e2]
 exact ⟨_, rfl, hf3, rfl⟩

/- spec.DrawLongestOf -/
theorem DrawLongestOf_spec {F : FH} {L : List HP} {bsv : Value} {bs : List Int} (hbs : BytesF F bsv bs) (hbl : bs.length ≤ 4000000) :
    Does prog 47 [bsv] F (L) (fun v F' L' => ∃ (a : Value), ∃ (b : Value), ∃ (c : Value), ∃ (ar : List Int), ∃ (rs : List (List Int × List Int)), ∃ (t : List Int), ∃ (n : Int), (.tuple #[.agg #[a, b], c, ii (n)] : Value) = v ∧ (IntsF F' a ar) ∧ (PairsF F' b rs) ∧ (IntsF F' c t) ∧ (smallS ar rs) ∧ (t.length ≤ 2000) ∧ L = L') := by
 refine qI func47 rfl rfl rfl (qc (qa (cX (ji [sN, sN] jK rfl ?_))))
 intro b1
 refine qg (sN) rfl (qg (ii (0)) rfl (qb (qc (qa (qd (bsv) rfl (cX (qm (args := [bsv]) call92 rfl (l1New_spec hbs (by omega)) ?_)))))))
 rintro _ _ _ _ ⟨cb1, rfl, rfl, rfl⟩
 show XL _ _ _ _ _ _ _ (curH .i64 247 cb1 bsv bs.length :: cellsH b1 [sN, sN] 39 :: L)
 refine qg (ptr cb1 0) rfl (qb (qc (qa (qd (ptr cb1 0) rfl (cX (qm (args := [ptr cb1 0]) call125 rfl (jf [] (l7Draw_spec hbs (by omega))) ?_))))))
 rintro _ F1 _ le1 ⟨⟨x1, x2, x3, x4, x5, x6, rfl, hr1, hr2, hr3, hr4, hr5⟩, rfl⟩
 replace hbs := hbs.mono le1
 show XL _ _ _ _ _ _ _ (curH .i64 247 cb1 bsv bs.length :: cellsH b1 [sN, sN] 39 :: L)
 refine qd (.tuple #[.agg #[x1, x2], x3]) rfl (cX (je (.agg #[x1, x2]) rfl rfl (cX (je (x3) rfl rfl (cX (ji [sN, sN] jK rfl ?_))))))
 intro b2
 refine cX (qL [] _ [x1, x2] qP rfl rfl rfl (qn (qG (qz hr1)) (qn (qG (PairsF.isSl hr2)) qO)) rfl rfl rfl (qg (x3) rfl (qb (qc (X.weaken (qZ (A := [_, _])) ?_)))))
 show X _ _ _ _ _ _ (cellsH b1 [sN, sN] 39 :: cellsH b2 [x1, x2] 39 :: curH .i64 247 cb1 bsv bs.length :: L)
 refine X.drawH [cellsH b2 [x1, x2] 39, curH .i64 247 cb1 bsv bs.length] L 5 [] [[], [], [], [2], [0]] [] (phiG [pe (.agg #[x1, x2]), pe x3, pe (ptr cb1 0), fun FF us v => (ii (((intAt v))) : Value) = v, fun FF us v => True]) (ownL [o0, o0, o0, o0, fun us v => [cellsH b1 [x1, x2] 39]]) (fun i => ([[], [], [], [], [cellsH b1 [sN, sN] 39]] : List (List HP)).getD i []) mixed rfl rfl (by kernel_rfl) (by kernel_rfl) (MonoG.get (m1 (m1 (m1 (mC (fun le h => h) (mC (fun le h => h) MonoG.nil)))))) ?_ ?_
 ·refine tD (fun W Fs R lF z9 => ?_) ?_
  ·replace hbs := hbs.mono lF
   replace hr1 := hr1.mono lF
   replace hr2 := hr2.mono lF
   replace hr3 := hr3.mono lF
   refine qi (qr [x1, x2] ja qP rfl rfl (Rd.ownN [] rfl rfl) ?_)
   exact ⟨rfl, rfl⟩
  refine tD (fun W Fs R lF z9 => ?_) ?_
  ·refine qi (qp (x3) rfl ?_)
   exact ⟨rfl, rfl⟩
  refine tD (fun W Fs R lF z9 => ?_) ?_
  ·refine qi (qp (ptr cb1 0) rfl ?_)
   exact ⟨rfl, rfl⟩
  refine tD (fun W Fs R lF z9 => ?_) ?_
  ·replace hbs := hbs.mono lF
   replace hr1 := hr1.mono lF
   replace hr2 := hr2.mono lF
   replace hr3 := hr3.mono lF
   rw [eS (l := [(2, _)]) ⟨z9 2 rfl, ⟨⟩⟩]
   refine qi (qm (args := [ptr cb1 0]) call126 rfl (jf [_] (l9DrawSteps_spec hbs (by omega))) ?_)
   rintro _ _ _ _ ⟨⟨rfl, x8, rfl⟩, rfl⟩
   exact ⟨rfl, rfl⟩
  refine tD (fun W Fs R lF z9 => ?_) ?_
  ·replace hbs := hbs.mono lF
   replace hr1 := hr1.mono lF
   replace hr2 := hr2.mono lF
   replace hr3 := hr3.mono lF
   rw [eS (l := [(0, _)]) ⟨z9 0 rfl, ⟨⟩⟩]
   show XG _ _ _ _ _ (cellsH b1 [sN, sN] 39 :: ([cellsH b2 [x1, x2] 39, curH .i64 247 cb1 bsv bs.length] ++ R)) _
   refine qi (qL [] _ [x1, x2] qP rfl rfl rfl (qn (qG (qz hr1)) (qn (qG (PairsF.isSl hr2)) qO)) rfl rfl rfl ?_)
   exact ⟨trivial, rfl⟩
  exact stepsT.nil
 intro W F4 le4 hphi
 have e3 : (ii (((intAt (W 3)))) : Value) = (W 3) := hphi 3 (by decide)
 generalize hu1 : (intAt (W 3)) = u1 at e3
 rw [eS (l := [(1, _), (3, (ii ((u1))))]) ⟨(hphi 1 (by decide)), (e3).symm, ⟨⟩⟩]
 replace hr1 := hr1.mono le4
 replace hr2 := hr2.mono le4
 replace hr3 := hr3.mono le4
 show XL _ _ _ _ _ _ _ (cellsH b1 [x1, x2] 39 :: cellsH b2 [x1, x2] 39 :: curH .i64 247 cb1 bsv bs.length :: L)
 refine qg (x3) rfl (qg (ii ((u1))) rfl (qb (qu (qq (L' := L) [.agg #[x1, x2], x3, ii ((u1))] (.tuple #[.agg #[x1, x2], x3, ii ((u1))]) (.cell rfl (ju [x1, x2] ja qP rfl (Rd.ownN [] rfl rfl)) (.tmp rfl (.tmp rfl .nil))) rfl (qh le1 le4) rF (sD (sD (sD sR))) ?_))))
 exact ⟨_, _, _, _, _, _, _, rfl, hr1, hr2, hr3, hr4, hr5, rfl⟩

/- laws.FnLongest -/
set_option maxRecDepth 20000 in
theorem FnLongest_does {F : FH} {L : List HP} {bsv : Value} {bs : List Int} (hbs : BytesF F bsv bs) (hlb : bs.length ≤ 9223372036854775807) :
    Does prog 7 [bsv] F (L) (fun v F' L' => (.bool (true) : Value) = v ∧ F = F' ∧ L = L') := by
 refine qI func7 rfl rfl rfl (qc (qa (qg (.bool (false)) rfl (qb (qc (qc (qa (qd (bsv) rfl (cX (qm (args := [bsv]) call26 rfl (big_spec hbs) ?_))))))))))
 rintro _ _ _ _ ⟨rfl, rfl, rfl⟩
 refine qb ?_
 refine qA (p := (bs.length : Int) > 4096) rfl (fun h1 => ?_) (fun h1 => ?_)
 ·refine qc (qa (qg (.bool (true)) rfl (qb (qu (qk (qq (L' := L) [.bool (true)] (.bool (true)) (.tmp rfl .nil) rfl rF rF sR ?_))))))
  exact ⟨rfl, rfl, rfl⟩
 have hbl2 : bs.length ≤ 4000000 := by omega
 refine qw (qc (qa (qd (bsv) rfl (cX (qm (args := [bsv]) call47 rfl (DrawLongestOf_spec hbs (hbl := (by first | assumption | rfl | omega | simp))) ?_)))))
 rintro _ F1 _ le1 ⟨x1, x2, x3, x4, x5, x6, x7, rfl, hr1, hr2, hr3, hr4, hr5, rfl⟩
 have hla := hr4.la
 have hlr := hr4.lr
 have hrb := hr4.each
 have hlt9 : x6.length ≤ 4000000 := by omega
 have hnl := normsF_len (ar := x4) (rs := x5) (t := x6) (n := x7)
 have hlg := longestF_ge (ar := x4) (rs := x5) (t := x6) (n := x7)
 have hl6 := longestF_60 (ar := x4) (rs := x5) (t := x6) (n := x7)
 have hfn := finF_ne (ar := x4) (rs := x5) (t := x6) (n := x7)
 refine qd (.tuple #[.agg #[x1, x2], x3, ii (x7)]) rfl (cX (je (.agg #[x1, x2]) rfl rfl (cX (je (x3) rfl rfl (cX (je (ii (x7)) rfl rfl (cX (ji [sN, sN] jK rfl ?_))))))))
 intro b1
 refine cX (qL [] _ [x1, x2] qP rfl rfl rfl (qn (qG (qz hr1)) (qn (qG (PairsF.isSl hr2)) qO)) rfl rfl rfl (qg (x3) rfl (qg (ii (x7)) rfl (qb (qc (qa (cX (qr [x1, x2] ja qP rfl rfl (Rd.ownN [] rfl rfl) (qd (x3) rfl (qd (ii (x7)) rfl (cX (qm (args := [.agg #[x1, x2], x3, ii (x7)]) call48 rfl (LongestOf_spec (n := x7) hr1 hr2 hr3 (hlt9 := (by first | assumption | rfl | omega | simp))) ?_))))))))))))
 rintro _ F2 _ le2 ⟨rfl, rfl⟩
 replace hr1 := hr1.mono le2
 replace hr2 := hr2.mono le2
 replace hr3 := hr3.mono le2
 refine qg (ii (longestF x4 x5 x6 x7)) rfl (qb (qc (qc (qa (qd (ii (longestF x4 x5 x6 x7)) rfl (cX (qr [x1, x2] ja qP rfl rfl (Rd.ownN [] rfl rfl) (qd (x3) rfl (qd (ii (x7)) rfl (cX (qm (args := [.agg #[x1, x2], x3, ii (x7)]) call49 rfl (sLongestOf_spec (n := x7) hr1 hr2 hr3 (hla := (by first | assumption | rfl | omega | simp)) (hlr := (by first | assumption | rfl | omega | simp)) (hrb := (by first | assumption | rfl | omega | simp)) (hlt := (by first | assumption | rfl | omega | simp))) ?_)))))))))))
 rintro _ F3 _ le3 ⟨rfl, rfl⟩
 replace hr1 := hr1.mono le3
 replace hr2 := hr2.mono le3
 replace hr3 := hr3.mono le3
 refine cX (XOp.neq rfl rfl (qd (.bool (decide ((longestF x4 x5 x6 x7 : Int) ≠ longestF x4 x5 x6 x7))) rfl ?_))
 by_cases h2 : (longestF x4 x5 x6 x7 : Int) ≠ longestF x4 x5 x6 x7
 ·exact absurd rfl h2
 refine qy (t := 29) rfl (vF h2) (qr [x1, x2] ja qP rfl rfl (Rd.ownN [] rfl rfl) (qy (t := 29) rfl (vF h2) (qp (x3) rfl (qy (t := 29) rfl (vF h2) (qp (ii (x7)) rfl (qy (t := 29) rfl (vF h2) (qm (args := [.agg #[x1, x2], x3, ii (x7)]) call50 rfl (FiniteIn_spec (n := x7) hr1 hr2 hr3 (hlt9 := (by first | assumption | rfl | omega | simp))) ?_)))))))
 rintro _ F4 _ le4 ⟨rfl, rfl⟩
 replace hr1 := hr1.mono le4
 replace hr2 := hr2.mono le4
 replace hr3 := hr3.mono le4
 refine qy (t := 29) rfl (vF h2) (qp (ii (longestF x4 x5 x6 x7)) rfl (qy (t := 29) rfl (vF h2) (XOp.neq rfl rfl (qy (t := 29) rfl (vF h2) (XOp.neB (a := finF x4 x5 x6 x7) (b := decide ((longestF x4 x5 x6 x7 : Int) ≠ -1)) runUnderlying4 rfl rfl (cX (qY (.bool (decide ((finF x4 x5 x6 x7) ≠ (decide ((longestF x4 x5 x6 x7 : Int) ≠ -1))))) (vF h2) rfl (qb ?_))))))))
 refine qA (p := (finF x4 x5 x6 x7) ≠ (decide ((longestF x4 x5 x6 x7 : Int) ≠ -1))) rfl (fun h3 => ?_) (fun h3 => ?_)
 ·exact absurd hfn.symm h3
 refine qw (qc (qa (cX (qr [x1, x2] ja qP rfl rfl (Rd.ownN [] rfl rfl) (qd (x3) rfl (qd (ii (x7)) rfl (cX (qm (args := [.agg #[x1, x2], x3, ii (x7)]) call51 rfl (NormalsOf_spec (n := x7) hr1 hr2 hr3 (hlt9 := (by first | assumption | rfl | omega | simp))) ?_))))))))
 rintro _ F5 _ le5 ⟨x8, rfl, hr6, hr7, rfl⟩
 replace hr1 := hr1.mono le5
 replace hr2 := hr2.mono le5
 replace hr3 := hr3.mono le5
 refine qg (x8) rfl (qb (qc (qc (qa (qd (x8) rfl (cX (qE qv rfl hr6.slv (cX (qr [x1, x2] ja qP rfl rfl (Rd.ownN [] rfl rfl) (qd (x3) rfl (qd (ii (x7)) rfl (cX (qm (args := [.agg #[x1, x2], x3, ii (x7)]) call52 rfl (sNormalsOf_spec (n := x7) hr1 hr2 hr3 (hla := (by first | assumption | rfl | omega | simp)) (hlr := (by first | assumption | rfl | omega | simp)) (hrb := (by first | assumption | rfl | omega | simp)) (hlt := (by first | assumption | rfl | omega | simp))) ?_)))))))))))))
 rintro _ F6 _ le6 ⟨x9, rfl, hr8, rfl⟩
 replace hr1 := hr1.mono le6
 replace hr2 := hr2.mono le6
 replace hr3 := hr3.mono le6
 refine cX (qE qv rfl hr8.slv (cX (XOp.neq rfl rfl (qb ?_))))
 refine qA (p := ((((normsF x4 x5 x6 x7).length : Nat) : Int) : Int) ≠ (((normsF x4 x5 x6 x7).length : Nat) : Int)) rfl (fun h4 => ?_) (fun h4 => ?_)
 ·exact absurd rfl h4
 refine qw (qc (qc (qa (qg (ii (1)) rfl (qb (qK (jl (α := Int) (fun k => [(3, ptr b1 0), (4, x3), (6, ii (longestF x4 x5 x6 x7)), (8, ii (k))]) (fun k => cellsH b1 [x1, x2] 39 :: L) (fun k F' => F6 = F' ∧ (1 ≤ k ∧ k ≤ 4)) (fun k => (4 - k).toNat) 1 ⟨rfl, rfl, rfl, rfl, ⟨⟩⟩ (sC sR) ⟨rfl, (by (try dsimp only) <;> omega)⟩ ?_)))))))
 rintro k rE _ _ ⟨rfl, hk⟩
 show X _ _ _ _ (envs [(3, ptr b1 0), (4, x3), (6, ii (longestF x4 x5 x6 x7)), (8, ii (k))] rE) _ (cellsH b1 [x1, x2] 39 :: L)
 refine qc (qc (qa (qd (ii (k)) rfl (cX (qW rfl rfl (qd (.bool (decide ((k : Int) < 4))) rfl ?_))))))
 by_cases h5 : (k : Int) < 4
 ·refine qy (t := 52) rfl (vT h5) (qp (ii (longestF x4 x5 x6 x7)) rfl (qy (t := 52) rfl (vT h5) (jQ rfl rfl (cX (jj (.bool (decide ((longestF x4 x5 x6 x7 : Int) ≥ 0))) (vT h5) rfl (qb ?_))))))
  refine qA (p := (longestF x4 x5 x6 x7 : Int) ≥ 0) rfl (fun h6 => ?_) (fun h6 => ?_)
  ·refine qw (qc (qK (qc (qa (cX (qr [x1, x2] ja qP rfl rfl (Rd.ownN [] rfl rfl) (qd (x3) rfl (qd (ii (k)) rfl (qd (ii (longestF x4 x5 x6 x7)) rfl (cX (qm (args := [.agg #[x1, x2], x3, ii (k), ii (longestF x4 x5 x6 x7)]) call53 rfl (WalkBy_spec (st := k) (n := longestF x4 x5 x6 x7) hr1 hr2 hr3) ?_)))))))))))
   rintro _ F7 _ le7 ⟨x10, x11, rfl, hr9, hr10, hr11, rfl⟩
   refine qd (.tuple #[.agg #[x10, x11], .bool ((walkB x4 x5 x6 k (longestF x4 x5 x6 x7)).2.2)]) rfl (cX (je (.agg #[x10, x11]) rfl rfl (cX (je (.bool ((walkB x4 x5 x6 k (longestF x4 x5 x6 x7)).2.2)) rfl rfl (cX (ji [sN, sN] zeroValue45 rfl ?_))))))
   intro b2
   refine cX (qL [] _ [x10, x11] yc rfl rfl rfl (qn (qG (qz hr9)) (qn (qG (StepsF.isSl hr10)) qO)) rfl rfl rfl (qg (.bool ((walkB x4 x5 x6 k (longestF x4 x5 x6 x7)).2.2)) rfl (qb (qc (qa (qd (.bool ((walkB x4 x5 x6 k (longestF x4 x5 x6 x7)).2.2)) rfl (cX (jE rfl (qd (.bool (!((walkB x4 x5 x6 k (longestF x4 x5 x6 x7)).2.2))) rfl ?_)))))))))
   by_cases h7 : (!((walkB x4 x5 x6 k (longestF x4 x5 x6 x7)).2.2)) = true
   ·exact absurd (walk_longest (ar := x4) (rs := x5) (t := x6) (n := x7) (st := k) (by omega) (by omega)).1 (by simpa using h7)
   rw [Bool.not_eq_true] at h7
   refine qy (t := 68) rfl (vB h7) (ql (1) runUnderlying45 rfl sizeOf43 (by decide) rfl rfl (qy (t := 68) rfl (vB h7) (qj isAgg43 rfl (Rd.own [] rfl rfl) (qy (t := 68) rfl (vB h7) (qE jp rfl hr10.slv (qy (t := 68) rfl (vB h7) (qp (ii (longestF x4 x5 x6 x7)) rfl (qy (t := 68) rfl (vB h7) (jI rfl rfl (cX (qY (.bool (decide ((((((walkB x4 x5 x6 k (longestF x4 x5 x6 x7)).2.1).length : Nat) : Int) : Int) > longestF x4 x5 x6 x7))) (vB h7) rfl (qb ?_))))))))))))
   refine qA (p := (((((walkB x4 x5 x6 k (longestF x4 x5 x6 x7)).2.1).length : Nat) : Int) : Int) > longestF x4 x5 x6 x7) rfl (fun h8 => ?_) (fun h8 => ?_)
   ·exact absurd (walk_longest (ar := x4) (rs := x5) (t := x6) (n := x7) (st := k) (by omega) (by omega)).2 (by omega)
   refine qw (qa (qd (ii (k)) rfl (cX (qH (k + 1) rfl rfl (by omega) (by omega) (qg (ii (k + 1)) rfl (qb ?_))))))
   exact ⟨k + 1, _, FLe.refl _, le7, ⟨rfl, rfl, rfl, rfl, ⟨⟩⟩, (sD (sC sR)), ⟨rfl, (by (try dsimp only) <;> omega)⟩, (by omega)⟩
  refine jk (qt (qt (qM (qc (qa (qg (.bool (true)) rfl (qb (qu (qq (L' := L) [.bool (true)] (.bool (true)) (.tmp rfl .nil) rfl rF (qh (qh (qh (qh (qh le1 le2) le3) le4) le5) le6) (sD sR) ?_)))))))))
  exact ⟨rfl, rfl, rfl⟩
 refine qx (t := 52) rfl (vF h5) (qx (t := 52) rfl (vF h5) (cX (qY (.bool (false)) (vF h5) rfl (qb (X.condF rfl (jk (qt (qt (qM (qc (qa (qg (.bool (true)) rfl (qb (qu (qq (L' := L) [.bool (true)] (.bool (true)) (.tmp rfl .nil) rfl rF (qh (qh (qh (qh (qh le1 le2) le3) le4) le5) le6) (sD sR) ?_)))))))))))))))
 exact ⟨rfl, rfl, rfl⟩
end Go.Proofs.YtjpfankibmeaaaaGreat
