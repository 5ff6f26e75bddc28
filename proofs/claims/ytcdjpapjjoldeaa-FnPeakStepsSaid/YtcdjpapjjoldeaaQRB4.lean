/-
  Walks, one after the other (part 5).
-/
import Derived.Test.YtcdjpapjjoldeaaQRL2
import Derived.Test.YtcdjpapjjoldeaaQRB3
set_option linter.unusedSimpArgs false
set_option linter.unusedVariables false
namespace Go.Proofs.Ytcdjpapjjoldeaa
open Go X M Try

/- slices.EqualFunc[[][]int64,[][]int64,[]int64,[]int64] -/
theorem EqualFuncR_spec {F : FH} {L : List HP} {usv : Value} {us : List (List Int)} (hus : RowsF F usv us) {vsv : Value} {vs : List (List Int)} (hvs : RowsF F vsv vs)  (hlu : us.length ≤ 9223372036854775807) (hub : ∀ i, i < us.length → (us.getD i []).length ≤ 9223372036854775807) :
    Does prog 187 [usv, vsv, .func (.func 67) #[] #[]] F (L) (fun v F' L' => (.bool (decide (us = vs)) : Value) = v ∧ F = F' ∧ L = L') := by
 refine ym func187 rfl rfl rfl (qX (qH (jc (.bool (false)) rfl (qI (qX (qX (qH (jb (usv) rfl (cX (jZ jX rfl hus.slv (jb (vsv) rfl (cX (jZ jX rfl hvs.slv (cX (XOp.neq rfl rfl (qI ?_))))))))))))))))
 refine jV (p := ((us.length : Int) : Int) ≠ (vs.length : Int)) rfl (fun h1 => ?_) (fun h1 => ?_)
 ·refine qX (qH (jc (.bool (false)) rfl (qI (jW (jw (jR (L' := L) [.bool (false)] (.bool (false)) (.tmp rfl .nil) rfl rF rF sR ?_))))))
  exact ⟨(vB (decide_eq_false (fun e => by subst e; simp at *))), rfl, rfl⟩
 refine jU (qX (qX (qH (jb (usv) rfl (cX (jZ jX rfl hus.slv (jb (ii (0)) rfl (qI (yf (yI (α := Nat) (fun k => [(1, vsv), (2, .func (.func 67) #[] #[]), (15, usv), (16, ii ((us.length : Int))), (17, ii ((k : Int)))]) (fun k => L) (fun k F' => F = F' ∧ (k ≤ us.length) ∧ (∀ i, i < k → us.getD i [] = vs.getD i [])) (fun k => us.length - k) 0 ⟨rfl, rfl, rfl, rfl, rfl, ⟨⟩⟩ sR ⟨rfl, (by (try dsimp only) <;> omega), (fun i hi => absurd hi (by omega))⟩ ?_))))))))))
 rintro k rE _ _ ⟨rfl, hk, hall⟩
 show X _ _ _ _ (envs [(1, vsv), (2, .func (.func 67) #[] #[]), (15, usv), (16, ii ((us.length : Int))), (17, ii ((k : Int)))] rE) _ (L)
 have hubk := hub k
 refine qX (qH (cX (yo rfl rfl (qI (qX ?_)))))
 refine jV (p := (k : Int) < (us.length : Int)) rfl (fun h2 => ?_) (fun h2 => ?_)
 ·refine jU (qX (yf (qX (qH (jb (ii ((k : Int))) rfl (cX (jq k jX jF rfl rfl rfl hus.slv (by omega) (Nat.mul_one _) ?_)))))))
  obtain ⟨a1, ha1, hr1⟩ := hus.rd (i := k) (by omega)
  refine cX (jj yt rfl (hr1 _) (jc (ii ((k : Int))) rfl (jc (a1) rfl (qI (qX (qH (jb (vsv) rfl (jb (ii ((k : Int))) rfl (cX (jq k jX jF rfl rfl rfl hvs.slv (by omega) (Nat.mul_one _) ?_))))))))))
  obtain ⟨a2, ha2, hr2⟩ := hvs.rd (i := k) (by omega)
  refine cX (jj yt rfl (hr2 _) (jc (a2) rfl (qI (qX (qH (jb (.func (.func 67) #[] #[]) rfl (jb (a1) rfl (jb (a2) rfl (cX (XOp.callV (first := []) (captured := []) (args := [a1, a2]) call67 rfl rfl (Equal_spec ha1 ha2 (hbd := (by first | assumption | rfl | omega | (left; simp; done) | (right; simp; done)))) ?_))))))))))
  rintro _ _ _ _ ⟨rfl, rfl, rfl⟩
  refine cX (Qw rfl (qI ?_))
  refine jV (p := ¬(((us.getD k [])) = ((vs.getD k [])))) rfl (fun h3 => ?_) (fun h3 => ?_)
  ·refine qX (qH (jc (.bool (false)) rfl (qI (jW (ya (jw (jw (ya (jw (jR (L' := L) [.bool (false)] (.bool (false)) (.tmp rfl .nil) rfl rF rF sR ?_))))))))))
   exact ⟨(vB (decide_eq_false (fun e => by subst e; simp at *))), rfl, rfl⟩
  refine jU (qH (cX (yj (((k + 1 : Nat) : Int)) rfl rfl (by omega) (by omega) (jb (ii (((k + 1 : Nat) : Int))) rfl (qI ?_)))))
  exact ⟨k + 1, _, FLe.refl _, rF, ⟨rfl, rfl, rfl, rfl, rfl, ⟨⟩⟩, sR, ⟨rfl, (by (try dsimp only) <;> omega), (fun i hi => (Nat.lt_or_ge i k).elim (fun h => hall i h) (fun h => by obtain rfl : i = k := (by omega); first | assumption | exact Classical.not_not.1 (by assumption)))⟩, (by omega)⟩
 refine yB (jO (jO (yk (qX (qH (jc (.bool (true)) rfl (qI (jW (jR (L' := L) [.bool (true)] (.bool (true)) (.tmp rfl .nil) rfl rF rF sR ?_)))))))))
 exact ⟨(vB (decide_eq_true (ext_any ([] : List Int) (by omega) (fun i hi => hall i (by omega))))), rfl, rfl⟩

/- impl.sameTerms -/
theorem sameTerms_spec {F : FH} {L : List HP} {usv : Value} {us : List (List Int)} (hus : RowsF F usv us) {vsv : Value} {vs : List (List Int)} (hvs : RowsF F vsv vs) (hlu : us.length ≤ 9223372036854775807) (hub : ∀ i, i < us.length → (us.getD i []).length ≤ 9223372036854775807) :
    Does prog 122 [usv, vsv] F (L) (fun v F' L' => (.bool (decide (us = vs)) : Value) = v ∧ F = F' ∧ L = L') := by
 refine ym func122 rfl rfl rfl (qX (qH (jc (.bool (false)) rfl (qI (qX (qH (jb (usv) rfl (jb (vsv) rfl (cX (jL (args := [usv, vsv, .func (.func 67) #[] #[]]) call187 rfl (EqualFuncR_spec hus hvs (hlu := (by first | assumption | rfl | omega | simp)) (hub := (by first | assumption | rfl | omega | simp))) ?_))))))))))
 rintro _ _ _ _ ⟨rfl, rfl, rfl⟩
 refine jc (.bool (decide (us = vs))) rfl (qI (jW (jR (L' := L) [.bool (decide (us = vs))] (.bool (decide (us = vs))) (.tmp rfl .nil) rfl rF rF sR ?_)))
 exact ⟨rfl, rfl, rfl⟩

/- impl.SamePeak -/
theorem SamePeak_spec {F : FH} {L : List HP} {tpv : Value} {tp : List Int} (htp : IntsF F tpv tp) {lfv : Value} {lf : List Int} (hlf : IntsF F lfv lf) {rtv : Value} {rt : List Int} (hrt : IntsF F rtv rt) {i1 : Int} {i2 : Int} {i3 : Int} {tqv : Value} {tq : List Int} (htq : IntsF F tqv tq) {lgv : Value} {lg : List Int} (hlg : IntsF F lgv lg) {ruv : Value} {ru : List Int} (hru : IntsF F ruv ru) {j1 : Int} {j2 : Int} {j3 : Int} (hw1 : tp.length ≤ 9223372036854775807) (hw2 : lf.length ≤ 9223372036854775807) (hw3 : rt.length ≤ 9223372036854775807) :
    Does prog 56 [.agg #[tpv, lfv, rtv, ii (i1), ii (i2), ii (i3)], .agg #[tqv, lgv, ruv, ii (j1), ii (j2), ii (j3)]] F (L) (fun v F' L' => (.bool (decide ((tp, lf, rt, i1, i2, i3) = (tq, lg, ru, j1, j2, j3))) : Value) = v ∧ L = L') := by
 refine ym func56 rfl rfl rfl (qX (qH (cX (yD [tpv, lfv, rtv, ii (i1), ii (i2), ii (i3)] rfl rfl ?_))))
 intro b1
 refine cX (yD [tqv, lgv, ruv, ii (j1), ii (j2), ii (j3)] rfl rfl ?_)
 intro b2
 refine jc (.bool (false)) rfl (qI (qX (qH (cX (jE (0) yg rfl jF (by decide) rfl rfl (cX (jj yt rfl (Rd.own [_] rfl rfl) (cX (jE (1) yg rfl jF (by decide) rfl rfl (cX (jj yt rfl (Rd.own [_] rfl rfl) (cX (jE (2) yg rfl jF (by decide) rfl rfl (cX (jj yt rfl (Rd.own [_] rfl rfl) (cX (jQ (s := 1) [tpv, lfv, rtv] [sN] [(0, [tpv]), (1, [lfv]), (2, [rtv])] jX jF Qn rfl (by decide) rfl (.cons (cells_one (yi htp)) (.cons (cells_one (yi hlf)) (.cons (cells_one (yi hrt)) CellsAre.nil))) rfl ?_)))))))))))))))))
 intro v1 hv1
 refine cX (jE (0) yg rfl jF (by decide) rfl rfl (cX (jj yt rfl (Rd.own [_] rfl rfl) (cX (jE (1) yg rfl jF (by decide) rfl rfl (cX (jj yt rfl (Rd.own [_] rfl rfl) (cX (jE (2) yg rfl jF (by decide) rfl rfl (cX (jj yt rfl (Rd.own [_] rfl rfl) (cX (jQ (s := 1) [tqv, lgv, ruv] [sN] [(0, [tqv]), (1, [lgv]), (2, [ruv])] jX jF Qn rfl (by decide) rfl (.cons (cells_one (yi htq)) (.cons (cells_one (yi hlg)) (.cons (cells_one (yi hru)) CellsAre.nil))) rfl ?_)))))))))))))
 intro v2 hv2
 have hc1 : RowsC F [tpv, lfv, rtv] ([tp, lf, rt] : List (List Int)) := (RowsC.snoc (RowsC.snoc (RowsC.snoc (CO.nil : RowsC F [] []) htp) hlf) hrt)
 refine Qd [_] _ _ rfl (fun F1 le1 hz1 => ?_)
 replace htq := htq.mono le1
 replace hlg := hlg.mono le1
 replace hru := hru.mono le1
 replace hc1 := hc1.mono le1
 have hf1 : RowsF F1 v1 (([tp, lf, rt] : List (List Int))) := CO.fz hc1 (by first | rfl | omega | (rw [List.length_set]; omega) | (simp; done)) hz1.fz
 have hc2 : RowsC F1 [tqv, lgv, ruv] ([tq, lg, ru] : List (List Int)) := (RowsC.snoc (RowsC.snoc (RowsC.snoc (CO.nil : RowsC F1 [] []) htq) hlg) hru)
 refine Qd [] _ _ rfl (fun F2 le2 hz2 => ?_)
 replace hf1 := hf1.mono le2
 replace hc2 := hc2.mono le2
 have hf2 : RowsF F2 v2 (([tq, lg, ru] : List (List Int))) := CO.fz hc2 (by first | rfl | omega | (rw [List.length_set]; omega) | (simp; done)) hz2.fz
 refine cX (jL (args := [v1, v2]) call122 rfl (sameTerms_spec hf1 hf2 (hlu := (by simp)) (hub := (fun i hi => by match i, hi with | 0, _ => exact hw1 | 1, _ => exact hw2 | 2, _ => exact hw3))) ?_)
 rintro _ _ _ _ ⟨rfl, rfl, rfl⟩
 refine jb (.bool (decide ((([tp, lf, rt] : List (List Int))) = (([tq, lg, ru] : List (List Int)))))) rfl ?_
 by_cases h1 : (([tp, lf, rt] : List (List Int))) = (([tq, lg, ru] : List (List Int)))
 ·refine jB (t := 20) rfl (vT h1) (jE (3) yg rfl js (by decide) rfl rfl (jB (t := 20) rfl (vT h1) (jj yd rfl (Rd.own [_] rfl rfl) (jB (t := 20) rfl (vT h1) (jE (3) yg rfl js (by decide) rfl rfl (jB (t := 20) rfl (vT h1) (jj yd rfl (Rd.own [] rfl rfl) (jB (t := 20) rfl (vT h1) (yU rfl rfl (cX (yp (.bool (decide ((i1 : Int) = j1))) (vT h1) rfl (jb (.bool (decide ((i1 : Int) = j1))) rfl ?_))))))))))))
  by_cases h2 : (i1 : Int) = j1
  ·refine jB (t := 27) rfl (vT h2) (jE (4) yg rfl js (by decide) rfl rfl (jB (t := 27) rfl (vT h2) (jj yd rfl (Rd.own [_] rfl rfl) (jB (t := 27) rfl (vT h2) (jE (4) yg rfl js (by decide) rfl rfl (jB (t := 27) rfl (vT h2) (jj yd rfl (Rd.own [] rfl rfl) (jB (t := 27) rfl (vT h2) (yU rfl rfl (cX (yp (.bool (decide ((i2 : Int) = j2))) (vT h2) rfl (jb (.bool (decide ((i2 : Int) = j2))) rfl ?_))))))))))))
   by_cases h3 : (i2 : Int) = j2
   ·refine jB (t := 34) rfl (vT h3) (jE (5) yg rfl js (by decide) rfl rfl (jB (t := 34) rfl (vT h3) (jj yd rfl (Rd.own [_] rfl rfl) (jB (t := 34) rfl (vT h3) (jE (5) yg rfl js (by decide) rfl rfl (jB (t := 34) rfl (vT h3) (jj yd rfl (Rd.own [] rfl rfl) (jB (t := 34) rfl (vT h3) (yU rfl rfl (cX (yp (.bool (decide ((i3 : Int) = j3))) (vT h3) rfl (jc (.bool (decide ((i3 : Int) = j3))) rfl (qI (jW (jR (L' := L) [.bool (decide ((i3 : Int) = j3))] (.bool (decide ((i3 : Int) = j3))) (.tmp rfl .nil) rfl (jl le1 le2) rF (sD (sD sR)) ?_)))))))))))))))
    exact ⟨congrArg Value.bool (decide_eq_decide.2 (by simp_all)), rfl⟩
   refine jA (t := 34) rfl (vF h3) (jA (t := 34) rfl (vF h3) (jA (t := 34) rfl (vF h3) (jA (t := 34) rfl (vF h3) (jA (t := 34) rfl (vF h3) (cX (yl (.bool (false)) (vF h3) rfl (jc (.bool (false)) rfl (qI (jW (jR (L' := L) [.bool (false)] (.bool (false)) (.tmp rfl .nil) rfl (jl le1 le2) rF (sD (sD sR)) ?_))))))))))
   exact ⟨congrArg Value.bool (decide_eq_false (by intro e; simp only [Prod.mk.injEq] at e; obtain ⟨e1, e2, e3, e4, e5, e6⟩ := e; subst e1 e2 e3 e4 e5 e6; simp at *)), rfl⟩
  refine jA (t := 27) rfl (vF h2) (jA (t := 27) rfl (vF h2) (jA (t := 27) rfl (vF h2) (jA (t := 27) rfl (vF h2) (jA (t := 27) rfl (vF h2) (cX (yl (.bool (false)) (vF h2) rfl (jb (.bool (false)) rfl (jA (t := 34) rfl rfl (jA (t := 34) rfl rfl (jA (t := 34) rfl rfl ?_))))))))))
  refine jA (t := 34) rfl rfl (jA (t := 34) rfl rfl (cX (yl (.bool (false)) rfl rfl (jc (.bool (false)) rfl (qI (jW (jR (L' := L) [.bool (false)] (.bool (false)) (.tmp rfl .nil) rfl (jl le1 le2) rF (sD (sD sR)) ?_)))))))
  exact ⟨congrArg Value.bool (decide_eq_false (by intro e; simp only [Prod.mk.injEq] at e; obtain ⟨e1, e2, e3, e4, e5, e6⟩ := e; subst e1 e2 e3 e4 e5 e6; simp at *)), rfl⟩
 refine jA (t := 20) rfl (vF h1) (jA (t := 20) rfl (vF h1) (jA (t := 20) rfl (vF h1) (jA (t := 20) rfl (vF h1) (jA (t := 20) rfl (vF h1) (cX (yl (.bool (false)) (vF h1) rfl (jb (.bool (false)) rfl (jA (t := 27) rfl rfl (jA (t := 27) rfl rfl (jA (t := 27) rfl rfl ?_))))))))))
 refine jA (t := 27) rfl rfl (jA (t := 27) rfl rfl (cX (yl (.bool (false)) rfl rfl (jb (.bool (false)) rfl (jA (t := 34) rfl rfl (jA (t := 34) rfl rfl (jA (t := 34) rfl rfl (jA (t := 34) rfl rfl (jA (t := 34) rfl rfl (cX (yl (.bool (false)) rfl rfl ?_)))))))))))
 refine jc (.bool (false)) rfl (qI (jW (jR (L' := L) [.bool (false)] (.bool (false)) (.tmp rfl .nil) rfl (jl le1 le2) rF (sD (sD sR)) ?_)))
 exact ⟨congrArg Value.bool (decide_eq_false (by intro e; simp only [Prod.mk.injEq] at e; obtain ⟨e1, e2, e3, e4, e5, e6⟩ := e; subst e1 e2 e3 e4 e5 e6; simp at *)), rfl⟩

/- impl.overlaps -/
set_option maxRecDepth 20000 in
theorem overlaps_spec {F : FH} {L : List HP} {arv : Value} {ar : List Int} (har : IntsF F arv ar) {rsv : Value} {rs : List (List Int × List Int)} (hrs : PairsF F rsv rs) {o : Nat} {u : Nat} (hsys : sysOk ar rs = true) (ho : o < rs.length) (hu : u < rs.length) :
    Does prog 124 [.agg #[arv, rsv], ii ((o : Int)), ii ((u : Int))] F (L) (fun v F' L' => F = F' ∧ IsSl v ∧ intsH 3 v (ovL ar rs o u) :: L = L') := by
 refine ym func124 rfl rfl rfl ?_
 have hlo : 1 ≤ (rs.getD o ([], [])).1.length ∧ (rs.getD o ([], [])).1.length ≤ 60 := termOk_len (rule_L hsys ho)
 refine qX (qH (cX (yD [arv, rsv] rfl rfl ?_)))
 intro b1
 refine jc (sN) rfl (qI (qX (qH (jc (sN) rfl (qI (qX (qX (qH (cX (jE (1) yq rfl yZ (by decide) rfl rfl (cX (jj Qj rfl (Rd.own [] rfl rfl) (jb (ii ((o : Int))) rfl (cX (jq o yy yS rfl rfl rfl hrs.slv (by omega) rfl (cX (Qh (o * 2) yu rfl jF (by decide) rfl rfl ?_)))))))))))))))))
 obtain ⟨a1, a2, ha1, ha2, hr1, hr2⟩ := hrs.rd (i := o) (by omega)
 refine cX (jj yt rfl (hr1 _) (cX (jZ qU rfl ha1.slv (jb (ii (0)) rfl (qI (yf (yI (α := Nat × Value × List Int × FH) (fun xQ => [(1, ii ((o : Int))), (2, ii ((u : Int))), (3, ptr b1 0), (7, xQ.2.1), (17, a1), (18, ii (((((rs.getD o ([], [])).1).length : Nat) : Int))), (19, ii (((xQ.1 : Nat) : Int)))]) (fun xQ => intsH 3 xQ.2.1 xQ.2.2.1 :: cellsH b1 [arv, rsv] 32 :: L) (fun xQ F' => xQ.2.2.2 = F' ∧ F ≤ xQ.2.2.2 ∧ (IsSl xQ.2.1) ∧ (xQ.1 ≤ (rs.getD o ([], [])).1.length) ∧ (xQ.2.2.1 = ovTo ar rs o u xQ.1)) (fun xQ => (rs.getD o ([], [])).1.length - xQ.1) (0, sN, [], F) ⟨rfl, rfl, rfl, rfl, rfl, rfl, rfl, ⟨⟩⟩ (yn (intsH.addNil 3 none _) (sC (sC sR))) ⟨rfl, FLe.refl _, (⟨_, _, _, rfl⟩), (by (try dsimp only) <;> omega), (rfl)⟩ ?_)))))))
 rintro ⟨k, ov, os, G1⟩ rE _ _ ⟨rfl, leG, hov, hk, hos⟩
 show X _ _ _ _ (envs [(1, ii ((o : Int))), (2, ii ((u : Int))), (3, ptr b1 0), (7, ov), (17, a1), (18, ii (((((rs.getD o ([], [])).1).length : Nat) : Int))), (19, ii ((k : Int)))] rE) _ (intsH 3 ov os :: cellsH b1 [arv, rsv] 32 :: L)
 replace leG : F ≤ G1 := leG
 dsimp only at hov hk hos
 have hol : os.length ≤ k := by rw [hos]; exact ovTo_le
 have leG1 := leG
 replace har := har.mono leG1
 replace hrs := hrs.mono leG1
 replace ha1 := ha1.mono leG1
 refine qX (qH (cX (yo rfl rfl (qI (qX ?_)))))
 refine jV (p := (k : Int) < ((((rs.getD o ([], [])).1).length : Nat) : Int)) rfl (fun h1 => ?_) (fun h1 => ?_)
 ·refine jU (qX (yf (qX (qH (jb (ii ((k : Int))) rfl (cX (jq k qU js rfl rfl rfl ha1.slv (by omega) (Nat.mul_one _) (cX (jj yd rfl (ha1.rd (by omega)) (jc (ii ((k : Int))) rfl (jc (ii (((rs.getD o ([], [])).1).getD k 0)) rfl (qI (qX (qX (qH (jb (ii (((rs.getD o ([], [])).1).getD k 0)) rfl (cX (yo rfl rfl (qI ?_)))))))))))))))))))
  refine jV (p := (((rs.getD o ([], [])).1).getD k 0 : Int) < 0) rfl (fun h2 => ?_) (fun h2 => ?_)
  ·have hno9 : ¬ (0 ≤ (Lr rs o).getD k 0 ∧ meetB ar rs o k u = true) := fun h9 => absurd h9.1 (Int.not_le.2 h2)
   refine yB (jO (yk (qH (cX (yj (((k + 1 : Nat) : Int)) rfl rfl (by omega) (by omega) (jb (ii (((k + 1 : Nat) : Int))) rfl (qI ?_)))))))
   exact ⟨(k + 1, ov, os, G1), _, leG1, rF, ⟨rfl, rfl, rfl, rfl, rfl, rfl, rfl, ⟨⟩⟩, (sC (sC sR)), ⟨rfl, leG1, (hov), (by (try dsimp only) <;> omega), (by (try dsimp only); first | (rw [ov_no hno9]; exact hos) | (rw [ov_no (fun h9 => by have h8 := h9.2; simp_all)]; exact hos) | (rw [ov_yes hn0 (by assumption)]; rw [hos]))⟩, (by omega)⟩
  have hn0 : 0 ≤ (Lr rs o).getD k 0 := Int.not_lt.1 h2
  refine jU (qX (qH (cX (yc [arv, rsv] yY yP rfl rfl (Rd.ownN [_] rfl rfl) (jb (ii ((o : Int))) rfl (jb (ii ((k : Int))) rfl (jb (ii ((u : Int))) rfl (cX (jL (args := [.agg #[arv, rsv], ii (o : Int), ii (k : Int), ii (u : Int)]) call181 rfl (overlap_spec (o := o) (p := k) (u := u) har hrs (hsys := (hsys)) (ho := (ho)) (hu := (hu)) (hp := (by omega))) ?_)))))))))
  rintro _ F1 _ le1 (⟨rfl, hmt1, rfl⟩ | ⟨b2, rfl, hmt1, rfl⟩ | ⟨b2, b3, l1, rfl, hmt1, hb1, hmg1, rfl⟩)
  ·replace har := har.mono le1
   refine jb (.tuple #[(.pointer none), .bool (false)]) rfl (cX (yr ((.pointer none)) rfl rfl (cX (yr (.bool (false)) rfl rfl (jc ((.pointer none)) rfl (jc (.bool (false)) rfl (qI (qX (qH (jb (.bool (false)) rfl (qI (yV rfl (jU (qH ?_))))))))))))))
   refine cX (yj (((k + 1 : Nat) : Int)) rfl rfl (by omega) (by omega) (jb (ii (((k + 1 : Nat) : Int))) rfl (qI ?_)))
   exact ⟨(k + 1, ov, os, F1), _, (jl leG1 le1), rF, ⟨rfl, rfl, rfl, rfl, rfl, rfl, rfl, ⟨⟩⟩, (sC (sC sR)), ⟨rfl, (jl leG1 le1), (hov), (by (try dsimp only) <;> omega), (by (try dsimp only); first | (rw [ov_no hno9]; exact hos) | (rw [ov_no (fun h9 => by have h8 := h9.2; simp_all)]; exact hos) | (rw [ov_yes hn0 (by assumption)]; rw [hos]))⟩, (by omega)⟩
  ·replace har := har.mono le1
   refine jb (.tuple #[ptr b2 0, .bool (false)]) rfl (cX (yr (ptr b2 0) rfl rfl (cX (yr (.bool (false)) rfl rfl (jc (ptr b2 0) rfl (jc (.bool (false)) rfl (qI (qX (qH (jb (.bool (false)) rfl (qI (yV rfl (jU (qH ?_))))))))))))))
   refine cX (yj (((k + 1 : Nat) : Int)) rfl rfl (by omega) (by omega) (jb (ii (((k + 1 : Nat) : Int))) rfl (qI ?_)))
   exact ⟨(k + 1, ov, os, F1), _, (jl leG1 le1), rF, ⟨rfl, rfl, rfl, rfl, rfl, rfl, rfl, ⟨⟩⟩, (sC (sC sR)), ⟨rfl, (jl leG1 le1), (hov), (by (try dsimp only) <;> omega), (by (try dsimp only); first | (rw [ov_no hno9]; exact hos) | (rw [ov_no (fun h9 => by have h8 := h9.2; simp_all)]; exact hos) | (rw [ov_yes hn0 (by assumption)]; rw [hos]))⟩, (by omega)⟩
  replace har := har.mono le1
  refine jb (.tuple #[ptr b2 0, .bool (true)]) rfl (cX (yr (ptr b2 0) rfl rfl (cX (yr (.bool (true)) rfl rfl (jc (ptr b2 0) rfl (jc (.bool (true)) rfl (qI (qX (qH (jb (.bool (true)) rfl (qI (yX rfl (qH ?_)))))))))))))
  refine jb (ov) rfl (jb (ii ((k : Int))) rfl (cX (jQ (s := 1) [ii ((k : Int))] [ii (0)] [(0, [ii ((k : Int))])] Qr Qm zeroValue3 rfl (by decide) rfl (.cons rfl CellsAre.nil) rfl ?_)))
  intro v1 hv1
  refine cX (Qi (u := (k : Int)) [_, _] _ Qr typeInfo3 rfl rfl rfl rfl rfl rfl (SlV.own [] rfl) (Rd.sl [] rfl rfl) (by (try simp only [List.length_append, List.length_nil, List.length_cons, List.length_singleton, List.length_take, List.length_drop]); omega) ?_)
  intro v2 hs1 hn1
  refine jc (v2) rfl (qI (qH (cX (yj (((k + 1 : Nat) : Int)) rfl rfl (by omega) (by omega) (jb (ii (((k + 1 : Nat) : Int))) rfl (qI ?_))))))
  exact ⟨(k + 1, v2, os ++ [(k : Int)], F1), _, (jl leG1 le1), rF, ⟨rfl, rfl, rfl, rfl, rfl, rfl, rfl, ⟨⟩⟩, (sD (sD (sC (sC sR)))), ⟨rfl, (jl leG1 le1), (hs1), (by (try dsimp only) <;> omega), (by (try dsimp only); first | (rw [ov_no hno9]; exact hos) | (rw [ov_no (fun h9 => by have h8 := h9.2; simp_all)]; exact hos) | (rw [ov_yes hn0 (by assumption)]; rw [hos]))⟩, (by omega)⟩
 refine yB (jO (jO (yk (qX (qH (jb (ov) rfl (jc (ov) rfl (qI (jW (jR (L' := intsH 3 ov os :: L) [ov] (ov) (.tmp rfl .nil) rfl rF leG1 (sC (sD sR)) ?_))))))))))
 refine ⟨rfl, hov, ?_⟩
 have hxs : (ovL ar rs o u : List Int) = os := by rw [hos, show k = (rs.getD o ([], [])).1.length from by omega]; rfl
 exact congrArg (fun z => intsH 3 _ z :: L) hxs

/- impl.OverlapsIn -/
theorem OverlapsIn_spec {F : FH} {L : List HP} {arv : Value} {ar : List Int} (har : IntsF F arv ar) {rsv : Value} {rs : List (List Int × List Int)} (hrs : PairsF F rsv rs) {o : Int} {u : Int} :
    Does prog 57 [.agg #[arv, rsv], ii (o), ii (u)] F (L) (fun v F' L' => F = F' ∧ IsSl v ∧ intsH 2 v (ovS ar rs o u) :: L = L') := by
 refine ym func57 rfl rfl rfl (qX (qH (cX (yD [arv, rsv] rfl rfl ?_))))
 intro b1
 refine jc (sN) rfl (qI (qX (qX (qH (cX (yc [arv, rsv] yY yP rfl rfl (Rd.ownN [] rfl rfl) (cX (jL (args := [.agg #[arv, rsv]]) call97 rfl (SystemOk_spec har hrs) ?_))))))))
 rintro _ _ _ _ ⟨rfl, rfl, rfl⟩
 refine cX (yR rfl (jb (.bool (!(sysOk ar rs))) rfl ?_))
 by_cases h1 : (!(sysOk ar rs)) = true
 ·have hsys : sysOk ar rs = false := Bool.not_inj (y := false) h1
  refine jA (t := 10) rfl (vB h1) (jA (t := 10) rfl (vB h1) (jA (t := 10) rfl (vB h1) (jA (t := 10) rfl (vB h1) (cX (yp (.bool (true)) (vB h1) rfl (jb (.bool (true)) rfl (jA (t := 16) rfl rfl (jA (t := 16) rfl rfl (jA (t := 16) rfl rfl (jA (t := 16) rfl rfl ?_))))))))))
  refine cX (yp (.bool (true)) rfl rfl (qI (yX rfl (qX (qH (jc (sN) rfl (qI (jW (jw (jR (L' := intsH 2 (sN) ([]) :: L) [sN] (sN) (.tmp rfl .nil) rfl rF rF (yn (intsH.addNil 2 none _) (sC (sD sR))) ?_))))))))))
  refine ⟨rfl, ⟨_, _, _, rfl⟩, ?_⟩
  have hxs : (ovS ar rs o u : List Int) = [] := ovS_no (fun h9 => by first | omega | simp_all)
  exact congrArg (fun z => intsH 2 _ z :: L) hxs
 rw [Bool.not_eq_true] at h1
 have hsys : sysOk ar rs = true := Bool.not_inj (y := true) h1
 refine jB (t := 10) rfl (vB h1) (yc [arv, rsv] yY yP rfl rfl (Rd.ownN [] rfl rfl) (jB (t := 10) rfl (vB h1) (jk (ii (o)) rfl (jB (t := 10) rfl (vB h1) (jL (args := [.agg #[arv, rsv], ii (o)]) call118 rfl (ruleIn_spec (n := o) har hrs) ?_)))))
 rintro _ _ _ _ ⟨rfl, rfl, rfl⟩
 refine jB (t := 10) rfl (vB h1) (Qw rfl (cX (yl (.bool (decide (¬(0 ≤ o ∧ o < (rs.length : Int))))) (vB h1) rfl (jb (.bool (decide (¬(0 ≤ o ∧ o < (rs.length : Int))))) rfl ?_))))
 by_cases h2 : ¬(0 ≤ o ∧ o < (rs.length : Int))
 ·refine jA (t := 16) rfl (vT h2) (jA (t := 16) rfl (vT h2) (jA (t := 16) rfl (vT h2) (jA (t := 16) rfl (vT h2) (cX (yp (.bool (true)) (vT h2) rfl (qI (yX rfl (qX (qH (jc (sN) rfl (qI ?_)))))))))))
  refine jW (jw (jR (L' := intsH 2 (sN) ([]) :: L) [sN] (sN) (.tmp rfl .nil) rfl rF rF (yn (intsH.addNil 2 none _) (sC (sD sR))) ?_))
  refine ⟨rfl, ⟨_, _, _, rfl⟩, ?_⟩
  have hxs : (ovS ar rs o u : List Int) = [] := ovS_no (fun h9 => by first | omega | simp_all)
  exact congrArg (fun z => intsH 2 _ z :: L) hxs
 refine jB (t := 16) rfl (vF h2) (yc [arv, rsv] yY yP rfl rfl (Rd.ownN [] rfl rfl) (jB (t := 16) rfl (vF h2) (jk (ii (u)) rfl (jB (t := 16) rfl (vF h2) (jL (args := [.agg #[arv, rsv], ii (u)]) call118 rfl (ruleIn_spec (n := u) har hrs) ?_)))))
 rintro _ _ _ _ ⟨rfl, rfl, rfl⟩
 refine jB (t := 16) rfl (vF h2) (Qw rfl (cX (yl (.bool (decide (¬(0 ≤ u ∧ u < (rs.length : Int))))) (vF h2) rfl (qI ?_))))
 refine jV (p := ¬(0 ≤ u ∧ u < (rs.length : Int))) rfl (fun h3 => ?_) (fun h3 => ?_)
 ·refine qX (qH (jc (sN) rfl (qI (jW (jw (jR (L' := intsH 2 (sN) ([]) :: L) [sN] (sN) (.tmp rfl .nil) rfl rF rF (yn (intsH.addNil 2 none _) (sC (sD sR))) ?_))))))
  refine ⟨rfl, ⟨_, _, _, rfl⟩, ?_⟩
  have hxs : (ovS ar rs o u : List Int) = [] := ovS_no (fun h9 => by first | omega | simp_all)
  exact congrArg (fun z => intsH 2 _ z :: L) hxs
 refine jU (qX (qH (cX (yc [arv, rsv] yY yP rfl rfl (Rd.ownN [] rfl rfl) (jb (ii (o)) rfl (jb (ii (u)) rfl (cX (Qo <| jL (args := [.agg #[arv, rsv], ii (((o).toNat : Nat) : Int), ii (((u).toNat : Nat) : Int)]) call124 (by rw [show (((o).toNat : Nat) : Int) = o from by omega, show (((u).toNat : Nat) : Int) = u from by omega]; rfl) (overlaps_spec (o := (o).toNat) (u := (u).toNat) har hrs (hsys := (hsys)) (ho := (by omega)) (hu := (by omega))) ?_))))))))
 rintro v1 _ _ _ ⟨rfl, hs1, rfl⟩
 refine ⟨_, _, rfl, fun F1 le1 hz1 => ?_⟩
 have hf1 : IntsF F1 v1 ((ovL ar rs ((o).toNat) ((u).toNat))) := intsH.fz (xs := (ovL ar rs ((o).toNat) ((u).toNat))) hz1.fz
 refine cX (jL (args := [v1]) call123 rfl (wide_spec hf1 (hlx := (by have := ovL_len (u := u.toNat) hsys (o := o.toNat) (by omega); omega))) ?_)
 rintro v2 _ _ _ ⟨rfl, hs2, rfl⟩
 refine jc (v2) rfl (qI (jW (jR (L' := intsH 2 v2 ((((ovL ar rs ((o).toNat) ((u).toNat))))) :: L) [v2] (v2) (.tmp rfl .nil) rfl rF le1 (sC (sD sR)) ?_)))
 refine ⟨rfl, hs2, ?_⟩
 have hxs : (ovS ar rs o u : List Int) = (((ovL ar rs ((o).toNat) ((u).toNat)))) := ovS_yes ⟨hsys, by omega, by omega⟩
 exact congrArg (fun z => intsH 2 _ z :: L) hxs

/- laws.FnPeakSteps -/
set_option maxHeartbeats 2000000 in
set_option maxRecDepth 20000 in
theorem FnPeakSteps_does {F : FH} {L : List HP} {bsv : Value} {bs : List Int} (hbs : BytesF F bsv bs) (hlb : bs.length ≤ 9223372036854775807) :
    Does prog 10 [bsv] F (L) (fun v F' L' => (.bool (true) : Value) = v ∧ F = F' ∧ L = L') := by
 refine ym func10 rfl rfl rfl (qX (qH (jc (.bool (false)) rfl (qI (qX (qX (qH (jb (bsv) rfl (cX (jL (args := [bsv]) call11 rfl (big_spec hbs) ?_))))))))))
 rintro _ _ _ _ ⟨rfl, rfl, rfl⟩
 refine qI ?_
 refine jV (p := (bs.length : Int) > 4096) rfl (fun h1 => ?_) (fun h1 => ?_)
 ·refine qX (qH (jc (.bool (true)) rfl (qI (jW (jw (jR (L' := L) [.bool (true)] (.bool (true)) (.tmp rfl .nil) rfl rF rF sR ?_))))))
  exact ⟨rfl, rfl, rfl⟩
 have hbl2 : bs.length ≤ 4000000 := by omega
 refine jU (qX (qH (jb (bsv) rfl (cX (jL (args := [bsv, .int .u64 (951)]) call12 rfl (roll_spec hbs (by omega)) ?_)))))
 rintro _ _ _ _ ⟨cb1, rfl, rfl, rfl⟩
 show XL _ _ _ _ _ _ _ (curH .u64 88 cb1 bsv bs.length :: L)
 refine jc (ptr cb1 0) rfl (qI (qX (qH (jb (ptr cb1 0) rfl (cX (jL (args := [ptr cb1 0]) call45 rfl (Does.at [] (w9System_spec hbs (by omega))) ?_))))))
 rintro _ F1 _ le1 ⟨⟨x1, x2, x3, rfl, hr1, hr2, hr3⟩, rfl⟩
 replace hbs := hbs.mono le1
 show XL _ _ _ _ _ _ _ (curH .u64 88 cb1 bsv bs.length :: L)
 have hla := hr3.la
 have hlr := hr3.lr
 have hrb := hr3.each
 have hnl := psO_len (ar := [2, 1, 0]) (rs := x3)
 have hnb := psO_at (ar := [2, 1, 0]) (rs := x3)
 have hmy := psO_many (ar := [2, 1, 0]) (rs := x3)
 have htw := fun h i hi => psO_two (ar := [2, 1, 0]) (rs := x3) (i := i) h hi
 have hrt := fun h i hi => psO_right (ar := [2, 1, 0]) (rs := x3) (i := i) h hi
 refine cX (Qe [sN, sN] zeroValue32 rfl ?_)
 intro b1
 refine cX (yL [] _ [x1, x2] yP rfl rfl rfl (jT (yE (yi hr1)) (jT (yE (PairsF.isSl hr2)) yM)) rfl rfl rfl (qI (qX (qH (cX (yc [x1, x2] yY yP rfl rfl (Rd.ownN [] rfl rfl) (cX (jL (args := [.agg #[x1, x2]]) call38 rfl (PeaksOf_spec hr1 hr2) ?_))))))))
 rintro _ F2 _ le2 ⟨x4, rfl, hr4, hr5, rfl⟩
 replace hbs := hbs.mono le2
 replace hr1 := hr1.mono le2
 replace hr2 := hr2.mono le2
 refine jb (.tuple #[x4, .bool ((psO ([2, 1, 0]) x3).isSome)]) rfl (cX (yr (x4) rfl rfl (cX (yr (.bool ((psO ([2, 1, 0]) x3).isSome)) rfl rfl (jc (x4) rfl (jc (.bool ((psO ([2, 1, 0]) x3).isSome)) rfl (qI (qX (qX (qH (jb (.bool ((psO ([2, 1, 0]) x3).isSome)) rfl (cX (yR rfl (qI ?_))))))))))))))
 refine X.cond (t := !((psO ([2, 1, 0]) x3).isSome)) rfl (fun h2 => ?_) (fun h2 => ?_)
 ·have hpn : (psO [2, 1, 0] x3).isSome = false := Bool.not_inj (y := false) h2
  have hpe : ((psO [2, 1, 0] x3).getD []) = [] := by rw [Option.isSome_eq_false_iff, Option.isNone_iff_eq_none] at hpn; rw [hpn]; rfl
  refine qX (qH (cX (yc [x1, x2] yY yP rfl rfl (Rd.ownN [] rfl rfl) (cX (jL (args := [.agg #[x1, x2]]) call37 rfl (sPeaksOf_spec hr1 hr2 (hla := (by first | assumption | rfl | omega | simp)) (hlr := (by first | assumption | rfl | omega | simp)) (hrb := (by first | assumption | rfl | omega | simp))) ?_)))))
  rintro _ F3 _ le3 ⟨x5, rfl, hr6, rfl⟩
  replace hbs := hbs.mono le3
  replace hr1 := hr1.mono le3
  replace hr2 := hr2.mono le3
  replace hr4 := hr4.mono le3
  refine jb (.tuple #[x5, .bool ((psO ([2, 1, 0]) x3).isSome)]) rfl (cX (yr (x5) rfl rfl (cX (yr (.bool ((psO ([2, 1, 0]) x3).isSome)) rfl rfl (jc (x5) rfl (jc (.bool ((psO ([2, 1, 0]) x3).isSome)) rfl (qI (qX (qH (jb (.bool ((psO ([2, 1, 0]) x3).isSome)) rfl (cX (yR rfl (jb (.bool (!((psO ([2, 1, 0]) x3).isSome))) rfl (jB (t := 35) rfl (vB h2) (jk (x4) rfl ?_)))))))))))))))
  refine jB (t := 35) rfl (vB h2) (jZ yG rfl hr4.slv (jB (t := 35) rfl (vB h2) (yU rfl rfl (cX (yp (.bool (decide (((((((psO ([2, 1, 0]) x3).getD [])).length : Nat) : Int) : Int) = 0))) (vB h2) rfl (jc (.bool (decide (((((((psO ([2, 1, 0]) x3).getD [])).length : Nat) : Int) : Int) = 0))) rfl (qI (jW (jw (jR (L' := L) [.bool (decide (((((((psO ([2, 1, 0]) x3).getD [])).length : Nat) : Int) : Int) = 0))] (.bool (decide (((((((psO ([2, 1, 0]) x3).getD [])).length : Nat) : Int) : Int) = 0))) (.tmp rfl .nil) rfl rF (jl (jl le1 le2) le3) (sD (sD sR)) ?_))))))))))
  exact ⟨(vB ((decide_eq_true (by first | (rw [hpe]; rfl) | (rw [hn, show o = x3.length from by omega, ← hmy]))).symm)), rfl, rfl⟩
 have hpo : (psO [2, 1, 0] x3).isSome = true := Bool.not_inj (y := true) h2
 have hsys := psO_sys hpo
 have hr12 := (sysOk_iff.1 hsys).2.1
 have hmy := hmy hpo
 refine jU (qX (qH (jc (ii (0)) rfl (qI (qX (qX (qH (jc (ii (0)) rfl (qI (yf (yI (α := Nat × Nat × FH) (fun xQ => [(4, ptr b1 0), (5, x4), (9, ii (((xQ.2.1 : Nat) : Int))), (10, ii (((xQ.1 : Nat) : Int)))]) (fun xQ => cellsH b1 [x1, x2] 32 :: curH .u64 88 cb1 bsv bs.length :: L) (fun xQ F' => xQ.2.2 = F' ∧ F2 ≤ xQ.2.2 ∧ (xQ.1 ≤ x3.length) ∧ (xQ.2.1 = sumTo (fun a9 => sumTo (fun c9 => (ovL [2, 1, 0] x3 a9 c9).length) x3.length) xQ.1) ∧ (xQ.2.1 ≤ 720 * xQ.1)) (fun xQ => x3.length - xQ.1) (0, 0, F2) ⟨rfl, rfl, rfl, rfl, ⟨⟩⟩ (sC (sC sR)) ⟨rfl, FLe.refl _, (by (try dsimp only) <;> omega), (rfl), (by (try dsimp only) <;> omega)⟩ ?_)))))))))))
 rintro ⟨o, n, G1⟩ rE _ _ ⟨rfl, leG, hk, hn, hb⟩
 show X _ _ _ _ (envs [(4, ptr b1 0), (5, x4), (9, ii ((n : Int))), (10, ii ((o : Int)))] rE) _ (cellsH b1 [x1, x2] 32 :: curH .u64 88 cb1 bsv bs.length :: L)
 replace leG : F2 ≤ G1 := leG
 dsimp only at hk hn hb
 have leG1 := leG
 replace hbs := hbs.mono leG1
 replace hr1 := hr1.mono leG1
 replace hr2 := hr2.mono leG1
 replace hr4 := hr4.mono leG1
 refine qX (qX (qH (jb (ii ((o : Int))) rfl (cX (jE (1) yq rfl yZ (by decide) rfl rfl (cX (jj Qj rfl (Rd.own [] rfl rfl) (cX (jZ yy rfl hr2.slv (cX (yo rfl rfl (qI ?_))))))))))))
 refine jV (p := (o : Int) < (x3.length : Int)) rfl (fun h3 => ?_) (fun h3 => ?_)
 ·refine jU (qX (yf (qX (qH (jc (ii (0)) rfl (qI (yf (yI (α := Nat × Nat × FH) (fun xQ => [(4, ptr b1 0), (5, x4), (9, ii (((xQ.2.1 : Nat) : Int))), (10, ii ((o : Int))), (11, ii (((xQ.1 : Nat) : Int)))]) (fun xQ => cellsH b1 [x1, x2] 32 :: curH .u64 88 cb1 bsv bs.length :: L) (fun xQ F' => xQ.2.2 = F' ∧ G1 ≤ xQ.2.2 ∧ (xQ.1 ≤ x3.length) ∧ (xQ.2.1 = n + sumTo (fun c9 => (ovL [2, 1, 0] x3 o c9).length) xQ.1) ∧ (xQ.2.1 ≤ 720 * o + 60 * xQ.1)) (fun xQ => x3.length - xQ.1) (0, n, G1) ⟨rfl, rfl, rfl, rfl, rfl, ⟨⟩⟩ (sC (sC sR)) ⟨rfl, FLe.refl _, (by (try dsimp only) <;> omega), (by simp [sumTo]), (by (try dsimp only) <;> omega)⟩ ?_))))))))
  rintro ⟨u, n2, G2⟩ rE _ _ ⟨rfl, leG, hku, hn2, hb2⟩
  show X _ _ _ _ (envs [(4, ptr b1 0), (5, x4), (9, ii ((n2 : Int))), (10, ii ((o : Int))), (11, ii ((u : Int)))] rE) _ (cellsH b1 [x1, x2] 32 :: curH .u64 88 cb1 bsv bs.length :: L)
  replace leG : G1 ≤ G2 := leG
  dsimp only at hku hn2 hb2
  have hov := fun (h : o < x3.length) (h2 : u < x3.length) => show ovS [2, 1, 0] x3 (o : Int) (u : Int) = ovL [2, 1, 0] x3 o u from ovS_yes ⟨hsys, ⟨by omega, by omega⟩, by omega, by omega⟩
  have hol := fun (h : o < x3.length) => ovL_len (u := u) hsys h
  have leG2 := leG
  replace hbs := hbs.mono leG2
  replace hr1 := hr1.mono leG2
  replace hr2 := hr2.mono leG2
  replace hr4 := hr4.mono leG2
  refine qX (qX (qH (jb (ii ((u : Int))) rfl (cX (jE (1) yq rfl yZ (by decide) rfl rfl (cX (jj Qj rfl (Rd.own [] rfl rfl) (cX (jZ yy rfl hr2.slv (cX (yo rfl rfl (qI ?_))))))))))))
  refine jV (p := (u : Int) < (x3.length : Int)) rfl (fun h4 => ?_) (fun h4 => ?_)
  ·refine jU (qX (yf (qH (jb (ii ((n2 : Int))) rfl (cX (yc [x1, x2] yY yP rfl rfl (Rd.ownN [] rfl rfl) (jb (ii ((o : Int))) rfl (jb (ii ((u : Int))) rfl (cX (Qo <| jL (args := [.agg #[x1, x2], ii ((o : Int)), ii ((u : Int))]) call57 rfl (OverlapsIn_spec (o := (o : Int)) (u := (u : Int)) hr1 hr2) ?_))))))))))
   rintro v1 _ _ _ ⟨rfl, hs1, rfl⟩
   refine ⟨_, _, rfl, fun F4 le4 hz1 => ?_⟩
   replace hbs := hbs.mono le4
   replace hr1 := hr1.mono le4
   replace hr2 := hr2.mono le4
   replace hr4 := hr4.mono le4
   have hf1 : IntsF F4 v1 ((ovS ([2, 1, 0]) x3 ((o : Int)) ((u : Int)))) := intsH.fz (xs := (ovS ([2, 1, 0]) x3 ((o : Int)) ((u : Int)))) hz1.fz
   have hov9 := congrArg List.length (hov (by omega) (by omega))
   have hol9 := hol (by omega)
   refine cX (jZ qU rfl hf1.slv (cX (yj (((n2 + (((ovS ([2, 1, 0]) x3 ((o : Int)) ((u : Int)))).length) : Nat) : Int)) rfl rfl (by omega) (by omega) (jc (ii (((n2 + (((ovS ([2, 1, 0]) x3 ((o : Int)) ((u : Int)))).length) : Nat) : Int))) rfl (qI (qH (jb (ii ((u : Int))) rfl (cX (yj (((u + 1 : Nat) : Int)) rfl rfl (by omega) (by omega) (jc (ii (((u + 1 : Nat) : Int))) rfl (qI ?_)))))))))))
   exact ⟨(u + 1, n2 + (((ovS ([2, 1, 0]) x3 ((o : Int)) ((u : Int)))).length), F4), _, (jl leG2 le4), rF, ⟨rfl, rfl, rfl, rfl, rfl, ⟨⟩⟩, (sC (sC sR)), ⟨rfl, (jl leG2 le4), (by (try dsimp only) <;> omega), (by (try dsimp only); rw [hov (by omega) (by omega), hn2, sumTo]; omega), (by (try dsimp only); rw [hov (by omega) (by omega)]; have h9 := hol (by omega); omega)⟩, (by omega)⟩
  refine yB (jO (jO (yk (qH (jb (ii ((o : Int))) rfl (cX (yj (((o + 1 : Nat) : Int)) rfl rfl (by omega) (by omega) (jc (ii (((o + 1 : Nat) : Int))) rfl (qI ?_)))))))))
  exact ⟨(o + 1, n2, G2), _, (jl leG1 leG2), rF, ⟨rfl, rfl, rfl, rfl, ⟨⟩⟩, (sC (sC sR)), ⟨rfl, (jl leG1 leG2), (by (try dsimp only) <;> omega), (by (try dsimp only); rw [hn2, show u = x3.length from by omega, hn]; rfl), (by (try dsimp only) <;> omega)⟩, (by omega)⟩
 refine yB (jO (jO (yk (qX (qX (qH (jc (ii (0)) rfl (qI (yf (yI (α := Nat × FH) (fun xQ => [(4, ptr b1 0), (5, x4), (9, ii ((n : Int))), (12, ii (((xQ.1 : Nat) : Int)))]) (fun xQ => cellsH b1 [x1, x2] 32 :: curH .u64 88 cb1 bsv bs.length :: L) (fun xQ F' => xQ.2 = F' ∧ G1 ≤ xQ.2 ∧ (xQ.1 ≤ ((psO [2, 1, 0] x3).getD []).length)) (fun xQ => ((psO [2, 1, 0] x3).getD []).length - xQ.1) (0, G1) ⟨rfl, rfl, rfl, rfl, ⟨⟩⟩ (sC (sC sR)) ⟨rfl, FLe.refl _, (by (try dsimp only) <;> omega)⟩ ?_))))))))))
 rintro ⟨i, G3⟩ rE _ _ ⟨rfl, leG, hki⟩
 show X _ _ _ _ (envs [(4, ptr b1 0), (5, x4), (9, ii ((n : Int))), (12, ii ((i : Int)))] rE) _ (cellsH b1 [x1, x2] 32 :: curH .u64 88 cb1 bsv bs.length :: L)
 replace leG : G1 ≤ G3 := leG
 dsimp only at hki
 have hnbi := hnb i
 have hnbj := hnb ((i : Int) - 1).toNat
 have leG3 := leG
 replace hbs := hbs.mono leG3
 replace hr1 := hr1.mono leG3
 replace hr2 := hr2.mono leG3
 replace hr4 := hr4.mono leG3
 refine qX (qX (qH (jb (ii ((i : Int))) rfl (jb (x4) rfl (cX (jZ yG rfl hr4.slv (cX (yo rfl rfl (qI ?_)))))))))
 refine jV (p := (i : Int) < (((((psO ([2, 1, 0]) x3).getD [])).length : Nat) : Int)) rfl (fun h5 => ?_) (fun h5 => ?_)
 ·refine jU (qX (yf (qX (qX ?_))))
  obtain ⟨a1, a2, a3, ha1, ha2, ha3, hrg1, hq1⟩ := hr4.rd (i := i) (by omega)
  by_cases h6 : (!(peakL ([2, 1, 0]) x3 ((kP x3 i).1) ((kP x3 i).2.1) ((kP x3 i).2.2.1) ((kP x3 i).2.2.2.1) ((kP x3 i).2.2.2.2.1) ((kP x3 i).2.2.2.2.2))) = true
  ·exact absurd h6 (by rw [htw hpo i (by omega)]; simp)
  rw [Bool.not_eq_true] at h6
  by_cases h7 : (i : Int) > 0
  ·obtain ⟨a4, a5, a6, ha4, ha5, ha6, hrg2, hq2⟩ := hr4.rd (i := (((i : Int)) - 1).toNat) (by omega)
   refine yN [cellsH b1 [x1, x2] 32, curH .u64 88 cb1 bsv bs.length] L 20 [] [[], [], [], [1, 2], [3], [0, 4], [5], [6], [7], [7, 8], [7, 9], [10], [10], [10, 12], [10, 11, 13], [10, 14], [10], [10], [10, 16, 17], [10, 18]] (phiL [qe (.agg #[x1, x2]), qe x4, qe (ii ((i : Int)) : Value), qe (.pointer (some (elemA x4 (i * 6)))), qe (.agg #[a1, a2, a3, ii ((kP x3 i).2.2.2.1), ii ((kP x3 i).2.2.2.2.1), ii ((kP x3 i).2.2.2.2.2)]), qe (.bool (peakL ([2, 1, 0]) x3 ((kP x3 i).1) ((kP x3 i).2.1) ((kP x3 i).2.2.1) ((kP x3 i).2.2.2.1) ((kP x3 i).2.2.2.2.1) ((kP x3 i).2.2.2.2.2))), qe (.bool (!(peakL ([2, 1, 0]) x3 ((kP x3 i).1) ((kP x3 i).2.1) ((kP x3 i).2.2.1) ((kP x3 i).2.2.2.1) ((kP x3 i).2.2.2.2.1) ((kP x3 i).2.2.2.2.2)))), qe (.bool (!(peakL ([2, 1, 0]) x3 ((kP x3 i).1) ((kP x3 i).2.1) ((kP x3 i).2.2.1) ((kP x3 i).2.2.2.1) ((kP x3 i).2.2.2.2.1) ((kP x3 i).2.2.2.2.2)))), qe (ii ((i : Int)) : Value), qe (.bool (decide ((i : Int) > 0)) : Value), qe (.bool (decide ((i : Int) > 0)) : Value), qe x4, qe (ii ((i : Int)) : Value), qe (ii (((i : Int)) - 1) : Value), qe (.pointer (some (elemA x4 (((((i : Int)) - 1).toNat) * 6))) : Value), qe (.agg #[a4, a5, a6, ii (((((psO ([2, 1, 0]) x3).getD [])).getD ((((i : Int)) - 1).toNat) ([], [], [], 0, 0, 0)).2.2.2.1), ii (((((psO ([2, 1, 0]) x3).getD [])).getD ((((i : Int)) - 1).toNat) ([], [], [], 0, 0, 0)).2.2.2.2.1), ii (((((psO ([2, 1, 0]) x3).getD [])).getD ((((i : Int)) - 1).toNat) ([], [], [], 0, 0, 0)).2.2.2.2.2)] : Value), qe x4, qe (ii ((i : Int)) : Value), qe (.pointer (some (elemA x4 (i * 6)))), qe (.agg #[a1, a2, a3, ii ((kP x3 i).2.2.2.1), ii ((kP x3 i).2.2.2.2.1), ii ((kP x3 i).2.2.2.2.2)])]) (ownL []) mixed rfl rfl (by kernel_rfl) ?_ ?_
   ·refine pD (fun W R z9 => ?_) ?_
    ·refine je (yc [x1, x2] yY yP rfl rfl (Rd.ownN [] rfl rfl) ?_)
     exact ⟨rfl, rfl, rfl⟩
    refine pD (fun W R z9 => ?_) ?_
    ·refine je (jk (x4) rfl ?_)
     exact ⟨rfl, rfl, rfl⟩
    refine pD (fun W R z9 => ?_) ?_
    ·refine je (jk (ii ((i : Int))) rfl ?_)
     exact ⟨rfl, rfl, rfl⟩
    refine pD (fun W R z9 => ?_) ?_
    ·rw [eS (l := [(1, _), (2, _)]) ⟨z9 1 rfl, z9 2 rfl, ⟨⟩⟩]
     refine je (jq i yG yC rfl rfl rfl hr4.slv (by omega) rfl ?_)
     exact ⟨rfl, rfl, rfl⟩
    refine pD (fun W R z9 => ?_) ?_
    ·rw [eS (l := [(3, _)]) ⟨z9 3 rfl, ⟨⟩⟩]
     refine je (yc [a1, a2, a3, ii ((kP x3 i).2.2.2.1), ii ((kP x3 i).2.2.2.2.1), ii ((kP x3 i).2.2.2.2.2)] Qy yC rfl rfl (Rd.all (hrg1 _)) ?_)
     exact ⟨rfl, rfl, rfl⟩
    refine pD (fun W R z9 => ?_) ?_
    ·rw [eS (l := [(0, _), (4, _)]) ⟨z9 0 rfl, z9 4 rfl, ⟨⟩⟩]
     refine je (jL (args := [.agg #[x1, x2], .agg #[a1, a2, a3, ii ((kP x3 i).2.2.2.1), ii ((kP x3 i).2.2.2.2.1), ii ((kP x3 i).2.2.2.2.2)]]) call58 rfl (sPeakOk_spec hr1 hr2 ha1 ha2 ha3 (hla := (by first | assumption | rfl | omega | simp)) (hlr := (by first | assumption | rfl | omega | simp)) (hrb := (by first | assumption | rfl | omega | simp)) (hlt0 := (by first | (have h9 := hnbi (by omega); omega) | (have h9 := hnbj (by omega); omega))) (hll0 := (by first | (have h9 := hnbi (by omega); omega) | (have h9 := hnbj (by omega); omega))) (hlr0 := (by first | (have h9 := hnbi (by omega); omega) | (have h9 := hnbj (by omega); omega)))) ?_)
     rintro _ _ _ _ ⟨rfl, rfl, rfl⟩
     exact ⟨rfl, rfl, rfl⟩
    refine pD (fun W R z9 => ?_) ?_
    ·rw [eS (l := [(5, _)]) ⟨z9 5 rfl, ⟨⟩⟩]
     refine je (yR rfl ?_)
     exact ⟨rfl, rfl, rfl⟩
    refine pD (fun W R z9 => ?_) ?_
    ·rw [eS (l := [(6, _)]) ⟨z9 6 rfl, ⟨⟩⟩]
     refine je (jk (.bool (!(peakL ([2, 1, 0]) x3 ((kP x3 i).1) ((kP x3 i).2.1) ((kP x3 i).2.2.1) ((kP x3 i).2.2.2.1) ((kP x3 i).2.2.2.2.1) ((kP x3 i).2.2.2.2.2)))) rfl ?_)
     exact ⟨rfl, rfl, rfl⟩
    refine pD (fun W R z9 => ?_) ?_
    ·rw [eS (l := [(7, _)]) ⟨z9 7 rfl, ⟨⟩⟩]
     refine yh (t := 74) rfl (vB h6) (jk (ii ((i : Int))) rfl ?_)
     exact ⟨rfl, rfl, rfl⟩
    refine pD (fun W R z9 => ?_) ?_
    ·rw [eS (l := [(7, _), (8, _)]) ⟨z9 7 rfl, z9 8 rfl, ⟨⟩⟩]
     refine yh (t := 74) rfl (vB h6) (Qf rfl rfl ?_)
     exact ⟨rfl, rfl, rfl⟩
    refine pD (fun W R z9 => ?_) ?_
    ·rw [eS (l := [(7, _), (9, _)]) ⟨z9 7 rfl, z9 9 rfl, ⟨⟩⟩]
     refine yh (t := 74) rfl (vB h6) (jk (.bool (decide ((i : Int) > 0))) rfl ?_)
     exact ⟨rfl, rfl, rfl⟩
    refine pD (fun W R z9 => ?_) ?_
    ·rw [eS (l := [(10, _)]) ⟨z9 10 rfl, ⟨⟩⟩]
     refine yh (t := 77) rfl (vT h7) (jk (x4) rfl ?_)
     exact ⟨rfl, rfl, rfl⟩
    refine pD (fun W R z9 => ?_) ?_
    ·rw [eS (l := [(10, _)]) ⟨z9 10 rfl, ⟨⟩⟩]
     refine yh (t := 77) rfl (vT h7) (jk (ii ((i : Int))) rfl ?_)
     exact ⟨rfl, rfl, rfl⟩
    refine pD (fun W R z9 => ?_) ?_
    ·rw [eS (l := [(10, _), (12, _)]) ⟨z9 10 rfl, z9 12 rfl, ⟨⟩⟩]
     refine yh (t := 77) rfl (vT h7) (yx (((i : Int)) - 1) rfl rfl (by omega) (by omega) ?_)
     exact ⟨rfl, rfl, rfl⟩
    refine pD (fun W R z9 => ?_) ?_
    ·rw [eS (l := [(10, _), (11, _), (13, _)]) ⟨z9 10 rfl, z9 11 rfl, z9 13 rfl, ⟨⟩⟩]
     refine yh (t := 77) rfl (vT h7) (jq ((((i : Int)) - 1).toNat) yG yC rfl rfl (by omega) hr4.slv (by omega) rfl ?_)
     exact ⟨rfl, rfl, rfl⟩
    refine pD (fun W R z9 => ?_) ?_
    ·rw [eS (l := [(10, _), (14, _)]) ⟨z9 10 rfl, z9 14 rfl, ⟨⟩⟩]
     refine yh (t := 77) rfl (vT h7) (yc [a4, a5, a6, ii (((((psO ([2, 1, 0]) x3).getD [])).getD ((((i : Int)) - 1).toNat) ([], [], [], 0, 0, 0)).2.2.2.1), ii (((((psO ([2, 1, 0]) x3).getD [])).getD ((((i : Int)) - 1).toNat) ([], [], [], 0, 0, 0)).2.2.2.2.1), ii (((((psO ([2, 1, 0]) x3).getD [])).getD ((((i : Int)) - 1).toNat) ([], [], [], 0, 0, 0)).2.2.2.2.2)] Qy yC rfl rfl (Rd.all (hrg2 _)) ?_)
     exact ⟨rfl, rfl, rfl⟩
    refine pD (fun W R z9 => ?_) ?_
    ·rw [eS (l := [(10, _)]) ⟨z9 10 rfl, ⟨⟩⟩]
     refine yh (t := 77) rfl (vT h7) (jk (x4) rfl ?_)
     exact ⟨rfl, rfl, rfl⟩
    refine pD (fun W R z9 => ?_) ?_
    ·rw [eS (l := [(10, _)]) ⟨z9 10 rfl, ⟨⟩⟩]
     refine yh (t := 77) rfl (vT h7) (jk (ii ((i : Int))) rfl ?_)
     exact ⟨rfl, rfl, rfl⟩
    refine pD (fun W R z9 => ?_) ?_
    ·rw [eS (l := [(10, _), (16, _), (17, _)]) ⟨z9 10 rfl, z9 16 rfl, z9 17 rfl, ⟨⟩⟩]
     refine yh (t := 77) rfl (vT h7) (jq i yG yC rfl rfl rfl hr4.slv (by omega) rfl ?_)
     exact ⟨rfl, rfl, rfl⟩
    refine pD (fun W R z9 => ?_) ?_
    ·rw [eS (l := [(10, _), (18, _)]) ⟨z9 10 rfl, z9 18 rfl, ⟨⟩⟩]
     refine yh (t := 77) rfl (vT h7) (yc [a1, a2, a3, ii ((kP x3 i).2.2.2.1), ii ((kP x3 i).2.2.2.2.1), ii ((kP x3 i).2.2.2.2.2)] Qy yC rfl rfl (Rd.all (hrg1 _)) ?_)
     exact ⟨rfl, rfl, rfl⟩
    exact stepsP.nil
   intro W hphi
   rw [eS (l := [(7, _), (10, _), (15, _), (19, _)]) ⟨(hphi 7 (by decide)), (hphi 10 (by decide)), (hphi 15 (by decide)), (hphi 19 (by decide)), ⟨⟩⟩]
   show XL _ _ _ _ _ _ _ (cellsH b1 [x1, x2] 32 :: curH .u64 88 cb1 bsv bs.length :: L)
   refine jB (t := 77) rfl (vT h7) (jL (args := [.agg #[a4, a5, a6, ii (((((psO ([2, 1, 0]) x3).getD [])).getD ((((i : Int)) - 1).toNat) ([], [], [], 0, 0, 0)).2.2.2.1), ii (((((psO ([2, 1, 0]) x3).getD [])).getD ((((i : Int)) - 1).toNat) ([], [], [], 0, 0, 0)).2.2.2.2.1), ii (((((psO ([2, 1, 0]) x3).getD [])).getD ((((i : Int)) - 1).toNat) ([], [], [], 0, 0, 0)).2.2.2.2.2)], .agg #[a1, a2, a3, ii ((kP x3 i).2.2.2.1), ii ((kP x3 i).2.2.2.2.1), ii ((kP x3 i).2.2.2.2.2)]]) call56 rfl (SamePeak_spec ha4 ha5 ha6 ha1 ha2 ha3 (hw1 := (by first | (have h9 := hnbi (by omega); omega) | (have h9 := hnbj (by omega); omega))) (hw2 := (by first | (have h9 := hnbi (by omega); omega) | (have h9 := hnbj (by omega); omega))) (hw3 := (by first | (have h9 := hnbi (by omega); omega) | (have h9 := hnbj (by omega); omega)))) ?_)
   rintro _ F5 _ le5 ⟨rfl, rfl⟩
   replace hbs := hbs.mono le5
   replace hr1 := hr1.mono le5
   replace hr2 := hr2.mono le5
   replace hr4 := hr4.mono le5
   replace ha1 := ha1.mono le5
   replace ha2 := ha2.mono le5
   replace ha3 := ha3.mono le5
   replace hrg1 := fun L9 j9 u9 h9 => Rd.mono (hrg1 L9 j9 u9 h9) le5
   refine jB (t := 74) rfl (vB h6) (yp (.bool (decide (((((((psO ([2, 1, 0]) x3).getD [])).getD ((((i : Int)) - 1).toNat) ([], [], [], 0, 0, 0)).1), (((((psO ([2, 1, 0]) x3).getD [])).getD ((((i : Int)) - 1).toNat) ([], [], [], 0, 0, 0)).2.1), (((((psO ([2, 1, 0]) x3).getD [])).getD ((((i : Int)) - 1).toNat) ([], [], [], 0, 0, 0)).2.2.1), (((((psO ([2, 1, 0]) x3).getD [])).getD ((((i : Int)) - 1).toNat) ([], [], [], 0, 0, 0)).2.2.2.1), (((((psO ([2, 1, 0]) x3).getD [])).getD ((((i : Int)) - 1).toNat) ([], [], [], 0, 0, 0)).2.2.2.2.1), (((((psO ([2, 1, 0]) x3).getD [])).getD ((((i : Int)) - 1).toNat) ([], [], [], 0, 0, 0)).2.2.2.2.2)) = (((kP x3 i).1), ((kP x3 i).2.1), ((kP x3 i).2.2.1), ((kP x3 i).2.2.2.1), ((kP x3 i).2.2.2.2.1), ((kP x3 i).2.2.2.2.2))))) (vT h7) rfl (cX (yl (.bool (decide (((((((psO ([2, 1, 0]) x3).getD [])).getD ((((i : Int)) - 1).toNat) ([], [], [], 0, 0, 0)).1), (((((psO ([2, 1, 0]) x3).getD [])).getD ((((i : Int)) - 1).toNat) ([], [], [], 0, 0, 0)).2.1), (((((psO ([2, 1, 0]) x3).getD [])).getD ((((i : Int)) - 1).toNat) ([], [], [], 0, 0, 0)).2.2.1), (((((psO ([2, 1, 0]) x3).getD [])).getD ((((i : Int)) - 1).toNat) ([], [], [], 0, 0, 0)).2.2.2.1), (((((psO ([2, 1, 0]) x3).getD [])).getD ((((i : Int)) - 1).toNat) ([], [], [], 0, 0, 0)).2.2.2.2.1), (((((psO ([2, 1, 0]) x3).getD [])).getD ((((i : Int)) - 1).toNat) ([], [], [], 0, 0, 0)).2.2.2.2.2)) = (((kP x3 i).1), ((kP x3 i).2.1), ((kP x3 i).2.2.1), ((kP x3 i).2.2.2.1), ((kP x3 i).2.2.2.2.1), ((kP x3 i).2.2.2.2.2))))) (vB h6) rfl ?_)))
   refine qI ?_
   refine jV (p := ((((((psO ([2, 1, 0]) x3).getD [])).getD ((((i : Int)) - 1).toNat) ([], [], [], 0, 0, 0)).1), (((((psO ([2, 1, 0]) x3).getD [])).getD ((((i : Int)) - 1).toNat) ([], [], [], 0, 0, 0)).2.1), (((((psO ([2, 1, 0]) x3).getD [])).getD ((((i : Int)) - 1).toNat) ([], [], [], 0, 0, 0)).2.2.1), (((((psO ([2, 1, 0]) x3).getD [])).getD ((((i : Int)) - 1).toNat) ([], [], [], 0, 0, 0)).2.2.2.1), (((((psO ([2, 1, 0]) x3).getD [])).getD ((((i : Int)) - 1).toNat) ([], [], [], 0, 0, 0)).2.2.2.2.1), (((((psO ([2, 1, 0]) x3).getD [])).getD ((((i : Int)) - 1).toNat) ([], [], [], 0, 0, 0)).2.2.2.2.2)) = (((kP x3 i).1), ((kP x3 i).2.1), ((kP x3 i).2.2.1), ((kP x3 i).2.2.2.1), ((kP x3 i).2.2.2.2.1), ((kP x3 i).2.2.2.2.2))) rfl (fun h8 => ?_) (fun h8 => ?_)
   ·exact absurd h8 (psO_apart hpo (by omega) (by omega))
   refine jU (qX ?_)
   refine X.drawG [cellsH b1 [x1, x2] 32, curH .u64 88 cb1 bsv bs.length] L 16 [[], [], [], [], [], [], [], [], [], [], [], [], [11], [11], [], [11]] [[], [], [], [1, 2], [3], [4], [], [], [6, 7], [8], [9], [0, 5, 10], [11], [11, 12], [11, 12], [11, 13]] [] (phiG [pe (.agg #[x1, x2]), pe x4, pe (ii ((i : Int)) : Value), pe (.pointer (some (elemA x4 (i * 6)))), pe (.pointer (some (elemA x4 (i * 6)))), pe a1, pe x4, pe (ii ((i : Int)) : Value), pe (.pointer (some (elemA x4 (i * 6)))), pe (.pointer (some (elemA x4 (i * 6 + 5)))), pe (ii ((kP x3 i).2.2.2.2.2)), fun FF us v => (.tuple #[((tupAt v 0)), .bool ((stepAtL ([2, 1, 0]) x3 ((kP x3 i).1) 0 ((kP x3 i).2.2.2.2.2)).isSome)] : Value) = v ∧ (IntsF FF ((tupAt v 0)) ((stepAtL ([2, 1, 0]) x3 ((kP x3 i).1) 0 ((kP x3 i).2.2.2.2.2)).getD [])), fun FF us v => v = (.tuple #[((tupAt (us.getD 0 undef) 0)), .bool ((stepAtL ([2, 1, 0]) x3 ((kP x3 i).1) 0 ((kP x3 i).2.2.2.2.2)).isSome)] : Value), fun FF us v => v = ((tupAt (us.getD 0 undef) 0)), pe (.bool ((stepAtL ([2, 1, 0]) x3 ((kP x3 i).1) 0 ((kP x3 i).2.2.2.2.2)).isSome)), fun FF us v => v = ((tupAt (us.getD 0 undef) 0))]) (ownL []) mixed rfl rfl (by kernel_rfl) (by kernel_rfl) (MonoG.get (m1 (m1 (m1 (m1 (m1 (m1 (m1 (m1 (m1 (m1 (m1 (mC (fun le h => ⟨h.1, h.2.mono le⟩) (mC (fun le h => h) (mC (fun le h => h) (m1 (mC (fun le h => h) MonoG.nil))))))))))))))))) ?_ ?_
   ·refine gD (fun W Fs R lF z9 => ?_) ?_
    ·replace hbs := hbs.mono lF
     replace hr1 := hr1.mono lF
     replace hr2 := hr2.mono lF
     replace hr4 := hr4.mono lF
     replace ha1 := ha1.mono lF
     replace ha2 := ha2.mono lF
     replace ha3 := ha3.mono lF
     replace hrg1 := fun L9 j9 u9 h9 => Rd.mono (hrg1 L9 j9 u9 h9) lF
     refine je (yc [x1, x2] yY yP rfl rfl (Rd.ownN [] rfl rfl) ?_)
     exact ⟨rfl, rfl⟩
    refine gD (fun W Fs R lF z9 => ?_) ?_
    ·refine je (jk (x4) rfl ?_)
     exact ⟨rfl, rfl⟩
    refine gD (fun W Fs R lF z9 => ?_) ?_
    ·refine je (jk (ii ((i : Int))) rfl ?_)
     exact ⟨rfl, rfl⟩
    refine gD (fun W Fs R lF z9 => ?_) ?_
    ·replace hbs := hbs.mono lF
     replace hr1 := hr1.mono lF
     replace hr2 := hr2.mono lF
     replace hr4 := hr4.mono lF
     replace ha1 := ha1.mono lF
     replace ha2 := ha2.mono lF
     replace ha3 := ha3.mono lF
     replace hrg1 := fun L9 j9 u9 h9 => Rd.mono (hrg1 L9 j9 u9 h9) lF
     rw [eS (l := [(1, _), (2, _)]) ⟨z9 1 rfl, z9 2 rfl, ⟨⟩⟩]
     refine je (jq i yG yC rfl rfl rfl hr4.slv (by omega) rfl ?_)
     exact ⟨rfl, rfl⟩
    refine gD (fun W Fs R lF z9 => ?_) ?_
    ·rw [eS (l := [(3, _)]) ⟨z9 3 rfl, ⟨⟩⟩]
     refine je (Qh (i * 6) yg rfl jF (by decide) rfl rfl ?_)
     exact ⟨rfl, rfl⟩
    refine gD (fun W Fs R lF z9 => ?_) ?_
    ·replace hbs := hbs.mono lF
     replace hr1 := hr1.mono lF
     replace hr2 := hr2.mono lF
     replace hr4 := hr4.mono lF
     replace ha1 := ha1.mono lF
     replace ha2 := ha2.mono lF
     replace ha3 := ha3.mono lF
     replace hrg1 := fun L9 j9 u9 h9 => Rd.mono (hrg1 L9 j9 u9 h9) lF
     rw [eS (l := [(4, _)]) ⟨z9 4 rfl, ⟨⟩⟩]
     refine je (jj yt rfl (hrg1 _ 0 _ rfl) ?_)
     exact ⟨rfl, rfl⟩
    refine gD (fun W Fs R lF z9 => ?_) ?_
    ·refine je (jk (x4) rfl ?_)
     exact ⟨rfl, rfl⟩
    refine gD (fun W Fs R lF z9 => ?_) ?_
    ·refine je (jk (ii ((i : Int))) rfl ?_)
     exact ⟨rfl, rfl⟩
    refine gD (fun W Fs R lF z9 => ?_) ?_
    ·replace hbs := hbs.mono lF
     replace hr1 := hr1.mono lF
     replace hr2 := hr2.mono lF
     replace hr4 := hr4.mono lF
     replace ha1 := ha1.mono lF
     replace ha2 := ha2.mono lF
     replace ha3 := ha3.mono lF
     replace hrg1 := fun L9 j9 u9 h9 => Rd.mono (hrg1 L9 j9 u9 h9) lF
     rw [eS (l := [(6, _), (7, _)]) ⟨z9 6 rfl, z9 7 rfl, ⟨⟩⟩]
     refine je (jq i yG yC rfl rfl rfl hr4.slv (by omega) rfl ?_)
     exact ⟨rfl, rfl⟩
    refine gD (fun W Fs R lF z9 => ?_) ?_
    ·rw [eS (l := [(8, _)]) ⟨z9 8 rfl, ⟨⟩⟩]
     refine je (Qh (i * 6 + 5) yg rfl js (by decide) rfl rfl ?_)
     exact ⟨rfl, rfl⟩
    refine gD (fun W Fs R lF z9 => ?_) ?_
    ·replace hbs := hbs.mono lF
     replace hr1 := hr1.mono lF
     replace hr2 := hr2.mono lF
     replace hr4 := hr4.mono lF
     replace ha1 := ha1.mono lF
     replace ha2 := ha2.mono lF
     replace ha3 := ha3.mono lF
     replace hrg1 := fun L9 j9 u9 h9 => Rd.mono (hrg1 L9 j9 u9 h9) lF
     rw [eS (l := [(9, _)]) ⟨z9 9 rfl, ⟨⟩⟩]
     refine je (jj yd rfl (hrg1 _ 5 _ rfl) ?_)
     exact ⟨rfl, rfl⟩
    refine gD (fun W Fs R lF z9 => ?_) ?_
    ·replace hbs := hbs.mono lF
     replace hr1 := hr1.mono lF
     replace hr2 := hr2.mono lF
     replace hr4 := hr4.mono lF
     replace ha1 := ha1.mono lF
     replace ha2 := ha2.mono lF
     replace ha3 := ha3.mono lF
     replace hrg1 := fun L9 j9 u9 h9 => Rd.mono (hrg1 L9 j9 u9 h9) lF
     rw [eS (l := [(0, _), (5, _), (10, _)]) ⟨z9 0 rfl, z9 5 rfl, z9 10 rfl, ⟨⟩⟩]
     refine je (jL (args := [.agg #[x1, x2], a1, ii (0), ii ((kP x3 i).2.2.2.2.2)]) call49 rfl (sStepAt_spec (p := 0) (r := (kP x3 i).2.2.2.2.2) hr1 hr2 ha1 (hla := (by first | assumption | rfl | omega | simp)) (hlr := (by first | assumption | rfl | omega | simp)) (hrb := (by first | assumption | rfl | omega | simp)) (hlt := (by first | (have h9 := hnbi (by omega); omega) | (have h9 := hnbj (by omega); omega)))) ?_)
     rintro _ F7 _ le7 ⟨x7, rfl, hr8, rfl⟩
     replace hbs := hbs.mono le7
     replace hr1 := hr1.mono le7
     replace hr2 := hr2.mono le7
     replace hr4 := hr4.mono le7
     replace ha1 := ha1.mono le7
     replace ha2 := ha2.mono le7
     replace ha3 := ha3.mono le7
     replace hrg1 := fun L9 j9 u9 h9 => Rd.mono (hrg1 L9 j9 u9 h9) le7
     exact ⟨⟨rfl, hr8⟩, rfl⟩
    refine gD (fun W Fs R lF z9 => ?_) ?_
    ·obtain ⟨e11, f11_4hr⟩ := z9 11 rfl
     rw [eS (l := [(11, (.tuple #[((tupAt (W 11) 0)), .bool ((stepAtL ([2, 1, 0]) x3 ((kP x3 i).1) 0 ((kP x3 i).2.2.2.2.2)).isSome)]))]) ⟨(e11).symm, ⟨⟩⟩]
     refine je (jk (.tuple #[((tupAt (W 11) 0)), .bool ((stepAtL ([2, 1, 0]) x3 ((kP x3 i).1) 0 ((kP x3 i).2.2.2.2.2)).isSome)]) rfl ?_)
     exact ⟨rfl, rfl⟩
    refine gD (fun W Fs R lF z9 => ?_) ?_
    ·obtain ⟨e11, f11_4hr⟩ := z9 11 rfl
     have e12 : W 12 = (.tuple #[((tupAt (W 11) 0)), .bool ((stepAtL ([2, 1, 0]) x3 ((kP x3 i).1) 0 ((kP x3 i).2.2.2.2.2)).isSome)] : Value) := z9 12 rfl
     rw [eS (l := [(11, (.tuple #[((tupAt (W 11) 0)), .bool ((stepAtL ([2, 1, 0]) x3 ((kP x3 i).1) 0 ((kP x3 i).2.2.2.2.2)).isSome)])), (12, (.tuple #[((tupAt (W 11) 0)), .bool ((stepAtL ([2, 1, 0]) x3 ((kP x3 i).1) 0 ((kP x3 i).2.2.2.2.2)).isSome)]))]) ⟨(e11).symm, e12, ⟨⟩⟩]
     refine je (yr (((tupAt (W 11) 0))) rfl rfl ?_)
     exact ⟨rfl, rfl⟩
    refine gD (fun W Fs R lF z9 => ?_) ?_
    ·obtain ⟨e11, f11_4hr⟩ := z9 11 rfl
     have e12 : W 12 = (.tuple #[((tupAt (W 11) 0)), .bool ((stepAtL ([2, 1, 0]) x3 ((kP x3 i).1) 0 ((kP x3 i).2.2.2.2.2)).isSome)] : Value) := z9 12 rfl
     rw [eS (l := [(11, (.tuple #[((tupAt (W 11) 0)), .bool ((stepAtL ([2, 1, 0]) x3 ((kP x3 i).1) 0 ((kP x3 i).2.2.2.2.2)).isSome)])), (12, (.tuple #[((tupAt (W 11) 0)), .bool ((stepAtL ([2, 1, 0]) x3 ((kP x3 i).1) 0 ((kP x3 i).2.2.2.2.2)).isSome)]))]) ⟨(e11).symm, e12, ⟨⟩⟩]
     refine je (yr (.bool ((stepAtL ([2, 1, 0]) x3 ((kP x3 i).1) 0 ((kP x3 i).2.2.2.2.2)).isSome)) rfl rfl ?_)
     exact ⟨rfl, rfl⟩
    refine gD (fun W Fs R lF z9 => ?_) ?_
    ·obtain ⟨e11, f11_4hr⟩ := z9 11 rfl
     have e13 : W 13 = ((tupAt (W 11) 0)) := z9 13 rfl
     rw [eS (l := [(11, (.tuple #[((tupAt (W 11) 0)), .bool ((stepAtL ([2, 1, 0]) x3 ((kP x3 i).1) 0 ((kP x3 i).2.2.2.2.2)).isSome)])), (13, ((tupAt (W 11) 0)))]) ⟨(e11).symm, e13, ⟨⟩⟩]
     refine je (XOp.assign (((tupAt (W 11) 0))) rfl ?_)
     exact ⟨rfl, rfl⟩
    exact stepsG.nil
   intro W F8 le8 hphi
   obtain ⟨e11, f11_4hr⟩ := hphi 11 (by decide)
   have e12 : W 12 = (.tuple #[((tupAt (W 11) 0)), .bool ((stepAtL ([2, 1, 0]) x3 ((kP x3 i).1) 0 ((kP x3 i).2.2.2.2.2)).isSome)] : Value) := hphi 12 (by decide)
   have e13 : W 13 = ((tupAt (W 11) 0)) := hphi 13 (by decide)
   have e15 : W 15 = ((tupAt (W 11) 0)) := hphi 15 (by decide)
   generalize hu1 : ((tupAt (W 11) 0)) = u1 at e11 f11_4hr e12 e13 e15
   rw [eS (l := [(11, (.tuple #[u1, .bool ((stepAtL ([2, 1, 0]) x3 ((kP x3 i).1) 0 ((kP x3 i).2.2.2.2.2)).isSome)])), (14, _), (15, u1)]) ⟨(e11).symm, (hphi 14 (by decide)), e15, ⟨⟩⟩]
   replace hbs := hbs.mono le8
   replace hr1 := hr1.mono le8
   replace hr2 := hr2.mono le8
   replace hr4 := hr4.mono le8
   replace ha1 := ha1.mono le8
   replace ha2 := ha2.mono le8
   replace ha3 := ha3.mono le8
   replace hrg1 := fun L9 j9 u9 h9 => Rd.mono (hrg1 L9 j9 u9 h9) le8
   show XL _ _ _ _ _ _ _ (cellsH b1 [x1, x2] 32 :: curH .u64 88 cb1 bsv bs.length :: L)
   refine jc (.bool ((stepAtL ([2, 1, 0]) x3 ((kP x3 i).1) 0 ((kP x3 i).2.2.2.2.2)).isSome)) rfl (qI (qX ?_))
   by_cases h9 : (!((stepAtL ([2, 1, 0]) x3 ((kP x3 i).1) 0 ((kP x3 i).2.2.2.2.2)).isSome)) = true
   ·exact absurd h9 (by rw [hrt hpo i (by omega)]; simp)
   rw [Bool.not_eq_true] at h9
   by_cases h10 : ¬(((stepAtL ([2, 1, 0]) x3 ((kP x3 i).1) 0 ((kP x3 i).2.2.2.2.2)).getD []) = ((kP x3 i).2.2.1))
   ·exact absurd (by rw [hrt hpo i (by omega)]; rfl) h10
   refine yN [cellsH b1 [x1, x2] 32, curH .u64 88 cb1 bsv bs.length] L 28 [] [[], [0], [1], [2], [2], [2], [2, 4, 5], [2, 6], [2, 7], [2, 3, 8], [2, 9], [2, 10], [11], [12], [12], [12, 13, 14], [12, 15], [12, 16], [12], [12], [12, 18, 19], [12, 20], [12, 21], [12], [12], [12, 23, 24], [12, 25], [12, 26]] (phiL [qe (.bool ((stepAtL ([2, 1, 0]) x3 ((kP x3 i).1) 0 ((kP x3 i).2.2.2.2.2)).isSome)), qe (.bool (!((stepAtL ([2, 1, 0]) x3 ((kP x3 i).1) 0 ((kP x3 i).2.2.2.2.2)).isSome))), qe (.bool (!((stepAtL ([2, 1, 0]) x3 ((kP x3 i).1) 0 ((kP x3 i).2.2.2.2.2)).isSome))), qe u1, qe x4, qe (ii ((i : Int)) : Value), qe (.pointer (some (elemA x4 (i * 6)))), qe (.pointer (some (elemA x4 (i * 6 + 2)))), qe a3, qe (.bool (decide (((stepAtL ([2, 1, 0]) x3 ((kP x3 i).1) 0 ((kP x3 i).2.2.2.2.2)).getD []) = ((kP x3 i).2.2.1)))), qe (.bool (decide (¬(((stepAtL ([2, 1, 0]) x3 ((kP x3 i).1) 0 ((kP x3 i).2.2.2.2.2)).getD []) = ((kP x3 i).2.2.1))))), qe (.bool (decide (¬(((stepAtL ([2, 1, 0]) x3 ((kP x3 i).1) 0 ((kP x3 i).2.2.2.2.2)).getD []) = ((kP x3 i).2.2.1))))), qe (.bool (decide (¬(((stepAtL ([2, 1, 0]) x3 ((kP x3 i).1) 0 ((kP x3 i).2.2.2.2.2)).getD []) = ((kP x3 i).2.2.1))))), qe x4, qe (ii ((i : Int)) : Value), qe (.pointer (some (elemA x4 (i * 6)))), qe (.agg #[a1, a2, a3, ii ((kP x3 i).2.2.2.1), ii ((kP x3 i).2.2.2.2.1), ii ((kP x3 i).2.2.2.2.2)]), qe (.bool (trivB (((kP x3 i).1), ((kP x3 i).2.1), ((kP x3 i).2.2.1), ((kP x3 i).2.2.2.1), ((kP x3 i).2.2.2.2.1), ((kP x3 i).2.2.2.2.2)))), qe x4, qe (ii ((i : Int)) : Value), qe (.pointer (some (elemA x4 (i * 6)))), qe (.pointer (some (elemA x4 (i * 6 + 1)))), qe a2, qe x4, qe (ii ((i : Int)) : Value), qe (.pointer (some (elemA x4 (i * 6)))), qe (.pointer (some (elemA x4 (i * 6 + 2)))), qe a3]) (ownL []) mixed rfl rfl (by kernel_rfl) ?_ ?_
   ·refine pD (fun W R z9 => ?_) ?_
    ·refine je (jk (.bool ((stepAtL ([2, 1, 0]) x3 ((kP x3 i).1) 0 ((kP x3 i).2.2.2.2.2)).isSome)) rfl ?_)
     exact ⟨rfl, rfl, rfl⟩
    refine pD (fun W R z9 => ?_) ?_
    ·rw [eS (l := [(0, _)]) ⟨z9 0 rfl, ⟨⟩⟩]
     refine je (yR rfl ?_)
     exact ⟨rfl, rfl, rfl⟩
    refine pD (fun W R z9 => ?_) ?_
    ·rw [eS (l := [(1, _)]) ⟨z9 1 rfl, ⟨⟩⟩]
     refine je (jk (.bool (!((stepAtL ([2, 1, 0]) x3 ((kP x3 i).1) 0 ((kP x3 i).2.2.2.2.2)).isSome))) rfl ?_)
     exact ⟨rfl, rfl, rfl⟩
    refine pD (fun W R z9 => ?_) ?_
    ·rw [eS (l := [(2, _)]) ⟨z9 2 rfl, ⟨⟩⟩]
     refine yh (t := 107) rfl (vB h9) (jk (u1) rfl ?_)
     exact ⟨rfl, rfl, rfl⟩
    refine pD (fun W R z9 => ?_) ?_
    ·rw [eS (l := [(2, _)]) ⟨z9 2 rfl, ⟨⟩⟩]
     refine yh (t := 107) rfl (vB h9) (jk (x4) rfl ?_)
     exact ⟨rfl, rfl, rfl⟩
    refine pD (fun W R z9 => ?_) ?_
    ·rw [eS (l := [(2, _)]) ⟨z9 2 rfl, ⟨⟩⟩]
     refine yh (t := 107) rfl (vB h9) (jk (ii ((i : Int))) rfl ?_)
     exact ⟨rfl, rfl, rfl⟩
    refine pD (fun W R z9 => ?_) ?_
    ·rw [eS (l := [(2, _), (4, _), (5, _)]) ⟨z9 2 rfl, z9 4 rfl, z9 5 rfl, ⟨⟩⟩]
     refine yh (t := 107) rfl (vB h9) (jq i yG yC rfl rfl rfl hr4.slv (by omega) rfl ?_)
     exact ⟨rfl, rfl, rfl⟩
    refine pD (fun W R z9 => ?_) ?_
    ·rw [eS (l := [(2, _), (6, _)]) ⟨z9 2 rfl, z9 6 rfl, ⟨⟩⟩]
     refine yh (t := 107) rfl (vB h9) (Qh (i * 6 + 2) yg rfl jF (by decide) rfl rfl ?_)
     exact ⟨rfl, rfl, rfl⟩
    refine pD (fun W R z9 => ?_) ?_
    ·rw [eS (l := [(2, _), (7, _)]) ⟨z9 2 rfl, z9 7 rfl, ⟨⟩⟩]
     refine yh (t := 107) rfl (vB h9) (jj yt rfl (hrg1 _ 2 _ rfl) ?_)
     exact ⟨rfl, rfl, rfl⟩
    refine pD (fun W R z9 => ?_) ?_
    ·rw [eS (l := [(2, _), (3, _), (8, _)]) ⟨z9 2 rfl, z9 3 rfl, z9 8 rfl, ⟨⟩⟩]
     refine yh (t := 107) rfl (vB h9) (jL (args := [u1, a3]) call18 rfl (likeInts_spec f11_4hr ha3 (hbd := (by first | (refine Or.inr ?_; first | (have h9 := hnbi (by omega); omega) | (have h9 := hnbj (by omega); omega)) | (refine Or.inl ?_; first | (have h9 := hnbi (by omega); omega) | (have h9 := hnbj (by omega); omega))))) ?_)
     rintro _ _ _ _ ⟨rfl, rfl, rfl⟩
     exact ⟨rfl, rfl, rfl⟩
    refine pD (fun W R z9 => ?_) ?_
    ·rw [eS (l := [(2, _), (9, _)]) ⟨z9 2 rfl, z9 9 rfl, ⟨⟩⟩]
     refine yh (t := 107) rfl (vB h9) (Qw rfl ?_)
     exact ⟨rfl, rfl, rfl⟩
    refine pD (fun W R z9 => ?_) ?_
    ·rw [eS (l := [(2, _), (10, _)]) ⟨z9 2 rfl, z9 10 rfl, ⟨⟩⟩]
     refine je (yl (.bool (decide (¬(((stepAtL ([2, 1, 0]) x3 ((kP x3 i).1) 0 ((kP x3 i).2.2.2.2.2)).getD []) = ((kP x3 i).2.2.1))))) (vB h9) rfl ?_)
     exact ⟨rfl, rfl, rfl⟩
    refine pD (fun W R z9 => ?_) ?_
    ·rw [eS (l := [(11, _)]) ⟨z9 11 rfl, ⟨⟩⟩]
     refine je (jk (.bool (decide (¬(((stepAtL ([2, 1, 0]) x3 ((kP x3 i).1) 0 ((kP x3 i).2.2.2.2.2)).getD []) = ((kP x3 i).2.2.1))))) rfl ?_)
     exact ⟨rfl, rfl, rfl⟩
    refine pD (fun W R z9 => ?_) ?_
    ·rw [eS (l := [(12, _)]) ⟨z9 12 rfl, ⟨⟩⟩]
     refine yh (t := 117) rfl (vF h10) (jk (x4) rfl ?_)
     exact ⟨rfl, rfl, rfl⟩
    refine pD (fun W R z9 => ?_) ?_
    ·rw [eS (l := [(12, _)]) ⟨z9 12 rfl, ⟨⟩⟩]
     refine yh (t := 117) rfl (vF h10) (jk (ii ((i : Int))) rfl ?_)
     exact ⟨rfl, rfl, rfl⟩
    refine pD (fun W R z9 => ?_) ?_
    ·rw [eS (l := [(12, _), (13, _), (14, _)]) ⟨z9 12 rfl, z9 13 rfl, z9 14 rfl, ⟨⟩⟩]
     refine yh (t := 117) rfl (vF h10) (jq i yG yC rfl rfl rfl hr4.slv (by omega) rfl ?_)
     exact ⟨rfl, rfl, rfl⟩
    refine pD (fun W R z9 => ?_) ?_
    ·rw [eS (l := [(12, _), (15, _)]) ⟨z9 12 rfl, z9 15 rfl, ⟨⟩⟩]
     refine yh (t := 117) rfl (vF h10) (yc [a1, a2, a3, ii ((kP x3 i).2.2.2.1), ii ((kP x3 i).2.2.2.2.1), ii ((kP x3 i).2.2.2.2.2)] Qy yC rfl rfl (Rd.all (hrg1 _)) ?_)
     exact ⟨rfl, rfl, rfl⟩
    refine pD (fun W R z9 => ?_) ?_
    ·rw [eS (l := [(12, _), (16, _)]) ⟨z9 12 rfl, z9 16 rfl, ⟨⟩⟩]
     refine yh (t := 117) rfl (vF h10) (jL (args := [.agg #[a1, a2, a3, ii ((kP x3 i).2.2.2.1), ii ((kP x3 i).2.2.2.2.1), ii ((kP x3 i).2.2.2.2.2)]]) call59 rfl (TrivialPeak_spec ha1 ha2 ha3 (hb2 := (by first | (have h9 := hnbi (by omega); omega) | (have h9 := hnbj (by omega); omega))) (hb3 := (by first | (have h9 := hnbi (by omega); omega) | (have h9 := hnbj (by omega); omega)))) ?_)
     rintro _ _ _ _ ⟨rfl, rfl, rfl⟩
     exact ⟨rfl, rfl, rfl⟩
    refine pD (fun W R z9 => ?_) ?_
    ·rw [eS (l := [(12, _)]) ⟨z9 12 rfl, ⟨⟩⟩]
     refine yh (t := 117) rfl (vF h10) (jk (x4) rfl ?_)
     exact ⟨rfl, rfl, rfl⟩
    refine pD (fun W R z9 => ?_) ?_
    ·rw [eS (l := [(12, _)]) ⟨z9 12 rfl, ⟨⟩⟩]
     refine yh (t := 117) rfl (vF h10) (jk (ii ((i : Int))) rfl ?_)
     exact ⟨rfl, rfl, rfl⟩
    refine pD (fun W R z9 => ?_) ?_
    ·rw [eS (l := [(12, _), (18, _), (19, _)]) ⟨z9 12 rfl, z9 18 rfl, z9 19 rfl, ⟨⟩⟩]
     refine yh (t := 117) rfl (vF h10) (jq i yG yC rfl rfl rfl hr4.slv (by omega) rfl ?_)
     exact ⟨rfl, rfl, rfl⟩
    refine pD (fun W R z9 => ?_) ?_
    ·rw [eS (l := [(12, _), (20, _)]) ⟨z9 12 rfl, z9 20 rfl, ⟨⟩⟩]
     refine yh (t := 117) rfl (vF h10) (Qh (i * 6 + 1) yg rfl jF (by decide) rfl rfl ?_)
     exact ⟨rfl, rfl, rfl⟩
    refine pD (fun W R z9 => ?_) ?_
    ·rw [eS (l := [(12, _), (21, _)]) ⟨z9 12 rfl, z9 21 rfl, ⟨⟩⟩]
     refine yh (t := 117) rfl (vF h10) (jj yt rfl (hrg1 _ 1 _ rfl) ?_)
     exact ⟨rfl, rfl, rfl⟩
    refine pD (fun W R z9 => ?_) ?_
    ·rw [eS (l := [(12, _)]) ⟨z9 12 rfl, ⟨⟩⟩]
     refine yh (t := 117) rfl (vF h10) (jk (x4) rfl ?_)
     exact ⟨rfl, rfl, rfl⟩
    refine pD (fun W R z9 => ?_) ?_
    ·rw [eS (l := [(12, _)]) ⟨z9 12 rfl, ⟨⟩⟩]
     refine yh (t := 117) rfl (vF h10) (jk (ii ((i : Int))) rfl ?_)
     exact ⟨rfl, rfl, rfl⟩
    refine pD (fun W R z9 => ?_) ?_
    ·rw [eS (l := [(12, _), (23, _), (24, _)]) ⟨z9 12 rfl, z9 23 rfl, z9 24 rfl, ⟨⟩⟩]
     refine yh (t := 117) rfl (vF h10) (jq i yG yC rfl rfl rfl hr4.slv (by omega) rfl ?_)
     exact ⟨rfl, rfl, rfl⟩
    refine pD (fun W R z9 => ?_) ?_
    ·rw [eS (l := [(12, _), (25, _)]) ⟨z9 12 rfl, z9 25 rfl, ⟨⟩⟩]
     refine yh (t := 117) rfl (vF h10) (Qh (i * 6 + 2) yg rfl jF (by decide) rfl rfl ?_)
     exact ⟨rfl, rfl, rfl⟩
    refine pD (fun W R z9 => ?_) ?_
    ·rw [eS (l := [(12, _), (26, _)]) ⟨z9 12 rfl, z9 26 rfl, ⟨⟩⟩]
     refine yh (t := 117) rfl (vF h10) (jj yt rfl (hrg1 _ 2 _ rfl) ?_)
     exact ⟨rfl, rfl, rfl⟩
    exact stepsP.nil
   intro W hphi
   rw [eS (l := [(12, _), (17, _), (22, _), (27, _)]) ⟨(hphi 12 (by decide)), (hphi 17 (by decide)), (hphi 22 (by decide)), (hphi 27 (by decide)), ⟨⟩⟩]
   show XL _ _ _ _ _ _ _ (cellsH b1 [x1, x2] 32 :: curH .u64 88 cb1 bsv bs.length :: L)
   refine jB (t := 117) rfl (vF h10) (jL (args := [a2, a3]) call18 rfl (likeInts_spec ha2 ha3 (hbd := (by first | (refine Or.inr ?_; first | (have h9 := hnbi (by omega); omega) | (have h9 := hnbj (by omega); omega)) | (refine Or.inl ?_; first | (have h9 := hnbi (by omega); omega) | (have h9 := hnbj (by omega); omega))))) ?_)
   rintro _ _ _ _ ⟨rfl, rfl, rfl⟩
   refine jB (t := 117) rfl (vF h10) (XOp.neB (a := trivB (((kP x3 i).1), ((kP x3 i).2.1), ((kP x3 i).2.2.1), ((kP x3 i).2.2.2.1), ((kP x3 i).2.2.2.2.1), ((kP x3 i).2.2.2.2.2))) (b := decide (((kP x3 i).2.1) = ((kP x3 i).2.2.1))) runUnderlying4 rfl rfl (cX (yl (.bool (decide ((trivB (((kP x3 i).1), ((kP x3 i).2.1), ((kP x3 i).2.2.1), ((kP x3 i).2.2.2.1), ((kP x3 i).2.2.2.2.1), ((kP x3 i).2.2.2.2.2))) ≠ (decide (((kP x3 i).2.1) = ((kP x3 i).2.2.1)))))) (vF h10) rfl (qI ?_))))
   refine jV (p := (trivB (((kP x3 i).1), ((kP x3 i).2.1), ((kP x3 i).2.2.1), ((kP x3 i).2.2.2.1), ((kP x3 i).2.2.2.2.1), ((kP x3 i).2.2.2.2.2))) ≠ (decide (((kP x3 i).2.1) = ((kP x3 i).2.2.1)))) rfl (fun h11 => ?_) (fun h11 => ?_)
   ·exact absurd rfl h11
   refine jU (qH (jb (ii ((i : Int))) rfl (cX (yj (((i + 1 : Nat) : Int)) rfl rfl (by omega) (by omega) (jc (ii (((i + 1 : Nat) : Int))) rfl (qI ?_))))))
   exact ⟨(i + 1, F8), _, (jl (jl leG3 le5) le8), rF, ⟨rfl, rfl, rfl, rfl, ⟨⟩⟩, (sC (sC sR)), ⟨rfl, (jl (jl leG3 le5) le8), (by (try dsimp only) <;> omega)⟩, (by omega)⟩
  refine yN [cellsH b1 [x1, x2] 32, curH .u64 88 cb1 bsv bs.length] L 20 [] [[], [], [], [1, 2], [3], [0, 4], [5], [6], [7], [7, 8], [7, 9], [10], [10], [10, 12], [10, 11, 13], [10, 14], [10], [10], [10, 16, 17], [10, 18]] (phiL [qe (.agg #[x1, x2]), qe x4, qe (ii ((i : Int)) : Value), qe (.pointer (some (elemA x4 (i * 6)))), qe (.agg #[a1, a2, a3, ii ((kP x3 i).2.2.2.1), ii ((kP x3 i).2.2.2.2.1), ii ((kP x3 i).2.2.2.2.2)]), qe (.bool (peakL ([2, 1, 0]) x3 ((kP x3 i).1) ((kP x3 i).2.1) ((kP x3 i).2.2.1) ((kP x3 i).2.2.2.1) ((kP x3 i).2.2.2.2.1) ((kP x3 i).2.2.2.2.2))), qe (.bool (!(peakL ([2, 1, 0]) x3 ((kP x3 i).1) ((kP x3 i).2.1) ((kP x3 i).2.2.1) ((kP x3 i).2.2.2.1) ((kP x3 i).2.2.2.2.1) ((kP x3 i).2.2.2.2.2)))), qe (.bool (!(peakL ([2, 1, 0]) x3 ((kP x3 i).1) ((kP x3 i).2.1) ((kP x3 i).2.2.1) ((kP x3 i).2.2.2.1) ((kP x3 i).2.2.2.2.1) ((kP x3 i).2.2.2.2.2)))), qe (ii ((i : Int)) : Value), qe (.bool (decide ((i : Int) > 0)) : Value), qe (.bool (decide ((i : Int) > 0)) : Value), qe undef, qe undef, qe undef, qe undef, qe undef, qe undef, qe undef, qe undef, qe undef]) (ownL []) mixed rfl rfl (by kernel_rfl) ?_ ?_
  ·refine pD (fun W R z9 => ?_) ?_
   ·refine je (yc [x1, x2] yY yP rfl rfl (Rd.ownN [] rfl rfl) ?_)
    exact ⟨rfl, rfl, rfl⟩
   refine pD (fun W R z9 => ?_) ?_
   ·refine je (jk (x4) rfl ?_)
    exact ⟨rfl, rfl, rfl⟩
   refine pD (fun W R z9 => ?_) ?_
   ·refine je (jk (ii ((i : Int))) rfl ?_)
    exact ⟨rfl, rfl, rfl⟩
   refine pD (fun W R z9 => ?_) ?_
   ·rw [eS (l := [(1, _), (2, _)]) ⟨z9 1 rfl, z9 2 rfl, ⟨⟩⟩]
    refine je (jq i yG yC rfl rfl rfl hr4.slv (by omega) rfl ?_)
    exact ⟨rfl, rfl, rfl⟩
   refine pD (fun W R z9 => ?_) ?_
   ·rw [eS (l := [(3, _)]) ⟨z9 3 rfl, ⟨⟩⟩]
    refine je (yc [a1, a2, a3, ii ((kP x3 i).2.2.2.1), ii ((kP x3 i).2.2.2.2.1), ii ((kP x3 i).2.2.2.2.2)] Qy yC rfl rfl (Rd.all (hrg1 _)) ?_)
    exact ⟨rfl, rfl, rfl⟩
   refine pD (fun W R z9 => ?_) ?_
   ·rw [eS (l := [(0, _), (4, _)]) ⟨z9 0 rfl, z9 4 rfl, ⟨⟩⟩]
    refine je (jL (args := [.agg #[x1, x2], .agg #[a1, a2, a3, ii ((kP x3 i).2.2.2.1), ii ((kP x3 i).2.2.2.2.1), ii ((kP x3 i).2.2.2.2.2)]]) call58 rfl (sPeakOk_spec hr1 hr2 ha1 ha2 ha3 (hla := (by first | assumption | rfl | omega | simp)) (hlr := (by first | assumption | rfl | omega | simp)) (hrb := (by first | assumption | rfl | omega | simp)) (hlt0 := (by first | (have h9 := hnbi (by omega); omega) | (have h9 := hnbj (by omega); omega))) (hll0 := (by first | (have h9 := hnbi (by omega); omega) | (have h9 := hnbj (by omega); omega))) (hlr0 := (by first | (have h9 := hnbi (by omega); omega) | (have h9 := hnbj (by omega); omega)))) ?_)
    rintro _ _ _ _ ⟨rfl, rfl, rfl⟩
    exact ⟨rfl, rfl, rfl⟩
   refine pD (fun W R z9 => ?_) ?_
   ·rw [eS (l := [(5, _)]) ⟨z9 5 rfl, ⟨⟩⟩]
    refine je (yR rfl ?_)
    exact ⟨rfl, rfl, rfl⟩
   refine pD (fun W R z9 => ?_) ?_
   ·rw [eS (l := [(6, _)]) ⟨z9 6 rfl, ⟨⟩⟩]
    refine je (jk (.bool (!(peakL ([2, 1, 0]) x3 ((kP x3 i).1) ((kP x3 i).2.1) ((kP x3 i).2.2.1) ((kP x3 i).2.2.2.1) ((kP x3 i).2.2.2.2.1) ((kP x3 i).2.2.2.2.2)))) rfl ?_)
    exact ⟨rfl, rfl, rfl⟩
   refine pD (fun W R z9 => ?_) ?_
   ·rw [eS (l := [(7, _)]) ⟨z9 7 rfl, ⟨⟩⟩]
    refine yh (t := 74) rfl (vB h6) (jk (ii ((i : Int))) rfl ?_)
    exact ⟨rfl, rfl, rfl⟩
   refine pD (fun W R z9 => ?_) ?_
   ·rw [eS (l := [(7, _), (8, _)]) ⟨z9 7 rfl, z9 8 rfl, ⟨⟩⟩]
    refine yh (t := 74) rfl (vB h6) (Qf rfl rfl ?_)
    exact ⟨rfl, rfl, rfl⟩
   refine pD (fun W R z9 => ?_) ?_
   ·rw [eS (l := [(7, _), (9, _)]) ⟨z9 7 rfl, z9 9 rfl, ⟨⟩⟩]
    refine yh (t := 74) rfl (vB h6) (jk (.bool (decide ((i : Int) > 0))) rfl ?_)
    exact ⟨rfl, rfl, rfl⟩
   refine pD (fun W R z9 => ?_) ?_
   ·rw [eS (l := [(10, _)]) ⟨z9 10 rfl, ⟨⟩⟩]
    exact yA (t := 77) rfl (vF h7) ⟨rfl, rfl, rfl⟩
   refine pD (fun W R z9 => ?_) ?_
   ·rw [eS (l := [(10, _)]) ⟨z9 10 rfl, ⟨⟩⟩]
    exact yA (t := 77) rfl (vF h7) ⟨rfl, rfl, rfl⟩
   refine pD (fun W R z9 => ?_) ?_
   ·rw [eS (l := [(10, _), (12, undef)]) ⟨z9 10 rfl, z9 12 rfl, ⟨⟩⟩]
    exact yA (t := 77) rfl (vF h7) ⟨rfl, rfl, rfl⟩
   refine pD (fun W R z9 => ?_) ?_
   ·rw [eS (l := [(10, _), (11, undef), (13, undef)]) ⟨z9 10 rfl, z9 11 rfl, z9 13 rfl, ⟨⟩⟩]
    exact yA (t := 77) rfl (vF h7) ⟨rfl, rfl, rfl⟩
   refine pD (fun W R z9 => ?_) ?_
   ·rw [eS (l := [(10, _), (14, undef)]) ⟨z9 10 rfl, z9 14 rfl, ⟨⟩⟩]
    exact yA (t := 77) rfl (vF h7) ⟨rfl, rfl, rfl⟩
   refine pD (fun W R z9 => ?_) ?_
   ·rw [eS (l := [(10, _)]) ⟨z9 10 rfl, ⟨⟩⟩]
    exact yA (t := 77) rfl (vF h7) ⟨rfl, rfl, rfl⟩
   refine pD (fun W R z9 => ?_) ?_
   ·rw [eS (l := [(10, _)]) ⟨z9 10 rfl, ⟨⟩⟩]
    exact yA (t := 77) rfl (vF h7) ⟨rfl, rfl, rfl⟩
   refine pD (fun W R z9 => ?_) ?_
   ·rw [eS (l := [(10, _), (16, undef), (17, undef)]) ⟨z9 10 rfl, z9 16 rfl, z9 17 rfl, ⟨⟩⟩]
    exact yA (t := 77) rfl (vF h7) ⟨rfl, rfl, rfl⟩
   refine pD (fun W R z9 => ?_) ?_
   ·rw [eS (l := [(10, _), (18, undef)]) ⟨z9 10 rfl, z9 18 rfl, ⟨⟩⟩]
    exact yA (t := 77) rfl (vF h7) ⟨rfl, rfl, rfl⟩
   exact stepsP.nil
  intro W hphi
  rw [eS (l := [(7, _), (10, _), (15, undef), (19, undef)]) ⟨(hphi 7 (by decide)), (hphi 10 (by decide)), (hphi 15 (by decide)), (hphi 19 (by decide)), ⟨⟩⟩]
  show XL _ _ _ _ _ _ _ (cellsH b1 [x1, x2] 32 :: curH .u64 88 cb1 bsv bs.length :: L)
  refine jA (t := 77) rfl (vF h7) (jB (t := 74) rfl (vB h6) (yl (.bool (false)) (vF h7) rfl (cX (yl (.bool (false)) (vB h6) rfl (qI (yV rfl (jU (qX ?_))))))))
  refine X.drawG [cellsH b1 [x1, x2] 32, curH .u64 88 cb1 bsv bs.length] L 16 [[], [], [], [], [], [], [], [], [], [], [], [], [11], [11], [], [11]] [[], [], [], [1, 2], [3], [4], [], [], [6, 7], [8], [9], [0, 5, 10], [11], [11, 12], [11, 12], [11, 13]] [] (phiG [pe (.agg #[x1, x2]), pe x4, pe (ii ((i : Int)) : Value), pe (.pointer (some (elemA x4 (i * 6)))), pe (.pointer (some (elemA x4 (i * 6)))), pe a1, pe x4, pe (ii ((i : Int)) : Value), pe (.pointer (some (elemA x4 (i * 6)))), pe (.pointer (some (elemA x4 (i * 6 + 5)))), pe (ii ((kP x3 i).2.2.2.2.2)), fun FF us v => (.tuple #[((tupAt v 0)), .bool ((stepAtL ([2, 1, 0]) x3 ((kP x3 i).1) 0 ((kP x3 i).2.2.2.2.2)).isSome)] : Value) = v ∧ (IntsF FF ((tupAt v 0)) ((stepAtL ([2, 1, 0]) x3 ((kP x3 i).1) 0 ((kP x3 i).2.2.2.2.2)).getD [])), fun FF us v => v = (.tuple #[((tupAt (us.getD 0 undef) 0)), .bool ((stepAtL ([2, 1, 0]) x3 ((kP x3 i).1) 0 ((kP x3 i).2.2.2.2.2)).isSome)] : Value), fun FF us v => v = ((tupAt (us.getD 0 undef) 0)), pe (.bool ((stepAtL ([2, 1, 0]) x3 ((kP x3 i).1) 0 ((kP x3 i).2.2.2.2.2)).isSome)), fun FF us v => v = ((tupAt (us.getD 0 undef) 0))]) (ownL []) mixed rfl rfl (by kernel_rfl) (by kernel_rfl) (MonoG.get (m1 (m1 (m1 (m1 (m1 (m1 (m1 (m1 (m1 (m1 (m1 (mC (fun le h => ⟨h.1, h.2.mono le⟩) (mC (fun le h => h) (mC (fun le h => h) (m1 (mC (fun le h => h) MonoG.nil))))))))))))))))) ?_ ?_
  ·refine gD (fun W Fs R lF z9 => ?_) ?_
   ·replace hbs := hbs.mono lF
    replace hr1 := hr1.mono lF
    replace hr2 := hr2.mono lF
    replace hr4 := hr4.mono lF
    replace ha1 := ha1.mono lF
    replace ha2 := ha2.mono lF
    replace ha3 := ha3.mono lF
    replace hrg1 := fun L9 j9 u9 h9 => Rd.mono (hrg1 L9 j9 u9 h9) lF
    refine je (yc [x1, x2] yY yP rfl rfl (Rd.ownN [] rfl rfl) ?_)
    exact ⟨rfl, rfl⟩
   refine gD (fun W Fs R lF z9 => ?_) ?_
   ·refine je (jk (x4) rfl ?_)
    exact ⟨rfl, rfl⟩
   refine gD (fun W Fs R lF z9 => ?_) ?_
   ·refine je (jk (ii ((i : Int))) rfl ?_)
    exact ⟨rfl, rfl⟩
   refine gD (fun W Fs R lF z9 => ?_) ?_
   ·replace hbs := hbs.mono lF
    replace hr1 := hr1.mono lF
    replace hr2 := hr2.mono lF
    replace hr4 := hr4.mono lF
    replace ha1 := ha1.mono lF
    replace ha2 := ha2.mono lF
    replace ha3 := ha3.mono lF
    replace hrg1 := fun L9 j9 u9 h9 => Rd.mono (hrg1 L9 j9 u9 h9) lF
    rw [eS (l := [(1, _), (2, _)]) ⟨z9 1 rfl, z9 2 rfl, ⟨⟩⟩]
    refine je (jq i yG yC rfl rfl rfl hr4.slv (by omega) rfl ?_)
    exact ⟨rfl, rfl⟩
   refine gD (fun W Fs R lF z9 => ?_) ?_
   ·rw [eS (l := [(3, _)]) ⟨z9 3 rfl, ⟨⟩⟩]
    refine je (Qh (i * 6) yg rfl jF (by decide) rfl rfl ?_)
    exact ⟨rfl, rfl⟩
   refine gD (fun W Fs R lF z9 => ?_) ?_
   ·replace hbs := hbs.mono lF
    replace hr1 := hr1.mono lF
    replace hr2 := hr2.mono lF
    replace hr4 := hr4.mono lF
    replace ha1 := ha1.mono lF
    replace ha2 := ha2.mono lF
    replace ha3 := ha3.mono lF
    replace hrg1 := fun L9 j9 u9 h9 => Rd.mono (hrg1 L9 j9 u9 h9) lF
    rw [eS (l := [(4, _)]) ⟨z9 4 rfl, ⟨⟩⟩]
    refine je (jj yt rfl (hrg1 _ 0 _ rfl) ?_)
    exact ⟨rfl, rfl⟩
   refine gD (fun W Fs R lF z9 => ?_) ?_
   ·refine je (jk (x4) rfl ?_)
    exact ⟨rfl, rfl⟩
   refine gD (fun W Fs R lF z9 => ?_) ?_
   ·refine je (jk (ii ((i : Int))) rfl ?_)
    exact ⟨rfl, rfl⟩
   refine gD (fun W Fs R lF z9 => ?_) ?_
   ·replace hbs := hbs.mono lF
    replace hr1 := hr1.mono lF
    replace hr2 := hr2.mono lF
    replace hr4 := hr4.mono lF
    replace ha1 := ha1.mono lF
    replace ha2 := ha2.mono lF
    replace ha3 := ha3.mono lF
    replace hrg1 := fun L9 j9 u9 h9 => Rd.mono (hrg1 L9 j9 u9 h9) lF
    rw [eS (l := [(6, _), (7, _)]) ⟨z9 6 rfl, z9 7 rfl, ⟨⟩⟩]
    refine je (jq i yG yC rfl rfl rfl hr4.slv (by omega) rfl ?_)
    exact ⟨rfl, rfl⟩
   refine gD (fun W Fs R lF z9 => ?_) ?_
   ·rw [eS (l := [(8, _)]) ⟨z9 8 rfl, ⟨⟩⟩]
    refine je (Qh (i * 6 + 5) yg rfl js (by decide) rfl rfl ?_)
    exact ⟨rfl, rfl⟩
   refine gD (fun W Fs R lF z9 => ?_) ?_
   ·replace hbs := hbs.mono lF
    replace hr1 := hr1.mono lF
    replace hr2 := hr2.mono lF
    replace hr4 := hr4.mono lF
    replace ha1 := ha1.mono lF
    replace ha2 := ha2.mono lF
    replace ha3 := ha3.mono lF
    replace hrg1 := fun L9 j9 u9 h9 => Rd.mono (hrg1 L9 j9 u9 h9) lF
    rw [eS (l := [(9, _)]) ⟨z9 9 rfl, ⟨⟩⟩]
    refine je (jj yd rfl (hrg1 _ 5 _ rfl) ?_)
    exact ⟨rfl, rfl⟩
   refine gD (fun W Fs R lF z9 => ?_) ?_
   ·replace hbs := hbs.mono lF
    replace hr1 := hr1.mono lF
    replace hr2 := hr2.mono lF
    replace hr4 := hr4.mono lF
    replace ha1 := ha1.mono lF
    replace ha2 := ha2.mono lF
    replace ha3 := ha3.mono lF
    replace hrg1 := fun L9 j9 u9 h9 => Rd.mono (hrg1 L9 j9 u9 h9) lF
    rw [eS (l := [(0, _), (5, _), (10, _)]) ⟨z9 0 rfl, z9 5 rfl, z9 10 rfl, ⟨⟩⟩]
    refine je (jL (args := [.agg #[x1, x2], a1, ii (0), ii ((kP x3 i).2.2.2.2.2)]) call49 rfl (sStepAt_spec (p := 0) (r := (kP x3 i).2.2.2.2.2) hr1 hr2 ha1 (hla := (by first | assumption | rfl | omega | simp)) (hlr := (by first | assumption | rfl | omega | simp)) (hrb := (by first | assumption | rfl | omega | simp)) (hlt := (by first | (have h9 := hnbi (by omega); omega) | (have h9 := hnbj (by omega); omega)))) ?_)
    rintro _ F10 _ le10 ⟨x9, rfl, hr10, rfl⟩
    replace hr4 := hr4.mono le10
    replace ha1 := ha1.mono le10
    replace ha2 := ha2.mono le10
    replace ha3 := ha3.mono le10
    replace hrg1 := fun L9 j9 u9 h9 => Rd.mono (hrg1 L9 j9 u9 h9) le10
    exact ⟨⟨rfl, hr10⟩, rfl⟩
   refine gD (fun W Fs R lF z9 => ?_) ?_
   ·obtain ⟨e11, f11_9hr⟩ := z9 11 rfl
    rw [eS (l := [(11, (.tuple #[((tupAt (W 11) 0)), .bool ((stepAtL ([2, 1, 0]) x3 ((kP x3 i).1) 0 ((kP x3 i).2.2.2.2.2)).isSome)]))]) ⟨(e11).symm, ⟨⟩⟩]
    refine je (jk (.tuple #[((tupAt (W 11) 0)), .bool ((stepAtL ([2, 1, 0]) x3 ((kP x3 i).1) 0 ((kP x3 i).2.2.2.2.2)).isSome)]) rfl ?_)
    exact ⟨rfl, rfl⟩
   refine gD (fun W Fs R lF z9 => ?_) ?_
   ·obtain ⟨e11, f11_9hr⟩ := z9 11 rfl
    have e12 : W 12 = (.tuple #[((tupAt (W 11) 0)), .bool ((stepAtL ([2, 1, 0]) x3 ((kP x3 i).1) 0 ((kP x3 i).2.2.2.2.2)).isSome)] : Value) := z9 12 rfl
    rw [eS (l := [(11, (.tuple #[((tupAt (W 11) 0)), .bool ((stepAtL ([2, 1, 0]) x3 ((kP x3 i).1) 0 ((kP x3 i).2.2.2.2.2)).isSome)])), (12, (.tuple #[((tupAt (W 11) 0)), .bool ((stepAtL ([2, 1, 0]) x3 ((kP x3 i).1) 0 ((kP x3 i).2.2.2.2.2)).isSome)]))]) ⟨(e11).symm, e12, ⟨⟩⟩]
    refine je (yr (((tupAt (W 11) 0))) rfl rfl ?_)
    exact ⟨rfl, rfl⟩
   refine gD (fun W Fs R lF z9 => ?_) ?_
   ·obtain ⟨e11, f11_9hr⟩ := z9 11 rfl
    have e12 : W 12 = (.tuple #[((tupAt (W 11) 0)), .bool ((stepAtL ([2, 1, 0]) x3 ((kP x3 i).1) 0 ((kP x3 i).2.2.2.2.2)).isSome)] : Value) := z9 12 rfl
    rw [eS (l := [(11, (.tuple #[((tupAt (W 11) 0)), .bool ((stepAtL ([2, 1, 0]) x3 ((kP x3 i).1) 0 ((kP x3 i).2.2.2.2.2)).isSome)])), (12, (.tuple #[((tupAt (W 11) 0)), .bool ((stepAtL ([2, 1, 0]) x3 ((kP x3 i).1) 0 ((kP x3 i).2.2.2.2.2)).isSome)]))]) ⟨(e11).symm, e12, ⟨⟩⟩]
    refine je (yr (.bool ((stepAtL ([2, 1, 0]) x3 ((kP x3 i).1) 0 ((kP x3 i).2.2.2.2.2)).isSome)) rfl rfl ?_)
    exact ⟨rfl, rfl⟩
   refine gD (fun W Fs R lF z9 => ?_) ?_
   ·obtain ⟨e11, f11_9hr⟩ := z9 11 rfl
    have e13 : W 13 = ((tupAt (W 11) 0)) := z9 13 rfl
    rw [eS (l := [(11, (.tuple #[((tupAt (W 11) 0)), .bool ((stepAtL ([2, 1, 0]) x3 ((kP x3 i).1) 0 ((kP x3 i).2.2.2.2.2)).isSome)])), (13, ((tupAt (W 11) 0)))]) ⟨(e11).symm, e13, ⟨⟩⟩]
    refine je (XOp.assign (((tupAt (W 11) 0))) rfl ?_)
    exact ⟨rfl, rfl⟩
   exact stepsG.nil
  intro W F11 le11 hphi
  obtain ⟨e11, f11_9hr⟩ := hphi 11 (by decide)
  have e12 : W 12 = (.tuple #[((tupAt (W 11) 0)), .bool ((stepAtL ([2, 1, 0]) x3 ((kP x3 i).1) 0 ((kP x3 i).2.2.2.2.2)).isSome)] : Value) := hphi 12 (by decide)
  have e13 : W 13 = ((tupAt (W 11) 0)) := hphi 13 (by decide)
  have e15 : W 15 = ((tupAt (W 11) 0)) := hphi 15 (by decide)
  generalize hu2 : ((tupAt (W 11) 0)) = u2 at e11 f11_9hr e12 e13 e15
  rw [eS (l := [(11, (.tuple #[u2, .bool ((stepAtL ([2, 1, 0]) x3 ((kP x3 i).1) 0 ((kP x3 i).2.2.2.2.2)).isSome)])), (14, _), (15, u2)]) ⟨(e11).symm, (hphi 14 (by decide)), e15, ⟨⟩⟩]
  replace hr4 := hr4.mono le11
  replace ha1 := ha1.mono le11
  replace ha2 := ha2.mono le11
  replace ha3 := ha3.mono le11
  replace hrg1 := fun L9 j9 u9 h9 => Rd.mono (hrg1 L9 j9 u9 h9) le11
  show XL _ _ _ _ _ _ _ (cellsH b1 [x1, x2] 32 :: curH .u64 88 cb1 bsv bs.length :: L)
  refine jc (.bool ((stepAtL ([2, 1, 0]) x3 ((kP x3 i).1) 0 ((kP x3 i).2.2.2.2.2)).isSome)) rfl (qI (qX ?_))
  by_cases h12 : (!((stepAtL ([2, 1, 0]) x3 ((kP x3 i).1) 0 ((kP x3 i).2.2.2.2.2)).isSome)) = true
  ·exact absurd h12 (by rw [hrt hpo i (by omega)]; simp)
  rw [Bool.not_eq_true] at h12
  by_cases h13 : ¬(((stepAtL ([2, 1, 0]) x3 ((kP x3 i).1) 0 ((kP x3 i).2.2.2.2.2)).getD []) = ((kP x3 i).2.2.1))
  ·exact absurd (by rw [hrt hpo i (by omega)]; rfl) h13
  refine yN [cellsH b1 [x1, x2] 32, curH .u64 88 cb1 bsv bs.length] L 28 [] [[], [0], [1], [2], [2], [2], [2, 4, 5], [2, 6], [2, 7], [2, 3, 8], [2, 9], [2, 10], [11], [12], [12], [12, 13, 14], [12, 15], [12, 16], [12], [12], [12, 18, 19], [12, 20], [12, 21], [12], [12], [12, 23, 24], [12, 25], [12, 26]] (phiL [qe (.bool ((stepAtL ([2, 1, 0]) x3 ((kP x3 i).1) 0 ((kP x3 i).2.2.2.2.2)).isSome)), qe (.bool (!((stepAtL ([2, 1, 0]) x3 ((kP x3 i).1) 0 ((kP x3 i).2.2.2.2.2)).isSome))), qe (.bool (!((stepAtL ([2, 1, 0]) x3 ((kP x3 i).1) 0 ((kP x3 i).2.2.2.2.2)).isSome))), qe u2, qe x4, qe (ii ((i : Int)) : Value), qe (.pointer (some (elemA x4 (i * 6)))), qe (.pointer (some (elemA x4 (i * 6 + 2)))), qe a3, qe (.bool (decide (((stepAtL ([2, 1, 0]) x3 ((kP x3 i).1) 0 ((kP x3 i).2.2.2.2.2)).getD []) = ((kP x3 i).2.2.1)))), qe (.bool (decide (¬(((stepAtL ([2, 1, 0]) x3 ((kP x3 i).1) 0 ((kP x3 i).2.2.2.2.2)).getD []) = ((kP x3 i).2.2.1))))), qe (.bool (decide (¬(((stepAtL ([2, 1, 0]) x3 ((kP x3 i).1) 0 ((kP x3 i).2.2.2.2.2)).getD []) = ((kP x3 i).2.2.1))))), qe (.bool (decide (¬(((stepAtL ([2, 1, 0]) x3 ((kP x3 i).1) 0 ((kP x3 i).2.2.2.2.2)).getD []) = ((kP x3 i).2.2.1))))), qe x4, qe (ii ((i : Int)) : Value), qe (.pointer (some (elemA x4 (i * 6)))), qe (.agg #[a1, a2, a3, ii ((kP x3 i).2.2.2.1), ii ((kP x3 i).2.2.2.2.1), ii ((kP x3 i).2.2.2.2.2)]), qe (.bool (trivB (((kP x3 i).1), ((kP x3 i).2.1), ((kP x3 i).2.2.1), ((kP x3 i).2.2.2.1), ((kP x3 i).2.2.2.2.1), ((kP x3 i).2.2.2.2.2)))), qe x4, qe (ii ((i : Int)) : Value), qe (.pointer (some (elemA x4 (i * 6)))), qe (.pointer (some (elemA x4 (i * 6 + 1)))), qe a2, qe x4, qe (ii ((i : Int)) : Value), qe (.pointer (some (elemA x4 (i * 6)))), qe (.pointer (some (elemA x4 (i * 6 + 2)))), qe a3]) (ownL []) mixed rfl rfl (by kernel_rfl) ?_ ?_
  ·refine pD (fun W R z9 => ?_) ?_
   ·refine je (jk (.bool ((stepAtL ([2, 1, 0]) x3 ((kP x3 i).1) 0 ((kP x3 i).2.2.2.2.2)).isSome)) rfl ?_)
    exact ⟨rfl, rfl, rfl⟩
   refine pD (fun W R z9 => ?_) ?_
   ·rw [eS (l := [(0, _)]) ⟨z9 0 rfl, ⟨⟩⟩]
    refine je (yR rfl ?_)
    exact ⟨rfl, rfl, rfl⟩
   refine pD (fun W R z9 => ?_) ?_
   ·rw [eS (l := [(1, _)]) ⟨z9 1 rfl, ⟨⟩⟩]
    refine je (jk (.bool (!((stepAtL ([2, 1, 0]) x3 ((kP x3 i).1) 0 ((kP x3 i).2.2.2.2.2)).isSome))) rfl ?_)
    exact ⟨rfl, rfl, rfl⟩
   refine pD (fun W R z9 => ?_) ?_
   ·rw [eS (l := [(2, _)]) ⟨z9 2 rfl, ⟨⟩⟩]
    refine yh (t := 107) rfl (vB h12) (jk (u2) rfl ?_)
    exact ⟨rfl, rfl, rfl⟩
   refine pD (fun W R z9 => ?_) ?_
   ·rw [eS (l := [(2, _)]) ⟨z9 2 rfl, ⟨⟩⟩]
    refine yh (t := 107) rfl (vB h12) (jk (x4) rfl ?_)
    exact ⟨rfl, rfl, rfl⟩
   refine pD (fun W R z9 => ?_) ?_
   ·rw [eS (l := [(2, _)]) ⟨z9 2 rfl, ⟨⟩⟩]
    refine yh (t := 107) rfl (vB h12) (jk (ii ((i : Int))) rfl ?_)
    exact ⟨rfl, rfl, rfl⟩
   refine pD (fun W R z9 => ?_) ?_
   ·rw [eS (l := [(2, _), (4, _), (5, _)]) ⟨z9 2 rfl, z9 4 rfl, z9 5 rfl, ⟨⟩⟩]
    refine yh (t := 107) rfl (vB h12) (jq i yG yC rfl rfl rfl hr4.slv (by omega) rfl ?_)
    exact ⟨rfl, rfl, rfl⟩
   refine pD (fun W R z9 => ?_) ?_
   ·rw [eS (l := [(2, _), (6, _)]) ⟨z9 2 rfl, z9 6 rfl, ⟨⟩⟩]
    refine yh (t := 107) rfl (vB h12) (Qh (i * 6 + 2) yg rfl jF (by decide) rfl rfl ?_)
    exact ⟨rfl, rfl, rfl⟩
   refine pD (fun W R z9 => ?_) ?_
   ·rw [eS (l := [(2, _), (7, _)]) ⟨z9 2 rfl, z9 7 rfl, ⟨⟩⟩]
    refine yh (t := 107) rfl (vB h12) (jj yt rfl (hrg1 _ 2 _ rfl) ?_)
    exact ⟨rfl, rfl, rfl⟩
   refine pD (fun W R z9 => ?_) ?_
   ·rw [eS (l := [(2, _), (3, _), (8, _)]) ⟨z9 2 rfl, z9 3 rfl, z9 8 rfl, ⟨⟩⟩]
    refine yh (t := 107) rfl (vB h12) (jL (args := [u2, a3]) call18 rfl (likeInts_spec f11_9hr ha3 (hbd := (by first | (refine Or.inr ?_; first | (have h9 := hnbi (by omega); omega) | (have h9 := hnbj (by omega); omega)) | (refine Or.inl ?_; first | (have h9 := hnbi (by omega); omega) | (have h9 := hnbj (by omega); omega))))) ?_)
    rintro _ _ _ _ ⟨rfl, rfl, rfl⟩
    exact ⟨rfl, rfl, rfl⟩
   refine pD (fun W R z9 => ?_) ?_
   ·rw [eS (l := [(2, _), (9, _)]) ⟨z9 2 rfl, z9 9 rfl, ⟨⟩⟩]
    refine yh (t := 107) rfl (vB h12) (Qw rfl ?_)
    exact ⟨rfl, rfl, rfl⟩
   refine pD (fun W R z9 => ?_) ?_
   ·rw [eS (l := [(2, _), (10, _)]) ⟨z9 2 rfl, z9 10 rfl, ⟨⟩⟩]
    refine je (yl (.bool (decide (¬(((stepAtL ([2, 1, 0]) x3 ((kP x3 i).1) 0 ((kP x3 i).2.2.2.2.2)).getD []) = ((kP x3 i).2.2.1))))) (vB h12) rfl ?_)
    exact ⟨rfl, rfl, rfl⟩
   refine pD (fun W R z9 => ?_) ?_
   ·rw [eS (l := [(11, _)]) ⟨z9 11 rfl, ⟨⟩⟩]
    refine je (jk (.bool (decide (¬(((stepAtL ([2, 1, 0]) x3 ((kP x3 i).1) 0 ((kP x3 i).2.2.2.2.2)).getD []) = ((kP x3 i).2.2.1))))) rfl ?_)
    exact ⟨rfl, rfl, rfl⟩
   refine pD (fun W R z9 => ?_) ?_
   ·rw [eS (l := [(12, _)]) ⟨z9 12 rfl, ⟨⟩⟩]
    refine yh (t := 117) rfl (vF h13) (jk (x4) rfl ?_)
    exact ⟨rfl, rfl, rfl⟩
   refine pD (fun W R z9 => ?_) ?_
   ·rw [eS (l := [(12, _)]) ⟨z9 12 rfl, ⟨⟩⟩]
    refine yh (t := 117) rfl (vF h13) (jk (ii ((i : Int))) rfl ?_)
    exact ⟨rfl, rfl, rfl⟩
   refine pD (fun W R z9 => ?_) ?_
   ·rw [eS (l := [(12, _), (13, _), (14, _)]) ⟨z9 12 rfl, z9 13 rfl, z9 14 rfl, ⟨⟩⟩]
    refine yh (t := 117) rfl (vF h13) (jq i yG yC rfl rfl rfl hr4.slv (by omega) rfl ?_)
    exact ⟨rfl, rfl, rfl⟩
   refine pD (fun W R z9 => ?_) ?_
   ·rw [eS (l := [(12, _), (15, _)]) ⟨z9 12 rfl, z9 15 rfl, ⟨⟩⟩]
    refine yh (t := 117) rfl (vF h13) (yc [a1, a2, a3, ii ((kP x3 i).2.2.2.1), ii ((kP x3 i).2.2.2.2.1), ii ((kP x3 i).2.2.2.2.2)] Qy yC rfl rfl (Rd.all (hrg1 _)) ?_)
    exact ⟨rfl, rfl, rfl⟩
   refine pD (fun W R z9 => ?_) ?_
   ·rw [eS (l := [(12, _), (16, _)]) ⟨z9 12 rfl, z9 16 rfl, ⟨⟩⟩]
    refine yh (t := 117) rfl (vF h13) (jL (args := [.agg #[a1, a2, a3, ii ((kP x3 i).2.2.2.1), ii ((kP x3 i).2.2.2.2.1), ii ((kP x3 i).2.2.2.2.2)]]) call59 rfl (TrivialPeak_spec ha1 ha2 ha3 (hb2 := (by first | (have h9 := hnbi (by omega); omega) | (have h9 := hnbj (by omega); omega))) (hb3 := (by first | (have h9 := hnbi (by omega); omega) | (have h9 := hnbj (by omega); omega)))) ?_)
    rintro _ _ _ _ ⟨rfl, rfl, rfl⟩
    exact ⟨rfl, rfl, rfl⟩
   refine pD (fun W R z9 => ?_) ?_
   ·rw [eS (l := [(12, _)]) ⟨z9 12 rfl, ⟨⟩⟩]
    refine yh (t := 117) rfl (vF h13) (jk (x4) rfl ?_)
    exact ⟨rfl, rfl, rfl⟩
   refine pD (fun W R z9 => ?_) ?_
   ·rw [eS (l := [(12, _)]) ⟨z9 12 rfl, ⟨⟩⟩]
    refine yh (t := 117) rfl (vF h13) (jk (ii ((i : Int))) rfl ?_)
    exact ⟨rfl, rfl, rfl⟩
   refine pD (fun W R z9 => ?_) ?_
   ·rw [eS (l := [(12, _), (18, _), (19, _)]) ⟨z9 12 rfl, z9 18 rfl, z9 19 rfl, ⟨⟩⟩]
    refine yh (t := 117) rfl (vF h13) (jq i yG yC rfl rfl rfl hr4.slv (by omega) rfl ?_)
    exact ⟨rfl, rfl, rfl⟩
   refine pD (fun W R z9 => ?_) ?_
   ·rw [eS (l := [(12, _), (20, _)]) ⟨z9 12 rfl, z9 20 rfl, ⟨⟩⟩]
    refine yh (t := 117) rfl (vF h13) (Qh (i * 6 + 1) yg rfl jF (by decide) rfl rfl ?_)
    exact ⟨rfl, rfl, rfl⟩
   refine pD (fun W R z9 => ?_) ?_
   ·rw [eS (l := [(12, _), (21, _)]) ⟨z9 12 rfl, z9 21 rfl, ⟨⟩⟩]
    refine yh (t := 117) rfl (vF h13) (jj yt rfl (hrg1 _ 1 _ rfl) ?_)
    exact ⟨rfl, rfl, rfl⟩
   refine pD (fun W R z9 => ?_) ?_
   ·rw [eS (l := [(12, _)]) ⟨z9 12 rfl, ⟨⟩⟩]
    refine yh (t := 117) rfl (vF h13) (jk (x4) rfl ?_)
    exact ⟨rfl, rfl, rfl⟩
   refine pD (fun W R z9 => ?_) ?_
   ·rw [eS (l := [(12, _)]) ⟨z9 12 rfl, ⟨⟩⟩]
    refine yh (t := 117) rfl (vF h13) (jk (ii ((i : Int))) rfl ?_)
    exact ⟨rfl, rfl, rfl⟩
   refine pD (fun W R z9 => ?_) ?_
   ·rw [eS (l := [(12, _), (23, _), (24, _)]) ⟨z9 12 rfl, z9 23 rfl, z9 24 rfl, ⟨⟩⟩]
    refine yh (t := 117) rfl (vF h13) (jq i yG yC rfl rfl rfl hr4.slv (by omega) rfl ?_)
    exact ⟨rfl, rfl, rfl⟩
   refine pD (fun W R z9 => ?_) ?_
   ·rw [eS (l := [(12, _), (25, _)]) ⟨z9 12 rfl, z9 25 rfl, ⟨⟩⟩]
    refine yh (t := 117) rfl (vF h13) (Qh (i * 6 + 2) yg rfl jF (by decide) rfl rfl ?_)
    exact ⟨rfl, rfl, rfl⟩
   refine pD (fun W R z9 => ?_) ?_
   ·rw [eS (l := [(12, _), (26, _)]) ⟨z9 12 rfl, z9 26 rfl, ⟨⟩⟩]
    refine yh (t := 117) rfl (vF h13) (jj yt rfl (hrg1 _ 2 _ rfl) ?_)
    exact ⟨rfl, rfl, rfl⟩
   exact stepsP.nil
  intro W hphi
  rw [eS (l := [(12, _), (17, _), (22, _), (27, _)]) ⟨(hphi 12 (by decide)), (hphi 17 (by decide)), (hphi 22 (by decide)), (hphi 27 (by decide)), ⟨⟩⟩]
  show XL _ _ _ _ _ _ _ (cellsH b1 [x1, x2] 32 :: curH .u64 88 cb1 bsv bs.length :: L)
  refine jB (t := 117) rfl (vF h13) (jL (args := [a2, a3]) call18 rfl (likeInts_spec ha2 ha3 (hbd := (by first | (refine Or.inr ?_; first | (have h9 := hnbi (by omega); omega) | (have h9 := hnbj (by omega); omega)) | (refine Or.inl ?_; first | (have h9 := hnbi (by omega); omega) | (have h9 := hnbj (by omega); omega))))) ?_)
  rintro _ _ _ _ ⟨rfl, rfl, rfl⟩
  refine jB (t := 117) rfl (vF h13) (XOp.neB (a := trivB (((kP x3 i).1), ((kP x3 i).2.1), ((kP x3 i).2.2.1), ((kP x3 i).2.2.2.1), ((kP x3 i).2.2.2.2.1), ((kP x3 i).2.2.2.2.2))) (b := decide (((kP x3 i).2.1) = ((kP x3 i).2.2.1))) runUnderlying4 rfl rfl (cX (yl (.bool (decide ((trivB (((kP x3 i).1), ((kP x3 i).2.1), ((kP x3 i).2.2.1), ((kP x3 i).2.2.2.1), ((kP x3 i).2.2.2.2.1), ((kP x3 i).2.2.2.2.2))) ≠ (decide (((kP x3 i).2.1) = ((kP x3 i).2.2.1)))))) (vF h13) rfl (qI ?_))))
  refine jV (p := (trivB (((kP x3 i).1), ((kP x3 i).2.1), ((kP x3 i).2.2.1), ((kP x3 i).2.2.2.1), ((kP x3 i).2.2.2.2.1), ((kP x3 i).2.2.2.2.2))) ≠ (decide (((kP x3 i).2.1) = ((kP x3 i).2.2.1)))) rfl (fun h14 => ?_) (fun h14 => ?_)
  ·exact absurd rfl h14
  refine jU (qH (jb (ii ((i : Int))) rfl (cX (yj (((i + 1 : Nat) : Int)) rfl rfl (by omega) (by omega) (jc (ii (((i + 1 : Nat) : Int))) rfl (qI ?_))))))
  exact ⟨(i + 1, F11), _, (jl leG3 le11), rF, ⟨rfl, rfl, rfl, rfl, ⟨⟩⟩, (sC (sC sR)), ⟨rfl, (jl leG3 le11), (by (try dsimp only) <;> omega)⟩, (by omega)⟩
 refine yB (jO (jO (yk (qX (qH (jb (ii ((n : Int))) rfl (jb (x4) rfl (cX (jZ yG rfl hr4.slv (cX (yU rfl rfl (jc (.bool (decide ((n : Int) = (((((psO ([2, 1, 0]) x3).getD [])).length : Nat) : Int)))) rfl (qI (jW (jR (L' := L) [.bool (decide ((n : Int) = (((((psO ([2, 1, 0]) x3).getD [])).length : Nat) : Int)))] (.bool (decide ((n : Int) = (((((psO ([2, 1, 0]) x3).getD [])).length : Nat) : Int)))) (.tmp rfl .nil) rfl rF (jl (jl (jl le1 le2) leG1) leG3) (sD (sD sR)) ?_)))))))))))))))
 exact ⟨(vB ((decide_eq_true (by first | (rw [hpe]; rfl) | (rw [hn, show o = x3.length from by omega, ← hmy]))).symm)), rfl, rfl⟩
end Go.Proofs.Ytcdjpapjjoldeaa
