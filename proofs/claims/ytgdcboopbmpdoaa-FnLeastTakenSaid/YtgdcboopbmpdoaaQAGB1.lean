/-
  Walks, one after the other (part 2).
-/
import Derived.Test.YtgdcboopbmpdoaaQAGL1
import Derived.Test.YtgdcboopbmpdoaaQAGB0
set_option linter.unusedSimpArgs false
set_option linter.unusedVariables false
namespace Go.Proofs.Ytgdcboopbmpdoaa
open Go X M Try

/- impl.AutoOk$1 -/
theorem AutoOk1_spec {F : FH} {L : List HP} {sa : Int} {sbv : Value} {sb : List Int} (hsb : IntsF F sbv sb) {sc : Int} {ra : Int} {rbv : Value} {rb : List Int} (hrb : IntsF F rbv rb) {rc : Int} {b : Nat} (hzb : FzC F b [ii (ra), rbv, ii (rc)]) (hlr : rb.length ≤ 4000000) (hls : sb.length ≤ 4000000) :
    Does prog 60 [.agg #[ii (sa), sbv, ii (sc)], ptr b 0] F (L) (fun v F' L' => (.bool (decide (((ra, rb, rc) : TranT) = ((sa, sb, sc) : TranT))) : Value) = v ∧ F = F' ∧ L = L') := by
 refine qO func60 rfl rfl rfl (qc (qa (cX (ji [ii (sa), sbv, ii (sc)] rfl rfl ?_))))
 intro b1
 refine qg (.bool (false)) rfl (qb (qc (qa (cX (qu [ii (ra), rbv, ii (rc)] jD jb rfl rfl (FzC.rd hzb rfl) (cX (qu [ii (sa), sbv, ii (sc)] jD jb rfl rfl (Rd.ownN [] rfl rfl) (cX (qq (args := [.agg #[ii (ra), rbv, ii (rc)], .agg #[ii (sa), sbv, ii (sc)]]) call61 rfl (compareTrans_spec hrb hsb (hlx := (by first | assumption | rfl | omega | simp)) (hly := (by first | assumption | rfl | omega | simp))) ?_)))))))))
 rintro _ _ _ _ ⟨rfl, x1, rfl, hr1, rfl⟩
 refine cX (jp rfl rfl (qg (.bool (decide ((x1 : Int) = 0))) rfl (qb (qC (qv (L' := L) [.bool (decide ((x1 : Int) = 0))] (.bool (decide ((x1 : Int) = 0))) (.tmp rfl .nil) rfl rF rF (sD sR) ?_)))))
 exact ⟨(vB (by rw [Bool.eq_iff_iff]; simp only [decide_eq_true_eq]; first | assumption | exact Iff.symm (by assumption))), rfl, rfl⟩

/- (impl.Auto).sure$1 -/
theorem sure1_spec {F : FH} {L : List HP} {sa : Int} {sbv : Value} {sb : List Int} (hsb : IntsF F sbv sb) {sc : Int} {ra : Int} {rbv : Value} {rb : List Int} (hrb : IntsF F rbv rb) {rc : Int} {b : Nat} (hzb : FzC F b [ii (ra), rbv, ii (rc)]) (hlr : rb.length ≤ 4000000) (hls : sb.length ≤ 4000000) :
    Does prog 83 [.agg #[ii (sa), sbv, ii (sc)], ptr b 0] F (L) (fun v F' L' => (.bool ((decide (sa = ra) && decide (sb = rb))) : Value) = v ∧ F = F' ∧ L = L') := by
 refine qO func83 rfl rfl rfl (qc (qa (cX (ji [ii (sa), sbv, ii (sc)] rfl rfl ?_))))
 intro b1
 refine qg (.bool (false)) rfl (qb (qc (qa (cX (ql (0) qB rfl qr (by decide) rfl rfl (cX (qi qM rfl (Rd.own [] rfl rfl) (cX (ql (0) qB rfl qr (by decide) rfl rfl (cX (qi qM rfl (FzC.rd1 hzb rfl) (cX (jp rfl rfl (qd (.bool (decide ((sa : Int) = ra))) rfl ?_))))))))))))))
 by_cases h1 : (sa : Int) = ra
 ·refine qo (t := 9) rfl (vT h1) (ql (1) qB rfl qw (by decide) rfl rfl (qo (t := 9) rfl (vT h1) (qi qT rfl (Rd.own [] rfl rfl) (qo (t := 9) rfl (vT h1) (ql (1) qB rfl qw (by decide) rfl rfl (qo (t := 9) rfl (vT h1) (qi qT rfl (FzC.rd1 hzb rfl) (qo (t := 9) rfl (vT h1) (qq (args := [sbv, rbv]) call84 rfl (Equal_spec hsb hrb (hbd := (by first | assumption | rfl | omega | (left; simp; done) | (right; simp; done)))) ?_)))))))))
  rintro _ _ _ _ ⟨rfl, rfl, rfl⟩
  refine cX (qL (.bool (decide (sb = rb))) (vT h1) rfl (qg (.bool (decide (sb = rb))) rfl (qb (qC (qv (L' := L) [.bool (decide (sb = rb))] (.bool (decide (sb = rb))) (.tmp rfl .nil) rfl rF rF (sD sR) ?_)))))
  exact ⟨(vB (by simp_all)), rfl, rfl⟩
 refine qm (t := 9) rfl (vF h1) (qm (t := 9) rfl (vF h1) (qm (t := 9) rfl (vF h1) (qm (t := 9) rfl (vF h1) (qm (t := 9) rfl (vF h1) (cX (qQ (.bool (false)) (vF h1) rfl (qg (.bool (false)) rfl (qb (qC (qv (L' := L) [.bool (false)] (.bool (false)) (.tmp rfl .nil) rfl rF rF (sD sR) ?_))))))))))
 exact ⟨(vB (by simp_all)), rfl, rfl⟩

/- slices.IndexFunc[[]impl.Trans,impl.Trans] -/
theorem IndexFuncTA_spec {F : FH} {L : List HP} {ssv : Value} {ss : List TranT} (hss : TransF F ssv ss) {ra : Int} {rbv : Value} {rb : List Int} (hrb : IntsF F rbv rb) {rc : Int} {b : Nat} (hzb : FzC F b [ii (ra), rbv, ii (rc)]) (hlt : ss.length ≤ 4000000) (hsb : ∀ i, i < ss.length → (ss.getD i (0, [], 0)).2.1.length ≤ 4000000) (hlr : rb.length ≤ 4000000) :
    Does prog 79 [ssv, .func (.func 60) #[] #[ptr b 0]] F (L) (fun v F' L' => (ii (badG (fun s => !decide (((ra, rb, rc) : TranT) = s)) ss) : Value) = v ∧ F = F' ∧ L = L') := by
 refine qO func79 rfl rfl rfl (qc (qa (qg (ii (0)) rfl (qb (qc (qc (qa (qd (ssv) rfl (cX (qG qR rfl hss.slv (qd (ii (0)) rfl (qb (qF (jg (α := Nat) (fun k => [(0, ssv), (1, .func (.func 60) #[] #[ptr b 0]), (7, ii ((ss.length : Int))), (8, ii ((k : Int)))]) (fun k => L) (fun k F' => F = F' ∧ (k ≤ ss.length) ∧ (∀ i, i < k → (fun s => !decide (((ra, rb, rc) : TranT) = s)) (ss.getD i (0, [], 0)) = true)) (fun k => ss.length - k) 0 ⟨rfl, rfl, rfl, rfl, ⟨⟩⟩ sR ⟨rfl, (by (try dsimp only) <;> omega), (fun i hi => absurd hi (by omega))⟩ ?_))))))))))))))
 rintro k rE _ _ ⟨rfl, hk, hall⟩
 show X _ _ _ _ (envs [(0, ssv), (1, .func (.func 60) #[] #[ptr b 0]), (7, ii ((ss.length : Int))), (8, ii ((k : Int)))] rE) _ (L)
 refine qc (qa (cX (qV rfl rfl (qb (qc ?_)))))
 refine qE (p := (k : Int) < (ss.length : Int)) rfl (fun h1 => ?_) (fun h1 => ?_)
 ·refine qx (qc (qF (qc (qa (qd (ii ((k : Int))) rfl (qg (ii ((k : Int))) rfl (qb (qc (qa (qd (.func (.func 60) #[] #[ptr b 0]) rfl (qd (ssv) rfl (qd (ii ((k : Int))) rfl (cX (qy k qR jb rfl rfl rfl hss.slv (by omega) rfl ?_))))))))))))))
  obtain ⟨a1, ha1, hrg1, hq1⟩ := hss.rd (i := k) (by omega)
  refine cX (qu [ii ((ss.getD k (0, [], 0)).1), a1, ii ((ss.getD k (0, [], 0)).2.2)] jD jb rfl rfl (Rd.all (hrg1 _)) (cX (XOp.callV (first := []) (captured := [ptr b 0]) (args := [.agg #[ii ((ss.getD k (0, [], 0)).1), a1, ii ((ss.getD k (0, [], 0)).2.2)], ptr b 0]) call60 rfl rfl (AutoOk1_spec ha1 hrb hzb (hlr := (by first | assumption | rfl | omega | simp)) (hls := (hsb k (by omega)))) ?_)))
  rintro _ _ _ _ ⟨rfl, rfl, rfl⟩
  refine qb ?_
  refine qE (p := ((ra, rb, rc) : TranT) = ((((ss.getD k (0, [], 0)).1), ((ss.getD k (0, [], 0)).2.1), ((ss.getD k (0, [], 0)).2.2)) : TranT)) rfl (fun h2 => ?_) (fun h2 => ?_)
  ·have hq9 : (fun s => !decide (((ra, rb, rc) : TranT) = s)) (ss.getD k (0, [], 0)) = false := by show (!decide (((ra, rb, rc) : TranT) = ss.getD k (0, [], 0))) = _; rw [decide_eq_true (show ((ra, rb, rc) : TranT) = ss.getD k (0, [], 0) from h2)]; rfl
   refine qc (qa (qd (ii ((k : Int))) rfl (qg (ii ((k : Int))) rfl (qb (qC (qK (qn (qn (qK (qn (qv (L' := L) [ii ((k : Int))] (ii ((k : Int))) (.tmp rfl .nil) rfl rF rF sR ?_)))))))))))
   exact ⟨(vI (badG_at ((0, [], 0) : TranT) (by omega) hq9 hall)), rfl, rfl⟩
  have hq9 : (fun s => !decide (((ra, rb, rc) : TranT) = s)) (ss.getD k (0, [], 0)) = true := by show (!decide (((ra, rb, rc) : TranT) = ss.getD k (0, [], 0))) = _; rw [decide_eq_false (show ¬ ((ra, rb, rc) : TranT) = ss.getD k (0, [], 0) from h2)]; rfl
  refine qx (qa (cX (qD (((k + 1 : Nat) : Int)) rfl rfl (by omega) (by omega) (qd (ii (((k + 1 : Nat) : Int))) rfl (qb ?_)))))
  exact ⟨k + 1, _, FLe.refl _, rF, ⟨rfl, rfl, rfl, rfl, ⟨⟩⟩, sR, ⟨rfl, (by (try dsimp only) <;> omega), (fun i hi => (Nat.lt_or_ge i k).elim (fun h => hall i h) (fun h => by obtain rfl : i = k := (by omega); exact hq9))⟩, (by omega)⟩
 refine jd (qp (qp (qJ (qc (qa (qg (ii (-1)) rfl (qb (qC (qv (L' := L) [ii (-1)] (ii (-1)) (.tmp rfl .nil) rfl rF rF sR ?_)))))))))
 exact ⟨(vI (badG_none ((0, [], 0) : TranT) (fun i hi => hall i (by omega)))), rfl, rfl⟩

/- slices.IndexFunc[[]impl.Trans,impl.Trans] -/
theorem IndexFuncTB_spec {F : FH} {L : List HP} {ssv : Value} {ss : List TranT} (hss : TransF F ssv ss) {ra : Int} {rbv : Value} {rb : List Int} (hrb : IntsF F rbv rb) {rc : Int} {b : Nat} (hzb : FzC F b [ii (ra), rbv, ii (rc)]) (hlt : ss.length ≤ 4000000) (hsb : ∀ i, i < ss.length → (ss.getD i (0, [], 0)).2.1.length ≤ 4000000) (hlr : rb.length ≤ 4000000) :
    Does prog 79 [ssv, .func (.func 83) #[] #[ptr b 0]] F (L) (fun v F' L' => (ii (badG (fun s : TranT => !(decide (s.1 = ra) && decide (s.2.1 = rb))) ss) : Value) = v ∧ F = F' ∧ L = L') := by
 refine qO func79 rfl rfl rfl (qc (qa (qg (ii (0)) rfl (qb (qc (qc (qa (qd (ssv) rfl (cX (qG qR rfl hss.slv (qd (ii (0)) rfl (qb (qF (jg (α := Nat) (fun k => [(0, ssv), (1, .func (.func 83) #[] #[ptr b 0]), (7, ii ((ss.length : Int))), (8, ii ((k : Int)))]) (fun k => L) (fun k F' => F = F' ∧ (k ≤ ss.length) ∧ (∀ i, i < k → (fun s : TranT => !(decide (s.1 = ra) && decide (s.2.1 = rb))) (ss.getD i (0, [], 0)) = true)) (fun k => ss.length - k) 0 ⟨rfl, rfl, rfl, rfl, ⟨⟩⟩ sR ⟨rfl, (by (try dsimp only) <;> omega), (fun i hi => absurd hi (by omega))⟩ ?_))))))))))))))
 rintro k rE _ _ ⟨rfl, hk, hall⟩
 show X _ _ _ _ (envs [(0, ssv), (1, .func (.func 83) #[] #[ptr b 0]), (7, ii ((ss.length : Int))), (8, ii ((k : Int)))] rE) _ (L)
 refine qc (qa (cX (qV rfl rfl (qb (qc ?_)))))
 refine qE (p := (k : Int) < (ss.length : Int)) rfl (fun h1 => ?_) (fun h1 => ?_)
 ·refine qx (qc (qF (qc (qa (qd (ii ((k : Int))) rfl (qg (ii ((k : Int))) rfl (qb (qc (qa (qd (.func (.func 83) #[] #[ptr b 0]) rfl (qd (ssv) rfl (qd (ii ((k : Int))) rfl (cX (qy k qR jb rfl rfl rfl hss.slv (by omega) rfl ?_))))))))))))))
  obtain ⟨a1, ha1, hrg1, hq1⟩ := hss.rd (i := k) (by omega)
  refine cX (qu [ii ((ss.getD k (0, [], 0)).1), a1, ii ((ss.getD k (0, [], 0)).2.2)] jD jb rfl rfl (Rd.all (hrg1 _)) (cX (XOp.callV (first := []) (captured := [ptr b 0]) (args := [.agg #[ii ((ss.getD k (0, [], 0)).1), a1, ii ((ss.getD k (0, [], 0)).2.2)], ptr b 0]) call83 rfl rfl (sure1_spec ha1 hrb hzb (hlr := (by first | assumption | rfl | omega | simp)) (hls := (hsb k (by omega)))) ?_)))
  rintro _ _ _ _ ⟨rfl, rfl, rfl⟩
  refine qb ?_
  refine jr (t := (decide (((ss.getD k (0, [], 0)).1) = ra) && decide (((ss.getD k (0, [], 0)).2.1) = rb))) rfl (fun h2 => ?_) (fun h2 => ?_)
  ·have hq9 : (fun s : TranT => !(decide (s.1 = ra) && decide (s.2.1 = rb))) (ss.getD k (0, [], 0)) = false := by show (!(decide ((ss.getD k (0, [], 0)).1 = ra) && decide ((ss.getD k (0, [], 0)).2.1 = rb))) = _; rw [h2]; rfl
   refine qc (qa (qd (ii ((k : Int))) rfl (qg (ii ((k : Int))) rfl (qb (qC (qK (qn (qn (qK (qn (qv (L' := L) [ii ((k : Int))] (ii ((k : Int))) (.tmp rfl .nil) rfl rF rF sR ?_)))))))))))
   exact ⟨(vI (badG_at ((0, [], 0) : TranT) (by omega) hq9 hall)), rfl, rfl⟩
  have hq9 : (fun s : TranT => !(decide (s.1 = ra) && decide (s.2.1 = rb))) (ss.getD k (0, [], 0)) = true := by show (!(decide ((ss.getD k (0, [], 0)).1 = ra) && decide ((ss.getD k (0, [], 0)).2.1 = rb))) = _; rw [h2]; rfl
  refine qx (qa (cX (qD (((k + 1 : Nat) : Int)) rfl rfl (by omega) (by omega) (qd (ii (((k + 1 : Nat) : Int))) rfl (qb ?_)))))
  exact ⟨k + 1, _, FLe.refl _, rF, ⟨rfl, rfl, rfl, rfl, ⟨⟩⟩, sR, ⟨rfl, (by (try dsimp only) <;> omega), (fun i hi => (Nat.lt_or_ge i k).elim (fun h => hall i h) (fun h => by obtain rfl : i = k := (by omega); exact hq9))⟩, (by omega)⟩
 refine jd (qp (qp (qJ (qc (qa (qg (ii (-1)) rfl (qb (qC (qv (L' := L) [ii (-1)] (ii (-1)) (.tmp rfl .nil) rfl rF rF sR ?_)))))))))
 exact ⟨(vI (badG_none ((0, [], 0) : TranT) (fun i hi => hall i (by omega)))), rfl, rfl⟩

/- slices.ContainsFunc[[]impl.Trans,impl.Trans] -/
theorem ContainsFuncTA_spec {F : FH} {L : List HP} {ssv : Value} {ss : List TranT} (hss : TransF F ssv ss) {ra : Int} {rbv : Value} {rb : List Int} (hrb : IntsF F rbv rb) {rc : Int} {b : Nat} (hzb : FzC F b [ii (ra), rbv, ii (rc)]) (hlt : ss.length ≤ 4000000) (hsb : ∀ i, i < ss.length → (ss.getD i (0, [], 0)).2.1.length ≤ 4000000) (hlr : rb.length ≤ 4000000) :
    Does prog 59 [ssv, .func (.func 60) #[] #[ptr b 0]] F (L) (fun v F' L' => (.bool (decide (badG (fun s => !decide (((ra, rb, rc) : TranT) = s)) ss ≥ 0)) : Value) = v ∧ F = F' ∧ L = L') := by
 refine qO func59 rfl rfl rfl (qc (qa (qg (.bool (false)) rfl (qb (qc (qa (qd (ssv) rfl (qd (.func (.func 60) #[] #[ptr b 0]) rfl (cX (qq (args := [ssv, .func (.func 60) #[] #[ptr b 0]]) call79 rfl (IndexFuncTA_spec hss hrb hzb (hlt := (by first | assumption | rfl | omega | simp)) (hsb := (by first | assumption | rfl | omega | simp)) (hlr := (by first | assumption | rfl | omega | simp))) ?_))))))))))
 rintro _ _ _ _ ⟨rfl, rfl, rfl⟩
 refine cX (XOp.geq rfl rfl (qg (.bool (decide ((badG (fun s => !decide (((ra, rb, rc) : TranT) = s)) ss : Int) ≥ 0))) rfl (qb (qC (qv (L' := L) [.bool (decide ((badG (fun s => !decide (((ra, rb, rc) : TranT) = s)) ss : Int) ≥ 0))] (.bool (decide ((badG (fun s => !decide (((ra, rb, rc) : TranT) = s)) ss : Int) ≥ 0))) (.tmp rfl .nil) rfl rF rF sR ?_)))))
 exact ⟨rfl, rfl, rfl⟩

/- slices.ContainsFunc[[]impl.Trans,impl.Trans] -/
theorem ContainsFuncTB_spec {F : FH} {L : List HP} {ssv : Value} {ss : List TranT} (hss : TransF F ssv ss) {ra : Int} {rbv : Value} {rb : List Int} (hrb : IntsF F rbv rb) {rc : Int} {b : Nat} (hzb : FzC F b [ii (ra), rbv, ii (rc)]) (hlt : ss.length ≤ 4000000) (hsb : ∀ i, i < ss.length → (ss.getD i (0, [], 0)).2.1.length ≤ 4000000) (hlr : rb.length ≤ 4000000) :
    Does prog 59 [ssv, .func (.func 83) #[] #[ptr b 0]] F (L) (fun v F' L' => (.bool (decide (badG (fun s : TranT => !(decide (s.1 = ra) && decide (s.2.1 = rb))) ss ≥ 0)) : Value) = v ∧ F = F' ∧ L = L') := by
 refine qO func59 rfl rfl rfl (qc (qa (qg (.bool (false)) rfl (qb (qc (qa (qd (ssv) rfl (qd (.func (.func 83) #[] #[ptr b 0]) rfl (cX (qq (args := [ssv, .func (.func 83) #[] #[ptr b 0]]) call79 rfl (IndexFuncTB_spec hss hrb hzb (hlt := (by first | assumption | rfl | omega | simp)) (hsb := (by first | assumption | rfl | omega | simp)) (hlr := (by first | assumption | rfl | omega | simp))) ?_))))))))))
 rintro _ _ _ _ ⟨rfl, rfl, rfl⟩
 refine cX (XOp.geq rfl rfl (qg (.bool (decide ((badG (fun s : TranT => !(decide (s.1 = ra) && decide (s.2.1 = rb))) ss : Int) ≥ 0))) rfl (qb (qC (qv (L' := L) [.bool (decide ((badG (fun s : TranT => !(decide (s.1 = ra) && decide (s.2.1 = rb))) ss : Int) ≥ 0))] (.bool (decide ((badG (fun s : TranT => !(decide (s.1 = ra) && decide (s.2.1 = rb))) ss : Int) ≥ 0))) (.tmp rfl .nil) rfl rF rF sR ?_)))))
 exact ⟨rfl, rfl, rfl⟩

/- impl.AutoOk -/
set_option maxHeartbeats 1000000 in
set_option maxRecDepth 20000 in
theorem AutoOk_spec {F : FH} {L : List HP} {arv : Value} {ar : List Int} (har : IntsF F arv ar) {n : Int} {rsv : Value} {rs : List TranT} (hrs : TransF F rsv rs) {fiv : Value} {fi : List Int} (hfi : IntsF F fiv fi) (hlf : fi.length ≤ 4000000) :
    Does prog 23 [.agg #[arv], .agg #[ii (n), rsv, fiv]] F (L) (fun v F' L' => (.bool (autoB ar n rs fi) : Value) = v ∧ F = F' ∧ L = L') := by
 refine qO func23 rfl rfl rfl (qc (qa (cX (ji [arv] rfl rfl ?_))))
 intro b1
 refine cX (ji [ii (n), rsv, fiv] rfl rfl ?_)
 intro b2
 refine qg (.bool (false)) rfl (qb (qc (qc (qa (cX (qu [arv] qY qI rfl rfl (Rd.ownN [_] rfl rfl) (cX (qq (args := [.agg #[arv]]) call57 rfl (SigOk_spec har) ?_))))))))
 rintro _ _ _ _ ⟨rfl, rfl, rfl⟩
 refine cX (jx rfl (qd (.bool (!(sigOk ar))) rfl ?_))
 by_cases h1 : (!(sigOk ar)) = true
 ·have hsg : sigOk ar = false := Bool.not_inj (y := false) h1
  refine qm (t := 12) rfl (vB h1) (qm (t := 12) rfl (vB h1) (qm (t := 12) rfl (vB h1) (cX (qL (.bool (true)) (vB h1) rfl (qd (.bool (true)) rfl (qm (t := 17) rfl rfl (qm (t := 17) rfl rfl (qm (t := 17) rfl rfl (cX (qL (.bool (true)) rfl rfl (qd (.bool (true)) rfl ?_)))))))))))
  refine qm (t := 22) rfl rfl (qm (t := 22) rfl rfl (qm (t := 22) rfl rfl (qm (t := 22) rfl rfl (cX (qL (.bool (true)) rfl rfl (qb (jA rfl (qc (qa (qg (.bool (false)) rfl (qb ?_)))))))))))
  refine qC (qn (qv (L' := L) [.bool (false)] (.bool (false)) (.tmp rfl .nil) rfl rF rF (sD (sD sR)) ?_))
  exact ⟨(vB ((by first | exact auto_no (fun A => by first | (have h9 := A.sig; rw [hsg] at h9; cases h9; done) | (have h1 := A.n1; have h2 := A.n16; have h3 := A.few; omega)) | exact auto_no (fun A => by have hT := A.rule k (by omega); have h1 := hT.sym; have h2 := hT.args; have h3 := hT.to; have h4 := states_iff.2 hT.arg; have h5 : statesB n [(rs.getD k (0, [], 0)).2.2] = true := states_iff.2 (fun i hi => by match i, hi with | 0, _ => exact h3); first | omega | (rw [‹statesB n (rs.getD k (0, [], 0)).2.1 = false›] at h4; cases h4; done) | (rw [‹statesB n [(rs.getD k (0, [], 0)).2.2] = false›] at h5; cases h5; done)) | exact auto_no (fun A => by obtain ⟨j, hj, e⟩ := hdu; exact A.diff k j (by omega) hj e) | exact auto_no (fun A => by have h9 := A.asc k (by omega) (by omega); omega) | exact auto_last hsg (by omega) (by omega) (by omega) (fun i hi => hrk i (by omega)) (fun i hi => has i (by omega))))), rfl, rfl⟩
 rw [Bool.not_eq_true] at h1
 have hsg : sigOk ar = true := Bool.not_inj (y := true) h1
 refine qo (t := 12) rfl (vB h1) (ql (0) qA rfl qr (by decide) rfl rfl (qo (t := 12) rfl (vB h1) (qi qM rfl (Rd.own [] rfl rfl) (qo (t := 12) rfl (vB h1) (qV rfl rfl (cX (qQ (.bool (decide ((n : Int) < 1))) (vB h1) rfl (qd (.bool (decide ((n : Int) < 1))) rfl ?_))))))))
 by_cases h2 : (n : Int) < 1
 ·refine qm (t := 17) rfl (vT h2) (qm (t := 17) rfl (vT h2) (qm (t := 17) rfl (vT h2) (cX (qL (.bool (true)) (vT h2) rfl (qd (.bool (true)) rfl (qm (t := 22) rfl rfl (qm (t := 22) rfl rfl (qm (t := 22) rfl rfl (qm (t := 22) rfl rfl (cX (qL (.bool (true)) rfl rfl ?_)))))))))))
  refine qb (jA rfl (qc (qa (qg (.bool (false)) rfl (qb (qC (qn (qv (L' := L) [.bool (false)] (.bool (false)) (.tmp rfl .nil) rfl rF rF (sD (sD sR)) ?_))))))))
  exact ⟨(vB ((by first | exact auto_no (fun A => by first | (have h9 := A.sig; rw [hsg] at h9; cases h9; done) | (have h1 := A.n1; have h2 := A.n16; have h3 := A.few; omega)) | exact auto_no (fun A => by have hT := A.rule k (by omega); have h1 := hT.sym; have h2 := hT.args; have h3 := hT.to; have h4 := states_iff.2 hT.arg; have h5 : statesB n [(rs.getD k (0, [], 0)).2.2] = true := states_iff.2 (fun i hi => by match i, hi with | 0, _ => exact h3); first | omega | (rw [‹statesB n (rs.getD k (0, [], 0)).2.1 = false›] at h4; cases h4; done) | (rw [‹statesB n [(rs.getD k (0, [], 0)).2.2] = false›] at h5; cases h5; done)) | exact auto_no (fun A => by obtain ⟨j, hj, e⟩ := hdu; exact A.diff k j (by omega) hj e) | exact auto_no (fun A => by have h9 := A.asc k (by omega) (by omega); omega) | exact auto_last hsg (by omega) (by omega) (by omega) (fun i hi => hrk i (by omega)) (fun i hi => has i (by omega))))), rfl, rfl⟩
 refine qo (t := 17) rfl (vF h2) (ql (0) qA rfl qr (by decide) rfl rfl (qo (t := 17) rfl (vF h2) (qi qM rfl (Rd.own [] rfl rfl) (qo (t := 17) rfl (vF h2) (jw rfl rfl (cX (qQ (.bool (decide ((n : Int) > 16))) (vF h2) rfl (qd (.bool (decide ((n : Int) > 16))) rfl ?_))))))))
 by_cases h3 : (n : Int) > 16
 ·refine qm (t := 22) rfl (vT h3) (qm (t := 22) rfl (vT h3) (qm (t := 22) rfl (vT h3) (qm (t := 22) rfl (vT h3) (cX (qL (.bool (true)) (vT h3) rfl (qb (jA rfl (qc (qa (qg (.bool (false)) rfl (qb ?_)))))))))))
  refine qC (qn (qv (L' := L) [.bool (false)] (.bool (false)) (.tmp rfl .nil) rfl rF rF (sD (sD sR)) ?_))
  exact ⟨(vB ((by first | exact auto_no (fun A => by first | (have h9 := A.sig; rw [hsg] at h9; cases h9; done) | (have h1 := A.n1; have h2 := A.n16; have h3 := A.few; omega)) | exact auto_no (fun A => by have hT := A.rule k (by omega); have h1 := hT.sym; have h2 := hT.args; have h3 := hT.to; have h4 := states_iff.2 hT.arg; have h5 : statesB n [(rs.getD k (0, [], 0)).2.2] = true := states_iff.2 (fun i hi => by match i, hi with | 0, _ => exact h3); first | omega | (rw [‹statesB n (rs.getD k (0, [], 0)).2.1 = false›] at h4; cases h4; done) | (rw [‹statesB n [(rs.getD k (0, [], 0)).2.2] = false›] at h5; cases h5; done)) | exact auto_no (fun A => by obtain ⟨j, hj, e⟩ := hdu; exact A.diff k j (by omega) hj e) | exact auto_no (fun A => by have h9 := A.asc k (by omega) (by omega); omega) | exact auto_last hsg (by omega) (by omega) (by omega) (fun i hi => hrk i (by omega)) (fun i hi => has i (by omega))))), rfl, rfl⟩
 refine qo (t := 22) rfl (vF h3) (ql (1) qA rfl jh (by decide) rfl rfl (qo (t := 22) rfl (vF h3) (qi jo rfl (Rd.own [] rfl rfl) (qo (t := 22) rfl (vF h3) (qG qR rfl hrs.slv (qo (t := 22) rfl (vF h3) (jw rfl rfl (cX (qQ (.bool (decide (((rs.length : Int) : Int) > 300))) (vF h3) rfl (qb ?_))))))))))
 refine qE (p := ((rs.length : Int) : Int) > 300) rfl (fun h4 => ?_) (fun h4 => ?_)
 ·refine qc (qa (qg (.bool (false)) rfl (qb (qC (qn (qv (L' := L) [.bool (false)] (.bool (false)) (.tmp rfl .nil) rfl rF rF (sD (sD sR)) ?_))))))
  exact ⟨(vB ((by first | exact auto_no (fun A => by first | (have h9 := A.sig; rw [hsg] at h9; cases h9; done) | (have h1 := A.n1; have h2 := A.n16; have h3 := A.few; omega)) | exact auto_no (fun A => by have hT := A.rule k (by omega); have h1 := hT.sym; have h2 := hT.args; have h3 := hT.to; have h4 := states_iff.2 hT.arg; have h5 : statesB n [(rs.getD k (0, [], 0)).2.2] = true := states_iff.2 (fun i hi => by match i, hi with | 0, _ => exact h3); first | omega | (rw [‹statesB n (rs.getD k (0, [], 0)).2.1 = false›] at h4; cases h4; done) | (rw [‹statesB n [(rs.getD k (0, [], 0)).2.2] = false›] at h5; cases h5; done)) | exact auto_no (fun A => by obtain ⟨j, hj, e⟩ := hdu; exact A.diff k j (by omega) hj e) | exact auto_no (fun A => by have h9 := A.asc k (by omega) (by omega); omega) | exact auto_last hsg (by omega) (by omega) (by omega) (fun i hi => hrk i (by omega)) (fun i hi => has i (by omega))))), rfl, rfl⟩
 refine qx (qc (qc (qa (cX (ql (1) qA rfl jh (by decide) rfl rfl (cX (qi jo rfl (Rd.own [] rfl rfl) (cX (qG qR rfl hrs.slv (qd (ii (0)) rfl (qb (qF (jg (α := Nat) (fun k => [(2, ptr b1 0), (3, ptr b2 0), (29, rsv), (30, ii ((rs.length : Int))), (31, ii ((k : Int)))]) (fun k => cellsH b2 [ii (n), rsv, fiv] 29 :: cellsH b1 [arv] 26 :: L) (fun k F' => F = F' ∧ (k ≤ rs.length) ∧ (∀ i, i < k → TransOk ar n (rs.getD i (0, [], 0)) ∧ ∀ j, j < i → (rs.getD i (0, [], 0)) ≠ rs.getD j (0, [], 0))) (fun k => rs.length - k) 0 ⟨rfl, rfl, rfl, rfl, rfl, ⟨⟩⟩ (sC (sC sR)) ⟨rfl, (by (try dsimp only) <;> omega), (fun i hi => absurd hi (by omega))⟩ ?_)))))))))))))
 rintro k rE _ _ ⟨rfl, hk, hrk⟩
 show X _ _ _ _ (envs [(2, ptr b1 0), (3, ptr b2 0), (29, rsv), (30, ii ((rs.length : Int))), (31, ii ((k : Int)))] rE) _ (cellsH b2 [ii (n), rsv, fiv] 29 :: cellsH b1 [arv] 26 :: L)
 refine qc (qa (cX (qV rfl rfl (qb (qc ?_)))))
 refine qE (p := (k : Int) < (rs.length : Int)) rfl (fun h5 => ?_) (fun h5 => ?_)
 ·refine qx (qc (qF (qc (qa (qd (ii ((k : Int))) rfl (cX (qy k qR jb rfl rfl rfl hrs.slv (by omega) rfl ?_)))))))
  obtain ⟨a1, ha1, hrg1, hq1⟩ := hrs.rd (i := k) (by omega)
  refine cX (qu [ii ((rs.getD k (0, [], 0)).1), a1, ii ((rs.getD k (0, [], 0)).2.2)] jD jb rfl rfl (Rd.all (hrg1 _)) (cX (jt [ii (0), sN, ii (0)] jF rfl ?_)))
  intro b3
  refine qg (ii ((k : Int))) rfl (cX (qX [] _ [ii ((rs.getD k (0, [], 0)).1), a1, ii ((rs.getD k (0, [], 0)).2.2)] jb rfl rfl rfl (qt rfl (qt (qU (qS ha1)) (qt rfl qZ))) rfl rfl rfl (qb (qc (qc ?_)))))
  by_cases h6 : ((rs.getD k (0, [], 0)).1 : Int) < 0
  ·refine jq [cellsH b3 [ii ((rs.getD k (0, [], 0)).1), a1, ii ((rs.getD k (0, [], 0)).2.2)] 68, cellsH b2 [ii (n), rsv, fiv] 29, cellsH b1 [arv] 26] L 35 [] [[], [0], [1], [2], [3], [3, 4], [3], [3, 6], [3, 7], [3, 5, 8], [3, 9], [10], [11], [11, 12], [11, 13], [11], [11, 15], [11], [11, 17], [11, 16, 18], [11, 19], [11, 14, 20], [11, 21], [22], [23], [23], [23, 25], [23, 24, 26], [23, 27], [23, 28], [29], [30], [30], [30, 32], [30, 33]] (phiL [qe (ptr b3 0), qe (ii ((rs.getD k (0, [], 0)).1)), qe (.bool (decide (((rs.getD k (0, [], 0)).1 : Int) < 0)) : Value), qe (.bool (decide (((rs.getD k (0, [], 0)).1 : Int) < 0)) : Value), qe undef, qe undef, qe undef, qe undef, qe undef, qe undef, qe (.bool (true)), qe (.bool (true)), qe undef, qe undef, qe undef, qe undef, qe undef, qe undef, qe undef, qe undef, qe undef, qe undef, qe (.bool (true)), qe (.bool (true)), qe undef, qe undef, qe undef, qe undef, qe undef, qe (.bool (true)), qe (.bool (true)), qe undef, qe undef, qe undef, qe undef]) (ownL []) mixed rfl rfl (by kernel_rfl) ?_ ?_
   ·refine pD (fun W R z9 => ?_) ?_
    ·refine qh (ql (0) qB rfl qr (by decide) rfl rfl ?_)
     exact ⟨rfl, rfl, rfl⟩
    refine pD (fun W R z9 => ?_) ?_
    ·rw [zA 0 (z9 0 rfl)]
     refine qh (qi qM rfl (Rd.own [] rfl rfl) ?_)
     exact ⟨rfl, rfl, rfl⟩
    refine pD (fun W R z9 => ?_) ?_
    ·rw [zA 1 (z9 1 rfl)]
     refine qh (qV rfl rfl ?_)
     exact ⟨rfl, rfl, rfl⟩
    refine pD (fun W R z9 => ?_) ?_
    ·rw [zA 2 (z9 2 rfl)]
     refine qh (qk (.bool (decide (((rs.getD k (0, [], 0)).1 : Int) < 0))) rfl ?_)
     exact ⟨rfl, rfl, rfl⟩
    refine pD (fun W R z9 => ?_) ?_
    ·rw [zA 3 (z9 3 rfl)]
     exact qW (t := 39) rfl (vT h6) ⟨rfl, rfl, rfl⟩
    refine pD (fun W R z9 => ?_) ?_
    ·rw [eS (l := [(3, _), (4, undef)]) ⟨z9 3 rfl, z9 4 rfl, ⟨⟩⟩]
     exact qW (t := 39) rfl (vT h6) ⟨rfl, rfl, rfl⟩
    refine pD (fun W R z9 => ?_) ?_
    ·rw [zA 3 (z9 3 rfl)]
     exact qW (t := 39) rfl (vT h6) ⟨rfl, rfl, rfl⟩
    refine pD (fun W R z9 => ?_) ?_
    ·rw [eS (l := [(3, _), (6, undef)]) ⟨z9 3 rfl, z9 6 rfl, ⟨⟩⟩]
     exact qW (t := 39) rfl (vT h6) ⟨rfl, rfl, rfl⟩
    refine pD (fun W R z9 => ?_) ?_
    ·rw [eS (l := [(3, _), (7, undef)]) ⟨z9 3 rfl, z9 7 rfl, ⟨⟩⟩]
     exact qW (t := 39) rfl (vT h6) ⟨rfl, rfl, rfl⟩
    refine pD (fun W R z9 => ?_) ?_
    ·rw [eS (l := [(3, _), (5, undef), (8, undef)]) ⟨z9 3 rfl, z9 5 rfl, z9 8 rfl, ⟨⟩⟩]
     exact qW (t := 39) rfl (vT h6) ⟨rfl, rfl, rfl⟩
    refine pD (fun W R z9 => ?_) ?_
    ·rw [eS (l := [(3, _), (9, undef)]) ⟨z9 3 rfl, z9 9 rfl, ⟨⟩⟩]
     refine qh (qL (.bool (true)) (vT h6) rfl ?_)
     exact ⟨rfl, rfl, rfl⟩
    refine pD (fun W R z9 => ?_) ?_
    ·rw [zA 10 (z9 10 rfl)]
     refine qh (qk (.bool (true)) rfl ?_)
     exact ⟨rfl, rfl, rfl⟩
    refine pD (fun W R z9 => ?_) ?_
    ·rw [zA 11 (z9 11 rfl)]
     exact qW (t := 47) rfl rfl ⟨rfl, rfl, rfl⟩
    refine pD (fun W R z9 => ?_) ?_
    ·rw [eS (l := [(11, _), (12, undef)]) ⟨z9 11 rfl, z9 12 rfl, ⟨⟩⟩]
     exact qW (t := 47) rfl rfl ⟨rfl, rfl, rfl⟩
    refine pD (fun W R z9 => ?_) ?_
    ·rw [eS (l := [(11, _), (13, undef)]) ⟨z9 11 rfl, z9 13 rfl, ⟨⟩⟩]
     exact qW (t := 47) rfl rfl ⟨rfl, rfl, rfl⟩
    refine pD (fun W R z9 => ?_) ?_
    ·rw [zA 11 (z9 11 rfl)]
     exact qW (t := 47) rfl rfl ⟨rfl, rfl, rfl⟩
    refine pD (fun W R z9 => ?_) ?_
    ·rw [eS (l := [(11, _), (15, undef)]) ⟨z9 11 rfl, z9 15 rfl, ⟨⟩⟩]
     exact qW (t := 47) rfl rfl ⟨rfl, rfl, rfl⟩
    refine pD (fun W R z9 => ?_) ?_
    ·rw [zA 11 (z9 11 rfl)]
     exact qW (t := 47) rfl rfl ⟨rfl, rfl, rfl⟩
    refine pD (fun W R z9 => ?_) ?_
    ·rw [eS (l := [(11, _), (17, undef)]) ⟨z9 11 rfl, z9 17 rfl, ⟨⟩⟩]
     exact qW (t := 47) rfl rfl ⟨rfl, rfl, rfl⟩
    refine pD (fun W R z9 => ?_) ?_
    ·rw [eS (l := [(11, _), (16, undef), (18, undef)]) ⟨z9 11 rfl, z9 16 rfl, z9 18 rfl, ⟨⟩⟩]
     exact qW (t := 47) rfl rfl ⟨rfl, rfl, rfl⟩
    refine pD (fun W R z9 => ?_) ?_
    ·rw [eS (l := [(11, _), (19, undef)]) ⟨z9 11 rfl, z9 19 rfl, ⟨⟩⟩]
     exact qW (t := 47) rfl rfl ⟨rfl, rfl, rfl⟩
    refine pD (fun W R z9 => ?_) ?_
    ·rw [eS (l := [(11, _), (14, undef), (20, undef)]) ⟨z9 11 rfl, z9 14 rfl, z9 20 rfl, ⟨⟩⟩]
     exact qW (t := 47) rfl rfl ⟨rfl, rfl, rfl⟩
    refine pD (fun W R z9 => ?_) ?_
    ·rw [eS (l := [(11, _), (21, undef)]) ⟨z9 11 rfl, z9 21 rfl, ⟨⟩⟩]
     refine qh (qL (.bool (true)) rfl rfl ?_)
     exact ⟨rfl, rfl, rfl⟩
    refine pD (fun W R z9 => ?_) ?_
    ·rw [zA 22 (z9 22 rfl)]
     refine qh (qk (.bool (true)) rfl ?_)
     exact ⟨rfl, rfl, rfl⟩
    refine pD (fun W R z9 => ?_) ?_
    ·rw [zA 23 (z9 23 rfl)]
     exact qW (t := 59) rfl rfl ⟨rfl, rfl, rfl⟩
    refine pD (fun W R z9 => ?_) ?_
    ·rw [zA 23 (z9 23 rfl)]
     exact qW (t := 59) rfl rfl ⟨rfl, rfl, rfl⟩
    refine pD (fun W R z9 => ?_) ?_
    ·rw [eS (l := [(23, _), (25, undef)]) ⟨z9 23 rfl, z9 25 rfl, ⟨⟩⟩]
     exact qW (t := 59) rfl rfl ⟨rfl, rfl, rfl⟩
    refine pD (fun W R z9 => ?_) ?_
    ·rw [eS (l := [(23, _), (24, undef), (26, undef)]) ⟨z9 23 rfl, z9 24 rfl, z9 26 rfl, ⟨⟩⟩]
     exact qW (t := 59) rfl rfl ⟨rfl, rfl, rfl⟩
    refine pD (fun W R z9 => ?_) ?_
    ·rw [eS (l := [(23, _), (27, undef)]) ⟨z9 23 rfl, z9 27 rfl, ⟨⟩⟩]
     exact qW (t := 59) rfl rfl ⟨rfl, rfl, rfl⟩
    refine pD (fun W R z9 => ?_) ?_
    ·rw [eS (l := [(23, _), (28, undef)]) ⟨z9 23 rfl, z9 28 rfl, ⟨⟩⟩]
     refine qh (qL (.bool (true)) rfl rfl ?_)
     exact ⟨rfl, rfl, rfl⟩
    refine pD (fun W R z9 => ?_) ?_
    ·rw [zA 29 (z9 29 rfl)]
     refine qh (qk (.bool (true)) rfl ?_)
     exact ⟨rfl, rfl, rfl⟩
    refine pD (fun W R z9 => ?_) ?_
    ·rw [zA 30 (z9 30 rfl)]
     exact qW (t := 66) rfl rfl ⟨rfl, rfl, rfl⟩
    refine pD (fun W R z9 => ?_) ?_
    ·rw [zA 30 (z9 30 rfl)]
     exact qW (t := 66) rfl rfl ⟨rfl, rfl, rfl⟩
    refine pD (fun W R z9 => ?_) ?_
    ·rw [eS (l := [(30, _), (32, undef)]) ⟨z9 30 rfl, z9 32 rfl, ⟨⟩⟩]
     exact qW (t := 66) rfl rfl ⟨rfl, rfl, rfl⟩
    refine pD (fun W R z9 => ?_) ?_
    ·rw [eS (l := [(30, _), (33, undef)]) ⟨z9 30 rfl, z9 33 rfl, ⟨⟩⟩]
     exact qW (t := 66) rfl rfl ⟨rfl, rfl, rfl⟩
    exact stepsP.nil
   intro W hphi
   rw [eS (l := [(30, _), (31, undef), (34, undef)]) ⟨(hphi 30 (by decide)), (hphi 31 (by decide)), (hphi 34 (by decide)), ⟨⟩⟩]
   show XL _ _ _ _ _ _ _ (cellsH b3 [ii ((rs.getD k (0, [], 0)).1), a1, ii ((rs.getD k (0, [], 0)).2.2)] 68 :: cellsH b2 [ii (n), rsv, fiv] 29 :: cellsH b1 [arv] 26 :: L)
   refine qm (t := 66) rfl rfl (qm (t := 66) rfl rfl (cX (qL (.bool (true)) rfl rfl (qb (jA rfl (qc (qa (qg (.bool (false)) rfl (qb (qC (qn (qK (qn (qn (qK (qn (qv (L' := L) [.bool (false)] (.bool (false)) (.tmp rfl .nil) rfl rF rF (sD (sD (sD sR))) ?_)))))))))))))))))
   exact ⟨(vB ((by first | exact auto_no (fun A => by first | (have h9 := A.sig; rw [hsg] at h9; cases h9; done) | (have h1 := A.n1; have h2 := A.n16; have h3 := A.few; omega)) | exact auto_no (fun A => by have hT := A.rule k (by omega); have h1 := hT.sym; have h2 := hT.args; have h3 := hT.to; have h4 := states_iff.2 hT.arg; have h5 : statesB n [(rs.getD k (0, [], 0)).2.2] = true := states_iff.2 (fun i hi => by match i, hi with | 0, _ => exact h3); first | omega | (rw [‹statesB n (rs.getD k (0, [], 0)).2.1 = false›] at h4; cases h4; done) | (rw [‹statesB n [(rs.getD k (0, [], 0)).2.2] = false›] at h5; cases h5; done)) | exact auto_no (fun A => by obtain ⟨j, hj, e⟩ := hdu; exact A.diff k j (by omega) hj e) | exact auto_no (fun A => by have h9 := A.asc k (by omega) (by omega); omega) | exact auto_last hsg (by omega) (by omega) (by omega) (fun i hi => hrk i (by omega)) (fun i hi => has i (by omega))))), rfl, rfl⟩
  by_cases h7 : ((rs.getD k (0, [], 0)).1 : Int) ≥ (ar.length : Int)
  ·refine jq [cellsH b3 [ii ((rs.getD k (0, [], 0)).1), a1, ii ((rs.getD k (0, [], 0)).2.2)] 68, cellsH b2 [ii (n), rsv, fiv] 29, cellsH b1 [arv] 26] L 35 [] [[], [0], [1], [2], [3], [3, 4], [3], [3, 6], [3, 7], [3, 5, 8], [3, 9], [10], [11], [11, 12], [11, 13], [11], [11, 15], [11], [11, 17], [11, 16, 18], [11, 19], [11, 14, 20], [11, 21], [22], [23], [23], [23, 25], [23, 24, 26], [23, 27], [23, 28], [29], [30], [30], [30, 32], [30, 33]] (phiL [qe (ptr b3 0), qe (ii ((rs.getD k (0, [], 0)).1)), qe (.bool (decide (((rs.getD k (0, [], 0)).1 : Int) < 0)) : Value), qe (.bool (decide (((rs.getD k (0, [], 0)).1 : Int) < 0)) : Value), qe (ptr b3 0), qe (ii ((rs.getD k (0, [], 0)).1)), qe (ptr b1 0), qe arv, qe (ii ((ar.length : Int)) : Value), qe (.bool (decide (((rs.getD k (0, [], 0)).1 : Int) ≥ (ar.length : Int))) : Value), qe (.bool (decide (((rs.getD k (0, [], 0)).1 : Int) ≥ (ar.length : Int))) : Value), qe (.bool (decide (((rs.getD k (0, [], 0)).1 : Int) ≥ (ar.length : Int))) : Value), qe undef, qe undef, qe undef, qe undef, qe undef, qe undef, qe undef, qe undef, qe undef, qe undef, qe (.bool (true)), qe (.bool (true)), qe undef, qe undef, qe undef, qe undef, qe undef, qe (.bool (true)), qe (.bool (true)), qe undef, qe undef, qe undef, qe undef]) (ownL []) mixed rfl rfl (by kernel_rfl) ?_ ?_
   ·refine pD (fun W R z9 => ?_) ?_
    ·refine qh (ql (0) qB rfl qr (by decide) rfl rfl ?_)
     exact ⟨rfl, rfl, rfl⟩
    refine pD (fun W R z9 => ?_) ?_
    ·rw [zA 0 (z9 0 rfl)]
     refine qh (qi qM rfl (Rd.own [] rfl rfl) ?_)
     exact ⟨rfl, rfl, rfl⟩
    refine pD (fun W R z9 => ?_) ?_
    ·rw [zA 1 (z9 1 rfl)]
     refine qh (qV rfl rfl ?_)
     exact ⟨rfl, rfl, rfl⟩
    refine pD (fun W R z9 => ?_) ?_
    ·rw [zA 2 (z9 2 rfl)]
     refine qh (qk (.bool (decide (((rs.getD k (0, [], 0)).1 : Int) < 0))) rfl ?_)
     exact ⟨rfl, rfl, rfl⟩
    refine pD (fun W R z9 => ?_) ?_
    ·rw [zA 3 (z9 3 rfl)]
     refine qH (t := 39) rfl (vF h6) (ql (0) qB rfl qr (by decide) rfl rfl ?_)
     exact ⟨rfl, rfl, rfl⟩
    refine pD (fun W R z9 => ?_) ?_
    ·rw [zB 3 4 (z9 3 rfl) (z9 4 rfl)]
     refine qH (t := 39) rfl (vF h6) (qi qM rfl (Rd.own [] rfl rfl) ?_)
     exact ⟨rfl, rfl, rfl⟩
    refine pD (fun W R z9 => ?_) ?_
    ·rw [zA 3 (z9 3 rfl)]
     refine qH (t := 39) rfl (vF h6) (ql (0) ja rfl qw (by decide) rfl rfl ?_)
     exact ⟨rfl, rfl, rfl⟩
    refine pD (fun W R z9 => ?_) ?_
    ·rw [zB 3 6 (z9 3 rfl) (z9 6 rfl)]
     refine qH (t := 39) rfl (vF h6) (qi qT rfl (Rd.own [_, _] rfl rfl) ?_)
     exact ⟨rfl, rfl, rfl⟩
    refine pD (fun W R z9 => ?_) ?_
    ·rw [zB 3 7 (z9 3 rfl) (z9 7 rfl)]
     refine qH (t := 39) rfl (vF h6) (qG qf rfl har.slv ?_)
     exact ⟨rfl, rfl, rfl⟩
    refine pD (fun W R z9 => ?_) ?_
    ·rw [eS (l := [(3, _), (5, _), (8, _)]) ⟨z9 3 rfl, z9 5 rfl, z9 8 rfl, ⟨⟩⟩]
     refine qH (t := 39) rfl (vF h6) (XOp.geq rfl rfl ?_)
     exact ⟨rfl, rfl, rfl⟩
    refine pD (fun W R z9 => ?_) ?_
    ·rw [zB 3 9 (z9 3 rfl) (z9 9 rfl)]
     refine qh (qQ (.bool (decide (((rs.getD k (0, [], 0)).1 : Int) ≥ (ar.length : Int)))) (vF h6) rfl ?_)
     exact ⟨rfl, rfl, rfl⟩
    refine pD (fun W R z9 => ?_) ?_
    ·rw [zA 10 (z9 10 rfl)]
     refine qh (qk (.bool (decide (((rs.getD k (0, [], 0)).1 : Int) ≥ (ar.length : Int)))) rfl ?_)
     exact ⟨rfl, rfl, rfl⟩
    refine pD (fun W R z9 => ?_) ?_
    ·rw [zA 11 (z9 11 rfl)]
     exact qW (t := 47) rfl (vT h7) ⟨rfl, rfl, rfl⟩
    refine pD (fun W R z9 => ?_) ?_
    ·rw [eS (l := [(11, _), (12, undef)]) ⟨z9 11 rfl, z9 12 rfl, ⟨⟩⟩]
     exact qW (t := 47) rfl (vT h7) ⟨rfl, rfl, rfl⟩
    refine pD (fun W R z9 => ?_) ?_
    ·rw [eS (l := [(11, _), (13, undef)]) ⟨z9 11 rfl, z9 13 rfl, ⟨⟩⟩]
     exact qW (t := 47) rfl (vT h7) ⟨rfl, rfl, rfl⟩
    refine pD (fun W R z9 => ?_) ?_
    ·rw [zA 11 (z9 11 rfl)]
     exact qW (t := 47) rfl (vT h7) ⟨rfl, rfl, rfl⟩
    refine pD (fun W R z9 => ?_) ?_
    ·rw [eS (l := [(11, _), (15, undef)]) ⟨z9 11 rfl, z9 15 rfl, ⟨⟩⟩]
     exact qW (t := 47) rfl (vT h7) ⟨rfl, rfl, rfl⟩
    refine pD (fun W R z9 => ?_) ?_
    ·rw [zA 11 (z9 11 rfl)]
     exact qW (t := 47) rfl (vT h7) ⟨rfl, rfl, rfl⟩
    refine pD (fun W R z9 => ?_) ?_
    ·rw [eS (l := [(11, _), (17, undef)]) ⟨z9 11 rfl, z9 17 rfl, ⟨⟩⟩]
     exact qW (t := 47) rfl (vT h7) ⟨rfl, rfl, rfl⟩
    refine pD (fun W R z9 => ?_) ?_
    ·rw [eS (l := [(11, _), (16, undef), (18, undef)]) ⟨z9 11 rfl, z9 16 rfl, z9 18 rfl, ⟨⟩⟩]
     exact qW (t := 47) rfl (vT h7) ⟨rfl, rfl, rfl⟩
    refine pD (fun W R z9 => ?_) ?_
    ·rw [eS (l := [(11, _), (19, undef)]) ⟨z9 11 rfl, z9 19 rfl, ⟨⟩⟩]
     exact qW (t := 47) rfl (vT h7) ⟨rfl, rfl, rfl⟩
    refine pD (fun W R z9 => ?_) ?_
    ·rw [eS (l := [(11, _), (14, undef), (20, undef)]) ⟨z9 11 rfl, z9 14 rfl, z9 20 rfl, ⟨⟩⟩]
     exact qW (t := 47) rfl (vT h7) ⟨rfl, rfl, rfl⟩
    refine pD (fun W R z9 => ?_) ?_
    ·rw [eS (l := [(11, _), (21, undef)]) ⟨z9 11 rfl, z9 21 rfl, ⟨⟩⟩]
     refine qh (qL (.bool (true)) (vT h7) rfl ?_)
     exact ⟨rfl, rfl, rfl⟩
    refine pD (fun W R z9 => ?_) ?_
    ·rw [zA 22 (z9 22 rfl)]
     refine qh (qk (.bool (true)) rfl ?_)
     exact ⟨rfl, rfl, rfl⟩
    refine pD (fun W R z9 => ?_) ?_
    ·rw [zA 23 (z9 23 rfl)]
     exact qW (t := 59) rfl rfl ⟨rfl, rfl, rfl⟩
    refine pD (fun W R z9 => ?_) ?_
    ·rw [zA 23 (z9 23 rfl)]
     exact qW (t := 59) rfl rfl ⟨rfl, rfl, rfl⟩
    refine pD (fun W R z9 => ?_) ?_
    ·rw [eS (l := [(23, _), (25, undef)]) ⟨z9 23 rfl, z9 25 rfl, ⟨⟩⟩]
     exact qW (t := 59) rfl rfl ⟨rfl, rfl, rfl⟩
    refine pD (fun W R z9 => ?_) ?_
    ·rw [eS (l := [(23, _), (24, undef), (26, undef)]) ⟨z9 23 rfl, z9 24 rfl, z9 26 rfl, ⟨⟩⟩]
     exact qW (t := 59) rfl rfl ⟨rfl, rfl, rfl⟩
    refine pD (fun W R z9 => ?_) ?_
    ·rw [eS (l := [(23, _), (27, undef)]) ⟨z9 23 rfl, z9 27 rfl, ⟨⟩⟩]
     exact qW (t := 59) rfl rfl ⟨rfl, rfl, rfl⟩
    refine pD (fun W R z9 => ?_) ?_
    ·rw [eS (l := [(23, _), (28, undef)]) ⟨z9 23 rfl, z9 28 rfl, ⟨⟩⟩]
     refine qh (qL (.bool (true)) rfl rfl ?_)
     exact ⟨rfl, rfl, rfl⟩
    refine pD (fun W R z9 => ?_) ?_
    ·rw [zA 29 (z9 29 rfl)]
     refine qh (qk (.bool (true)) rfl ?_)
     exact ⟨rfl, rfl, rfl⟩
    refine pD (fun W R z9 => ?_) ?_
    ·rw [zA 30 (z9 30 rfl)]
     exact qW (t := 66) rfl rfl ⟨rfl, rfl, rfl⟩
    refine pD (fun W R z9 => ?_) ?_
    ·rw [zA 30 (z9 30 rfl)]
     exact qW (t := 66) rfl rfl ⟨rfl, rfl, rfl⟩
    refine pD (fun W R z9 => ?_) ?_
    ·rw [eS (l := [(30, _), (32, undef)]) ⟨z9 30 rfl, z9 32 rfl, ⟨⟩⟩]
     exact qW (t := 66) rfl rfl ⟨rfl, rfl, rfl⟩
    refine pD (fun W R z9 => ?_) ?_
    ·rw [eS (l := [(30, _), (33, undef)]) ⟨z9 30 rfl, z9 33 rfl, ⟨⟩⟩]
     exact qW (t := 66) rfl rfl ⟨rfl, rfl, rfl⟩
    exact stepsP.nil
   intro W hphi
   rw [eS (l := [(30, _), (31, undef), (34, undef)]) ⟨(hphi 30 (by decide)), (hphi 31 (by decide)), (hphi 34 (by decide)), ⟨⟩⟩]
   show XL _ _ _ _ _ _ _ (cellsH b3 [ii ((rs.getD k (0, [], 0)).1), a1, ii ((rs.getD k (0, [], 0)).2.2)] 68 :: cellsH b2 [ii (n), rsv, fiv] 29 :: cellsH b1 [arv] 26 :: L)
   refine qm (t := 66) rfl rfl (qm (t := 66) rfl rfl (cX (qL (.bool (true)) rfl rfl (qb (jA rfl (qc (qa (qg (.bool (false)) rfl (qb (qC (qn (qK (qn (qn (qK (qn (qv (L' := L) [.bool (false)] (.bool (false)) (.tmp rfl .nil) rfl rF rF (sD (sD (sD sR))) ?_)))))))))))))))))
   exact ⟨(vB ((by first | exact auto_no (fun A => by first | (have h9 := A.sig; rw [hsg] at h9; cases h9; done) | (have h1 := A.n1; have h2 := A.n16; have h3 := A.few; omega)) | exact auto_no (fun A => by have hT := A.rule k (by omega); have h1 := hT.sym; have h2 := hT.args; have h3 := hT.to; have h4 := states_iff.2 hT.arg; have h5 : statesB n [(rs.getD k (0, [], 0)).2.2] = true := states_iff.2 (fun i hi => by match i, hi with | 0, _ => exact h3); first | omega | (rw [‹statesB n (rs.getD k (0, [], 0)).2.1 = false›] at h4; cases h4; done) | (rw [‹statesB n [(rs.getD k (0, [], 0)).2.2] = false›] at h5; cases h5; done)) | exact auto_no (fun A => by obtain ⟨j, hj, e⟩ := hdu; exact A.diff k j (by omega) hj e) | exact auto_no (fun A => by have h9 := A.asc k (by omega) (by omega); omega) | exact auto_last hsg (by omega) (by omega) (by omega) (fun i hi => hrk i (by omega)) (fun i hi => has i (by omega))))), rfl, rfl⟩
  by_cases h8 : (((((rs.getD k (0, [], 0)).2.1).length : Nat) : Int) : Int) ≠ ar.getD (((rs.getD k (0, [], 0)).1).toNat) 0
  ·refine jq [cellsH b3 [ii ((rs.getD k (0, [], 0)).1), a1, ii ((rs.getD k (0, [], 0)).2.2)] 68, cellsH b2 [ii (n), rsv, fiv] 29, cellsH b1 [arv] 26] L 35 [] [[], [0], [1], [2], [3], [3, 4], [3], [3, 6], [3, 7], [3, 5, 8], [3, 9], [10], [11], [11, 12], [11, 13], [11], [11, 15], [11], [11, 17], [11, 16, 18], [11, 19], [11, 14, 20], [11, 21], [22], [23], [23], [23, 25], [23, 24, 26], [23, 27], [23, 28], [29], [30], [30], [30, 32], [30, 33]] (phiL [qe (ptr b3 0), qe (ii ((rs.getD k (0, [], 0)).1)), qe (.bool (decide (((rs.getD k (0, [], 0)).1 : Int) < 0)) : Value), qe (.bool (decide (((rs.getD k (0, [], 0)).1 : Int) < 0)) : Value), qe (ptr b3 0), qe (ii ((rs.getD k (0, [], 0)).1)), qe (ptr b1 0), qe arv, qe (ii ((ar.length : Int)) : Value), qe (.bool (decide (((rs.getD k (0, [], 0)).1 : Int) ≥ (ar.length : Int))) : Value), qe (.bool (decide (((rs.getD k (0, [], 0)).1 : Int) ≥ (ar.length : Int))) : Value), qe (.bool (decide (((rs.getD k (0, [], 0)).1 : Int) ≥ (ar.length : Int))) : Value), qe (ptr b3 1), qe a1, qe (ii (((((rs.getD k (0, [], 0)).2.1).length : Nat) : Int)) : Value), qe (ptr b1 0), qe arv, qe (ptr b3 0), qe (ii ((rs.getD k (0, [], 0)).1)), qe (.pointer (some (elemA arv (((rs.getD k (0, [], 0)).1).toNat)))), qe (ii (ar.getD (((rs.getD k (0, [], 0)).1).toNat) 0)), qe (.bool (decide ((((((rs.getD k (0, [], 0)).2.1).length : Nat) : Int) : Int) ≠ ar.getD (((rs.getD k (0, [], 0)).1).toNat) 0)) : Value), qe (.bool (decide ((((((rs.getD k (0, [], 0)).2.1).length : Nat) : Int) : Int) ≠ ar.getD (((rs.getD k (0, [], 0)).1).toNat) 0)) : Value), qe (.bool (decide ((((((rs.getD k (0, [], 0)).2.1).length : Nat) : Int) : Int) ≠ ar.getD (((rs.getD k (0, [], 0)).1).toNat) 0)) : Value), qe undef, qe undef, qe undef, qe undef, qe undef, qe (.bool (true)), qe (.bool (true)), qe undef, qe undef, qe undef, qe undef]) (ownL []) mixed rfl rfl (by kernel_rfl) ?_ ?_
   ·refine pD (fun W R z9 => ?_) ?_
    ·refine qh (ql (0) qB rfl qr (by decide) rfl rfl ?_)
     exact ⟨rfl, rfl, rfl⟩
    refine pD (fun W R z9 => ?_) ?_
    ·rw [zA 0 (z9 0 rfl)]
     refine qh (qi qM rfl (Rd.own [] rfl rfl) ?_)
     exact ⟨rfl, rfl, rfl⟩
    refine pD (fun W R z9 => ?_) ?_
    ·rw [zA 1 (z9 1 rfl)]
     refine qh (qV rfl rfl ?_)
     exact ⟨rfl, rfl, rfl⟩
    refine pD (fun W R z9 => ?_) ?_
    ·rw [zA 2 (z9 2 rfl)]
     refine qh (qk (.bool (decide (((rs.getD k (0, [], 0)).1 : Int) < 0))) rfl ?_)
     exact ⟨rfl, rfl, rfl⟩
    refine pD (fun W R z9 => ?_) ?_
    ·rw [zA 3 (z9 3 rfl)]
     refine qH (t := 39) rfl (vF h6) (ql (0) qB rfl qr (by decide) rfl rfl ?_)
     exact ⟨rfl, rfl, rfl⟩
    refine pD (fun W R z9 => ?_) ?_
    ·rw [zB 3 4 (z9 3 rfl) (z9 4 rfl)]
     refine qH (t := 39) rfl (vF h6) (qi qM rfl (Rd.own [] rfl rfl) ?_)
     exact ⟨rfl, rfl, rfl⟩
    refine pD (fun W R z9 => ?_) ?_
    ·rw [zA 3 (z9 3 rfl)]
     refine qH (t := 39) rfl (vF h6) (ql (0) ja rfl qw (by decide) rfl rfl ?_)
     exact ⟨rfl, rfl, rfl⟩
    refine pD (fun W R z9 => ?_) ?_
    ·rw [zB 3 6 (z9 3 rfl) (z9 6 rfl)]
     refine qH (t := 39) rfl (vF h6) (qi qT rfl (Rd.own [_, _] rfl rfl) ?_)
     exact ⟨rfl, rfl, rfl⟩
    refine pD (fun W R z9 => ?_) ?_
    ·rw [zB 3 7 (z9 3 rfl) (z9 7 rfl)]
     refine qH (t := 39) rfl (vF h6) (qG qf rfl har.slv ?_)
     exact ⟨rfl, rfl, rfl⟩
    refine pD (fun W R z9 => ?_) ?_
    ·rw [eS (l := [(3, _), (5, _), (8, _)]) ⟨z9 3 rfl, z9 5 rfl, z9 8 rfl, ⟨⟩⟩]
     refine qH (t := 39) rfl (vF h6) (XOp.geq rfl rfl ?_)
     exact ⟨rfl, rfl, rfl⟩
    refine pD (fun W R z9 => ?_) ?_
    ·rw [zB 3 9 (z9 3 rfl) (z9 9 rfl)]
     refine qh (qQ (.bool (decide (((rs.getD k (0, [], 0)).1 : Int) ≥ (ar.length : Int)))) (vF h6) rfl ?_)
     exact ⟨rfl, rfl, rfl⟩
    refine pD (fun W R z9 => ?_) ?_
    ·rw [zA 10 (z9 10 rfl)]
     refine qh (qk (.bool (decide (((rs.getD k (0, [], 0)).1 : Int) ≥ (ar.length : Int)))) rfl ?_)
     exact ⟨rfl, rfl, rfl⟩
    refine pD (fun W R z9 => ?_) ?_
    ·rw [zA 11 (z9 11 rfl)]
     refine qH (t := 47) rfl (vF h7) (ql (1) qB rfl qw (by decide) rfl rfl ?_)
     exact ⟨rfl, rfl, rfl⟩
    refine pD (fun W R z9 => ?_) ?_
    ·rw [zB 11 12 (z9 11 rfl) (z9 12 rfl)]
     refine qH (t := 47) rfl (vF h7) (qi qT rfl (Rd.own [] rfl rfl) ?_)
     exact ⟨rfl, rfl, rfl⟩
    refine pD (fun W R z9 => ?_) ?_
    ·rw [zB 11 13 (z9 11 rfl) (z9 13 rfl)]
     refine qH (t := 47) rfl (vF h7) (qG qf rfl ha1.slv ?_)
     exact ⟨rfl, rfl, rfl⟩
    refine pD (fun W R z9 => ?_) ?_
    ·rw [zA 11 (z9 11 rfl)]
     refine qH (t := 47) rfl (vF h7) (ql (0) ja rfl qw (by decide) rfl rfl ?_)
     exact ⟨rfl, rfl, rfl⟩
    refine pD (fun W R z9 => ?_) ?_
    ·rw [zB 11 15 (z9 11 rfl) (z9 15 rfl)]
     refine qH (t := 47) rfl (vF h7) (qi qT rfl (Rd.own [_, _] rfl rfl) ?_)
     exact ⟨rfl, rfl, rfl⟩
    refine pD (fun W R z9 => ?_) ?_
    ·rw [zA 11 (z9 11 rfl)]
     refine qH (t := 47) rfl (vF h7) (ql (0) qB rfl qr (by decide) rfl rfl ?_)
     exact ⟨rfl, rfl, rfl⟩
    refine pD (fun W R z9 => ?_) ?_
    ·rw [zB 11 17 (z9 11 rfl) (z9 17 rfl)]
     refine qH (t := 47) rfl (vF h7) (qi qM rfl (Rd.own [] rfl rfl) ?_)
     exact ⟨rfl, rfl, rfl⟩
    refine pD (fun W R z9 => ?_) ?_
    ·rw [eS (l := [(11, _), (16, _), (18, _)]) ⟨z9 11 rfl, z9 16 rfl, z9 18 rfl, ⟨⟩⟩]
     refine qH (t := 47) rfl (vF h7) (qy (((rs.getD k (0, [], 0)).1).toNat) qf qr rfl rfl (by omega) har.slv (by omega) (Nat.mul_one _) ?_)
     exact ⟨rfl, rfl, rfl⟩
    refine pD (fun W R z9 => ?_) ?_
    ·rw [zB 11 19 (z9 11 rfl) (z9 19 rfl)]
     refine qH (t := 47) rfl (vF h7) (qi qM rfl (har.rd (by omega)) ?_)
     exact ⟨rfl, rfl, rfl⟩
    refine pD (fun W R z9 => ?_) ?_
    ·rw [eS (l := [(11, _), (14, _), (20, _)]) ⟨z9 11 rfl, z9 14 rfl, z9 20 rfl, ⟨⟩⟩]
     refine qH (t := 47) rfl (vF h7) (XOp.neq rfl rfl ?_)
     exact ⟨rfl, rfl, rfl⟩
    refine pD (fun W R z9 => ?_) ?_
    ·rw [zB 11 21 (z9 11 rfl) (z9 21 rfl)]
     refine qh (qQ (.bool (decide ((((((rs.getD k (0, [], 0)).2.1).length : Nat) : Int) : Int) ≠ ar.getD (((rs.getD k (0, [], 0)).1).toNat) 0))) (vF h7) rfl ?_)
     exact ⟨rfl, rfl, rfl⟩
    refine pD (fun W R z9 => ?_) ?_
    ·rw [zA 22 (z9 22 rfl)]
     refine qh (qk (.bool (decide ((((((rs.getD k (0, [], 0)).2.1).length : Nat) : Int) : Int) ≠ ar.getD (((rs.getD k (0, [], 0)).1).toNat) 0))) rfl ?_)
     exact ⟨rfl, rfl, rfl⟩
    refine pD (fun W R z9 => ?_) ?_
    ·rw [zA 23 (z9 23 rfl)]
     exact qW (t := 59) rfl (vT h8) ⟨rfl, rfl, rfl⟩
    refine pD (fun W R z9 => ?_) ?_
    ·rw [zA 23 (z9 23 rfl)]
     exact qW (t := 59) rfl (vT h8) ⟨rfl, rfl, rfl⟩
    refine pD (fun W R z9 => ?_) ?_
    ·rw [eS (l := [(23, _), (25, undef)]) ⟨z9 23 rfl, z9 25 rfl, ⟨⟩⟩]
     exact qW (t := 59) rfl (vT h8) ⟨rfl, rfl, rfl⟩
    refine pD (fun W R z9 => ?_) ?_
    ·rw [eS (l := [(23, _), (24, undef), (26, undef)]) ⟨z9 23 rfl, z9 24 rfl, z9 26 rfl, ⟨⟩⟩]
     exact qW (t := 59) rfl (vT h8) ⟨rfl, rfl, rfl⟩
    refine pD (fun W R z9 => ?_) ?_
    ·rw [eS (l := [(23, _), (27, undef)]) ⟨z9 23 rfl, z9 27 rfl, ⟨⟩⟩]
     exact qW (t := 59) rfl (vT h8) ⟨rfl, rfl, rfl⟩
    refine pD (fun W R z9 => ?_) ?_
    ·rw [eS (l := [(23, _), (28, undef)]) ⟨z9 23 rfl, z9 28 rfl, ⟨⟩⟩]
     refine qh (qL (.bool (true)) (vT h8) rfl ?_)
     exact ⟨rfl, rfl, rfl⟩
    refine pD (fun W R z9 => ?_) ?_
    ·rw [zA 29 (z9 29 rfl)]
     refine qh (qk (.bool (true)) rfl ?_)
     exact ⟨rfl, rfl, rfl⟩
    refine pD (fun W R z9 => ?_) ?_
    ·rw [zA 30 (z9 30 rfl)]
     exact qW (t := 66) rfl rfl ⟨rfl, rfl, rfl⟩
    refine pD (fun W R z9 => ?_) ?_
    ·rw [zA 30 (z9 30 rfl)]
     exact qW (t := 66) rfl rfl ⟨rfl, rfl, rfl⟩
    refine pD (fun W R z9 => ?_) ?_
    ·rw [eS (l := [(30, _), (32, undef)]) ⟨z9 30 rfl, z9 32 rfl, ⟨⟩⟩]
     exact qW (t := 66) rfl rfl ⟨rfl, rfl, rfl⟩
    refine pD (fun W R z9 => ?_) ?_
    ·rw [eS (l := [(30, _), (33, undef)]) ⟨z9 30 rfl, z9 33 rfl, ⟨⟩⟩]
     exact qW (t := 66) rfl rfl ⟨rfl, rfl, rfl⟩
    exact stepsP.nil
   intro W hphi
   rw [eS (l := [(30, _), (31, undef), (34, undef)]) ⟨(hphi 30 (by decide)), (hphi 31 (by decide)), (hphi 34 (by decide)), ⟨⟩⟩]
   show XL _ _ _ _ _ _ _ (cellsH b3 [ii ((rs.getD k (0, [], 0)).1), a1, ii ((rs.getD k (0, [], 0)).2.2)] 68 :: cellsH b2 [ii (n), rsv, fiv] 29 :: cellsH b1 [arv] 26 :: L)
   refine qm (t := 66) rfl rfl (qm (t := 66) rfl rfl (cX (qL (.bool (true)) rfl rfl (qb (jA rfl (qc (qa (qg (.bool (false)) rfl (qb (qC (qn (qK (qn (qn (qK (qn (qv (L' := L) [.bool (false)] (.bool (false)) (.tmp rfl .nil) rfl rF rF (sD (sD (sD sR))) ?_)))))))))))))))))
   exact ⟨(vB ((by first | exact auto_no (fun A => by first | (have h9 := A.sig; rw [hsg] at h9; cases h9; done) | (have h1 := A.n1; have h2 := A.n16; have h3 := A.few; omega)) | exact auto_no (fun A => by have hT := A.rule k (by omega); have h1 := hT.sym; have h2 := hT.args; have h3 := hT.to; have h4 := states_iff.2 hT.arg; have h5 : statesB n [(rs.getD k (0, [], 0)).2.2] = true := states_iff.2 (fun i hi => by match i, hi with | 0, _ => exact h3); first | omega | (rw [‹statesB n (rs.getD k (0, [], 0)).2.1 = false›] at h4; cases h4; done) | (rw [‹statesB n [(rs.getD k (0, [], 0)).2.2] = false›] at h5; cases h5; done)) | exact auto_no (fun A => by obtain ⟨j, hj, e⟩ := hdu; exact A.diff k j (by omega) hj e) | exact auto_no (fun A => by have h9 := A.asc k (by omega) (by omega); omega) | exact auto_last hsg (by omega) (by omega) (by omega) (fun i hi => hrk i (by omega)) (fun i hi => has i (by omega))))), rfl, rfl⟩
  have hag : (rs.getD k (0, [], 0)).2.1.length ≤ 3 := by have h9 := (sigOk_spec hsg).2.2 (rs.getD k (0, [], 0)).1.toNat (by omega); omega
  by_cases h9 : (!(statesB n ((rs.getD k (0, [], 0)).2.1))) = true
  ·have hst1 := Bool.not_inj (y := false) h9
   refine jq [cellsH b3 [ii ((rs.getD k (0, [], 0)).1), a1, ii ((rs.getD k (0, [], 0)).2.2)] 68, cellsH b2 [ii (n), rsv, fiv] 29, cellsH b1 [arv] 26] L 35 [] [[], [0], [1], [2], [3], [3, 4], [3], [3, 6], [3, 7], [3, 5, 8], [3, 9], [10], [11], [11, 12], [11, 13], [11], [11, 15], [11], [11, 17], [11, 16, 18], [11, 19], [11, 14, 20], [11, 21], [22], [23], [23], [23, 25], [23, 24, 26], [23, 27], [23, 28], [29], [30], [30], [30, 32], [30, 33]] (phiL [qe (ptr b3 0), qe (ii ((rs.getD k (0, [], 0)).1)), qe (.bool (decide (((rs.getD k (0, [], 0)).1 : Int) < 0)) : Value), qe (.bool (decide (((rs.getD k (0, [], 0)).1 : Int) < 0)) : Value), qe (ptr b3 0), qe (ii ((rs.getD k (0, [], 0)).1)), qe (ptr b1 0), qe arv, qe (ii ((ar.length : Int)) : Value), qe (.bool (decide (((rs.getD k (0, [], 0)).1 : Int) ≥ (ar.length : Int))) : Value), qe (.bool (decide (((rs.getD k (0, [], 0)).1 : Int) ≥ (ar.length : Int))) : Value), qe (.bool (decide (((rs.getD k (0, [], 0)).1 : Int) ≥ (ar.length : Int))) : Value), qe (ptr b3 1), qe a1, qe (ii (((((rs.getD k (0, [], 0)).2.1).length : Nat) : Int)) : Value), qe (ptr b1 0), qe arv, qe (ptr b3 0), qe (ii ((rs.getD k (0, [], 0)).1)), qe (.pointer (some (elemA arv (((rs.getD k (0, [], 0)).1).toNat)))), qe (ii (ar.getD (((rs.getD k (0, [], 0)).1).toNat) 0)), qe (.bool (decide ((((((rs.getD k (0, [], 0)).2.1).length : Nat) : Int) : Int) ≠ ar.getD (((rs.getD k (0, [], 0)).1).toNat) 0)) : Value), qe (.bool (decide ((((((rs.getD k (0, [], 0)).2.1).length : Nat) : Int) : Int) ≠ ar.getD (((rs.getD k (0, [], 0)).1).toNat) 0)) : Value), qe (.bool (decide ((((((rs.getD k (0, [], 0)).2.1).length : Nat) : Int) : Int) ≠ ar.getD (((rs.getD k (0, [], 0)).1).toNat) 0)) : Value), qe (.agg #[ii (n), rsv, fiv]), qe (ptr b3 1), qe a1, qe (.bool (statesB n ((rs.getD k (0, [], 0)).2.1))), qe (.bool (!(statesB n ((rs.getD k (0, [], 0)).2.1)))), qe (.bool (!(statesB n ((rs.getD k (0, [], 0)).2.1)))), qe (.bool (!(statesB n ((rs.getD k (0, [], 0)).2.1)))), qe undef, qe undef, qe undef, qe undef]) (ownL []) mixed rfl rfl (by kernel_rfl) ?_ ?_
   ·refine pD (fun W R z9 => ?_) ?_
    ·refine qh (ql (0) qB rfl qr (by decide) rfl rfl ?_)
     exact ⟨rfl, rfl, rfl⟩
    refine pD (fun W R z9 => ?_) ?_
    ·rw [zA 0 (z9 0 rfl)]
     refine qh (qi qM rfl (Rd.own [] rfl rfl) ?_)
     exact ⟨rfl, rfl, rfl⟩
    refine pD (fun W R z9 => ?_) ?_
    ·rw [zA 1 (z9 1 rfl)]
     refine qh (qV rfl rfl ?_)
     exact ⟨rfl, rfl, rfl⟩
    refine pD (fun W R z9 => ?_) ?_
    ·rw [zA 2 (z9 2 rfl)]
     refine qh (qk (.bool (decide (((rs.getD k (0, [], 0)).1 : Int) < 0))) rfl ?_)
     exact ⟨rfl, rfl, rfl⟩
    refine pD (fun W R z9 => ?_) ?_
    ·rw [zA 3 (z9 3 rfl)]
     refine qH (t := 39) rfl (vF h6) (ql (0) qB rfl qr (by decide) rfl rfl ?_)
     exact ⟨rfl, rfl, rfl⟩
    refine pD (fun W R z9 => ?_) ?_
    ·rw [zB 3 4 (z9 3 rfl) (z9 4 rfl)]
     refine qH (t := 39) rfl (vF h6) (qi qM rfl (Rd.own [] rfl rfl) ?_)
     exact ⟨rfl, rfl, rfl⟩
    refine pD (fun W R z9 => ?_) ?_
    ·rw [zA 3 (z9 3 rfl)]
     refine qH (t := 39) rfl (vF h6) (ql (0) ja rfl qw (by decide) rfl rfl ?_)
     exact ⟨rfl, rfl, rfl⟩
    refine pD (fun W R z9 => ?_) ?_
    ·rw [zB 3 6 (z9 3 rfl) (z9 6 rfl)]
     refine qH (t := 39) rfl (vF h6) (qi qT rfl (Rd.own [_, _] rfl rfl) ?_)
     exact ⟨rfl, rfl, rfl⟩
    refine pD (fun W R z9 => ?_) ?_
    ·rw [zB 3 7 (z9 3 rfl) (z9 7 rfl)]
     refine qH (t := 39) rfl (vF h6) (qG qf rfl har.slv ?_)
     exact ⟨rfl, rfl, rfl⟩
    refine pD (fun W R z9 => ?_) ?_
    ·rw [eS (l := [(3, _), (5, _), (8, _)]) ⟨z9 3 rfl, z9 5 rfl, z9 8 rfl, ⟨⟩⟩]
     refine qH (t := 39) rfl (vF h6) (XOp.geq rfl rfl ?_)
     exact ⟨rfl, rfl, rfl⟩
    refine pD (fun W R z9 => ?_) ?_
    ·rw [zB 3 9 (z9 3 rfl) (z9 9 rfl)]
     refine qh (qQ (.bool (decide (((rs.getD k (0, [], 0)).1 : Int) ≥ (ar.length : Int)))) (vF h6) rfl ?_)
     exact ⟨rfl, rfl, rfl⟩
    refine pD (fun W R z9 => ?_) ?_
    ·rw [zA 10 (z9 10 rfl)]
     refine qh (qk (.bool (decide (((rs.getD k (0, [], 0)).1 : Int) ≥ (ar.length : Int)))) rfl ?_)
     exact ⟨rfl, rfl, rfl⟩
    refine pD (fun W R z9 => ?_) ?_
    ·rw [zA 11 (z9 11 rfl)]
     refine qH (t := 47) rfl (vF h7) (ql (1) qB rfl qw (by decide) rfl rfl ?_)
     exact ⟨rfl, rfl, rfl⟩
    refine pD (fun W R z9 => ?_) ?_
    ·rw [zB 11 12 (z9 11 rfl) (z9 12 rfl)]
     refine qH (t := 47) rfl (vF h7) (qi qT rfl (Rd.own [] rfl rfl) ?_)
     exact ⟨rfl, rfl, rfl⟩
    refine pD (fun W R z9 => ?_) ?_
    ·rw [zB 11 13 (z9 11 rfl) (z9 13 rfl)]
     refine qH (t := 47) rfl (vF h7) (qG qf rfl ha1.slv ?_)
     exact ⟨rfl, rfl, rfl⟩
    refine pD (fun W R z9 => ?_) ?_
    ·rw [zA 11 (z9 11 rfl)]
     refine qH (t := 47) rfl (vF h7) (ql (0) ja rfl qw (by decide) rfl rfl ?_)
     exact ⟨rfl, rfl, rfl⟩
    refine pD (fun W R z9 => ?_) ?_
    ·rw [zB 11 15 (z9 11 rfl) (z9 15 rfl)]
     refine qH (t := 47) rfl (vF h7) (qi qT rfl (Rd.own [_, _] rfl rfl) ?_)
     exact ⟨rfl, rfl, rfl⟩
    refine pD (fun W R z9 => ?_) ?_
    ·rw [zA 11 (z9 11 rfl)]
     refine qH (t := 47) rfl (vF h7) (ql (0) qB rfl qr (by decide) rfl rfl ?_)
     exact ⟨rfl, rfl, rfl⟩
    refine pD (fun W R z9 => ?_) ?_
    ·rw [zB 11 17 (z9 11 rfl) (z9 17 rfl)]
     refine qH (t := 47) rfl (vF h7) (qi qM rfl (Rd.own [] rfl rfl) ?_)
     exact ⟨rfl, rfl, rfl⟩
    refine pD (fun W R z9 => ?_) ?_
    ·rw [eS (l := [(11, _), (16, _), (18, _)]) ⟨z9 11 rfl, z9 16 rfl, z9 18 rfl, ⟨⟩⟩]
     refine qH (t := 47) rfl (vF h7) (qy (((rs.getD k (0, [], 0)).1).toNat) qf qr rfl rfl (by omega) har.slv (by omega) (Nat.mul_one _) ?_)
     exact ⟨rfl, rfl, rfl⟩
    refine pD (fun W R z9 => ?_) ?_
    ·rw [zB 11 19 (z9 11 rfl) (z9 19 rfl)]
     refine qH (t := 47) rfl (vF h7) (qi qM rfl (har.rd (by omega)) ?_)
     exact ⟨rfl, rfl, rfl⟩
    refine pD (fun W R z9 => ?_) ?_
    ·rw [eS (l := [(11, _), (14, _), (20, _)]) ⟨z9 11 rfl, z9 14 rfl, z9 20 rfl, ⟨⟩⟩]
     refine qH (t := 47) rfl (vF h7) (XOp.neq rfl rfl ?_)
     exact ⟨rfl, rfl, rfl⟩
    refine pD (fun W R z9 => ?_) ?_
    ·rw [zB 11 21 (z9 11 rfl) (z9 21 rfl)]
     refine qh (qQ (.bool (decide ((((((rs.getD k (0, [], 0)).2.1).length : Nat) : Int) : Int) ≠ ar.getD (((rs.getD k (0, [], 0)).1).toNat) 0))) (vF h7) rfl ?_)
     exact ⟨rfl, rfl, rfl⟩
    refine pD (fun W R z9 => ?_) ?_
    ·rw [zA 22 (z9 22 rfl)]
     refine qh (qk (.bool (decide ((((((rs.getD k (0, [], 0)).2.1).length : Nat) : Int) : Int) ≠ ar.getD (((rs.getD k (0, [], 0)).1).toNat) 0))) rfl ?_)
     exact ⟨rfl, rfl, rfl⟩
    refine pD (fun W R z9 => ?_) ?_
    ·rw [zA 23 (z9 23 rfl)]
     refine qH (t := 59) rfl (vF h8) (qu [ii (n), rsv, fiv] jc qN rfl rfl (Rd.ownN [_] rfl rfl) ?_)
     exact ⟨rfl, rfl, rfl⟩
    refine pD (fun W R z9 => ?_) ?_
    ·rw [zA 23 (z9 23 rfl)]
     refine qH (t := 59) rfl (vF h8) (ql (1) qB rfl qw (by decide) rfl rfl ?_)
     exact ⟨rfl, rfl, rfl⟩
    refine pD (fun W R z9 => ?_) ?_
    ·rw [zB 23 25 (z9 23 rfl) (z9 25 rfl)]
     refine qH (t := 59) rfl (vF h8) (qi qT rfl (Rd.own [] rfl rfl) ?_)
     exact ⟨rfl, rfl, rfl⟩
    refine pD (fun W R z9 => ?_) ?_
    ·rw [eS (l := [(23, _), (24, _), (26, _)]) ⟨z9 23 rfl, z9 24 rfl, z9 26 rfl, ⟨⟩⟩]
     refine qH (t := 59) rfl (vF h8) (qq (args := [.agg #[ii (n), rsv, fiv], a1]) call58 rfl (statesOk_spec hrs hfi ha1 (hlt := (by first | omega | simp))) ?_)
     rintro _ _ _ _ ⟨rfl, rfl, rfl⟩
     exact ⟨rfl, rfl, rfl⟩
    refine pD (fun W R z9 => ?_) ?_
    ·rw [zB 23 27 (z9 23 rfl) (z9 27 rfl)]
     refine qH (t := 59) rfl (vF h8) (jx rfl ?_)
     exact ⟨rfl, rfl, rfl⟩
    refine pD (fun W R z9 => ?_) ?_
    ·rw [zB 23 28 (z9 23 rfl) (z9 28 rfl)]
     refine qh (qQ (.bool (!(statesB n ((rs.getD k (0, [], 0)).2.1)))) (vF h8) rfl ?_)
     exact ⟨rfl, rfl, rfl⟩
    refine pD (fun W R z9 => ?_) ?_
    ·rw [zA 29 (z9 29 rfl)]
     refine qh (qk (.bool (!(statesB n ((rs.getD k (0, [], 0)).2.1)))) rfl ?_)
     exact ⟨rfl, rfl, rfl⟩
    refine pD (fun W R z9 => ?_) ?_
    ·rw [zA 30 (z9 30 rfl)]
     exact qW (t := 66) rfl (vB h9) ⟨rfl, rfl, rfl⟩
    refine pD (fun W R z9 => ?_) ?_
    ·rw [zA 30 (z9 30 rfl)]
     exact qW (t := 66) rfl (vB h9) ⟨rfl, rfl, rfl⟩
    refine pD (fun W R z9 => ?_) ?_
    ·rw [eS (l := [(30, _), (32, undef)]) ⟨z9 30 rfl, z9 32 rfl, ⟨⟩⟩]
     exact qW (t := 66) rfl (vB h9) ⟨rfl, rfl, rfl⟩
    refine pD (fun W R z9 => ?_) ?_
    ·rw [eS (l := [(30, _), (33, undef)]) ⟨z9 30 rfl, z9 33 rfl, ⟨⟩⟩]
     exact qW (t := 66) rfl (vB h9) ⟨rfl, rfl, rfl⟩
    exact stepsP.nil
   intro W hphi
   rw [eS (l := [(30, _), (31, undef), (34, undef)]) ⟨(hphi 30 (by decide)), (hphi 31 (by decide)), (hphi 34 (by decide)), ⟨⟩⟩]
   show XL _ _ _ _ _ _ _ (cellsH b3 [ii ((rs.getD k (0, [], 0)).1), a1, ii ((rs.getD k (0, [], 0)).2.2)] 68 :: cellsH b2 [ii (n), rsv, fiv] 29 :: cellsH b1 [arv] 26 :: L)
   refine qm (t := 66) rfl (vB h9) (qm (t := 66) rfl (vB h9) (cX (qL (.bool (true)) (vB h9) rfl (qb (jA rfl (qc (qa (qg (.bool (false)) rfl (qb (qC (qn (qK (qn (qn (qK (qn (qv (L' := L) [.bool (false)] (.bool (false)) (.tmp rfl .nil) rfl rF rF (sD (sD (sD sR))) ?_)))))))))))))))))
   exact ⟨(vB ((by first | exact auto_no (fun A => by first | (have h9 := A.sig; rw [hsg] at h9; cases h9; done) | (have h1 := A.n1; have h2 := A.n16; have h3 := A.few; omega)) | exact auto_no (fun A => by have hT := A.rule k (by omega); have h1 := hT.sym; have h2 := hT.args; have h3 := hT.to; have h4 := states_iff.2 hT.arg; have h5 : statesB n [(rs.getD k (0, [], 0)).2.2] = true := states_iff.2 (fun i hi => by match i, hi with | 0, _ => exact h3); first | omega | (rw [‹statesB n (rs.getD k (0, [], 0)).2.1 = false›] at h4; cases h4; done) | (rw [‹statesB n [(rs.getD k (0, [], 0)).2.2] = false›] at h5; cases h5; done)) | exact auto_no (fun A => by obtain ⟨j, hj, e⟩ := hdu; exact A.diff k j (by omega) hj e) | exact auto_no (fun A => by have h9 := A.asc k (by omega) (by omega); omega) | exact auto_last hsg (by omega) (by omega) (by omega) (fun i hi => hrk i (by omega)) (fun i hi => has i (by omega))))), rfl, rfl⟩
  rw [Bool.not_eq_true] at h9
  have hst2 := Bool.not_inj (y := true) h9
  refine X.drawG [cellsH b3 [ii ((rs.getD k (0, [], 0)).1), a1, ii ((rs.getD k (0, [], 0)).2.2)] 68, cellsH b2 [ii (n), rsv, fiv] 29, cellsH b1 [arv] 26] L 35 [] [[], [0], [1], [2], [3], [3, 4], [3], [3, 6], [3, 7], [3, 5, 8], [3, 9], [10], [11], [11, 12], [11, 13], [11], [11, 15], [11], [11, 17], [11, 16, 18], [11, 19], [11, 14, 20], [11, 21], [22], [23], [23], [23, 25], [23, 24, 26], [23, 27], [23, 28], [29], [30], [30], [30, 32], [30, 33]] [] (phiG [pe (ptr b3 0), pe (ii ((rs.getD k (0, [], 0)).1)), pe (.bool (decide (((rs.getD k (0, [], 0)).1 : Int) < 0)) : Value), pe (.bool (decide (((rs.getD k (0, [], 0)).1 : Int) < 0)) : Value), pe (ptr b3 0), pe (ii ((rs.getD k (0, [], 0)).1)), pe (ptr b1 0), pe arv, pe (ii ((ar.length : Int)) : Value), pe (.bool (decide (((rs.getD k (0, [], 0)).1 : Int) ≥ (ar.length : Int))) : Value), pe (.bool (decide (((rs.getD k (0, [], 0)).1 : Int) ≥ (ar.length : Int))) : Value), pe (.bool (decide (((rs.getD k (0, [], 0)).1 : Int) ≥ (ar.length : Int))) : Value), pe (ptr b3 1), pe a1, pe (ii (((((rs.getD k (0, [], 0)).2.1).length : Nat) : Int)) : Value), pe (ptr b1 0), pe arv, pe (ptr b3 0), pe (ii ((rs.getD k (0, [], 0)).1)), pe (.pointer (some (elemA arv (((rs.getD k (0, [], 0)).1).toNat)))), pe (ii (ar.getD (((rs.getD k (0, [], 0)).1).toNat) 0)), pe (.bool (decide ((((((rs.getD k (0, [], 0)).2.1).length : Nat) : Int) : Int) ≠ ar.getD (((rs.getD k (0, [], 0)).1).toNat) 0)) : Value), pe (.bool (decide ((((((rs.getD k (0, [], 0)).2.1).length : Nat) : Int) : Int) ≠ ar.getD (((rs.getD k (0, [], 0)).1).toNat) 0)) : Value), pe (.bool (decide ((((((rs.getD k (0, [], 0)).2.1).length : Nat) : Int) : Int) ≠ ar.getD (((rs.getD k (0, [], 0)).1).toNat) 0)) : Value), pe (.agg #[ii (n), rsv, fiv]), pe (ptr b3 1), pe a1, pe (.bool (statesB n ((rs.getD k (0, [], 0)).2.1))), pe (.bool (!(statesB n ((rs.getD k (0, [], 0)).2.1)))), pe (.bool (!(statesB n ((rs.getD k (0, [], 0)).2.1)))), pe (.bool (!(statesB n ((rs.getD k (0, [], 0)).2.1)))), pe (.agg #[ii (n), rsv, fiv]), pe (ptr b3 2), pe (ii ((rs.getD k (0, [], 0)).2.2)), fun FF us v => (v : Value) = v ∧ (IntsF FF v [(rs.getD k (0, [], 0)).2.2])]) (ownL []) mixed rfl rfl (by kernel_rfl) (by kernel_rfl) (MonoG.get (m1 (m1 (m1 (m1 (m1 (m1 (m1 (m1 (m1 (m1 (m1 (m1 (m1 (m1 (m1 (m1 (m1 (m1 (m1 (m1 (m1 (m1 (m1 (m1 (m1 (m1 (m1 (m1 (m1 (m1 (m1 (m1 (m1 (m1 (mC (fun le h => ⟨h.1, h.2.mono le⟩) MonoG.nil)))))))))))))))))))))))))))))))))))) ?_ ?_
  ·refine gD (fun W Fs R lF z9 => ?_) ?_
   ·refine qh (ql (0) qB rfl qr (by decide) rfl rfl ?_)
    exact ⟨rfl, rfl⟩
   refine gD (fun W Fs R lF z9 => ?_) ?_
   ·replace har := har.mono lF
    replace hrs := hrs.mono lF
    replace hfi := hfi.mono lF
    replace ha1 := ha1.mono lF
    rw [zA 0 (z9 0 rfl)]
    refine qh (qi qM rfl (Rd.own [] rfl rfl) ?_)
    exact ⟨rfl, rfl⟩
   refine gD (fun W Fs R lF z9 => ?_) ?_
   ·rw [zA 1 (z9 1 rfl)]
    refine qh (qV rfl rfl ?_)
    exact ⟨rfl, rfl⟩
   refine gD (fun W Fs R lF z9 => ?_) ?_
   ·rw [zA 2 (z9 2 rfl)]
    refine qh (qk (.bool (decide (((rs.getD k (0, [], 0)).1 : Int) < 0))) rfl ?_)
    exact ⟨rfl, rfl⟩
   refine gD (fun W Fs R lF z9 => ?_) ?_
   ·rw [zA 3 (z9 3 rfl)]
    refine qH (t := 39) rfl (vF h6) (ql (0) qB rfl qr (by decide) rfl rfl ?_)
    exact ⟨rfl, rfl⟩
   refine gD (fun W Fs R lF z9 => ?_) ?_
   ·replace har := har.mono lF
    replace hrs := hrs.mono lF
    replace hfi := hfi.mono lF
    replace ha1 := ha1.mono lF
    rw [zB 3 4 (z9 3 rfl) (z9 4 rfl)]
    refine qH (t := 39) rfl (vF h6) (qi qM rfl (Rd.own [] rfl rfl) ?_)
    exact ⟨rfl, rfl⟩
   refine gD (fun W Fs R lF z9 => ?_) ?_
   ·rw [zA 3 (z9 3 rfl)]
    refine qH (t := 39) rfl (vF h6) (ql (0) ja rfl qw (by decide) rfl rfl ?_)
    exact ⟨rfl, rfl⟩
   refine gD (fun W Fs R lF z9 => ?_) ?_
   ·replace har := har.mono lF
    replace hrs := hrs.mono lF
    replace hfi := hfi.mono lF
    replace ha1 := ha1.mono lF
    rw [zB 3 6 (z9 3 rfl) (z9 6 rfl)]
    refine qH (t := 39) rfl (vF h6) (qi qT rfl (Rd.own [_, _] rfl rfl) ?_)
    exact ⟨rfl, rfl⟩
   refine gD (fun W Fs R lF z9 => ?_) ?_
   ·replace har := har.mono lF
    replace hrs := hrs.mono lF
    replace hfi := hfi.mono lF
    replace ha1 := ha1.mono lF
    rw [zB 3 7 (z9 3 rfl) (z9 7 rfl)]
    refine qH (t := 39) rfl (vF h6) (qG qf rfl har.slv ?_)
    exact ⟨rfl, rfl⟩
   refine gD (fun W Fs R lF z9 => ?_) ?_
   ·rw [eS (l := [(3, _), (5, _), (8, _)]) ⟨z9 3 rfl, z9 5 rfl, z9 8 rfl, ⟨⟩⟩]
    refine qH (t := 39) rfl (vF h6) (XOp.geq rfl rfl ?_)
    exact ⟨rfl, rfl⟩
   refine gD (fun W Fs R lF z9 => ?_) ?_
   ·rw [zB 3 9 (z9 3 rfl) (z9 9 rfl)]
    refine qh (qQ (.bool (decide (((rs.getD k (0, [], 0)).1 : Int) ≥ (ar.length : Int)))) (vF h6) rfl ?_)
    exact ⟨rfl, rfl⟩
   refine gD (fun W Fs R lF z9 => ?_) ?_
   ·rw [zA 10 (z9 10 rfl)]
    refine qh (qk (.bool (decide (((rs.getD k (0, [], 0)).1 : Int) ≥ (ar.length : Int)))) rfl ?_)
    exact ⟨rfl, rfl⟩
   refine gD (fun W Fs R lF z9 => ?_) ?_
   ·rw [zA 11 (z9 11 rfl)]
    refine qH (t := 47) rfl (vF h7) (ql (1) qB rfl qw (by decide) rfl rfl ?_)
    exact ⟨rfl, rfl⟩
   refine gD (fun W Fs R lF z9 => ?_) ?_
   ·replace har := har.mono lF
    replace hrs := hrs.mono lF
    replace hfi := hfi.mono lF
    replace ha1 := ha1.mono lF
    rw [zB 11 12 (z9 11 rfl) (z9 12 rfl)]
    refine qH (t := 47) rfl (vF h7) (qi qT rfl (Rd.own [] rfl rfl) ?_)
    exact ⟨rfl, rfl⟩
   refine gD (fun W Fs R lF z9 => ?_) ?_
   ·replace har := har.mono lF
    replace hrs := hrs.mono lF
    replace hfi := hfi.mono lF
    replace ha1 := ha1.mono lF
    rw [zB 11 13 (z9 11 rfl) (z9 13 rfl)]
    refine qH (t := 47) rfl (vF h7) (qG qf rfl ha1.slv ?_)
    exact ⟨rfl, rfl⟩
   refine gD (fun W Fs R lF z9 => ?_) ?_
   ·rw [zA 11 (z9 11 rfl)]
    refine qH (t := 47) rfl (vF h7) (ql (0) ja rfl qw (by decide) rfl rfl ?_)
    exact ⟨rfl, rfl⟩
   refine gD (fun W Fs R lF z9 => ?_) ?_
   ·replace har := har.mono lF
    replace hrs := hrs.mono lF
    replace hfi := hfi.mono lF
    replace ha1 := ha1.mono lF
    rw [zB 11 15 (z9 11 rfl) (z9 15 rfl)]
    refine qH (t := 47) rfl (vF h7) (qi qT rfl (Rd.own [_, _] rfl rfl) ?_)
    exact ⟨rfl, rfl⟩
   refine gD (fun W Fs R lF z9 => ?_) ?_
   ·rw [zA 11 (z9 11 rfl)]
    refine qH (t := 47) rfl (vF h7) (ql (0) qB rfl qr (by decide) rfl rfl ?_)
    exact ⟨rfl, rfl⟩
   refine gD (fun W Fs R lF z9 => ?_) ?_
   ·replace har := har.mono lF
    replace hrs := hrs.mono lF
    replace hfi := hfi.mono lF
    replace ha1 := ha1.mono lF
    rw [zB 11 17 (z9 11 rfl) (z9 17 rfl)]
    refine qH (t := 47) rfl (vF h7) (qi qM rfl (Rd.own [] rfl rfl) ?_)
    exact ⟨rfl, rfl⟩
   refine gD (fun W Fs R lF z9 => ?_) ?_
   ·replace har := har.mono lF
    replace hrs := hrs.mono lF
    replace hfi := hfi.mono lF
    replace ha1 := ha1.mono lF
    rw [eS (l := [(11, _), (16, _), (18, _)]) ⟨z9 11 rfl, z9 16 rfl, z9 18 rfl, ⟨⟩⟩]
    refine qH (t := 47) rfl (vF h7) (qy (((rs.getD k (0, [], 0)).1).toNat) qf qr rfl rfl (by omega) har.slv (by omega) (Nat.mul_one _) ?_)
    exact ⟨rfl, rfl⟩
   refine gD (fun W Fs R lF z9 => ?_) ?_
   ·replace har := har.mono lF
    replace hrs := hrs.mono lF
    replace hfi := hfi.mono lF
    replace ha1 := ha1.mono lF
    rw [zB 11 19 (z9 11 rfl) (z9 19 rfl)]
    refine qH (t := 47) rfl (vF h7) (qi qM rfl (har.rd (by omega)) ?_)
    exact ⟨rfl, rfl⟩
   refine gD (fun W Fs R lF z9 => ?_) ?_
   ·rw [eS (l := [(11, _), (14, _), (20, _)]) ⟨z9 11 rfl, z9 14 rfl, z9 20 rfl, ⟨⟩⟩]
    refine qH (t := 47) rfl (vF h7) (XOp.neq rfl rfl ?_)
    exact ⟨rfl, rfl⟩
   refine gD (fun W Fs R lF z9 => ?_) ?_
   ·rw [zB 11 21 (z9 11 rfl) (z9 21 rfl)]
    refine qh (qQ (.bool (decide ((((((rs.getD k (0, [], 0)).2.1).length : Nat) : Int) : Int) ≠ ar.getD (((rs.getD k (0, [], 0)).1).toNat) 0))) (vF h7) rfl ?_)
    exact ⟨rfl, rfl⟩
   refine gD (fun W Fs R lF z9 => ?_) ?_
   ·rw [zA 22 (z9 22 rfl)]
    refine qh (qk (.bool (decide ((((((rs.getD k (0, [], 0)).2.1).length : Nat) : Int) : Int) ≠ ar.getD (((rs.getD k (0, [], 0)).1).toNat) 0))) rfl ?_)
    exact ⟨rfl, rfl⟩
   refine gD (fun W Fs R lF z9 => ?_) ?_
   ·replace har := har.mono lF
    replace hrs := hrs.mono lF
    replace hfi := hfi.mono lF
    replace ha1 := ha1.mono lF
    rw [zA 23 (z9 23 rfl)]
    refine qH (t := 59) rfl (vF h8) (qu [ii (n), rsv, fiv] jc qN rfl rfl (Rd.ownN [_] rfl rfl) ?_)
    exact ⟨rfl, rfl⟩
   refine gD (fun W Fs R lF z9 => ?_) ?_
   ·rw [zA 23 (z9 23 rfl)]
    refine qH (t := 59) rfl (vF h8) (ql (1) qB rfl qw (by decide) rfl rfl ?_)
    exact ⟨rfl, rfl⟩
   refine gD (fun W Fs R lF z9 => ?_) ?_
   ·replace har := har.mono lF
    replace hrs := hrs.mono lF
    replace hfi := hfi.mono lF
    replace ha1 := ha1.mono lF
    rw [zB 23 25 (z9 23 rfl) (z9 25 rfl)]
    refine qH (t := 59) rfl (vF h8) (qi qT rfl (Rd.own [] rfl rfl) ?_)
    exact ⟨rfl, rfl⟩
   refine gD (fun W Fs R lF z9 => ?_) ?_
   ·replace har := har.mono lF
    replace hrs := hrs.mono lF
    replace hfi := hfi.mono lF
    replace ha1 := ha1.mono lF
    rw [eS (l := [(23, _), (24, _), (26, _)]) ⟨z9 23 rfl, z9 24 rfl, z9 26 rfl, ⟨⟩⟩]
    refine qH (t := 59) rfl (vF h8) (qq (args := [.agg #[ii (n), rsv, fiv], a1]) call58 rfl (statesOk_spec hrs hfi ha1 (hlt := (by first | omega | simp))) ?_)
    rintro _ _ _ _ ⟨rfl, rfl, rfl⟩
    exact ⟨rfl, rfl⟩
   refine gD (fun W Fs R lF z9 => ?_) ?_
   ·rw [zB 23 27 (z9 23 rfl) (z9 27 rfl)]
    refine qH (t := 59) rfl (vF h8) (jx rfl ?_)
    exact ⟨rfl, rfl⟩
   refine gD (fun W Fs R lF z9 => ?_) ?_
   ·rw [zB 23 28 (z9 23 rfl) (z9 28 rfl)]
    refine qh (qQ (.bool (!(statesB n ((rs.getD k (0, [], 0)).2.1)))) (vF h8) rfl ?_)
    exact ⟨rfl, rfl⟩
   refine gD (fun W Fs R lF z9 => ?_) ?_
   ·rw [zA 29 (z9 29 rfl)]
    refine qh (qk (.bool (!(statesB n ((rs.getD k (0, [], 0)).2.1)))) rfl ?_)
    exact ⟨rfl, rfl⟩
   refine gD (fun W Fs R lF z9 => ?_) ?_
   ·replace har := har.mono lF
    replace hrs := hrs.mono lF
    replace hfi := hfi.mono lF
    replace ha1 := ha1.mono lF
    rw [zA 30 (z9 30 rfl)]
    refine qH (t := 66) rfl (vB h9) (qu [ii (n), rsv, fiv] jc qN rfl rfl (Rd.ownN [_] rfl rfl) ?_)
    exact ⟨rfl, rfl⟩
   refine gD (fun W Fs R lF z9 => ?_) ?_
   ·rw [zA 30 (z9 30 rfl)]
    refine qH (t := 66) rfl (vB h9) (ql (2) qB rfl qr (by decide) rfl rfl ?_)
    exact ⟨rfl, rfl⟩
   refine gD (fun W Fs R lF z9 => ?_) ?_
   ·replace har := har.mono lF
    replace hrs := hrs.mono lF
    replace hfi := hfi.mono lF
    replace ha1 := ha1.mono lF
    rw [zB 30 32 (z9 30 rfl) (z9 32 rfl)]
    refine qH (t := 66) rfl (vB h9) (qi qM rfl (Rd.own [] rfl rfl) ?_)
    exact ⟨rfl, rfl⟩
   refine gD (fun W Fs R lF z9 => ?_) ?_
   ·replace har := har.mono lF
    replace hrs := hrs.mono lF
    replace hfi := hfi.mono lF
    replace ha1 := ha1.mono lF
    rw [zB 30 33 (z9 30 rfl) (z9 33 rfl)]
    refine qH (t := 66) rfl (vB h9) (XOp.frzF <| qP (s := 1) [ii ((rs.getD k (0, [], 0)).2.2)] [ii (0)] [(0, [ii ((rs.getD k (0, [], 0)).2.2)])] qf qr jm rfl (by decide) rfl (.cons rfl CellsAre.nil) rfl ?_)
    intro v1 hv1
    refine ⟨_, _, rfl, fun F1 le1 hz1 => ?_⟩
    replace hrs := hrs.mono le1
    replace hfi := hfi.mono le1
    replace ha1 := ha1.mono le1
    have hf1 : IntsF F1 v1 [(rs.getD k (0, [], 0)).2.2] := intsH.fz (xs := [(rs.getD k (0, [], 0)).2.2]) hz1.fz
    exact ⟨⟨rfl, hf1⟩, rfl⟩
   exact stepsG.nil
  intro W F2 le2 hphi
  obtain ⟨e34, f34_9lit⟩ := hphi 34 (by decide)
  generalize hu1 : (W 34) = u1 at e34 f34_9lit
  rw [eS (l := [(30, _), (31, _), (34, u1)]) ⟨(hphi 30 (by decide)), (hphi 31 (by decide)), hu1, ⟨⟩⟩]
  replace hrs := hrs.mono le2
  replace hfi := hfi.mono le2
  replace ha1 := ha1.mono le2
  show XL _ _ _ _ _ _ _ (cellsH b3 [ii ((rs.getD k (0, [], 0)).1), a1, ii ((rs.getD k (0, [], 0)).2.2)] 68 :: cellsH b2 [ii (n), rsv, fiv] 29 :: cellsH b1 [arv] 26 :: L)
  refine qo (t := 66) rfl (vB h9) (qq (args := [.agg #[ii (n), rsv, fiv], u1]) call58 rfl (statesOk_spec hrs hfi f34_9lit (hlt := (by first | omega | simp))) ?_)
  rintro _ _ _ _ ⟨rfl, rfl, rfl⟩
  refine qo (t := 66) rfl (vB h9) (jx rfl (cX (qQ (.bool (!(statesB n ([(rs.getD k (0, [], 0)).2.2])))) (vB h9) rfl (qb ?_))))
  refine jr (t := !(statesB n ([(rs.getD k (0, [], 0)).2.2]))) rfl (fun h10 => ?_) (fun h10 => ?_)
  ·have hst3 := Bool.not_inj (y := false) h10
   refine qc (qa (qg (.bool (false)) rfl (qb (qC (qn (qK (qn (qn (qK (qn (qv (L' := L) [.bool (false)] (.bool (false)) (.tmp rfl .nil) rfl rF le2 (sD (sD (sD sR))) ?_)))))))))))
   exact ⟨(vB ((by first | exact auto_no (fun A => by first | (have h9 := A.sig; rw [hsg] at h9; cases h9; done) | (have h1 := A.n1; have h2 := A.n16; have h3 := A.few; omega)) | exact auto_no (fun A => by have hT := A.rule k (by omega); have h1 := hT.sym; have h2 := hT.args; have h3 := hT.to; have h4 := states_iff.2 hT.arg; have h5 : statesB n [(rs.getD k (0, [], 0)).2.2] = true := states_iff.2 (fun i hi => by match i, hi with | 0, _ => exact h3); first | omega | (rw [‹statesB n (rs.getD k (0, [], 0)).2.1 = false›] at h4; cases h4; done) | (rw [‹statesB n [(rs.getD k (0, [], 0)).2.2] = false›] at h5; cases h5; done)) | exact auto_no (fun A => by obtain ⟨j, hj, e⟩ := hdu; exact A.diff k j (by omega) hj e) | exact auto_no (fun A => by have h9 := A.asc k (by omega) (by omega); omega) | exact auto_last hsg (by omega) (by omega) (by omega) (fun i hi => hrk i (by omega)) (fun i hi => has i (by omega))))), rfl, rfl⟩
  have hst4 := Bool.not_inj (y := true) h10
  refine qx (qc (qa (cX (ql (1) qA rfl jh (by decide) rfl rfl (cX (qi jo rfl (Rd.own [_] rfl rfl) (qd (ii ((k : Int))) rfl (cX (XOp.sliceC 0 k qR jb rfl hrs rfl ⟨_, rfl⟩ (by omega) (by omega) ?_)))))))))
  intro v2 hv2
  replace hv2 : TransF F2 v2 (rs.take k) := hv2
  refine cX (XOp.makeFuncL [] [ptr b3 0] rfl rfl (XL.freeze [] _ _ rfl (fun F3 le3 hz2 => ?_)))
  replace hrs := hrs.mono le3
  replace hfi := hfi.mono le3
  replace ha1 := ha1.mono le3
  replace hv2 := hv2.mono le3
  have hf2 : FzC F3 b3 [ii ((rs.getD k (0, [], 0)).1), a1, ii ((rs.getD k (0, [], 0)).2.2)] := Fz.cells hz2
  refine cX (qq (args := [v2, .func (.func 60) #[] #[ptr b3 0]]) call59 rfl (ContainsFuncTA_spec hv2 ha1 hf2 (hlt := (by rw [List.length_take]; omega)) (hsb := (fun i hi => by rw [List.length_take] at hi; rw [take_tr (by omega) (by omega)]; have h9 := (hrk i (by omega)).1.len hsg; omega)) (hlr := (by omega))) ?_)
  rintro _ _ _ _ ⟨rfl, rfl, rfl⟩
  refine qb ?_
  refine qE (p := badG (fun s => !decide (((((rs.getD k (0, [], 0)).1), ((rs.getD k (0, [], 0)).2.1), ((rs.getD k (0, [], 0)).2.2)) : TranT) = s)) ((rs.take k)) ≥ 0) rfl (fun h11 => ?_) (fun h11 => ?_)
  ·have hdu : ∃ j, j < k ∧ _ = rs.getD j (0, [], 0) := (dup_iff (by omega)).1 h11
   refine qc (qa (qg (.bool (false)) rfl (qb (qC (qK (qn (qn (qK (qn (qv (L' := L) [.bool (false)] (.bool (false)) (.tmp rfl .nil) rfl rF (qj le2 le3) (sD (sD sR)) ?_))))))))))
   exact ⟨(vB ((by first | exact auto_no (fun A => by first | (have h9 := A.sig; rw [hsg] at h9; cases h9; done) | (have h1 := A.n1; have h2 := A.n16; have h3 := A.few; omega)) | exact auto_no (fun A => by have hT := A.rule k (by omega); have h1 := hT.sym; have h2 := hT.args; have h3 := hT.to; have h4 := states_iff.2 hT.arg; have h5 : statesB n [(rs.getD k (0, [], 0)).2.2] = true := states_iff.2 (fun i hi => by match i, hi with | 0, _ => exact h3); first | omega | (rw [‹statesB n (rs.getD k (0, [], 0)).2.1 = false›] at h4; cases h4; done) | (rw [‹statesB n [(rs.getD k (0, [], 0)).2.2] = false›] at h5; cases h5; done)) | exact auto_no (fun A => by obtain ⟨j, hj, e⟩ := hdu; exact A.diff k j (by omega) hj e) | exact auto_no (fun A => by have h9 := A.asc k (by omega) (by omega); omega) | exact auto_last hsg (by omega) (by omega) (by omega) (fun i hi => hrk i (by omega)) (fun i hi => has i (by omega))))), rfl, rfl⟩
  have hdu : ¬ ∃ j, j < k ∧ _ = rs.getD j (0, [], 0) := fun h8 => h11 ((dup_iff (by omega)).2 h8)
  refine qx (qa (cX (qD (((k + 1 : Nat) : Int)) rfl rfl (by omega) (by omega) (qd (ii (((k + 1 : Nat) : Int))) rfl (qb ?_)))))
  exact ⟨k + 1, _, FLe.refl _, (qj le2 le3), ⟨rfl, rfl, rfl, rfl, rfl, ⟨⟩⟩, (sC (sC sR)), ⟨rfl, (by (try dsimp only) <;> omega), (fun i hi => (Nat.lt_or_ge i k).elim (fun h => hrk i h) (fun h => by obtain rfl : i = k := (by omega); exact ⟨⟨by omega, by omega, states_iff.1 (by assumption), by have h9 := (states_iff.1 (by assumption : statesB n [(rs.getD i (0, [], 0)).2.2] = true)) 0 (by simp); simpa using h9⟩, fun j hj e => hdu ⟨j, hj, e⟩⟩))⟩, (by omega)⟩
 refine jd (qp (qp (qJ (qc (qc (qa (cX (ql (2) qA rfl qw (by decide) rfl rfl (cX (qi qT rfl (Rd.own [] rfl rfl) (cX (qG qf rfl hfi.slv (qd (ii (0)) rfl (qb (qF (jg (α := Nat) (fun k => [(3, ptr b2 0), (82, fiv), (83, ii ((fi.length : Int))), (84, ii ((k : Int)))]) (fun k => cellsH b2 [ii (n), rsv, fiv] 29 :: cellsH b1 [arv] 26 :: L) (fun k F' => F = F' ∧ (k ≤ fi.length) ∧ (∀ i, i < k → 0 < i → fi.getD ((i : Int) - 1).toNat 0 < fi.getD i 0)) (fun k => fi.length - k) 0 ⟨rfl, rfl, rfl, rfl, ⟨⟩⟩ (sC (sC sR)) ⟨rfl, (by (try dsimp only) <;> omega), (fun i hi => absurd hi (by omega))⟩ ?_))))))))))))))))
 rintro k rE _ _ ⟨rfl, hk, has⟩
 show X _ _ _ _ (envs [(3, ptr b2 0), (82, fiv), (83, ii ((fi.length : Int))), (84, ii ((k : Int)))] rE) _ (cellsH b2 [ii (n), rsv, fiv] 29 :: cellsH b1 [arv] 26 :: L)
 refine qc (qa (cX (qV rfl rfl (qb (qc ?_)))))
 refine qE (p := (k : Int) < (fi.length : Int)) rfl (fun h12 => ?_) (fun h12 => ?_)
 ·refine qx (qc (qF (qc (qa (qd (ii ((k : Int))) rfl (cX (qy k qf qr rfl rfl rfl hfi.slv (by omega) (Nat.mul_one _) (cX (qi qM rfl (hfi.rd (by omega)) (qg (ii ((k : Int))) rfl (qg (ii (fi.getD k 0)) rfl (qb (qc (qa (qd (ii ((k : Int))) rfl (cX (jw rfl rfl (qd (.bool (decide ((k : Int) > 0))) rfl ?_))))))))))))))))))
  by_cases h13 : (k : Int) > 0
  ·refine qo (t := 91) rfl (vT h13) (qk (ii (fi.getD k 0)) rfl (qo (t := 91) rfl (vT h13) (ql (2) qA rfl qw (by decide) rfl rfl (qo (t := 91) rfl (vT h13) (qi qT rfl (Rd.own [] rfl rfl) (qo (t := 91) rfl (vT h13) (qk (ii ((k : Int))) rfl (qo (t := 91) rfl (vT h13) (js (((k : Int)) - 1) rfl rfl (by omega) (by omega) (qo (t := 91) rfl (vT h13) (qy ((((k : Int)) - 1).toNat) qf qr rfl rfl (by omega) hfi.slv (by omega) (Nat.mul_one _) (qo (t := 91) rfl (vT h13) (qi qM rfl (hfi.rd (by omega)) (qo (t := 91) rfl (vT h13) (XOp.leq rfl rfl (cX (qL (.bool (decide ((fi.getD k 0 : Int) ≤ fi.getD ((((k : Int)) - 1).toNat) 0))) (vT h13) rfl (qb ?_))))))))))))))))))
   refine qE (p := (fi.getD k 0 : Int) ≤ fi.getD ((((k : Int)) - 1).toNat) 0) rfl (fun h14 => ?_) (fun h14 => ?_)
   ·refine qc (qa (qg (.bool (false)) rfl (qb (qC (qK (qn (qn (qK (qn (qv (L' := L) [.bool (false)] (.bool (false)) (.tmp rfl .nil) rfl rF rF (sD (sD sR)) ?_))))))))))
    exact ⟨(vB ((by first | exact auto_no (fun A => by first | (have h9 := A.sig; rw [hsg] at h9; cases h9; done) | (have h1 := A.n1; have h2 := A.n16; have h3 := A.few; omega)) | exact auto_no (fun A => by have hT := A.rule k (by omega); have h1 := hT.sym; have h2 := hT.args; have h3 := hT.to; have h4 := states_iff.2 hT.arg; have h5 : statesB n [(rs.getD k (0, [], 0)).2.2] = true := states_iff.2 (fun i hi => by match i, hi with | 0, _ => exact h3); first | omega | (rw [‹statesB n (rs.getD k (0, [], 0)).2.1 = false›] at h4; cases h4; done) | (rw [‹statesB n [(rs.getD k (0, [], 0)).2.2] = false›] at h5; cases h5; done)) | exact auto_no (fun A => by obtain ⟨j, hj, e⟩ := hdu; exact A.diff k j (by omega) hj e) | exact auto_no (fun A => by have h9 := A.asc k (by omega) (by omega); omega) | exact auto_last hsg (by omega) (by omega) (by omega) (fun i hi => hrk i (by omega)) (fun i hi => has i (by omega))))), rfl, rfl⟩
   refine qx (qa (cX (qD (((k + 1 : Nat) : Int)) rfl rfl (by omega) (by omega) (qd (ii (((k + 1 : Nat) : Int))) rfl (qb ?_)))))
   exact ⟨k + 1, _, FLe.refl _, rF, ⟨rfl, rfl, rfl, rfl, ⟨⟩⟩, (sC (sC sR)), ⟨rfl, (by (try dsimp only) <;> omega), (fun i hi => (Nat.lt_or_ge i k).elim (fun h => has i h) (fun h => by obtain rfl : i = k := (by omega); omega))⟩, (by omega)⟩
  refine qm (t := 91) rfl (vF h13) (qm (t := 91) rfl (vF h13) (qm (t := 91) rfl (vF h13) (qm (t := 91) rfl (vF h13) (qm (t := 91) rfl (vF h13) (qm (t := 91) rfl (vF h13) (qm (t := 91) rfl (vF h13) (qm (t := 91) rfl (vF h13) (cX (qQ (.bool (false)) (vF h13) rfl (qb ?_))))))))))
  refine jG rfl (qx (qa (cX (qD (((k + 1 : Nat) : Int)) rfl rfl (by omega) (by omega) (qd (ii (((k + 1 : Nat) : Int))) rfl (qb ?_))))))
  exact ⟨k + 1, _, FLe.refl _, rF, ⟨rfl, rfl, rfl, rfl, ⟨⟩⟩, (sC (sC sR)), ⟨rfl, (by (try dsimp only) <;> omega), (fun i hi => (Nat.lt_or_ge i k).elim (fun h => has i h) (fun h => by obtain rfl : i = k := (by omega); omega))⟩, (by omega)⟩
 refine jd (qp (qp (qJ (qc (qa (cX (qu [ii (n), rsv, fiv] jc qN rfl rfl (Rd.ownN [] rfl rfl) (cX (ql (2) qA rfl qw (by decide) rfl rfl (cX (qi qT rfl (Rd.own [] rfl rfl) (cX (qq (args := [.agg #[ii (n), rsv, fiv], fiv]) call58 rfl (statesOk_spec hrs hfi hfi (hlt := (by first | omega | simp))) ?_)))))))))))))
 rintro _ _ _ _ ⟨rfl, rfl, rfl⟩
 refine qg (.bool (statesB n fi)) rfl (qb (qC (qv (L' := L) [.bool (statesB n fi)] (.bool (statesB n fi)) (.tmp rfl .nil) rfl rF rF (sD (sD sR)) ?_)))
 exact ⟨(vB ((by first | exact auto_no (fun A => by first | (have h9 := A.sig; rw [hsg] at h9; cases h9; done) | (have h1 := A.n1; have h2 := A.n16; have h3 := A.few; omega)) | exact auto_no (fun A => by have hT := A.rule k (by omega); have h1 := hT.sym; have h2 := hT.args; have h3 := hT.to; have h4 := states_iff.2 hT.arg; have h5 : statesB n [(rs.getD k (0, [], 0)).2.2] = true := states_iff.2 (fun i hi => by match i, hi with | 0, _ => exact h3); first | omega | (rw [‹statesB n (rs.getD k (0, [], 0)).2.1 = false›] at h4; cases h4; done) | (rw [‹statesB n [(rs.getD k (0, [], 0)).2.2] = false›] at h5; cases h5; done)) | exact auto_no (fun A => by obtain ⟨j, hj, e⟩ := hdu; exact A.diff k j (by omega) hj e) | exact auto_no (fun A => by have h9 := A.asc k (by omega) (by omega); omega) | exact auto_last hsg (by omega) (by omega) (by omega) (fun i hi => hrk i (by omega)) (fun i hi => has i (by omega))))), rfl, rfl⟩

/- (impl.Auto).sure -/
set_option maxRecDepth 20000 in
theorem sure_spec {F : FH} {L : List HP} {n : Int} {rsv : Value} {rs : List TranT} (hrs : TransF F rsv rs) {fiv : Value} {fi : List Int} (hfi : IntsF F fiv fi) (hlr : rs.length ≤ 4000000) (hrb : ∀ i, i < rs.length → (rs.getD i (0, [], 0)).2.1.length ≤ 4000000) :
    Does prog 65 [.agg #[ii (n), rsv, fiv]] F (L) (fun v F' L' => (.bool (surB rs) : Value) = v ∧ F = F' ∧ L = L') := by
 refine qO func65 rfl rfl rfl (qc (qa (cX (ji [ii (n), rsv, fiv] rfl rfl ?_))))
 intro b1
 refine qg (.bool (false)) rfl (qb (qc (qc (qa (cX (ql (1) qA rfl jh (by decide) rfl rfl (cX (qi jo rfl (Rd.own [] rfl rfl) (cX (qG qR rfl hrs.slv (qd (ii (0)) rfl (qb (qF (jg (α := Nat) (fun k => [(1, ptr b1 0), (6, rsv), (7, ii ((rs.length : Int))), (8, ii ((k : Int)))]) (fun k => cellsH b1 [ii (n), rsv, fiv] 29 :: L) (fun k F' => F = F' ∧ (k ≤ rs.length) ∧ (∀ i, i < k → ∀ j, j < i → ¬ ((rs.getD i (0, [], 0)).1 = (rs.getD j (0, [], 0)).1 ∧ (rs.getD i (0, [], 0)).2.1 = (rs.getD j (0, [], 0)).2.1))) (fun k => rs.length - k) 0 ⟨rfl, rfl, rfl, rfl, ⟨⟩⟩ (sC sR) ⟨rfl, (by (try dsimp only) <;> omega), (fun i hi => absurd hi (by omega))⟩ ?_))))))))))))))
 rintro k rE _ _ ⟨rfl, hk, hno⟩
 show X _ _ _ _ (envs [(1, ptr b1 0), (6, rsv), (7, ii ((rs.length : Int))), (8, ii ((k : Int)))] rE) _ (cellsH b1 [ii (n), rsv, fiv] 29 :: L)
 have hrk := hrb k
 refine qc (qa (cX (qV rfl rfl (qb (qc ?_)))))
 refine qE (p := (k : Int) < (rs.length : Int)) rfl (fun h1 => ?_) (fun h1 => ?_)
 ·refine qx (qc (qF (qc (qa (qd (ii ((k : Int))) rfl (cX (qy k qR jb rfl rfl rfl hrs.slv (by omega) rfl ?_)))))))
  obtain ⟨a1, ha1, hrg1, hq1⟩ := hrs.rd (i := k) (by omega)
  refine cX (qu [ii ((rs.getD k (0, [], 0)).1), a1, ii ((rs.getD k (0, [], 0)).2.2)] jD jb rfl rfl (Rd.all (hrg1 _)) (cX (jt [ii (0), sN, ii (0)] jF rfl ?_)))
  intro b2
  refine qg (ii ((k : Int))) rfl (cX (qX [] _ [ii ((rs.getD k (0, [], 0)).1), a1, ii ((rs.getD k (0, [], 0)).2.2)] jb rfl rfl rfl (qt rfl (qt (qU (qS ha1)) (qt rfl qZ))) rfl rfl rfl (qb (qc (qa (cX (ql (1) qA rfl jh (by decide) rfl rfl (cX (qi jo rfl (Rd.own [_] rfl rfl) (qd (ii ((k : Int))) rfl (cX (XOp.sliceC 0 k qR jb rfl hrs rfl ⟨_, rfl⟩ (by omega) (by omega) ?_))))))))))))
  intro v1 hv1
  replace hv1 : TransF F v1 (rs.take k) := hv1
  refine cX (XOp.makeFuncL [] [ptr b2 0] rfl rfl (XL.freeze [] _ _ rfl (fun F1 le1 hz1 => ?_)))
  replace ha1 := ha1.mono le1
  replace hv1 := hv1.mono le1
  have hf1 : FzC F1 b2 [ii ((rs.getD k (0, [], 0)).1), a1, ii ((rs.getD k (0, [], 0)).2.2)] := Fz.cells hz1
  refine cX (qq (args := [v1, .func (.func 83) #[] #[ptr b2 0]]) call59 rfl (ContainsFuncTB_spec hv1 ha1 hf1 (hlt := (by rw [List.length_take]; omega)) (hsb := (fun i hi => by rw [List.length_take] at hi; rw [take_tr (by omega) (by omega)]; exact hrb i (by omega))) (hlr := (hrk (by omega)))) ?_)
  rintro _ _ _ _ ⟨rfl, rfl, rfl⟩
  refine qb ?_
  refine qE (p := badG (fun s : TranT => !(decide (s.1 = ((rs.getD k (0, [], 0)).1)) && decide (s.2.1 = ((rs.getD k (0, [], 0)).2.1)))) ((rs.take k)) ≥ 0) rfl (fun h2 => ?_) (fun h2 => ?_)
  ·have hdu : ∃ j, j < k ∧ ((rs.getD j (0, [], 0)).1 = (rs.getD k (0, [], 0)).1 ∧ (rs.getD j (0, [], 0)).2.1 = (rs.getD k (0, [], 0)).2.1) := (dupA_iff (r := rs.getD k (0, [], 0)) (by omega)).1 h2
   refine qc (qa (qg (.bool (false)) rfl (qb (qC (qK (qn (qn (qK (qn (qv (L' := L) [.bool (false)] (.bool (false)) (.tmp rfl .nil) rfl rF le1 (sD sR) ?_))))))))))
   exact ⟨(vB (sur_no (fun S => by obtain ⟨j, hj, e⟩ := hdu; exact S k j (by omega) hj ⟨e.1.symm, e.2.symm⟩))), rfl, rfl⟩
  have hdu : ¬ (∃ j, j < k ∧ ((rs.getD j (0, [], 0)).1 = (rs.getD k (0, [], 0)).1 ∧ (rs.getD j (0, [], 0)).2.1 = (rs.getD k (0, [], 0)).2.1)) := fun h8 => h2 ((dupA_iff (r := rs.getD k (0, [], 0)) (by omega)).2 h8)
  refine qx (qa (cX (qD (((k + 1 : Nat) : Int)) rfl rfl (by omega) (by omega) (qd (ii (((k + 1 : Nat) : Int))) rfl (qb ?_)))))
  exact ⟨k + 1, _, FLe.refl _, le1, ⟨rfl, rfl, rfl, rfl, ⟨⟩⟩, (sC sR), ⟨rfl, (by (try dsimp only) <;> omega), (fun i hi => (Nat.lt_or_ge i k).elim (fun h => hno i h) (fun h => by obtain rfl : i = k := (by omega); exact fun j hj e => hdu ⟨j, hj, e.1.symm, e.2.symm⟩))⟩, (by omega)⟩
 refine jd (qp (qp (qJ (qc (qa (qg (.bool (true)) rfl (qb (qC (qv (L' := L) [.bool (true)] (.bool (true)) (.tmp rfl .nil) rfl rF rF (sD sR) ?_)))))))))
 exact ⟨(vB (sur_iff.2 (fun i j hi hj => hno i (by omega) j hj))), rfl, rfl⟩

/- impl.SureIn -/
theorem SureIn_spec {F : FH} {L : List HP} {arv : Value} {ar : List Int} (har : IntsF F arv ar) {n : Int} {rsv : Value} {rs : List TranT} (hrs : TransF F rsv rs) {fiv : Value} {fi : List Int} (hfi : IntsF F fiv fi) (hlf : fi.length ≤ 4000000) :
    Does prog 32 [.agg #[arv], .agg #[ii (n), rsv, fiv]] F (L) (fun v F' L' => (.bool ((autoB ar n rs fi && surB rs)) : Value) = v ∧ F = F' ∧ L = L') := by
 refine qO func32 rfl rfl rfl (qc (qa (cX (ji [arv] rfl rfl ?_))))
 intro b1
 refine cX (ji [ii (n), rsv, fiv] rfl rfl ?_)
 intro b2
 refine qg (.bool (false)) rfl (qb (qc (qa (cX (qu [arv] qY qI rfl rfl (Rd.ownN [_] rfl rfl) (cX (qu [ii (n), rsv, fiv] jc qN rfl rfl (Rd.ownN [] rfl rfl) (cX (qq (args := [.agg #[arv], .agg #[ii (n), rsv, fiv]]) call23 rfl (AutoOk_spec har hrs hfi (hlf := (by first | assumption | rfl | omega | simp))) ?_)))))))))
 rintro _ _ _ _ ⟨rfl, rfl, rfl⟩
 refine qd (.bool (autoB ar n rs fi)) rfl ?_
 by_cases h1 : (autoB ar n rs fi) = true
 ·have hA : autoB ar n rs fi = true := h1
  have hA2 := auto_iff.1 hA
  have hlr9 := hA2.few
  refine qo (t := 8) rfl (vB h1) (qu [ii (n), rsv, fiv] jc qN rfl rfl (Rd.ownN [] rfl rfl) (qo (t := 8) rfl (vB h1) (qq (args := [.agg #[ii (n), rsv, fiv]]) call65 rfl (sure_spec hrs hfi (hlr := (by first | assumption | rfl | omega | simp)) (hrb := (fun i hi => by have h9 := hA2.argl hi; omega))) ?_)))
  rintro _ _ _ _ ⟨rfl, rfl, rfl⟩
  refine cX (qL (.bool (surB rs)) (vB h1) rfl (qg (.bool (surB rs)) rfl (qb (qC (qv (L' := L) [.bool (surB rs)] (.bool (surB rs)) (.tmp rfl .nil) rfl rF rF (sD (sD sR)) ?_)))))
  exact ⟨(vB (by first | (rw [hA]; rfl) | (rw [hA, Bool.true_and]))), rfl, rfl⟩
 rw [Bool.not_eq_true] at h1
 have hA : autoB ar n rs fi = false := h1
 refine qm (t := 8) rfl (vB h1) (qm (t := 8) rfl (vB h1) (cX (qQ (.bool (false)) (vB h1) rfl (qg (.bool (false)) rfl (qb (qC (qv (L' := L) [.bool (false)] (.bool (false)) (.tmp rfl .nil) rfl rF rF (sD (sD sR)) ?_)))))))
 exact ⟨(vB (by first | (rw [hA]; rfl) | (rw [hA, Bool.true_and]))), rfl, rfl⟩

/- spec.l23Trans -/
set_option maxHeartbeats 1000000 in
set_option maxRecDepth 20000 in
theorem l23Trans_spec {F : FH} {L : List HP} {arv : Value} {ar : List Int} (har : IntsF F arv ar) {n : Int} {ra : Int} {rbv : Value} {rb : List Int} (hrb : IntsF F rbv rb) {rc : Int} (hla : ar.length ≤ 4000000) (hn : -4000000 ≤ n ∧ n ≤ 4000000) (hlb : rb.length ≤ 4000000) :
    Does prog 43 [.agg #[arv], ii (n), .agg #[ii (ra), rbv, ii (rc)]] F (L) (fun v F' L' => (.bool (tokB ar n ((ra, rb, rc) : TranT)) : Value) = v ∧ F = F' ∧ L = L') := by
 refine qO func43 rfl rfl rfl (qc (qa (cX (ji [arv] rfl rfl ?_))))
 intro b1
 refine cX (ji [ii (ra), rbv, ii (rc)] rfl rfl ?_)
 intro b2
 refine qg (.bool (false)) rfl (qb (qc (qc ?_)))
 by_cases h1 : ¬(0 ≤ ra ∧ ra ≤ (((ar.length : Int)) - 1))
 ·refine jq [cellsH b2 [ii (ra), rbv, ii (rc)] 68, cellsH b1 [arv] 26] L 25 [] [[], [0], [], [2], [3], [4], [1, 5], [6], [7], [8], [8, 9], [8, 10], [8], [8, 12], [8], [8, 14], [8, 13, 15], [8, 16], [8, 11, 17], [8, 18], [19], [20], [20, 21], [20], [20, 23]] (phiL [qe (ptr b2 0), qe (ii (ra)), qe (ptr b1 0), qe arv, qe (ii ((ar.length : Int)) : Value), qe (ii (((ar.length : Int)) - 1) : Value), qe (.bool (decide (0 ≤ ra ∧ ra ≤ (((ar.length : Int)) - 1))) : Value), qe (.bool (decide (¬(0 ≤ ra ∧ ra ≤ (((ar.length : Int)) - 1)))) : Value), qe (.bool (decide (¬(0 ≤ ra ∧ ra ≤ (((ar.length : Int)) - 1)))) : Value), qe undef, qe undef, qe undef, qe undef, qe undef, qe undef, qe undef, qe undef, qe undef, qe undef, qe (.bool (true)), qe (.bool (true)), qe undef, qe undef, qe undef, qe undef]) (ownL []) mixed rfl rfl (by kernel_rfl) ?_ ?_
  ·refine pD (fun W R z9 => ?_) ?_
   ·refine qh (ql (0) qB rfl qr (by decide) rfl rfl ?_)
    exact ⟨rfl, rfl, rfl⟩
   refine pD (fun W R z9 => ?_) ?_
   ·rw [zA 0 (z9 0 rfl)]
    refine qh (qi qM rfl (Rd.own [] rfl rfl) ?_)
    exact ⟨rfl, rfl, rfl⟩
   refine pD (fun W R z9 => ?_) ?_
   ·refine qh (ql (0) ja rfl qw (by decide) rfl rfl ?_)
    exact ⟨rfl, rfl, rfl⟩
   refine pD (fun W R z9 => ?_) ?_
   ·rw [zA 2 (z9 2 rfl)]
    refine qh (qi qT rfl (Rd.own [_] rfl rfl) ?_)
    exact ⟨rfl, rfl, rfl⟩
   refine pD (fun W R z9 => ?_) ?_
   ·rw [zA 3 (z9 3 rfl)]
    refine qh (qG qf rfl har.slv ?_)
    exact ⟨rfl, rfl, rfl⟩
   refine pD (fun W R z9 => ?_) ?_
   ·rw [zA 4 (z9 4 rfl)]
    refine qh (js (((ar.length : Int)) - 1) rfl rfl (by omega) (by omega) ?_)
    exact ⟨rfl, rfl, rfl⟩
   refine pD (fun W R z9 => ?_) ?_
   ·rw [zB 1 5 (z9 1 rfl) (z9 5 rfl)]
    refine qh (qq (args := [ii (ra), ii (0), ii (((ar.length : Int)) - 1)]) call34 rfl (l1In_spec (n := ra) (a := 0) (b := ((ar.length : Int)) - 1)) ?_)
    rintro _ _ _ _ ⟨rfl, rfl, rfl⟩
    exact ⟨rfl, rfl, rfl⟩
   refine pD (fun W R z9 => ?_) ?_
   ·rw [zA 6 (z9 6 rfl)]
    refine qh (XOp.notD rfl ?_)
    exact ⟨rfl, rfl, rfl⟩
   refine pD (fun W R z9 => ?_) ?_
   ·rw [zA 7 (z9 7 rfl)]
    refine qh (qk (.bool (decide (¬(0 ≤ ra ∧ ra ≤ (((ar.length : Int)) - 1))))) rfl ?_)
    exact ⟨rfl, rfl, rfl⟩
   refine pD (fun W R z9 => ?_) ?_
   ·rw [zA 8 (z9 8 rfl)]
    exact qW (t := 16) rfl (vT h1) ⟨rfl, rfl, rfl⟩
   refine pD (fun W R z9 => ?_) ?_
   ·rw [eS (l := [(8, _), (9, undef)]) ⟨z9 8 rfl, z9 9 rfl, ⟨⟩⟩]
    exact qW (t := 16) rfl (vT h1) ⟨rfl, rfl, rfl⟩
   refine pD (fun W R z9 => ?_) ?_
   ·rw [eS (l := [(8, _), (10, undef)]) ⟨z9 8 rfl, z9 10 rfl, ⟨⟩⟩]
    exact qW (t := 16) rfl (vT h1) ⟨rfl, rfl, rfl⟩
   refine pD (fun W R z9 => ?_) ?_
   ·rw [zA 8 (z9 8 rfl)]
    exact qW (t := 16) rfl (vT h1) ⟨rfl, rfl, rfl⟩
   refine pD (fun W R z9 => ?_) ?_
   ·rw [eS (l := [(8, _), (12, undef)]) ⟨z9 8 rfl, z9 12 rfl, ⟨⟩⟩]
    exact qW (t := 16) rfl (vT h1) ⟨rfl, rfl, rfl⟩
   refine pD (fun W R z9 => ?_) ?_
   ·rw [zA 8 (z9 8 rfl)]
    exact qW (t := 16) rfl (vT h1) ⟨rfl, rfl, rfl⟩
   refine pD (fun W R z9 => ?_) ?_
   ·rw [eS (l := [(8, _), (14, undef)]) ⟨z9 8 rfl, z9 14 rfl, ⟨⟩⟩]
    exact qW (t := 16) rfl (vT h1) ⟨rfl, rfl, rfl⟩
   refine pD (fun W R z9 => ?_) ?_
   ·rw [eS (l := [(8, _), (13, undef), (15, undef)]) ⟨z9 8 rfl, z9 13 rfl, z9 15 rfl, ⟨⟩⟩]
    exact qW (t := 16) rfl (vT h1) ⟨rfl, rfl, rfl⟩
   refine pD (fun W R z9 => ?_) ?_
   ·rw [eS (l := [(8, _), (16, undef)]) ⟨z9 8 rfl, z9 16 rfl, ⟨⟩⟩]
    exact qW (t := 16) rfl (vT h1) ⟨rfl, rfl, rfl⟩
   refine pD (fun W R z9 => ?_) ?_
   ·rw [eS (l := [(8, _), (11, undef), (17, undef)]) ⟨z9 8 rfl, z9 11 rfl, z9 17 rfl, ⟨⟩⟩]
    exact qW (t := 16) rfl (vT h1) ⟨rfl, rfl, rfl⟩
   refine pD (fun W R z9 => ?_) ?_
   ·rw [eS (l := [(8, _), (18, undef)]) ⟨z9 8 rfl, z9 18 rfl, ⟨⟩⟩]
    refine qh (qL (.bool (true)) (vT h1) rfl ?_)
    exact ⟨rfl, rfl, rfl⟩
   refine pD (fun W R z9 => ?_) ?_
   ·rw [zA 19 (z9 19 rfl)]
    refine qh (qk (.bool (true)) rfl ?_)
    exact ⟨rfl, rfl, rfl⟩
   refine pD (fun W R z9 => ?_) ?_
   ·rw [zA 20 (z9 20 rfl)]
    exact qW (t := 28) rfl rfl ⟨rfl, rfl, rfl⟩
   refine pD (fun W R z9 => ?_) ?_
   ·rw [eS (l := [(20, _), (21, undef)]) ⟨z9 20 rfl, z9 21 rfl, ⟨⟩⟩]
    exact qW (t := 28) rfl rfl ⟨rfl, rfl, rfl⟩
   refine pD (fun W R z9 => ?_) ?_
   ·rw [zA 20 (z9 20 rfl)]
    exact qW (t := 28) rfl rfl ⟨rfl, rfl, rfl⟩
   refine pD (fun W R z9 => ?_) ?_
   ·rw [eS (l := [(20, _), (23, undef)]) ⟨z9 20 rfl, z9 23 rfl, ⟨⟩⟩]
    exact qW (t := 28) rfl rfl ⟨rfl, rfl, rfl⟩
   exact stepsP.nil
  intro W hphi
  rw [eS (l := [(20, _), (22, undef), (24, undef)]) ⟨(hphi 20 (by decide)), (hphi 22 (by decide)), (hphi 24 (by decide)), ⟨⟩⟩]
  show XL _ _ _ _ _ _ _ (cellsH b2 [ii (ra), rbv, ii (rc)] 68 :: cellsH b1 [arv] 26 :: L)
  refine qm (t := 28) rfl rfl (qm (t := 28) rfl rfl (cX (qL (.bool (true)) rfl rfl (qb (jA rfl (qc (qa (qg (.bool (false)) rfl (qb (qC (qn (qv (L' := L) [.bool (false)] (.bool (false)) (.tmp rfl .nil) rfl rF rF (sD (sD sR)) ?_))))))))))))
  exact ⟨(vB (by first | exact tok_iff.2 ⟨by dsimp only; omega, by dsimp only; omega, fun i hi => hall i (by dsimp only at hi; omega), by dsimp only; omega⟩ | exact tok_no (fun T => by have h91 := T.sym; have h92 := T.args; have h93 := T.to; have h94 := T.arg; dsimp only at h91 h92 h93 h94; first | omega | (have h95 := h94 k (by omega); omega)))), rfl, rfl⟩
 by_cases h2 : ((rb.length : Int) : Int) ≠ ar.getD ((ra).toNat) 0
 ·refine jq [cellsH b2 [ii (ra), rbv, ii (rc)] 68, cellsH b1 [arv] 26] L 25 [] [[], [0], [], [2], [3], [4], [1, 5], [6], [7], [8], [8, 9], [8, 10], [8], [8, 12], [8], [8, 14], [8, 13, 15], [8, 16], [8, 11, 17], [8, 18], [19], [20], [20, 21], [20], [20, 23]] (phiL [qe (ptr b2 0), qe (ii (ra)), qe (ptr b1 0), qe arv, qe (ii ((ar.length : Int)) : Value), qe (ii (((ar.length : Int)) - 1) : Value), qe (.bool (decide (0 ≤ ra ∧ ra ≤ (((ar.length : Int)) - 1))) : Value), qe (.bool (decide (¬(0 ≤ ra ∧ ra ≤ (((ar.length : Int)) - 1)))) : Value), qe (.bool (decide (¬(0 ≤ ra ∧ ra ≤ (((ar.length : Int)) - 1)))) : Value), qe (ptr b2 1), qe rbv, qe (ii ((rb.length : Int)) : Value), qe (ptr b1 0), qe arv, qe (ptr b2 0), qe (ii (ra)), qe (.pointer (some (elemA arv ((ra).toNat)))), qe (ii (ar.getD ((ra).toNat) 0)), qe (.bool (decide (((rb.length : Int) : Int) ≠ ar.getD ((ra).toNat) 0)) : Value), qe (.bool (decide (((rb.length : Int) : Int) ≠ ar.getD ((ra).toNat) 0)) : Value), qe (.bool (decide (((rb.length : Int) : Int) ≠ ar.getD ((ra).toNat) 0)) : Value), qe undef, qe undef, qe undef, qe undef]) (ownL []) mixed rfl rfl (by kernel_rfl) ?_ ?_
  ·refine pD (fun W R z9 => ?_) ?_
   ·refine qh (ql (0) qB rfl qr (by decide) rfl rfl ?_)
    exact ⟨rfl, rfl, rfl⟩
   refine pD (fun W R z9 => ?_) ?_
   ·rw [zA 0 (z9 0 rfl)]
    refine qh (qi qM rfl (Rd.own [] rfl rfl) ?_)
    exact ⟨rfl, rfl, rfl⟩
   refine pD (fun W R z9 => ?_) ?_
   ·refine qh (ql (0) ja rfl qw (by decide) rfl rfl ?_)
    exact ⟨rfl, rfl, rfl⟩
   refine pD (fun W R z9 => ?_) ?_
   ·rw [zA 2 (z9 2 rfl)]
    refine qh (qi qT rfl (Rd.own [_] rfl rfl) ?_)
    exact ⟨rfl, rfl, rfl⟩
   refine pD (fun W R z9 => ?_) ?_
   ·rw [zA 3 (z9 3 rfl)]
    refine qh (qG qf rfl har.slv ?_)
    exact ⟨rfl, rfl, rfl⟩
   refine pD (fun W R z9 => ?_) ?_
   ·rw [zA 4 (z9 4 rfl)]
    refine qh (js (((ar.length : Int)) - 1) rfl rfl (by omega) (by omega) ?_)
    exact ⟨rfl, rfl, rfl⟩
   refine pD (fun W R z9 => ?_) ?_
   ·rw [zB 1 5 (z9 1 rfl) (z9 5 rfl)]
    refine qh (qq (args := [ii (ra), ii (0), ii (((ar.length : Int)) - 1)]) call34 rfl (l1In_spec (n := ra) (a := 0) (b := ((ar.length : Int)) - 1)) ?_)
    rintro _ _ _ _ ⟨rfl, rfl, rfl⟩
    exact ⟨rfl, rfl, rfl⟩
   refine pD (fun W R z9 => ?_) ?_
   ·rw [zA 6 (z9 6 rfl)]
    refine qh (XOp.notD rfl ?_)
    exact ⟨rfl, rfl, rfl⟩
   refine pD (fun W R z9 => ?_) ?_
   ·rw [zA 7 (z9 7 rfl)]
    refine qh (qk (.bool (decide (¬(0 ≤ ra ∧ ra ≤ (((ar.length : Int)) - 1))))) rfl ?_)
    exact ⟨rfl, rfl, rfl⟩
   refine pD (fun W R z9 => ?_) ?_
   ·rw [zA 8 (z9 8 rfl)]
    refine qH (t := 16) rfl (vF h1) (ql (1) qB rfl qw (by decide) rfl rfl ?_)
    exact ⟨rfl, rfl, rfl⟩
   refine pD (fun W R z9 => ?_) ?_
   ·rw [zB 8 9 (z9 8 rfl) (z9 9 rfl)]
    refine qH (t := 16) rfl (vF h1) (qi qT rfl (Rd.own [] rfl rfl) ?_)
    exact ⟨rfl, rfl, rfl⟩
   refine pD (fun W R z9 => ?_) ?_
   ·rw [zB 8 10 (z9 8 rfl) (z9 10 rfl)]
    refine qH (t := 16) rfl (vF h1) (qG qf rfl hrb.slv ?_)
    exact ⟨rfl, rfl, rfl⟩
   refine pD (fun W R z9 => ?_) ?_
   ·rw [zA 8 (z9 8 rfl)]
    refine qH (t := 16) rfl (vF h1) (ql (0) ja rfl qw (by decide) rfl rfl ?_)
    exact ⟨rfl, rfl, rfl⟩
   refine pD (fun W R z9 => ?_) ?_
   ·rw [zB 8 12 (z9 8 rfl) (z9 12 rfl)]
    refine qH (t := 16) rfl (vF h1) (qi qT rfl (Rd.own [_] rfl rfl) ?_)
    exact ⟨rfl, rfl, rfl⟩
   refine pD (fun W R z9 => ?_) ?_
   ·rw [zA 8 (z9 8 rfl)]
    refine qH (t := 16) rfl (vF h1) (ql (0) qB rfl qr (by decide) rfl rfl ?_)
    exact ⟨rfl, rfl, rfl⟩
   refine pD (fun W R z9 => ?_) ?_
   ·rw [zB 8 14 (z9 8 rfl) (z9 14 rfl)]
    refine qH (t := 16) rfl (vF h1) (qi qM rfl (Rd.own [] rfl rfl) ?_)
    exact ⟨rfl, rfl, rfl⟩
   refine pD (fun W R z9 => ?_) ?_
   ·rw [eS (l := [(8, _), (13, _), (15, _)]) ⟨z9 8 rfl, z9 13 rfl, z9 15 rfl, ⟨⟩⟩]
    refine qH (t := 16) rfl (vF h1) (qy ((ra).toNat) qf qr rfl rfl (by omega) har.slv (by omega) (Nat.mul_one _) ?_)
    exact ⟨rfl, rfl, rfl⟩
   refine pD (fun W R z9 => ?_) ?_
   ·rw [zB 8 16 (z9 8 rfl) (z9 16 rfl)]
    refine qH (t := 16) rfl (vF h1) (qi qM rfl (har.rd (by omega)) ?_)
    exact ⟨rfl, rfl, rfl⟩
   refine pD (fun W R z9 => ?_) ?_
   ·rw [eS (l := [(8, _), (11, _), (17, _)]) ⟨z9 8 rfl, z9 11 rfl, z9 17 rfl, ⟨⟩⟩]
    refine qH (t := 16) rfl (vF h1) (XOp.neq rfl rfl ?_)
    exact ⟨rfl, rfl, rfl⟩
   refine pD (fun W R z9 => ?_) ?_
   ·rw [zB 8 18 (z9 8 rfl) (z9 18 rfl)]
    refine qh (qQ (.bool (decide (((rb.length : Int) : Int) ≠ ar.getD ((ra).toNat) 0))) (vF h1) rfl ?_)
    exact ⟨rfl, rfl, rfl⟩
   refine pD (fun W R z9 => ?_) ?_
   ·rw [zA 19 (z9 19 rfl)]
    refine qh (qk (.bool (decide (((rb.length : Int) : Int) ≠ ar.getD ((ra).toNat) 0))) rfl ?_)
    exact ⟨rfl, rfl, rfl⟩
   refine pD (fun W R z9 => ?_) ?_
   ·rw [zA 20 (z9 20 rfl)]
    exact qW (t := 28) rfl (vT h2) ⟨rfl, rfl, rfl⟩
   refine pD (fun W R z9 => ?_) ?_
   ·rw [eS (l := [(20, _), (21, undef)]) ⟨z9 20 rfl, z9 21 rfl, ⟨⟩⟩]
    exact qW (t := 28) rfl (vT h2) ⟨rfl, rfl, rfl⟩
   refine pD (fun W R z9 => ?_) ?_
   ·rw [zA 20 (z9 20 rfl)]
    exact qW (t := 28) rfl (vT h2) ⟨rfl, rfl, rfl⟩
   refine pD (fun W R z9 => ?_) ?_
   ·rw [eS (l := [(20, _), (23, undef)]) ⟨z9 20 rfl, z9 23 rfl, ⟨⟩⟩]
    exact qW (t := 28) rfl (vT h2) ⟨rfl, rfl, rfl⟩
   exact stepsP.nil
  intro W hphi
  rw [eS (l := [(20, _), (22, undef), (24, undef)]) ⟨(hphi 20 (by decide)), (hphi 22 (by decide)), (hphi 24 (by decide)), ⟨⟩⟩]
  show XL _ _ _ _ _ _ _ (cellsH b2 [ii (ra), rbv, ii (rc)] 68 :: cellsH b1 [arv] 26 :: L)
  refine qm (t := 28) rfl (vT h2) (qm (t := 28) rfl (vT h2) (cX (qL (.bool (true)) (vT h2) rfl (qb (jA rfl (qc (qa (qg (.bool (false)) rfl (qb (qC (qn (qv (L' := L) [.bool (false)] (.bool (false)) (.tmp rfl .nil) rfl rF rF (sD (sD sR)) ?_))))))))))))
  exact ⟨(vB (by first | exact tok_iff.2 ⟨by dsimp only; omega, by dsimp only; omega, fun i hi => hall i (by dsimp only at hi; omega), by dsimp only; omega⟩ | exact tok_no (fun T => by have h91 := T.sym; have h92 := T.args; have h93 := T.to; have h94 := T.arg; dsimp only at h91 h92 h93 h94; first | omega | (have h95 := h94 k (by omega); omega)))), rfl, rfl⟩
 refine jq [cellsH b2 [ii (ra), rbv, ii (rc)] 68, cellsH b1 [arv] 26] L 25 [] [[], [0], [], [2], [3], [4], [1, 5], [6], [7], [8], [8, 9], [8, 10], [8], [8, 12], [8], [8, 14], [8, 13, 15], [8, 16], [8, 11, 17], [8, 18], [19], [20], [20, 21], [20], [20, 23]] (phiL [qe (ptr b2 0), qe (ii (ra)), qe (ptr b1 0), qe arv, qe (ii ((ar.length : Int)) : Value), qe (ii (((ar.length : Int)) - 1) : Value), qe (.bool (decide (0 ≤ ra ∧ ra ≤ (((ar.length : Int)) - 1))) : Value), qe (.bool (decide (¬(0 ≤ ra ∧ ra ≤ (((ar.length : Int)) - 1)))) : Value), qe (.bool (decide (¬(0 ≤ ra ∧ ra ≤ (((ar.length : Int)) - 1)))) : Value), qe (ptr b2 1), qe rbv, qe (ii ((rb.length : Int)) : Value), qe (ptr b1 0), qe arv, qe (ptr b2 0), qe (ii (ra)), qe (.pointer (some (elemA arv ((ra).toNat)))), qe (ii (ar.getD ((ra).toNat) 0)), qe (.bool (decide (((rb.length : Int) : Int) ≠ ar.getD ((ra).toNat) 0)) : Value), qe (.bool (decide (((rb.length : Int) : Int) ≠ ar.getD ((ra).toNat) 0)) : Value), qe (.bool (decide (((rb.length : Int) : Int) ≠ ar.getD ((ra).toNat) 0)) : Value), qe (ptr b2 2), qe (ii (rc)), qe (ii (n)), qe (ii (n - 1))]) (ownL []) mixed rfl rfl (by kernel_rfl) ?_ ?_
 ·refine pD (fun W R z9 => ?_) ?_
  ·refine qh (ql (0) qB rfl qr (by decide) rfl rfl ?_)
   exact ⟨rfl, rfl, rfl⟩
  refine pD (fun W R z9 => ?_) ?_
  ·rw [zA 0 (z9 0 rfl)]
   refine qh (qi qM rfl (Rd.own [] rfl rfl) ?_)
   exact ⟨rfl, rfl, rfl⟩
  refine pD (fun W R z9 => ?_) ?_
  ·refine qh (ql (0) ja rfl qw (by decide) rfl rfl ?_)
   exact ⟨rfl, rfl, rfl⟩
  refine pD (fun W R z9 => ?_) ?_
  ·rw [zA 2 (z9 2 rfl)]
   refine qh (qi qT rfl (Rd.own [_] rfl rfl) ?_)
   exact ⟨rfl, rfl, rfl⟩
  refine pD (fun W R z9 => ?_) ?_
  ·rw [zA 3 (z9 3 rfl)]
   refine qh (qG qf rfl har.slv ?_)
   exact ⟨rfl, rfl, rfl⟩
  refine pD (fun W R z9 => ?_) ?_
  ·rw [zA 4 (z9 4 rfl)]
   refine qh (js (((ar.length : Int)) - 1) rfl rfl (by omega) (by omega) ?_)
   exact ⟨rfl, rfl, rfl⟩
  refine pD (fun W R z9 => ?_) ?_
  ·rw [zB 1 5 (z9 1 rfl) (z9 5 rfl)]
   refine qh (qq (args := [ii (ra), ii (0), ii (((ar.length : Int)) - 1)]) call34 rfl (l1In_spec (n := ra) (a := 0) (b := ((ar.length : Int)) - 1)) ?_)
   rintro _ _ _ _ ⟨rfl, rfl, rfl⟩
   exact ⟨rfl, rfl, rfl⟩
  refine pD (fun W R z9 => ?_) ?_
  ·rw [zA 6 (z9 6 rfl)]
   refine qh (XOp.notD rfl ?_)
   exact ⟨rfl, rfl, rfl⟩
  refine pD (fun W R z9 => ?_) ?_
  ·rw [zA 7 (z9 7 rfl)]
   refine qh (qk (.bool (decide (¬(0 ≤ ra ∧ ra ≤ (((ar.length : Int)) - 1))))) rfl ?_)
   exact ⟨rfl, rfl, rfl⟩
  refine pD (fun W R z9 => ?_) ?_
  ·rw [zA 8 (z9 8 rfl)]
   refine qH (t := 16) rfl (vF h1) (ql (1) qB rfl qw (by decide) rfl rfl ?_)
   exact ⟨rfl, rfl, rfl⟩
  refine pD (fun W R z9 => ?_) ?_
  ·rw [zB 8 9 (z9 8 rfl) (z9 9 rfl)]
   refine qH (t := 16) rfl (vF h1) (qi qT rfl (Rd.own [] rfl rfl) ?_)
   exact ⟨rfl, rfl, rfl⟩
  refine pD (fun W R z9 => ?_) ?_
  ·rw [zB 8 10 (z9 8 rfl) (z9 10 rfl)]
   refine qH (t := 16) rfl (vF h1) (qG qf rfl hrb.slv ?_)
   exact ⟨rfl, rfl, rfl⟩
  refine pD (fun W R z9 => ?_) ?_
  ·rw [zA 8 (z9 8 rfl)]
   refine qH (t := 16) rfl (vF h1) (ql (0) ja rfl qw (by decide) rfl rfl ?_)
   exact ⟨rfl, rfl, rfl⟩
  refine pD (fun W R z9 => ?_) ?_
  ·rw [zB 8 12 (z9 8 rfl) (z9 12 rfl)]
   refine qH (t := 16) rfl (vF h1) (qi qT rfl (Rd.own [_] rfl rfl) ?_)
   exact ⟨rfl, rfl, rfl⟩
  refine pD (fun W R z9 => ?_) ?_
  ·rw [zA 8 (z9 8 rfl)]
   refine qH (t := 16) rfl (vF h1) (ql (0) qB rfl qr (by decide) rfl rfl ?_)
   exact ⟨rfl, rfl, rfl⟩
  refine pD (fun W R z9 => ?_) ?_
  ·rw [zB 8 14 (z9 8 rfl) (z9 14 rfl)]
   refine qH (t := 16) rfl (vF h1) (qi qM rfl (Rd.own [] rfl rfl) ?_)
   exact ⟨rfl, rfl, rfl⟩
  refine pD (fun W R z9 => ?_) ?_
  ·rw [eS (l := [(8, _), (13, _), (15, _)]) ⟨z9 8 rfl, z9 13 rfl, z9 15 rfl, ⟨⟩⟩]
   refine qH (t := 16) rfl (vF h1) (qy ((ra).toNat) qf qr rfl rfl (by omega) har.slv (by omega) (Nat.mul_one _) ?_)
   exact ⟨rfl, rfl, rfl⟩
  refine pD (fun W R z9 => ?_) ?_
  ·rw [zB 8 16 (z9 8 rfl) (z9 16 rfl)]
   refine qH (t := 16) rfl (vF h1) (qi qM rfl (har.rd (by omega)) ?_)
   exact ⟨rfl, rfl, rfl⟩
  refine pD (fun W R z9 => ?_) ?_
  ·rw [eS (l := [(8, _), (11, _), (17, _)]) ⟨z9 8 rfl, z9 11 rfl, z9 17 rfl, ⟨⟩⟩]
   refine qH (t := 16) rfl (vF h1) (XOp.neq rfl rfl ?_)
   exact ⟨rfl, rfl, rfl⟩
  refine pD (fun W R z9 => ?_) ?_
  ·rw [zB 8 18 (z9 8 rfl) (z9 18 rfl)]
   refine qh (qQ (.bool (decide (((rb.length : Int) : Int) ≠ ar.getD ((ra).toNat) 0))) (vF h1) rfl ?_)
   exact ⟨rfl, rfl, rfl⟩
  refine pD (fun W R z9 => ?_) ?_
  ·rw [zA 19 (z9 19 rfl)]
   refine qh (qk (.bool (decide (((rb.length : Int) : Int) ≠ ar.getD ((ra).toNat) 0))) rfl ?_)
   exact ⟨rfl, rfl, rfl⟩
  refine pD (fun W R z9 => ?_) ?_
  ·rw [zA 20 (z9 20 rfl)]
   refine qH (t := 28) rfl (vF h2) (ql (2) qB rfl qr (by decide) rfl rfl ?_)
   exact ⟨rfl, rfl, rfl⟩
  refine pD (fun W R z9 => ?_) ?_
  ·rw [zB 20 21 (z9 20 rfl) (z9 21 rfl)]
   refine qH (t := 28) rfl (vF h2) (qi qM rfl (Rd.own [] rfl rfl) ?_)
   exact ⟨rfl, rfl, rfl⟩
  refine pD (fun W R z9 => ?_) ?_
  ·rw [zA 20 (z9 20 rfl)]
   refine qH (t := 28) rfl (vF h2) (qk (ii (n)) rfl ?_)
   exact ⟨rfl, rfl, rfl⟩
  refine pD (fun W R z9 => ?_) ?_
  ·rw [zB 20 23 (z9 20 rfl) (z9 23 rfl)]
   refine qH (t := 28) rfl (vF h2) (js (n - 1) rfl rfl (by omega) (by omega) ?_)
   exact ⟨rfl, rfl, rfl⟩
  exact stepsP.nil
 intro W hphi
 rw [eS (l := [(20, _), (22, _), (24, _)]) ⟨(hphi 20 (by decide)), (hphi 22 (by decide)), (hphi 24 (by decide)), ⟨⟩⟩]
 show XL _ _ _ _ _ _ _ (cellsH b2 [ii (ra), rbv, ii (rc)] 68 :: cellsH b1 [arv] 26 :: L)
 refine qo (t := 28) rfl (vF h2) (qq (args := [ii (rc), ii (0), ii (n - 1)]) call34 rfl (l1In_spec (n := rc) (a := 0) (b := n - 1)) ?_)
 rintro _ _ _ _ ⟨rfl, rfl, rfl⟩
 refine qo (t := 28) rfl (vF h2) (XOp.notD rfl (cX (qQ (.bool (decide (¬(0 ≤ rc ∧ rc ≤ (n - 1))))) (vF h2) rfl (qb ?_))))
 refine qE (p := ¬(0 ≤ rc ∧ rc ≤ (n - 1))) rfl (fun h3 => ?_) (fun h3 => ?_)
 ·refine qc (qa (qg (.bool (false)) rfl (qb (qC (qn (qv (L' := L) [.bool (false)] (.bool (false)) (.tmp rfl .nil) rfl rF rF (sD (sD sR)) ?_))))))
  exact ⟨(vB (by first | exact tok_iff.2 ⟨by dsimp only; omega, by dsimp only; omega, fun i hi => hall i (by dsimp only at hi; omega), by dsimp only; omega⟩ | exact tok_no (fun T => by have h91 := T.sym; have h92 := T.args; have h93 := T.to; have h94 := T.arg; dsimp only at h91 h92 h93 h94; first | omega | (have h95 := h94 k (by omega); omega)))), rfl, rfl⟩
 refine qx (qc (qc (qa (qg (ii (0)) rfl (qb (qF (jg (α := Nat) (fun k => [(1, ii (n)), (5, ptr b2 0), (7, ii ((k : Int)))]) (fun k => cellsH b2 [ii (ra), rbv, ii (rc)] 68 :: cellsH b1 [arv] 26 :: L) (fun k F' => F = F' ∧ (k ≤ rb.length) ∧ (∀ i, i < k → 0 ≤ rb.getD i 0 ∧ rb.getD i 0 < n)) (fun k => rb.length - k) 0 ⟨rfl, rfl, rfl, ⟨⟩⟩ (sC (sC sR)) ⟨rfl, (by (try dsimp only) <;> omega), (fun i hi => absurd hi (by omega))⟩ ?_)))))))
 rintro k rE _ _ ⟨rfl, hk, hall⟩
 show X _ _ _ _ (envs [(1, ii (n)), (5, ptr b2 0), (7, ii ((k : Int)))] rE) _ (cellsH b2 [ii (ra), rbv, ii (rc)] 68 :: cellsH b1 [arv] 26 :: L)
 refine qc (qc (qa (qd (ii ((k : Int))) rfl (cX (ql (1) qB rfl qw (by decide) rfl rfl (cX (qi qT rfl (Rd.own [] rfl rfl) (cX (qG qf rfl hrb.slv (cX (qV rfl rfl (qb ?_))))))))))))
 refine qE (p := (k : Int) < (rb.length : Int)) rfl (fun h4 => ?_) (fun h4 => ?_)
 ·refine qx (qc (qF (qc (qa (cX (ql (1) qB rfl qw (by decide) rfl rfl (cX (qi qT rfl (Rd.own [] rfl rfl) (qd (ii ((k : Int))) rfl (cX (qy k qf qr rfl rfl rfl hrb.slv (by omega) (Nat.mul_one _) (cX (qi qM rfl (hrb.rd (by omega)) (qd (ii (n)) rfl (cX (js (n - 1) rfl rfl (by omega) (by omega) (cX (qq (args := [ii (rb.getD k 0), ii (0), ii (n - 1)]) call34 rfl (l1In_spec (n := rb.getD k 0) (a := 0) (b := n - 1)) ?_))))))))))))))))))
  rintro _ _ _ _ ⟨rfl, rfl, rfl⟩
  refine cX (XOp.notD rfl (qb ?_))
  refine qE (p := ¬(0 ≤ (rb.getD k 0) ∧ (rb.getD k 0) ≤ (n - 1))) rfl (fun h5 => ?_) (fun h5 => ?_)
  ·refine qc (qa (qg (.bool (false)) rfl (qb (qC (qK (qn (qn (qK (qn (qv (L' := L) [.bool (false)] (.bool (false)) (.tmp rfl .nil) rfl rF rF (sD (sD sR)) ?_))))))))))
   exact ⟨(vB (by first | exact tok_iff.2 ⟨by dsimp only; omega, by dsimp only; omega, fun i hi => hall i (by dsimp only at hi; omega), by dsimp only; omega⟩ | exact tok_no (fun T => by have h91 := T.sym; have h92 := T.args; have h93 := T.to; have h94 := T.arg; dsimp only at h91 h92 h93 h94; first | omega | (have h95 := h94 k (by omega); omega)))), rfl, rfl⟩
  refine qx (qa (qd (ii ((k : Int))) rfl (cX (qD (((k + 1 : Nat) : Int)) rfl rfl (by omega) (by omega) (qg (ii (((k + 1 : Nat) : Int))) rfl (qb ?_))))))
  exact ⟨k + 1, _, FLe.refl _, rF, ⟨rfl, rfl, rfl, ⟨⟩⟩, (sC (sC sR)), ⟨rfl, (by (try dsimp only) <;> omega), (fun i hi => (Nat.lt_or_ge i k).elim (fun h => hall i h) (fun h => by obtain rfl : i = k := (by omega); omega))⟩, (by omega)⟩
 refine jd (qp (qp (qJ (qc (qa (qg (.bool (true)) rfl (qb (qC (qv (L' := L) [.bool (true)] (.bool (true)) (.tmp rfl .nil) rfl rF rF (sD (sD sR)) ?_)))))))))
 exact ⟨(vB (by first | exact tok_iff.2 ⟨by dsimp only; omega, by dsimp only; omega, fun i hi => hall i (by dsimp only at hi; omega), by dsimp only; omega⟩ | exact tok_no (fun T => by have h91 := T.sym; have h92 := T.args; have h93 := T.to; have h94 := T.arg; dsimp only at h91 h92 h93 h94; first | omega | (have h95 := h94 k (by omega); omega)))), rfl, rfl⟩

/- spec.l23From -/
theorem l23From_spec {F : FH} {L : List HP} {ra : Int} {rbv : Value} {rb : List Int} (hrb : IntsF F rbv rb) {rc : Int} {sa : Int} {sbv : Value} {sb : List Int} (hsb : IntsF F sbv sb) {sc : Int} (hlb : rb.length ≤ 4000000) (hls : sb.length ≤ 4000000) :
    Does prog 44 [.agg #[ii (ra), rbv, ii (rc)], .agg #[ii (sa), sbv, ii (sc)]] F (L) (fun v F' L' => (.bool (decide (ra = sa ∧ rb = sb)) : Value) = v ∧ F = F' ∧ L = L') := by
 refine qO func44 rfl rfl rfl (qc (qa (cX (ji [ii (ra), rbv, ii (rc)] rfl rfl ?_))))
 intro b1
 refine cX (ji [ii (sa), sbv, ii (sc)] rfl rfl ?_)
 intro b2
 refine qg (.bool (false)) rfl (qb (qc (qa (cX (ql (0) qB rfl qr (by decide) rfl rfl (cX (qi qM rfl (Rd.own [_] rfl rfl) (cX (ql (0) qB rfl qr (by decide) rfl rfl (cX (qi qM rfl (Rd.own [] rfl rfl) (cX (jp rfl rfl (qd (.bool (decide ((ra : Int) = sa))) rfl ?_))))))))))))))
 by_cases h1 : (ra : Int) = sa
 ·refine qo (t := 10) rfl (vT h1) (ql (1) qB rfl qw (by decide) rfl rfl (qo (t := 10) rfl (vT h1) (qi qT rfl (Rd.own [_] rfl rfl) (qo (t := 10) rfl (vT h1) (ql (1) qB rfl qw (by decide) rfl rfl (qo (t := 10) rfl (vT h1) (qi qT rfl (Rd.own [] rfl rfl) (qo (t := 10) rfl (vT h1) (qq (args := [rbv, sbv]) call9 rfl (SameTerm_spec hrb hsb (hbd := (by first | assumption | rfl | omega | (left; simp; done) | (right; simp; done)))) ?_)))))))))
  rintro _ _ _ _ ⟨rfl, rfl, rfl⟩
  refine cX (qL (.bool (decide (rb = sb))) (vT h1) rfl (qg (.bool (decide (rb = sb))) rfl (qb (qC (qv (L' := L) [.bool (decide (rb = sb))] (.bool (decide (rb = sb))) (.tmp rfl .nil) rfl rF rF (sD (sD sR)) ?_)))))
  exact ⟨(vB (by simp_all)), rfl, rfl⟩
 refine qm (t := 10) rfl (vF h1) (qm (t := 10) rfl (vF h1) (qm (t := 10) rfl (vF h1) (qm (t := 10) rfl (vF h1) (qm (t := 10) rfl (vF h1) (cX (qQ (.bool (false)) (vF h1) rfl (qg (.bool (false)) rfl (qb (qC (qv (L' := L) [.bool (false)] (.bool (false)) (.tmp rfl .nil) rfl rF rF (sD (sD sR)) ?_))))))))))
 exact ⟨(vB (by simp_all)), rfl, rfl⟩

/- spec.AutoOk -/
set_option maxHeartbeats 1000000 in
set_option maxRecDepth 20000 in
theorem sAutoOk_spec {F : FH} {L : List HP} {arv : Value} {ar : List Int} (har : IntsF F arv ar) {n : Int} {rsv : Value} {rs : List TranT} (hrs : TransF F rsv rs) {fiv : Value} {fi : List Int} (hfi : IntsF F fiv fi) (hla : ar.length ≤ 4000000) (hlr : rs.length ≤ 4000000) (hrb : ∀ i, i < rs.length → (rs.getD i (0, [], 0)).2.1.length ≤ 4000000) (hlf : fi.length ≤ 4000000) :
    Does prog 13 [.agg #[arv], .agg #[ii (n), rsv, fiv]] F (L) (fun v F' L' => (.bool (autoB ar n rs fi) : Value) = v ∧ F = F' ∧ L = L') := by
 refine qO func13 rfl rfl rfl (qc (qa (cX (ji [arv] rfl rfl ?_))))
 intro b1
 refine cX (ji [ii (n), rsv, fiv] rfl rfl ?_)
 intro b2
 refine qg (.bool (false)) rfl (qb (qc (qc (qa (cX (qu [arv] qY qI rfl rfl (Rd.ownN [_] rfl rfl) (cX (qq (args := [.agg #[arv]]) call39 rfl (sSigOk_spec har (hla := (by first | assumption | rfl | omega | simp))) ?_))))))))
 rintro _ _ _ _ ⟨rfl, rfl, rfl⟩
 refine cX (jx rfl (qd (.bool (!(sigOk ar))) rfl ?_))
 by_cases h1 : (!(sigOk ar)) = true
 ·have hsg : sigOk ar = false := Bool.not_inj (y := false) h1
  refine qm (t := 10) rfl (vB h1) (qm (t := 10) rfl (vB h1) (qm (t := 10) rfl (vB h1) (qm (t := 10) rfl (vB h1) (cX (qL (.bool (true)) (vB h1) rfl (qd (.bool (true)) rfl (qm (t := 16) rfl rfl (qm (t := 16) rfl rfl (qm (t := 16) rfl rfl (qm (t := 16) rfl rfl ?_))))))))))
  refine cX (qL (.bool (true)) rfl rfl (qd (.bool (true)) rfl (qm (t := 22) rfl rfl (qm (t := 22) rfl rfl (qm (t := 22) rfl rfl (qm (t := 22) rfl rfl (qm (t := 22) rfl rfl (qm (t := 22) rfl rfl (cX (qL (.bool (true)) rfl rfl (qd (.bool (true)) rfl ?_)))))))))))
  refine qm (t := 30) rfl rfl (qm (t := 30) rfl rfl (qm (t := 30) rfl rfl (qm (t := 30) rfl rfl (qm (t := 30) rfl rfl (qm (t := 30) rfl rfl (cX (qL (.bool (true)) rfl rfl (qb (jA rfl (qc (qa ?_)))))))))))
  refine qg (.bool (false)) rfl (qb (qC (qn (qv (L' := L) [.bool (false)] (.bool (false)) (.tmp rfl .nil) rfl rF rF (sD (sD sR)) ?_))))
  exact ⟨(vB (by first | exact auto_no (fun A => A.diff k j (by omega) (by omega) (Prod.ext hfr.1.symm (Prod.ext hfr.2.symm hto.symm))) | exact auto_no (fun A => by have hT := tok_iff.2 (A.rule k (by omega)); rw [htk] at hT; cases hT; done) | exact auto_no (fun A => by first | (have h9 := A.sig; rw [hsg] at h9; cases h9; done) | (have h9 := A.set; rw [hse] at h9; cases h9; done) | (have h1 := A.n1; have h2 := A.n16; have h3 := A.few; have h4 := A.finl; omega)) | exact auto_yes ⟨hsg, by omega, by omega, by omega, fun i hi => (hrk i (by omega)).1, fun i j hi hj => (hrk i (by omega)).2 j hj, fun i hi => (set_iff.1 hse i hi).2, fun i hi => (set_iff.1 hse i hi).1⟩)), rfl, rfl⟩
 rw [Bool.not_eq_true] at h1
 have hsg : sigOk ar = true := Bool.not_inj (y := true) h1
 refine qo (t := 10) rfl (vB h1) (ql (0) qA rfl qr (by decide) rfl rfl (qo (t := 10) rfl (vB h1) (qi qM rfl (Rd.own [] rfl rfl) (qo (t := 10) rfl (vB h1) (qq (args := [ii (n), ii (1), ii (16)]) call34 rfl (l1In_spec (n := n) (a := 1) (b := 16)) ?_)))))
 rintro _ _ _ _ ⟨rfl, rfl, rfl⟩
 refine qo (t := 10) rfl (vB h1) (XOp.notD rfl (cX (qQ (.bool (decide (¬(1 ≤ n ∧ n ≤ 16)))) (vB h1) rfl (qd (.bool (decide (¬(1 ≤ n ∧ n ≤ 16)))) rfl ?_))))
 by_cases h2 : ¬(1 ≤ n ∧ n ≤ 16)
 ·refine qm (t := 16) rfl (vT h2) (qm (t := 16) rfl (vT h2) (qm (t := 16) rfl (vT h2) (qm (t := 16) rfl (vT h2) (cX (qL (.bool (true)) (vT h2) rfl (qd (.bool (true)) rfl (qm (t := 22) rfl rfl (qm (t := 22) rfl rfl (qm (t := 22) rfl rfl (qm (t := 22) rfl rfl ?_))))))))))
  refine qm (t := 22) rfl rfl (qm (t := 22) rfl rfl (cX (qL (.bool (true)) rfl rfl (qd (.bool (true)) rfl (qm (t := 30) rfl rfl (qm (t := 30) rfl rfl (qm (t := 30) rfl rfl (qm (t := 30) rfl rfl (qm (t := 30) rfl rfl (qm (t := 30) rfl rfl ?_))))))))))
  refine cX (qL (.bool (true)) rfl rfl (qb (jA rfl (qc (qa (qg (.bool (false)) rfl (qb (qC (qn (qv (L' := L) [.bool (false)] (.bool (false)) (.tmp rfl .nil) rfl rF rF (sD (sD sR)) ?_))))))))))
  exact ⟨(vB (by first | exact auto_no (fun A => A.diff k j (by omega) (by omega) (Prod.ext hfr.1.symm (Prod.ext hfr.2.symm hto.symm))) | exact auto_no (fun A => by have hT := tok_iff.2 (A.rule k (by omega)); rw [htk] at hT; cases hT; done) | exact auto_no (fun A => by first | (have h9 := A.sig; rw [hsg] at h9; cases h9; done) | (have h9 := A.set; rw [hse] at h9; cases h9; done) | (have h1 := A.n1; have h2 := A.n16; have h3 := A.few; have h4 := A.finl; omega)) | exact auto_yes ⟨hsg, by omega, by omega, by omega, fun i hi => (hrk i (by omega)).1, fun i j hi hj => (hrk i (by omega)).2 j hj, fun i hi => (set_iff.1 hse i hi).2, fun i hi => (set_iff.1 hse i hi).1⟩)), rfl, rfl⟩
 refine qo (t := 16) rfl (vF h2) (ql (1) qA rfl jh (by decide) rfl rfl (qo (t := 16) rfl (vF h2) (qi jo rfl (Rd.own [] rfl rfl) (qo (t := 16) rfl (vF h2) (qG qR rfl hrs.slv (qo (t := 16) rfl (vF h2) (jw rfl rfl (cX (qQ (.bool (decide (((rs.length : Int) : Int) > 300))) (vF h2) rfl (qd (.bool (decide (((rs.length : Int) : Int) > 300))) rfl ?_))))))))))
 by_cases h3 : ((rs.length : Int) : Int) > 300
 ·refine qm (t := 22) rfl (vT h3) (qm (t := 22) rfl (vT h3) (qm (t := 22) rfl (vT h3) (qm (t := 22) rfl (vT h3) (qm (t := 22) rfl (vT h3) (qm (t := 22) rfl (vT h3) (cX (qL (.bool (true)) (vT h3) rfl (qd (.bool (true)) rfl (qm (t := 30) rfl rfl (qm (t := 30) rfl rfl ?_))))))))))
  refine qm (t := 30) rfl rfl (qm (t := 30) rfl rfl (qm (t := 30) rfl rfl (qm (t := 30) rfl rfl (cX (qL (.bool (true)) rfl rfl (qb (jA rfl (qc (qa (qg (.bool (false)) rfl (qb ?_)))))))))))
  refine qC (qn (qv (L' := L) [.bool (false)] (.bool (false)) (.tmp rfl .nil) rfl rF rF (sD (sD sR)) ?_))
  exact ⟨(vB (by first | exact auto_no (fun A => A.diff k j (by omega) (by omega) (Prod.ext hfr.1.symm (Prod.ext hfr.2.symm hto.symm))) | exact auto_no (fun A => by have hT := tok_iff.2 (A.rule k (by omega)); rw [htk] at hT; cases hT; done) | exact auto_no (fun A => by first | (have h9 := A.sig; rw [hsg] at h9; cases h9; done) | (have h9 := A.set; rw [hse] at h9; cases h9; done) | (have h1 := A.n1; have h2 := A.n16; have h3 := A.few; have h4 := A.finl; omega)) | exact auto_yes ⟨hsg, by omega, by omega, by omega, fun i hi => (hrk i (by omega)).1, fun i j hi hj => (hrk i (by omega)).2 j hj, fun i hi => (set_iff.1 hse i hi).2, fun i hi => (set_iff.1 hse i hi).1⟩)), rfl, rfl⟩
 refine qo (t := 22) rfl (vF h3) (ql (2) qA rfl qw (by decide) rfl rfl (qo (t := 22) rfl (vF h3) (qi qT rfl (Rd.own [] rfl rfl) (qo (t := 22) rfl (vF h3) (qG qf rfl hfi.slv (qo (t := 22) rfl (vF h3) (ql (0) qA rfl qr (by decide) rfl rfl (qo (t := 22) rfl (vF h3) (qi qM rfl (Rd.own [] rfl rfl) (qo (t := 22) rfl (vF h3) (jw rfl rfl (cX (qQ (.bool (decide (((fi.length : Int) : Int) > n))) (vF h3) rfl (qd (.bool (decide (((fi.length : Int) : Int) > n))) rfl ?_))))))))))))))
 by_cases h4 : ((fi.length : Int) : Int) > n
 ·refine qm (t := 30) rfl (vT h4) (qm (t := 30) rfl (vT h4) (qm (t := 30) rfl (vT h4) (qm (t := 30) rfl (vT h4) (qm (t := 30) rfl (vT h4) (qm (t := 30) rfl (vT h4) (cX (qL (.bool (true)) (vT h4) rfl (qb (jA rfl (qc (qa ?_)))))))))))
  refine qg (.bool (false)) rfl (qb (qC (qn (qv (L' := L) [.bool (false)] (.bool (false)) (.tmp rfl .nil) rfl rF rF (sD (sD sR)) ?_))))
  exact ⟨(vB (by first | exact auto_no (fun A => A.diff k j (by omega) (by omega) (Prod.ext hfr.1.symm (Prod.ext hfr.2.symm hto.symm))) | exact auto_no (fun A => by have hT := tok_iff.2 (A.rule k (by omega)); rw [htk] at hT; cases hT; done) | exact auto_no (fun A => by first | (have h9 := A.sig; rw [hsg] at h9; cases h9; done) | (have h9 := A.set; rw [hse] at h9; cases h9; done) | (have h1 := A.n1; have h2 := A.n16; have h3 := A.few; have h4 := A.finl; omega)) | exact auto_yes ⟨hsg, by omega, by omega, by omega, fun i hi => (hrk i (by omega)).1, fun i j hi hj => (hrk i (by omega)).2 j hj, fun i hi => (set_iff.1 hse i hi).2, fun i hi => (set_iff.1 hse i hi).1⟩)), rfl, rfl⟩
 refine qo (t := 30) rfl (vF h4) (ql (2) qA rfl qw (by decide) rfl rfl (qo (t := 30) rfl (vF h4) (qi qT rfl (Rd.own [] rfl rfl) (qo (t := 30) rfl (vF h4) (ql (0) qA rfl qr (by decide) rfl rfl (qo (t := 30) rfl (vF h4) (qi qM rfl (Rd.own [] rfl rfl) (qo (t := 30) rfl (vF h4) (qq (args := [fiv, ii (n)]) call42 rfl (l23Set_spec (n := n) hfi (hlf := (by first | assumption | rfl | omega | simp)) (hn := (by omega))) ?_)))))))))
 rintro _ _ _ _ ⟨rfl, rfl, rfl⟩
 refine qo (t := 30) rfl (vF h4) (jx rfl (cX (qQ (.bool (!(setB fi n))) (vF h4) rfl (qb ?_))))
 refine jr (t := !(setB fi n)) rfl (fun h5 => ?_) (fun h5 => ?_)
 ·have hse : setB fi n = false := Bool.not_inj (y := false) h5
  refine qc (qa (qg (.bool (false)) rfl (qb (qC (qn (qv (L' := L) [.bool (false)] (.bool (false)) (.tmp rfl .nil) rfl rF rF (sD (sD sR)) ?_))))))
  exact ⟨(vB (by first | exact auto_no (fun A => A.diff k j (by omega) (by omega) (Prod.ext hfr.1.symm (Prod.ext hfr.2.symm hto.symm))) | exact auto_no (fun A => by have hT := tok_iff.2 (A.rule k (by omega)); rw [htk] at hT; cases hT; done) | exact auto_no (fun A => by first | (have h9 := A.sig; rw [hsg] at h9; cases h9; done) | (have h9 := A.set; rw [hse] at h9; cases h9; done) | (have h1 := A.n1; have h2 := A.n16; have h3 := A.few; have h4 := A.finl; omega)) | exact auto_yes ⟨hsg, by omega, by omega, by omega, fun i hi => (hrk i (by omega)).1, fun i j hi hj => (hrk i (by omega)).2 j hj, fun i hi => (set_iff.1 hse i hi).2, fun i hi => (set_iff.1 hse i hi).1⟩)), rfl, rfl⟩
 have hse : setB fi n = true := Bool.not_inj (y := true) h5
 refine qx (qc (qc (qa (qg (ii (0)) rfl (qb (qF (jg (α := Nat) (fun k => [(2, ptr b1 0), (3, ptr b2 0), (5, ii ((k : Int)))]) (fun k => cellsH b2 [ii (n), rsv, fiv] 29 :: cellsH b1 [arv] 26 :: L) (fun k F' => F = F' ∧ (k ≤ rs.length) ∧ (∀ i, i < k → TransOk ar n (rs.getD i (0, [], 0)) ∧ ∀ j, j < i → (rs.getD i (0, [], 0)) ≠ rs.getD j (0, [], 0))) (fun k => rs.length - k) 0 ⟨rfl, rfl, rfl, ⟨⟩⟩ (sC (sC sR)) ⟨rfl, (by (try dsimp only) <;> omega), (fun i hi => absurd hi (by omega))⟩ ?_)))))))
 rintro k rE _ _ ⟨rfl, hk, hrk⟩
 show X _ _ _ _ (envs [(2, ptr b1 0), (3, ptr b2 0), (5, ii ((k : Int)))] rE) _ (cellsH b2 [ii (n), rsv, fiv] 29 :: cellsH b1 [arv] 26 :: L)
 have hbk := hrb k
 refine qc (qc (qa (qd (ii ((k : Int))) rfl (cX (ql (1) qA rfl jh (by decide) rfl rfl (cX (qi jo rfl (Rd.own [] rfl rfl) (cX (qG qR rfl hrs.slv (cX (qV rfl rfl (qb ?_))))))))))))
 refine qE (p := (k : Int) < (rs.length : Int)) rfl (fun h6 => ?_) (fun h6 => ?_)
 ·refine qx (qc (qF (qc (qc ?_))))
  obtain ⟨a1, ha1, hrg1, hq1⟩ := hrs.rd (i := k) (by omega)
  refine jq [cellsH b2 [ii (n), rsv, fiv] 29, cellsH b1 [arv] 26] L 8 [] [[], [], [1], [], [3], [], [4, 5], [6]] (phiL [qe (.agg #[arv]), qe (ptr b2 0), qe (ii (n)), qe (ptr b2 1), qe rsv, qe (ii ((k : Int)) : Value), qe (.pointer (some (elemA rsv (k * 3)))), qe (.agg #[ii ((rs.getD k (0, [], 0)).1), a1, ii ((rs.getD k (0, [], 0)).2.2)])]) (ownL []) mixed rfl rfl (by kernel_rfl) ?_ ?_
  ·refine pD (fun W R z9 => ?_) ?_
   ·refine qh (qu [arv] qY qI rfl rfl (Rd.ownN [_] rfl rfl) ?_)
    exact ⟨rfl, rfl, rfl⟩
   refine pD (fun W R z9 => ?_) ?_
   ·refine qh (ql (0) qA rfl qr (by decide) rfl rfl ?_)
    exact ⟨rfl, rfl, rfl⟩
   refine pD (fun W R z9 => ?_) ?_
   ·rw [zA 1 (z9 1 rfl)]
    refine qh (qi qM rfl (Rd.own [] rfl rfl) ?_)
    exact ⟨rfl, rfl, rfl⟩
   refine pD (fun W R z9 => ?_) ?_
   ·refine qh (ql (1) qA rfl jh (by decide) rfl rfl ?_)
    exact ⟨rfl, rfl, rfl⟩
   refine pD (fun W R z9 => ?_) ?_
   ·rw [zA 3 (z9 3 rfl)]
    refine qh (qi jo rfl (Rd.own [] rfl rfl) ?_)
    exact ⟨rfl, rfl, rfl⟩
   refine pD (fun W R z9 => ?_) ?_
   ·refine qh (qk (ii ((k : Int))) rfl ?_)
    exact ⟨rfl, rfl, rfl⟩
   refine pD (fun W R z9 => ?_) ?_
   ·rw [zB 4 5 (z9 4 rfl) (z9 5 rfl)]
    refine qh (qy k qR jb rfl rfl rfl hrs.slv (by omega) rfl ?_)
    exact ⟨rfl, rfl, rfl⟩
   refine pD (fun W R z9 => ?_) ?_
   ·rw [zA 6 (z9 6 rfl)]
    refine qh (qu [ii ((rs.getD k (0, [], 0)).1), a1, ii ((rs.getD k (0, [], 0)).2.2)] jD jb rfl rfl (Rd.all (hrg1 _)) ?_)
    exact ⟨rfl, rfl, rfl⟩
   exact stepsP.nil
  intro W hphi
  rw [eS (l := [(0, _), (2, _), (7, _)]) ⟨(hphi 0 (by decide)), (hphi 2 (by decide)), (hphi 7 (by decide)), ⟨⟩⟩]
  show XL _ _ _ _ _ _ _ (cellsH b2 [ii (n), rsv, fiv] 29 :: cellsH b1 [arv] 26 :: L)
  refine cX (qq (args := [.agg #[arv], ii (n), .agg #[ii ((rs.getD k (0, [], 0)).1), a1, ii ((rs.getD k (0, [], 0)).2.2)]]) call43 rfl (l23Trans_spec (n := n) har ha1 (hla := (by first | assumption | rfl | omega | simp)) (hn := (by omega)) (hlb := (hbk (by omega)))) ?_)
  rintro _ _ _ _ ⟨rfl, rfl, rfl⟩
  refine cX (jx rfl (qb ?_))
  refine jr (t := !(tokB ar n ((((rs.getD k (0, [], 0)).1), ((rs.getD k (0, [], 0)).2.1), ((rs.getD k (0, [], 0)).2.2)) : TranT))) rfl (fun h7 => ?_) (fun h7 => ?_)
  ·have htk : tokB ar n (rs.getD k (0, [], 0)) = false := Bool.not_inj (y := false) h7
   refine qc (qa (qg (.bool (false)) rfl (qb (qC (qn (qK (qn (qn (qK (qn (qv (L' := L) [.bool (false)] (.bool (false)) (.tmp rfl .nil) rfl rF rF (sD (sD sR)) ?_)))))))))))
   exact ⟨(vB (by first | exact auto_no (fun A => A.diff k j (by omega) (by omega) (Prod.ext hfr.1.symm (Prod.ext hfr.2.symm hto.symm))) | exact auto_no (fun A => by have hT := tok_iff.2 (A.rule k (by omega)); rw [htk] at hT; cases hT; done) | exact auto_no (fun A => by first | (have h9 := A.sig; rw [hsg] at h9; cases h9; done) | (have h9 := A.set; rw [hse] at h9; cases h9; done) | (have h1 := A.n1; have h2 := A.n16; have h3 := A.few; have h4 := A.finl; omega)) | exact auto_yes ⟨hsg, by omega, by omega, by omega, fun i hi => (hrk i (by omega)).1, fun i j hi hj => (hrk i (by omega)).2 j hj, fun i hi => (set_iff.1 hse i hi).2, fun i hi => (set_iff.1 hse i hi).1⟩)), rfl, rfl⟩
  have htk : tokB ar n (rs.getD k (0, [], 0)) = true := Bool.not_inj (y := true) h7
  refine qx (qc (qa (qg (ii (0)) rfl (qb (qF (jg (α := Nat) (fun j => [(2, ptr b1 0), (3, ptr b2 0), (5, ii ((k : Int))), (6, ii ((j : Int)))]) (fun j => cellsH b2 [ii (n), rsv, fiv] 29 :: cellsH b1 [arv] 26 :: L) (fun j F' => F = F' ∧ (j ≤ k) ∧ (∀ i, i < j → (rs.getD k (0, [], 0)) ≠ rs.getD i (0, [], 0))) (fun j => k - j) 0 ⟨rfl, rfl, rfl, rfl, ⟨⟩⟩ (sC (sC sR)) ⟨rfl, (by (try dsimp only) <;> omega), (fun i hi => absurd hi (by omega))⟩ ?_))))))
  rintro j rE _ _ ⟨rfl, hj, hdf⟩
  show X _ _ _ _ (envs [(2, ptr b1 0), (3, ptr b2 0), (5, ii ((k : Int))), (6, ii ((j : Int)))] rE) _ (cellsH b2 [ii (n), rsv, fiv] 29 :: cellsH b1 [arv] 26 :: L)
  have hbj := hrb j
  have hbk := hrb k
  refine qc (qc (qa (qd (ii ((j : Int))) rfl (qd (ii ((k : Int))) rfl (cX (qV rfl rfl (qb ?_)))))))
  refine qE (p := (j : Int) < (k : Int)) rfl (fun h8 => ?_) (fun h8 => ?_)
  ·refine qx (qc (qF (qc ?_)))
   obtain ⟨a2, ha2, hrg2, hq2⟩ := hrs.rd (i := j) (by omega)
   obtain ⟨a3, ha3, hrg3, hq3⟩ := hrs.rd (i := k) (by omega)
   by_cases h9 : ((rs.getD j (0, [], 0)).1) = ((rs.getD k (0, [], 0)).1) ∧ ((rs.getD j (0, [], 0)).2.1) = ((rs.getD k (0, [], 0)).2.1)
   ·have hfr := h9
    refine jq [cellsH b2 [ii (n), rsv, fiv] 29, cellsH b1 [arv] 26] L 24 [] [[], [0], [], [1, 2], [3], [], [5], [], [6, 7], [8], [4, 9], [10], [11], [11, 12], [11], [11, 13, 14], [11, 15], [11, 16], [11], [11, 18], [11], [11, 19, 20], [11, 21], [11, 22]] (phiL [qe (ptr b2 1), qe rsv, qe (ii ((j : Int)) : Value), qe (.pointer (some (elemA rsv (j * 3)))), qe (.agg #[ii ((rs.getD j (0, [], 0)).1), a2, ii ((rs.getD j (0, [], 0)).2.2)]), qe (ptr b2 1), qe rsv, qe (ii ((k : Int)) : Value), qe (.pointer (some (elemA rsv (k * 3)))), qe (.agg #[ii ((rs.getD k (0, [], 0)).1), a3, ii ((rs.getD k (0, [], 0)).2.2)]), qe (.bool (decide (((rs.getD j (0, [], 0)).1) = ((rs.getD k (0, [], 0)).1) ∧ ((rs.getD j (0, [], 0)).2.1) = ((rs.getD k (0, [], 0)).2.1)))), qe (.bool (decide (((rs.getD j (0, [], 0)).1) = ((rs.getD k (0, [], 0)).1) ∧ ((rs.getD j (0, [], 0)).2.1) = ((rs.getD k (0, [], 0)).2.1)))), qe (ptr b2 1), qe rsv, qe (ii ((j : Int)) : Value), qe (.pointer (some (elemA rsv (j * 3)))), qe (.pointer (some (elemA rsv (j * 3 + 2)))), qe (ii ((rs.getD j (0, [], 0)).2.2)), qe (ptr b2 1), qe rsv, qe (ii ((k : Int)) : Value), qe (.pointer (some (elemA rsv (k * 3)))), qe (.pointer (some (elemA rsv (k * 3 + 2)))), qe (ii ((rs.getD k (0, [], 0)).2.2))]) (ownL []) mixed rfl rfl (by kernel_rfl) ?_ ?_
    ·refine pD (fun W R z9 => ?_) ?_
     ·refine qh (ql (1) qA rfl jh (by decide) rfl rfl ?_)
      exact ⟨rfl, rfl, rfl⟩
     refine pD (fun W R z9 => ?_) ?_
     ·rw [zA 0 (z9 0 rfl)]
      refine qh (qi jo rfl (Rd.own [] rfl rfl) ?_)
      exact ⟨rfl, rfl, rfl⟩
     refine pD (fun W R z9 => ?_) ?_
     ·refine qh (qk (ii ((j : Int))) rfl ?_)
      exact ⟨rfl, rfl, rfl⟩
     refine pD (fun W R z9 => ?_) ?_
     ·rw [zB 1 2 (z9 1 rfl) (z9 2 rfl)]
      refine qh (qy j qR jb rfl rfl rfl hrs.slv (by omega) rfl ?_)
      exact ⟨rfl, rfl, rfl⟩
     refine pD (fun W R z9 => ?_) ?_
     ·rw [zA 3 (z9 3 rfl)]
      refine qh (qu [ii ((rs.getD j (0, [], 0)).1), a2, ii ((rs.getD j (0, [], 0)).2.2)] jD jb rfl rfl (Rd.all (hrg2 _)) ?_)
      exact ⟨rfl, rfl, rfl⟩
     refine pD (fun W R z9 => ?_) ?_
     ·refine qh (ql (1) qA rfl jh (by decide) rfl rfl ?_)
      exact ⟨rfl, rfl, rfl⟩
     refine pD (fun W R z9 => ?_) ?_
     ·rw [zA 5 (z9 5 rfl)]
      refine qh (qi jo rfl (Rd.own [] rfl rfl) ?_)
      exact ⟨rfl, rfl, rfl⟩
     refine pD (fun W R z9 => ?_) ?_
     ·refine qh (qk (ii ((k : Int))) rfl ?_)
      exact ⟨rfl, rfl, rfl⟩
     refine pD (fun W R z9 => ?_) ?_
     ·rw [zB 6 7 (z9 6 rfl) (z9 7 rfl)]
      refine qh (qy k qR jb rfl rfl rfl hrs.slv (by omega) rfl ?_)
      exact ⟨rfl, rfl, rfl⟩
     refine pD (fun W R z9 => ?_) ?_
     ·rw [zA 8 (z9 8 rfl)]
      refine qh (qu [ii ((rs.getD k (0, [], 0)).1), a3, ii ((rs.getD k (0, [], 0)).2.2)] jD jb rfl rfl (Rd.all (hrg3 _)) ?_)
      exact ⟨rfl, rfl, rfl⟩
     refine pD (fun W R z9 => ?_) ?_
     ·rw [zB 4 9 (z9 4 rfl) (z9 9 rfl)]
      refine qh (qq (args := [.agg #[ii ((rs.getD j (0, [], 0)).1), a2, ii ((rs.getD j (0, [], 0)).2.2)], .agg #[ii ((rs.getD k (0, [], 0)).1), a3, ii ((rs.getD k (0, [], 0)).2.2)]]) call44 rfl (l23From_spec ha2 ha3 (hlb := (by first | exact hbj (by omega) | exact hbk (by omega))) (hls := (by first | exact hbk (by omega) | exact hbj (by omega)))) ?_)
      rintro _ _ _ _ ⟨rfl, rfl, rfl⟩
      exact ⟨rfl, rfl, rfl⟩
     refine pD (fun W R z9 => ?_) ?_
     ·rw [zA 10 (z9 10 rfl)]
      refine qh (qk (.bool (decide (((rs.getD j (0, [], 0)).1) = ((rs.getD k (0, [], 0)).1) ∧ ((rs.getD j (0, [], 0)).2.1) = ((rs.getD k (0, [], 0)).2.1)))) rfl ?_)
      exact ⟨rfl, rfl, rfl⟩
     refine pD (fun W R z9 => ?_) ?_
     ·rw [zA 11 (z9 11 rfl)]
      refine qH (t := 71) rfl (vT h9) (ql (1) qA rfl jh (by decide) rfl rfl ?_)
      exact ⟨rfl, rfl, rfl⟩
     refine pD (fun W R z9 => ?_) ?_
     ·rw [zB 11 12 (z9 11 rfl) (z9 12 rfl)]
      refine qH (t := 71) rfl (vT h9) (qi jo rfl (Rd.own [] rfl rfl) ?_)
      exact ⟨rfl, rfl, rfl⟩
     refine pD (fun W R z9 => ?_) ?_
     ·rw [zA 11 (z9 11 rfl)]
      refine qH (t := 71) rfl (vT h9) (qk (ii ((j : Int))) rfl ?_)
      exact ⟨rfl, rfl, rfl⟩
     refine pD (fun W R z9 => ?_) ?_
     ·rw [eS (l := [(11, _), (13, _), (14, _)]) ⟨z9 11 rfl, z9 13 rfl, z9 14 rfl, ⟨⟩⟩]
      refine qH (t := 71) rfl (vT h9) (qy j qR jb rfl rfl rfl hrs.slv (by omega) rfl ?_)
      exact ⟨rfl, rfl, rfl⟩
     refine pD (fun W R z9 => ?_) ?_
     ·rw [zB 11 15 (z9 11 rfl) (z9 15 rfl)]
      refine qH (t := 71) rfl (vT h9) (XOp.fieldE (j * 3 + 2) qB rfl qr (by decide) rfl rfl ?_)
      exact ⟨rfl, rfl, rfl⟩
     refine pD (fun W R z9 => ?_) ?_
     ·rw [zB 11 16 (z9 11 rfl) (z9 16 rfl)]
      refine qH (t := 71) rfl (vT h9) (qi qM rfl (hrg2 _ 2 _ rfl) ?_)
      exact ⟨rfl, rfl, rfl⟩
     refine pD (fun W R z9 => ?_) ?_
     ·rw [zA 11 (z9 11 rfl)]
      refine qH (t := 71) rfl (vT h9) (ql (1) qA rfl jh (by decide) rfl rfl ?_)
      exact ⟨rfl, rfl, rfl⟩
     refine pD (fun W R z9 => ?_) ?_
     ·rw [zB 11 18 (z9 11 rfl) (z9 18 rfl)]
      refine qH (t := 71) rfl (vT h9) (qi jo rfl (Rd.own [] rfl rfl) ?_)
      exact ⟨rfl, rfl, rfl⟩
     refine pD (fun W R z9 => ?_) ?_
     ·rw [zA 11 (z9 11 rfl)]
      refine qH (t := 71) rfl (vT h9) (qk (ii ((k : Int))) rfl ?_)
      exact ⟨rfl, rfl, rfl⟩
     refine pD (fun W R z9 => ?_) ?_
     ·rw [eS (l := [(11, _), (19, _), (20, _)]) ⟨z9 11 rfl, z9 19 rfl, z9 20 rfl, ⟨⟩⟩]
      refine qH (t := 71) rfl (vT h9) (qy k qR jb rfl rfl rfl hrs.slv (by omega) rfl ?_)
      exact ⟨rfl, rfl, rfl⟩
     refine pD (fun W R z9 => ?_) ?_
     ·rw [zB 11 21 (z9 11 rfl) (z9 21 rfl)]
      refine qH (t := 71) rfl (vT h9) (XOp.fieldE (k * 3 + 2) qB rfl qr (by decide) rfl rfl ?_)
      exact ⟨rfl, rfl, rfl⟩
     refine pD (fun W R z9 => ?_) ?_
     ·rw [zB 11 22 (z9 11 rfl) (z9 22 rfl)]
      refine qH (t := 71) rfl (vT h9) (qi qM rfl (hrg3 _ 2 _ rfl) ?_)
      exact ⟨rfl, rfl, rfl⟩
     exact stepsP.nil
    intro W hphi
    rw [eS (l := [(11, _), (17, _), (23, _)]) ⟨(hphi 11 (by decide)), (hphi 17 (by decide)), (hphi 23 (by decide)), ⟨⟩⟩]
    show XL _ _ _ _ _ _ _ (cellsH b2 [ii (n), rsv, fiv] 29 :: cellsH b1 [arv] 26 :: L)
    refine qo (t := 71) rfl (vT h9) (jp rfl rfl (cX (qL (.bool (decide (((rs.getD j (0, [], 0)).2.2 : Int) = (rs.getD k (0, [], 0)).2.2))) (vT h9) rfl (qb ?_))))
    refine qE (p := ((rs.getD j (0, [], 0)).2.2 : Int) = (rs.getD k (0, [], 0)).2.2) rfl (fun h10 => ?_) (fun h10 => ?_)
    ·have hto := h10
     refine qc (qa (qg (.bool (false)) rfl (qb (qC (qK (qn (qn (qK (qK (qn (qn (qK (qn (qv (L' := L) [.bool (false)] (.bool (false)) (.tmp rfl .nil) rfl rF rF (sD (sD sR)) ?_))))))))))))))
     exact ⟨(vB (by first | exact auto_no (fun A => A.diff k j (by omega) (by omega) (Prod.ext hfr.1.symm (Prod.ext hfr.2.symm hto.symm))) | exact auto_no (fun A => by have hT := tok_iff.2 (A.rule k (by omega)); rw [htk] at hT; cases hT; done) | exact auto_no (fun A => by first | (have h9 := A.sig; rw [hsg] at h9; cases h9; done) | (have h9 := A.set; rw [hse] at h9; cases h9; done) | (have h1 := A.n1; have h2 := A.n16; have h3 := A.few; have h4 := A.finl; omega)) | exact auto_yes ⟨hsg, by omega, by omega, by omega, fun i hi => (hrk i (by omega)).1, fun i j hi hj => (hrk i (by omega)).2 j hj, fun i hi => (set_iff.1 hse i hi).2, fun i hi => (set_iff.1 hse i hi).1⟩)), rfl, rfl⟩
    have hto := h10
    refine qx (qa (qd (ii ((j : Int))) rfl (cX (qD (((j + 1 : Nat) : Int)) rfl rfl (by omega) (by omega) (qg (ii (((j + 1 : Nat) : Int))) rfl (qb ?_))))))
    exact ⟨j + 1, _, FLe.refl _, rF, ⟨rfl, rfl, rfl, rfl, ⟨⟩⟩, (sC (sC sR)), ⟨rfl, (by (try dsimp only) <;> omega), (fun i hi => (Nat.lt_or_ge i j).elim (fun h => hdf i h) (fun h => by obtain rfl : i = j := (by omega); exact (fun e9 => by first | exact hfr ⟨(congrArg Prod.fst e9).symm, (congrArg (fun x => x.2.1) e9).symm⟩ | exact hto (congrArg (fun x => x.2.2) e9).symm)))⟩, (by omega)⟩
   have hfr := h9
   refine jq [cellsH b2 [ii (n), rsv, fiv] 29, cellsH b1 [arv] 26] L 24 [] [[], [0], [], [1, 2], [3], [], [5], [], [6, 7], [8], [4, 9], [10], [11], [11, 12], [11], [11, 13, 14], [11, 15], [11, 16], [11], [11, 18], [11], [11, 19, 20], [11, 21], [11, 22]] (phiL [qe (ptr b2 1), qe rsv, qe (ii ((j : Int)) : Value), qe (.pointer (some (elemA rsv (j * 3)))), qe (.agg #[ii ((rs.getD j (0, [], 0)).1), a2, ii ((rs.getD j (0, [], 0)).2.2)]), qe (ptr b2 1), qe rsv, qe (ii ((k : Int)) : Value), qe (.pointer (some (elemA rsv (k * 3)))), qe (.agg #[ii ((rs.getD k (0, [], 0)).1), a3, ii ((rs.getD k (0, [], 0)).2.2)]), qe (.bool (decide (((rs.getD j (0, [], 0)).1) = ((rs.getD k (0, [], 0)).1) ∧ ((rs.getD j (0, [], 0)).2.1) = ((rs.getD k (0, [], 0)).2.1)))), qe (.bool (decide (((rs.getD j (0, [], 0)).1) = ((rs.getD k (0, [], 0)).1) ∧ ((rs.getD j (0, [], 0)).2.1) = ((rs.getD k (0, [], 0)).2.1)))), qe undef, qe undef, qe undef, qe undef, qe undef, qe undef, qe undef, qe undef, qe undef, qe undef, qe undef, qe undef]) (ownL []) mixed rfl rfl (by kernel_rfl) ?_ ?_
   ·refine pD (fun W R z9 => ?_) ?_
    ·refine qh (ql (1) qA rfl jh (by decide) rfl rfl ?_)
     exact ⟨rfl, rfl, rfl⟩
    refine pD (fun W R z9 => ?_) ?_
    ·rw [zA 0 (z9 0 rfl)]
     refine qh (qi jo rfl (Rd.own [] rfl rfl) ?_)
     exact ⟨rfl, rfl, rfl⟩
    refine pD (fun W R z9 => ?_) ?_
    ·refine qh (qk (ii ((j : Int))) rfl ?_)
     exact ⟨rfl, rfl, rfl⟩
    refine pD (fun W R z9 => ?_) ?_
    ·rw [zB 1 2 (z9 1 rfl) (z9 2 rfl)]
     refine qh (qy j qR jb rfl rfl rfl hrs.slv (by omega) rfl ?_)
     exact ⟨rfl, rfl, rfl⟩
    refine pD (fun W R z9 => ?_) ?_
    ·rw [zA 3 (z9 3 rfl)]
     refine qh (qu [ii ((rs.getD j (0, [], 0)).1), a2, ii ((rs.getD j (0, [], 0)).2.2)] jD jb rfl rfl (Rd.all (hrg2 _)) ?_)
     exact ⟨rfl, rfl, rfl⟩
    refine pD (fun W R z9 => ?_) ?_
    ·refine qh (ql (1) qA rfl jh (by decide) rfl rfl ?_)
     exact ⟨rfl, rfl, rfl⟩
    refine pD (fun W R z9 => ?_) ?_
    ·rw [zA 5 (z9 5 rfl)]
     refine qh (qi jo rfl (Rd.own [] rfl rfl) ?_)
     exact ⟨rfl, rfl, rfl⟩
    refine pD (fun W R z9 => ?_) ?_
    ·refine qh (qk (ii ((k : Int))) rfl ?_)
     exact ⟨rfl, rfl, rfl⟩
    refine pD (fun W R z9 => ?_) ?_
    ·rw [zB 6 7 (z9 6 rfl) (z9 7 rfl)]
     refine qh (qy k qR jb rfl rfl rfl hrs.slv (by omega) rfl ?_)
     exact ⟨rfl, rfl, rfl⟩
    refine pD (fun W R z9 => ?_) ?_
    ·rw [zA 8 (z9 8 rfl)]
     refine qh (qu [ii ((rs.getD k (0, [], 0)).1), a3, ii ((rs.getD k (0, [], 0)).2.2)] jD jb rfl rfl (Rd.all (hrg3 _)) ?_)
     exact ⟨rfl, rfl, rfl⟩
    refine pD (fun W R z9 => ?_) ?_
    ·rw [zB 4 9 (z9 4 rfl) (z9 9 rfl)]
     refine qh (qq (args := [.agg #[ii ((rs.getD j (0, [], 0)).1), a2, ii ((rs.getD j (0, [], 0)).2.2)], .agg #[ii ((rs.getD k (0, [], 0)).1), a3, ii ((rs.getD k (0, [], 0)).2.2)]]) call44 rfl (l23From_spec ha2 ha3 (hlb := (by first | exact hbj (by omega) | exact hbk (by omega))) (hls := (by first | exact hbk (by omega) | exact hbj (by omega)))) ?_)
     rintro _ _ _ _ ⟨rfl, rfl, rfl⟩
     exact ⟨rfl, rfl, rfl⟩
    refine pD (fun W R z9 => ?_) ?_
    ·rw [zA 10 (z9 10 rfl)]
     refine qh (qk (.bool (decide (((rs.getD j (0, [], 0)).1) = ((rs.getD k (0, [], 0)).1) ∧ ((rs.getD j (0, [], 0)).2.1) = ((rs.getD k (0, [], 0)).2.1)))) rfl ?_)
     exact ⟨rfl, rfl, rfl⟩
    refine pD (fun W R z9 => ?_) ?_
    ·rw [zA 11 (z9 11 rfl)]
     exact qW (t := 71) rfl (vF h9) ⟨rfl, rfl, rfl⟩
    refine pD (fun W R z9 => ?_) ?_
    ·rw [eS (l := [(11, _), (12, undef)]) ⟨z9 11 rfl, z9 12 rfl, ⟨⟩⟩]
     exact qW (t := 71) rfl (vF h9) ⟨rfl, rfl, rfl⟩
    refine pD (fun W R z9 => ?_) ?_
    ·rw [zA 11 (z9 11 rfl)]
     exact qW (t := 71) rfl (vF h9) ⟨rfl, rfl, rfl⟩
    refine pD (fun W R z9 => ?_) ?_
    ·rw [eS (l := [(11, _), (13, undef), (14, undef)]) ⟨z9 11 rfl, z9 13 rfl, z9 14 rfl, ⟨⟩⟩]
     exact qW (t := 71) rfl (vF h9) ⟨rfl, rfl, rfl⟩
    refine pD (fun W R z9 => ?_) ?_
    ·rw [eS (l := [(11, _), (15, undef)]) ⟨z9 11 rfl, z9 15 rfl, ⟨⟩⟩]
     exact qW (t := 71) rfl (vF h9) ⟨rfl, rfl, rfl⟩
    refine pD (fun W R z9 => ?_) ?_
    ·rw [eS (l := [(11, _), (16, undef)]) ⟨z9 11 rfl, z9 16 rfl, ⟨⟩⟩]
     exact qW (t := 71) rfl (vF h9) ⟨rfl, rfl, rfl⟩
    refine pD (fun W R z9 => ?_) ?_
    ·rw [zA 11 (z9 11 rfl)]
     exact qW (t := 71) rfl (vF h9) ⟨rfl, rfl, rfl⟩
    refine pD (fun W R z9 => ?_) ?_
    ·rw [eS (l := [(11, _), (18, undef)]) ⟨z9 11 rfl, z9 18 rfl, ⟨⟩⟩]
     exact qW (t := 71) rfl (vF h9) ⟨rfl, rfl, rfl⟩
    refine pD (fun W R z9 => ?_) ?_
    ·rw [zA 11 (z9 11 rfl)]
     exact qW (t := 71) rfl (vF h9) ⟨rfl, rfl, rfl⟩
    refine pD (fun W R z9 => ?_) ?_
    ·rw [eS (l := [(11, _), (19, undef), (20, undef)]) ⟨z9 11 rfl, z9 19 rfl, z9 20 rfl, ⟨⟩⟩]
     exact qW (t := 71) rfl (vF h9) ⟨rfl, rfl, rfl⟩
    refine pD (fun W R z9 => ?_) ?_
    ·rw [eS (l := [(11, _), (21, undef)]) ⟨z9 11 rfl, z9 21 rfl, ⟨⟩⟩]
     exact qW (t := 71) rfl (vF h9) ⟨rfl, rfl, rfl⟩
    refine pD (fun W R z9 => ?_) ?_
    ·rw [eS (l := [(11, _), (22, undef)]) ⟨z9 11 rfl, z9 22 rfl, ⟨⟩⟩]
     exact qW (t := 71) rfl (vF h9) ⟨rfl, rfl, rfl⟩
    exact stepsP.nil
   intro W hphi
   rw [eS (l := [(11, _), (17, undef), (23, undef)]) ⟨(hphi 11 (by decide)), (hphi 17 (by decide)), (hphi 23 (by decide)), ⟨⟩⟩]
   show XL _ _ _ _ _ _ _ (cellsH b2 [ii (n), rsv, fiv] 29 :: cellsH b1 [arv] 26 :: L)
   refine qm (t := 71) rfl (vF h9) (cX (qQ (.bool (false)) (vF h9) rfl (qb (jG rfl (qx (qa (qd (ii ((j : Int))) rfl (cX (qD (((j + 1 : Nat) : Int)) rfl rfl (by omega) (by omega) (qg (ii (((j + 1 : Nat) : Int))) rfl (qb ?_)))))))))))
   exact ⟨j + 1, _, FLe.refl _, rF, ⟨rfl, rfl, rfl, rfl, ⟨⟩⟩, (sC (sC sR)), ⟨rfl, (by (try dsimp only) <;> omega), (fun i hi => (Nat.lt_or_ge i j).elim (fun h => hdf i h) (fun h => by obtain rfl : i = j := (by omega); exact (fun e9 => by first | exact hfr ⟨(congrArg Prod.fst e9).symm, (congrArg (fun x => x.2.1) e9).symm⟩ | exact hto (congrArg (fun x => x.2.2) e9).symm)))⟩, (by omega)⟩
  refine jd (qp (qp (qJ (qa (qd (ii ((k : Int))) rfl (cX (qD (((k + 1 : Nat) : Int)) rfl rfl (by omega) (by omega) (qg (ii (((k + 1 : Nat) : Int))) rfl (qb ?_)))))))))
  exact ⟨k + 1, _, FLe.refl _, rF, ⟨rfl, rfl, rfl, ⟨⟩⟩, (sC (sC sR)), ⟨rfl, (by (try dsimp only) <;> omega), (fun i hi => (Nat.lt_or_ge i k).elim (fun h => hrk i h) (fun h => by obtain rfl : i = k := (by omega); exact ⟨tok_iff.1 htk, fun q hq => hdf q (by omega)⟩))⟩, (by omega)⟩
 refine jd (qp (qp (qJ (qc (qa (qg (.bool (true)) rfl (qb (qC (qv (L' := L) [.bool (true)] (.bool (true)) (.tmp rfl .nil) rfl rF rF (sD (sD sR)) ?_)))))))))
 exact ⟨(vB (by first | exact auto_no (fun A => A.diff k j (by omega) (by omega) (Prod.ext hfr.1.symm (Prod.ext hfr.2.symm hto.symm))) | exact auto_no (fun A => by have hT := tok_iff.2 (A.rule k (by omega)); rw [htk] at hT; cases hT; done) | exact auto_no (fun A => by first | (have h9 := A.sig; rw [hsg] at h9; cases h9; done) | (have h9 := A.set; rw [hse] at h9; cases h9; done) | (have h1 := A.n1; have h2 := A.n16; have h3 := A.few; have h4 := A.finl; omega)) | exact auto_yes ⟨hsg, by omega, by omega, by omega, fun i hi => (hrk i (by omega)).1, fun i j hi hj => (hrk i (by omega)).2 j hj, fun i hi => (set_iff.1 hse i hi).2, fun i hi => (set_iff.1 hse i hi).1⟩)), rfl, rfl⟩

/- spec.SureIn -/
set_option maxRecDepth 20000 in
theorem sSureIn_spec {F : FH} {L : List HP} {arv : Value} {ar : List Int} (har : IntsF F arv ar) {n : Int} {rsv : Value} {rs : List TranT} (hrs : TransF F rsv rs) {fiv : Value} {fi : List Int} (hfi : IntsF F fiv fi) (hla : ar.length ≤ 4000000) (hlr : rs.length ≤ 4000000) (hrb : ∀ i, i < rs.length → (rs.getD i (0, [], 0)).2.1.length ≤ 4000000) (hlf : fi.length ≤ 4000000) :
    Does prog 16 [.agg #[arv], .agg #[ii (n), rsv, fiv]] F (L) (fun v F' L' => (.bool ((autoB ar n rs fi && surB rs)) : Value) = v ∧ F = F' ∧ L = L') := by
 refine qO func16 rfl rfl rfl (qc (qa (cX (ji [arv] rfl rfl ?_))))
 intro b1
 refine cX (ji [ii (n), rsv, fiv] rfl rfl ?_)
 intro b2
 refine qg (.bool (false)) rfl (qb (qc (qc (qa (cX (qu [arv] qY qI rfl rfl (Rd.ownN [_] rfl rfl) (cX (qu [ii (n), rsv, fiv] jc qN rfl rfl (Rd.ownN [] rfl rfl) (cX (qq (args := [.agg #[arv], .agg #[ii (n), rsv, fiv]]) call13 rfl (sAutoOk_spec har hrs hfi (hla := (by first | assumption | rfl | omega | simp)) (hlr := (by first | assumption | rfl | omega | simp)) (hrb := (hrb)) (hlf := (by first | assumption | rfl | omega | simp))) ?_))))))))))
 rintro _ _ _ _ ⟨rfl, rfl, rfl⟩
 refine cX (jx rfl (qb ?_))
 refine jr (t := !(autoB ar n rs fi)) rfl (fun h1 => ?_) (fun h1 => ?_)
 ·have hA : autoB ar n rs fi = false := Bool.not_inj (y := false) h1
  refine qc (qa (qg (.bool (false)) rfl (qb (qC (qn (qv (L' := L) [.bool (false)] (.bool (false)) (.tmp rfl .nil) rfl rF rF (sD (sD sR)) ?_))))))
  exact ⟨(vB (by first | (rw [hA]; rfl) | (rw [sur_no (fun S => S k j (by omega) (by omega) hfr), Bool.and_false]) | (rw [hA, sur_iff.2 (fun i j hi hj => hno i (by omega) j hj)]; rfl))), rfl, rfl⟩
 have hA : autoB ar n rs fi = true := Bool.not_inj (y := true) h1
 refine qx (qc (qc (qa (qg (ii (0)) rfl (qb (qF (jg (α := Nat) (fun k => [(3, ptr b2 0), (5, ii ((k : Int)))]) (fun k => cellsH b2 [ii (n), rsv, fiv] 29 :: cellsH b1 [arv] 26 :: L) (fun k F' => F = F' ∧ (k ≤ rs.length) ∧ (∀ i, i < k → ∀ j, j < i → ¬ ((rs.getD i (0, [], 0)).1 = (rs.getD j (0, [], 0)).1 ∧ (rs.getD i (0, [], 0)).2.1 = (rs.getD j (0, [], 0)).2.1))) (fun k => rs.length - k) 0 ⟨rfl, rfl, ⟨⟩⟩ (sC (sC sR)) ⟨rfl, (by (try dsimp only) <;> omega), (fun i hi => absurd hi (by omega))⟩ ?_)))))))
 rintro k rE _ _ ⟨rfl, hk, hno⟩
 show X _ _ _ _ (envs [(3, ptr b2 0), (5, ii ((k : Int)))] rE) _ (cellsH b2 [ii (n), rsv, fiv] 29 :: cellsH b1 [arv] 26 :: L)
 have hbk := hrb k
 refine qc (qc (qa (qd (ii ((k : Int))) rfl (cX (ql (1) qA rfl jh (by decide) rfl rfl (cX (qi jo rfl (Rd.own [] rfl rfl) (cX (qG qR rfl hrs.slv (cX (qV rfl rfl (qb ?_))))))))))))
 refine qE (p := (k : Int) < (rs.length : Int)) rfl (fun h2 => ?_) (fun h2 => ?_)
 ·refine qx (qc (qF (qc (qa (qg (ii (0)) rfl (qb (qF (jg (α := Nat) (fun j => [(3, ptr b2 0), (5, ii ((k : Int))), (6, ii ((j : Int)))]) (fun j => cellsH b2 [ii (n), rsv, fiv] 29 :: cellsH b1 [arv] 26 :: L) (fun j F' => F = F' ∧ (j ≤ k) ∧ (∀ i, i < j → ¬ ((rs.getD k (0, [], 0)).1 = (rs.getD i (0, [], 0)).1 ∧ (rs.getD k (0, [], 0)).2.1 = (rs.getD i (0, [], 0)).2.1))) (fun j => k - j) 0 ⟨rfl, rfl, rfl, ⟨⟩⟩ (sC (sC sR)) ⟨rfl, (by (try dsimp only) <;> omega), (fun i hi => absurd hi (by omega))⟩ ?_))))))))
  rintro j rE _ _ ⟨rfl, hj, hdf⟩
  show X _ _ _ _ (envs [(3, ptr b2 0), (5, ii ((k : Int))), (6, ii ((j : Int)))] rE) _ (cellsH b2 [ii (n), rsv, fiv] 29 :: cellsH b1 [arv] 26 :: L)
  have hbj := hrb j
  have hbk := hrb k
  refine qc (qc (qa (qd (ii ((j : Int))) rfl (qd (ii ((k : Int))) rfl (cX (qV rfl rfl (qb ?_)))))))
  refine qE (p := (j : Int) < (k : Int)) rfl (fun h3 => ?_) (fun h3 => ?_)
  ·refine qx (qc (qF (qc ?_)))
   obtain ⟨a1, ha1, hrg1, hq1⟩ := hrs.rd (i := k) (by omega)
   obtain ⟨a2, ha2, hrg2, hq2⟩ := hrs.rd (i := j) (by omega)
   refine jq [cellsH b2 [ii (n), rsv, fiv] 29, cellsH b1 [arv] 26] L 10 [] [[], [0], [], [1, 2], [3], [], [5], [], [6, 7], [8]] (phiL [qe (ptr b2 1), qe rsv, qe (ii ((k : Int)) : Value), qe (.pointer (some (elemA rsv (k * 3)))), qe (.agg #[ii ((rs.getD k (0, [], 0)).1), a1, ii ((rs.getD k (0, [], 0)).2.2)]), qe (ptr b2 1), qe rsv, qe (ii ((j : Int)) : Value), qe (.pointer (some (elemA rsv (j * 3)))), qe (.agg #[ii ((rs.getD j (0, [], 0)).1), a2, ii ((rs.getD j (0, [], 0)).2.2)])]) (ownL []) mixed rfl rfl (by kernel_rfl) ?_ ?_
   ·refine pD (fun W R z9 => ?_) ?_
    ·refine qh (ql (1) qA rfl jh (by decide) rfl rfl ?_)
     exact ⟨rfl, rfl, rfl⟩
    refine pD (fun W R z9 => ?_) ?_
    ·rw [zA 0 (z9 0 rfl)]
     refine qh (qi jo rfl (Rd.own [] rfl rfl) ?_)
     exact ⟨rfl, rfl, rfl⟩
    refine pD (fun W R z9 => ?_) ?_
    ·refine qh (qk (ii ((k : Int))) rfl ?_)
     exact ⟨rfl, rfl, rfl⟩
    refine pD (fun W R z9 => ?_) ?_
    ·rw [zB 1 2 (z9 1 rfl) (z9 2 rfl)]
     refine qh (qy k qR jb rfl rfl rfl hrs.slv (by omega) rfl ?_)
     exact ⟨rfl, rfl, rfl⟩
    refine pD (fun W R z9 => ?_) ?_
    ·rw [zA 3 (z9 3 rfl)]
     refine qh (qu [ii ((rs.getD k (0, [], 0)).1), a1, ii ((rs.getD k (0, [], 0)).2.2)] jD jb rfl rfl (Rd.all (hrg1 _)) ?_)
     exact ⟨rfl, rfl, rfl⟩
    refine pD (fun W R z9 => ?_) ?_
    ·refine qh (ql (1) qA rfl jh (by decide) rfl rfl ?_)
     exact ⟨rfl, rfl, rfl⟩
    refine pD (fun W R z9 => ?_) ?_
    ·rw [zA 5 (z9 5 rfl)]
     refine qh (qi jo rfl (Rd.own [] rfl rfl) ?_)
     exact ⟨rfl, rfl, rfl⟩
    refine pD (fun W R z9 => ?_) ?_
    ·refine qh (qk (ii ((j : Int))) rfl ?_)
     exact ⟨rfl, rfl, rfl⟩
    refine pD (fun W R z9 => ?_) ?_
    ·rw [zB 6 7 (z9 6 rfl) (z9 7 rfl)]
     refine qh (qy j qR jb rfl rfl rfl hrs.slv (by omega) rfl ?_)
     exact ⟨rfl, rfl, rfl⟩
    refine pD (fun W R z9 => ?_) ?_
    ·rw [zA 8 (z9 8 rfl)]
     refine qh (qu [ii ((rs.getD j (0, [], 0)).1), a2, ii ((rs.getD j (0, [], 0)).2.2)] jD jb rfl rfl (Rd.all (hrg2 _)) ?_)
     exact ⟨rfl, rfl, rfl⟩
    exact stepsP.nil
   intro W hphi
   rw [zB 4 9 (hphi 4 (by decide)) (hphi 9 (by decide))]
   show XL _ _ _ _ _ _ _ (cellsH b2 [ii (n), rsv, fiv] 29 :: cellsH b1 [arv] 26 :: L)
   refine cX (qq (args := [.agg #[ii ((rs.getD k (0, [], 0)).1), a1, ii ((rs.getD k (0, [], 0)).2.2)], .agg #[ii ((rs.getD j (0, [], 0)).1), a2, ii ((rs.getD j (0, [], 0)).2.2)]]) call44 rfl (l23From_spec ha1 ha2 (hlb := (by first | exact hbk (by omega) | exact hbj (by omega))) (hls := (by first | exact hbj (by omega) | exact hbk (by omega)))) ?_)
   rintro _ _ _ _ ⟨rfl, rfl, rfl⟩
   refine qb ?_
   refine qE (p := ((rs.getD k (0, [], 0)).1) = ((rs.getD j (0, [], 0)).1) ∧ ((rs.getD k (0, [], 0)).2.1) = ((rs.getD j (0, [], 0)).2.1)) rfl (fun h4 => ?_) (fun h4 => ?_)
   ·have hfr := h4
    refine qc (qa (qg (.bool (false)) rfl (qb (qC (qK (qn (qn (qK (qK (qn (qn (qK (qn (qv (L' := L) [.bool (false)] (.bool (false)) (.tmp rfl .nil) rfl rF rF (sD (sD sR)) ?_))))))))))))))
    exact ⟨(vB (by first | (rw [hA]; rfl) | (rw [sur_no (fun S => S k j (by omega) (by omega) hfr), Bool.and_false]) | (rw [hA, sur_iff.2 (fun i j hi hj => hno i (by omega) j hj)]; rfl))), rfl, rfl⟩
   have hfr := h4
   refine qx (qa (qd (ii ((j : Int))) rfl (cX (qD (((j + 1 : Nat) : Int)) rfl rfl (by omega) (by omega) (qg (ii (((j + 1 : Nat) : Int))) rfl (qb ?_))))))
   exact ⟨j + 1, _, FLe.refl _, rF, ⟨rfl, rfl, rfl, ⟨⟩⟩, (sC (sC sR)), ⟨rfl, (by (try dsimp only) <;> omega), (fun i hi => (Nat.lt_or_ge i j).elim (fun h => hdf i h) (fun h => by obtain rfl : i = j := (by omega); exact hfr))⟩, (by omega)⟩
  refine jd (qp (qp (qJ (qa (qd (ii ((k : Int))) rfl (cX (qD (((k + 1 : Nat) : Int)) rfl rfl (by omega) (by omega) (qg (ii (((k + 1 : Nat) : Int))) rfl (qb ?_)))))))))
  exact ⟨k + 1, _, FLe.refl _, rF, ⟨rfl, rfl, ⟨⟩⟩, (sC (sC sR)), ⟨rfl, (by (try dsimp only) <;> omega), (fun i hi => (Nat.lt_or_ge i k).elim (fun h => hno i h) (fun h => by obtain rfl : i = k := (by omega); exact fun q hq => hdf q (by omega)))⟩, (by omega)⟩
 refine jd (qp (qp (qJ (qc (qa (qg (.bool (true)) rfl (qb (qC (qv (L' := L) [.bool (true)] (.bool (true)) (.tmp rfl .nil) rfl rF rF (sD (sD sR)) ?_)))))))))
 exact ⟨(vB (by first | (rw [hA]; rfl) | (rw [sur_no (fun S => S k j (by omega) (by omega) hfr), Bool.and_false]) | (rw [hA, sur_iff.2 (fun i j hi hj => hno i (by omega) j hj)]; rfl))), rfl, rfl⟩

/- (impl.states).has -/
theorem has_spec {F : FH} {L : List HP} {m : Nat} {q : Int} (hm : m < 4294967296) (hq : 0 ≤ q ∧ q < 16) :
    Does prog 62 [.int .u32 ((m : Int)), ii (q)] F (L) (fun v F' L' => (.bool (m.testBit q.toNat) : Value) = v ∧ F = F' ∧ L = L') := by
 refine qO func62 rfl rfl rfl (qc (qa (qg (.bool (false)) rfl (qb (qc (qa (qd (.int .u32 ((m : Int))) rfl (qd (ii (q)) rfl (cX (XOp.convI (k' := .i64) (a := q) (((q).toNat : Nat) : Int) runUnderlying2 runUnderlying96 rfl (conv64 (by omega) (by omega)) (cX (XOp.shr32 (m := m) (q := (q).toNat) rfl rfl (by omega) (cX (XOp.and32 (m := (m >>> ((q).toNat))) (n := 1) rfl rfl (by first | decide | exact hm | exact Nat.lt_of_le_of_lt (Nat.shiftRight_le _ _) hm) (by first | decide | exact hm | exact Nat.lt_of_le_of_lt (Nat.shiftRight_le _ _) hm) (cX (jp rfl rfl ?_))))))))))))))))
 refine qg (.bool (decide (((((((m >>> ((q).toNat))) &&& 1) : Nat) : Int) : Int) = 1))) rfl (qb (qC (qv (L' := L) [.bool (decide (((((((m >>> ((q).toNat))) &&& 1) : Nat) : Int) : Int) = 1))] (.bool (decide (((((((m >>> ((q).toNat))) &&& 1) : Nat) : Int) : Int) = 1))) (.tmp rfl .nil) rfl rF rF sR ?_)))
 exact ⟨(vB (bit_has.symm)), rfl, rfl⟩

/- impl.setOf -/
theorem setOf_spec {F : FH} {L : List HP} {lv : Value} {l : List Int} (hl : IntsF F lv l) (hll : l.length ≤ 4000000) (hq : ∀ i, i < l.length → 0 ≤ l.getD i 0 ∧ l.getD i 0 < 16) :
    Does prog 25 [lv] F (L) (fun v F' L' => F = F' ∧ ∃ (m : Nat), (.int .u32 ((m : Int)) : Value) = v ∧ (BitOf m (fun x => x ∈ l)) ∧ L = L') := by
 refine qO func25 rfl rfl rfl (qc (qa (qg (.int .u32 (0)) rfl (qb (qc (qa (qg (.int .u32 (0)) rfl (qb (qc (qc (qa (qd (lv) rfl (cX (qG qf rfl hl.slv (qd (ii (0)) rfl (qb (qF ?_)))))))))))))))))
 refine jg (α := Nat × Nat) (fun xQ => [(3, .int .u32 (((xQ.2 : Nat) : Int))), (6, lv), (7, ii ((l.length : Int))), (8, ii (((xQ.1 : Nat) : Int)))]) (fun xQ => L) (fun xQ F' => F = F' ∧ (xQ.1 ≤ l.length) ∧ (BitOf xQ.2 (fun x => x ∈ l.take xQ.1))) (fun xQ => l.length - xQ.1) (0, 0) ⟨rfl, rfl, rfl, rfl, ⟨⟩⟩ sR ⟨rfl, (by (try dsimp only) <;> omega), (BitOf.zero.iff (fun x => by simp))⟩ ?_
 rintro ⟨k, m⟩ rE _ _ ⟨rfl, hk, hb⟩
 show X _ _ _ _ (envs [(3, .int .u32 ((m : Int))), (6, lv), (7, ii ((l.length : Int))), (8, ii ((k : Int)))] rE) _ (L)
 dsimp only at hk hb
 have hqk := hq k
 have hm32 := hb.small
 refine qc (qa (cX (qV rfl rfl (qb (qc ?_)))))
 refine qE (p := (k : Int) < (l.length : Int)) rfl (fun h1 => ?_) (fun h1 => ?_)
 ·refine qx (qc (qF (qc (qa (cX (qy k qf qr rfl rfl rfl hl.slv (by omega) (Nat.mul_one _) (cX (qi qM rfl (hl.rd (by omega)) (qg (ii (l.getD k 0)) rfl (qb (qa (qd (.int .u32 ((m : Int))) rfl (qd (ii (l.getD k 0)) rfl (cX (XOp.convI (k' := .i64) (a := l.getD k 0) (((l.getD k 0).toNat : Nat) : Int) runUnderlying2 runUnderlying96 rfl (conv64 (by have := hqk (by omega); omega) (by have := hqk (by omega); omega)) (cX (XOp.shl32 (q := (l.getD k 0).toNat) rfl rfl (by have := hqk (by omega); omega) (cX (XOp.or32 (m := m) (n := (2 ^ ((l.getD k 0).toNat))) rfl rfl (by first | exact hm32 | (show 2 ^ _ < 4294967296; exact Nat.lt_of_lt_of_le (Nat.pow_lt_pow_right (by decide) (show _ < 32 by omega)) (by decide))) (by first | exact hm32 | (show 2 ^ _ < 4294967296; exact Nat.lt_of_lt_of_le (Nat.pow_lt_pow_right (by decide) (show _ < 32 by omega)) (by decide))) ?_)))))))))))))))))))
  refine qg (.int .u32 ((((m ||| ((2 ^ ((l.getD k 0).toNat)))) : Nat) : Int))) rfl (qb (qa (cX (qD (((k + 1 : Nat) : Int)) rfl rfl (by omega) (by omega) (qd (ii (((k + 1 : Nat) : Int))) rfl (qb ?_))))))
  exact ⟨(k + 1, (m ||| ((2 ^ ((l.getD k 0).toNat))))), _, FLe.refl _, rF, ⟨rfl, rfl, rfl, rfl, ⟨⟩⟩, sR, ⟨rfl, (by (try dsimp only) <;> omega), ((hb.put (hqk (by omega)).1 (hqk (by omega)).2).iff (fun x => by rw [take_succ_getD 0 (by omega), List.mem_append, List.mem_singleton]))⟩, (by omega)⟩
 refine jd (qp (qp (qJ (qc (qa (qd (.int .u32 ((m : Int))) rfl (qg (.int .u32 ((m : Int))) rfl (qb (qC (qv (L' := L) [.int .u32 ((m : Int))] (.int .u32 ((m : Int))) (.tmp rfl .nil) rfl rF rF sR ?_))))))))))
 exact ⟨rfl, _, rfl, hb.iff (fun x => by rw [List.take_of_length_le (by omega)]), rfl⟩

/- (impl.Auto).reaches -/
set_option maxRecDepth 20000 in
theorem reaches_spec {F : FH} {L : List HP} {n : Int} {rsv : Value} {rs : List TranT} (hrs : TransF F rsv rs) {fiv : Value} {fi : List Int} (hfi : IntsF F fiv fi) {f : Int} {ssv : Value} {ss : List Nat} (hss : SetsF F ssv ss) (hA9 : ∃ ar, AutoOk ar n rs fi ∧ (ss.length : Int) = ar.getD f.toNat 0) (hs32 : ∀ j, j < ss.length → ss.getD j 0 < 4294967296) :
    Does prog 89 [.agg #[ii (n), rsv, fiv], ii (f), ssv] F (L) (fun v F' L' => F = F' ∧ ∃ (m : Nat), (.int .u32 ((m : Int)) : Value) = v ∧ (BitOf m (Leads rs f (fun y9 s9 => (ss.getD y9 0).testBit s9.toNat = true))) ∧ L = L') := by
 refine qO func89 rfl rfl rfl ?_
 obtain ⟨ar, hA, hsl⟩ := hA9
 have hfw := hA.few
 refine qc (qa (cX (ji [ii (n), rsv, fiv] rfl rfl ?_)))
 intro b1
 refine qg (.int .u32 (0)) rfl (qb (qc (qa (qg (.int .u32 (0)) rfl (qb (qc (qc (qa (cX (ql (1) qA rfl jh (by decide) rfl rfl (cX (qi jo rfl (Rd.own [] rfl rfl) (cX (qG qR rfl hrs.slv (qd (ii (0)) rfl (qb (qF (jg (α := Nat × Nat) (fun xQ => [(1, ii (f)), (2, ssv), (7, .int .u32 (((xQ.2 : Nat) : Int))), (14, rsv), (15, ii ((rs.length : Int))), (16, ii (((xQ.1 : Nat) : Int)))]) (fun xQ => cellsH b1 [ii (n), rsv, fiv] 29 :: L) (fun xQ F' => F = F' ∧ (xQ.1 ≤ rs.length) ∧ (BitOf xQ.2 (LeadsTo rs f (fun y9 s9 => (ss.getD y9 0).testBit s9.toNat = true) xQ.1))) (fun xQ => rs.length - xQ.1) (0, 0) ⟨rfl, rfl, rfl, rfl, rfl, rfl, ⟨⟩⟩ (sC sR) ⟨rfl, (by (try dsimp only) <;> omega), (BitOf.zero.iff (fun x => ⟨fun h => h.elim, fun ⟨i, hi, _⟩ => absurd hi (by omega)⟩))⟩ ?_))))))))))))))))))
 rintro ⟨k, m⟩ rE _ _ ⟨rfl, hk, hb⟩
 show X _ _ _ _ (envs [(1, ii (f)), (2, ssv), (7, .int .u32 ((m : Int))), (14, rsv), (15, ii ((rs.length : Int))), (16, ii ((k : Int)))] rE) _ (cellsH b1 [ii (n), rsv, fiv] 29 :: L)
 dsimp only at hk hb
 have hTk := fun (h : k < rs.length) => hA.rule k h
 have hlk := fun (h : k < rs.length) => hA.argl h
 have hm32 := hb.small
 have h16 := hA.n16
 refine qc (qa (cX (qV rfl rfl (qb (qc ?_)))))
 refine qE (p := (k : Int) < (rs.length : Int)) rfl (fun h1 => ?_) (fun h1 => ?_)
 ·refine qx (qc (qF (qc (qa (cX (qy k qR jb rfl rfl rfl hrs.slv (by omega) rfl ?_))))))
  obtain ⟨a1, ha1, hrg1, hq1⟩ := hrs.rd (i := k) (by omega)
  refine cX (qu [ii ((rs.getD k (0, [], 0)).1), a1, ii ((rs.getD k (0, [], 0)).2.2)] jD jb rfl rfl (Rd.all (hrg1 _)) (cX (jt [ii (0), sN, ii (0)] jF rfl ?_)))
  intro b2
  refine cX (qX [] _ [ii ((rs.getD k (0, [], 0)).1), a1, ii ((rs.getD k (0, [], 0)).2.2)] jb rfl rfl rfl (qt rfl (qt (qU (qS ha1)) (qt rfl qZ))) rfl rfl rfl (qb (qc (qc (qa (cX (ql (0) qB rfl qr (by decide) rfl rfl (cX (qi qM rfl (Rd.own [] rfl rfl) (qd (ii (f)) rfl (cX (XOp.neq rfl rfl (qb ?_)))))))))))))
  refine qE (p := ((rs.getD k (0, [], 0)).1 : Int) ≠ f) rfl (fun h2 => ?_) (fun h2 => ?_)
  ·have hsy : ¬ (rs.getD k (0, [], 0)).1 = f := h2
   refine jd (qp (qJ (qa (cX (qD (((k + 1 : Nat) : Int)) rfl rfl (by omega) (by omega) (qd (ii (((k + 1 : Nat) : Int))) rfl (qb ?_)))))))
   exact ⟨(k + 1, m), _, FLe.refl _, rF, ⟨rfl, rfl, rfl, rfl, rfl, rfl, ⟨⟩⟩, (sD (sC sR)), ⟨rfl, (by (try dsimp only) <;> omega), (by first | exact (hb.put (by have := (hTk (by omega)).to; omega) (by have := (hTk (by omega)).to; omega)).iff (fun x => LeadsTo.put hsy hft) | exact hb.iff (fun x => LeadsTo.skip (fun h9 => hsy h9.1)) | exact hb.iff (fun x => LeadsTo.skip (fun h9 => hft h9.2)))⟩, (by omega)⟩
  have hsy : (rs.getD k (0, [], 0)).1 = f := Classical.not_not.1 h2
  refine qx (qc (qa (qg (.bool (true)) rfl (qb (qc (qc (qa (cX (ql (1) qB rfl qw (by decide) rfl rfl (cX (qi qT rfl (Rd.own [] rfl rfl) (cX (qG qf rfl ha1.slv (qd (ii (0)) rfl (qb (qF (jg (α := Nat × Bool) (fun xQ => [(1, ii (f)), (2, ssv), (7, .int .u32 ((m : Int))), (9, ptr b2 0), (10, .bool (xQ.2)), (14, rsv), (15, ii ((rs.length : Int))), (16, ii ((k : Int))), (25, a1), (26, ii (((((rs.getD k (0, [], 0)).2.1).length : Nat) : Int))), (27, ii (((xQ.1 : Nat) : Int)))]) (fun xQ => cellsH b2 [ii ((rs.getD k (0, [], 0)).1), a1, ii ((rs.getD k (0, [], 0)).2.2)] 68 :: cellsH b1 [ii (n), rsv, fiv] 29 :: L) (fun xQ F' => F = F' ∧ (xQ.1 ≤ (rs.getD k (0, [], 0)).2.1.length) ∧ (xQ.2 = fitB (fun y9 s9 => (ss.getD y9 0).testBit s9.toNat) (rs.getD k (0, [], 0)).2.1 xQ.1)) (fun xQ => (rs.getD k (0, [], 0)).2.1.length - xQ.1) (0, true) ⟨rfl, rfl, rfl, rfl, rfl, rfl, rfl, rfl, rfl, rfl, rfl, ⟨⟩⟩ (sC (sC sR)) ⟨rfl, (by (try dsimp only) <;> omega), (rfl)⟩ ?_)))))))))))))))))
  rintro ⟨j, b⟩ rE _ _ ⟨rfl, hj, hbf⟩
  show X _ _ _ _ (envs [(1, ii (f)), (2, ssv), (7, .int .u32 ((m : Int))), (9, ptr b2 0), (10, .bool (b)), (14, rsv), (15, ii ((rs.length : Int))), (16, ii ((k : Int))), (25, a1), (26, ii (((((rs.getD k (0, [], 0)).2.1).length : Nat) : Int))), (27, ii ((j : Int)))] rE) _ (cellsH b2 [ii ((rs.getD k (0, [], 0)).1), a1, ii ((rs.getD k (0, [], 0)).2.2)] 68 :: cellsH b1 [ii (n), rsv, fiv] 29 :: L)
  dsimp only at hj hbf
  have hT9 := hTk (by omega)
  have hqj := hT9.arg j
  have hsj := hs32 j
  have hsl9 : ss.length = (rs.getD k (0, [], 0)).2.1.length := by have := hT9.args; have h8 := hsy; rw [h8] at this; omega
  refine qc (qa (cX (qV rfl rfl (qb (qc ?_)))))
  refine qE (p := (j : Int) < ((((rs.getD k (0, [], 0)).2.1).length : Nat) : Int)) rfl (fun h3 => ?_) (fun h3 => ?_)
  ·refine qx (qc (qF (qc (qa (qd (ii ((j : Int))) rfl (cX (qy j qf qr rfl rfl rfl ha1.slv (by omega) (Nat.mul_one _) (cX (qi qM rfl (ha1.rd (by omega)) (qg (ii ((j : Int))) rfl (qg (ii (((rs.getD k (0, [], 0)).2.1).getD j 0)) rfl (qb (qa (qd (.bool (b)) rfl (qd (.bool (b)) rfl ?_)))))))))))))))
   by_cases h4 : (b) = true
   ·refine qo (t := 33) rfl (vB h4) (qk (ssv) rfl (qo (t := 33) rfl (vB h4) (qk (ii ((j : Int))) rfl (qo (t := 33) rfl (vB h4) (qy j runUnderlying112 sizeOf50 rfl rfl rfl hss.slv (by omega) (Nat.mul_one _) (qo (t := 33) rfl (vB h4) (qi isAgg50 rfl (hss.rd (by omega)) (qo (t := 33) rfl (vB h4) (qk (ii (((rs.getD k (0, [], 0)).2.1).getD j 0)) rfl (qo (t := 33) rfl (vB h4) (qq (args := [.int .u32 ((((ss.getD j 0) : Nat) : Int)), ii (((rs.getD k (0, [], 0)).2.1).getD j 0)]) call62 rfl (has_spec (m := (ss.getD j 0)) (q := ((rs.getD k (0, [], 0)).2.1).getD j 0) (hm := (by first | assumption | rfl | omega | simp)) (hq := (by first | assumption | rfl | omega | simp))) ?_)))))))))))
    rintro _ _ _ _ ⟨rfl, rfl, rfl⟩
    refine cX (qL (.bool (((ss.getD j 0)).testBit (((rs.getD k (0, [], 0)).2.1).getD j 0).toNat)) (vB h4) rfl (qg (.bool (((ss.getD j 0)).testBit (((rs.getD k (0, [], 0)).2.1).getD j 0).toNat)) rfl (qb (qa (cX (qD (((j + 1 : Nat) : Int)) rfl rfl (by omega) (by omega) (qd (ii (((j + 1 : Nat) : Int))) rfl (qb ?_))))))))
    exact ⟨(j + 1, ((ss.getD j 0)).testBit (((rs.getD k (0, [], 0)).2.1).getD j 0).toNat), _, FLe.refl _, rF, ⟨rfl, rfl, rfl, rfl, rfl, rfl, rfl, rfl, rfl, rfl, rfl, ⟨⟩⟩, (sC (sC sR)), ⟨rfl, (by (try dsimp only) <;> omega), (by (try dsimp only); rw [fitB_next, ← hbf]; simp_all)⟩, (by omega)⟩
   rw [Bool.not_eq_true] at h4
   refine qm (t := 33) rfl (vB h4) (qm (t := 33) rfl (vB h4) (qm (t := 33) rfl (vB h4) (qm (t := 33) rfl (vB h4) (qm (t := 33) rfl (vB h4) (qm (t := 33) rfl (vB h4) (cX (qQ (.bool (false)) (vB h4) rfl (qg (.bool (false)) rfl (qb (qa (cX (qD (((j + 1 : Nat) : Int)) rfl rfl (by omega) (by omega) ?_))))))))))))
   refine qd (ii (((j + 1 : Nat) : Int))) rfl (qb ?_)
   exact ⟨(j + 1, false), _, FLe.refl _, rF, ⟨rfl, rfl, rfl, rfl, rfl, rfl, rfl, rfl, rfl, rfl, rfl, ⟨⟩⟩, (sC (sC sR)), ⟨rfl, (by (try dsimp only) <;> omega), (by (try dsimp only); rw [fitB_next, ← hbf]; simp_all)⟩, (by omega)⟩
  refine jd (qp (qp (qJ (qc (qa (qd (.bool (b)) rfl (qb ?_)))))))
  refine jr (t := b) rfl (fun h5 => ?_) (fun h5 => ?_)
  ·have hft : ∀ y9, y9 < (rs.getD k (0, [], 0)).2.1.length → (fun y9 s9 => (ss.getD y9 0).testBit s9.toNat) y9 ((rs.getD k (0, [], 0)).2.1.getD y9 0) = true := fun y9 hy => fitB_iff.1 (hbf.symm.trans h5) y9 (by omega)
   have hto9 := (hTk (by omega)).to
   refine qa (qd (.int .u32 ((m : Int))) rfl (cX (ql (2) qB rfl qr (by decide) rfl rfl (cX (qi qM rfl (Rd.own [] rfl rfl) (cX (XOp.convI (k' := .i64) (a := (rs.getD k (0, [], 0)).2.2) ((((rs.getD k (0, [], 0)).2.2).toNat : Nat) : Int) runUnderlying2 runUnderlying96 rfl (conv64 (by omega) (by omega)) (cX (XOp.shl32 (q := ((rs.getD k (0, [], 0)).2.2).toNat) rfl rfl (by omega) (cX (XOp.or32 (m := m) (n := (2 ^ (((rs.getD k (0, [], 0)).2.2).toNat))) rfl rfl (by first | decide | exact hm32 | (show 2 ^ _ < 4294967296; exact Nat.lt_of_lt_of_le (Nat.pow_lt_pow_right (by decide) (show _ < 32 by omega)) (by decide))) (by first | decide | exact hm32 | (show 2 ^ _ < 4294967296; exact Nat.lt_of_lt_of_le (Nat.pow_lt_pow_right (by decide) (show _ < 32 by omega)) (by decide))) (qg (.int .u32 ((((m ||| ((2 ^ (((rs.getD k (0, [], 0)).2.2).toNat)))) : Nat) : Int))) rfl (qb (qa (cX (qD (((k + 1 : Nat) : Int)) rfl rfl (by omega) (by omega) ?_))))))))))))))))
   refine qd (ii (((k + 1 : Nat) : Int))) rfl (qb ?_)
   exact ⟨(k + 1, (m ||| ((2 ^ (((rs.getD k (0, [], 0)).2.2).toNat))))), _, FLe.refl _, rF, ⟨rfl, rfl, rfl, rfl, rfl, rfl, ⟨⟩⟩, (sD (sC sR)), ⟨rfl, (by (try dsimp only) <;> omega), (by first | exact (hb.put (by have := (hTk (by omega)).to; omega) (by have := (hTk (by omega)).to; omega)).iff (fun x => LeadsTo.put hsy hft) | exact hb.iff (fun x => LeadsTo.skip (fun h9 => hsy h9.1)) | exact hb.iff (fun x => LeadsTo.skip (fun h9 => hft h9.2)))⟩, (by omega)⟩
  have hft : ¬ ∀ y9, y9 < (rs.getD k (0, [], 0)).2.1.length → (fun y9 s9 => (ss.getD y9 0).testBit s9.toNat) y9 ((rs.getD k (0, [], 0)).2.1.getD y9 0) = true := fun h9 => by have h8 : fitB (fun y9 s9 => (ss.getD y9 0).testBit s9.toNat) (rs.getD k (0, [], 0)).2.1 j = true := fitB_iff.2 (fun y9 hy => h9 y9 (by omega)); rw [← hbf, h5] at h8; cases h8
  refine qx (qa (cX (qD (((k + 1 : Nat) : Int)) rfl rfl (by omega) (by omega) (qd (ii (((k + 1 : Nat) : Int))) rfl (qb ?_)))))
  exact ⟨(k + 1, m), _, FLe.refl _, rF, ⟨rfl, rfl, rfl, rfl, rfl, rfl, ⟨⟩⟩, (sD (sC sR)), ⟨rfl, (by (try dsimp only) <;> omega), (by first | exact (hb.put (by have := (hTk (by omega)).to; omega) (by have := (hTk (by omega)).to; omega)).iff (fun x => LeadsTo.put hsy hft) | exact hb.iff (fun x => LeadsTo.skip (fun h9 => hsy h9.1)) | exact hb.iff (fun x => LeadsTo.skip (fun h9 => hft h9.2)))⟩, (by omega)⟩
 refine jd (qp (qp (qJ (qc (qa (qd (.int .u32 ((m : Int))) rfl (qg (.int .u32 ((m : Int))) rfl (qb (qC (qv (L' := L) [.int .u32 ((m : Int))] (.int .u32 ((m : Int))) (.tmp rfl .nil) rfl rF rF (sD sR) ?_))))))))))
 exact ⟨rfl, _, rfl, hb.iff (fun x => ⟨fun ⟨i, hi, h⟩ => ⟨i, by omega, h⟩, fun ⟨i, hi, h⟩ => ⟨i, by omega, h⟩⟩), rfl⟩

/- (impl.Auto).statesAt -/
set_option maxHeartbeats 1000000 in
set_option maxRecDepth 20000 in
theorem statesAt_spec_step {d : Nat} (ih : ∀ m : Nat, m < d → ∀ {F : FH} {L : List HP}  {n : Int} {rsv : Value} {rs : List TranT} (hrs : TransF F rsv rs) {fiv : Value} {fi : List Int} (hfi : IntsF F fiv fi) {arv : Value} {ar : List Int} (har : IntsF F arv ar) {tv : Value} {t : List Int} (ht : IntsF F tv t) {p : Nat} (hA : AutoOk ar n rs fi) (ho : termOk ar t = true) (hp : p < t.length) (hg : ∀ x9 ∈ t, 0 ≤ x9) (hd : (sub ar t p).length ≤ m), Does prog 70 [.agg #[ii (n), rsv, fiv], .agg #[arv], tv, ii ((p : Int))] F L (fun v F' L' => (∃ (m : Nat), (.int .u32 ((m : Int)) : Value) = v ∧ (BitOf m (fun q => Run ar rs q (sub ar t p)))) ∧ L = L')) {F : FH} {L : List HP}  {n : Int} {rsv : Value} {rs : List TranT} (hrs : TransF F rsv rs) {fiv : Value} {fi : List Int} (hfi : IntsF F fiv fi) {arv : Value} {ar : List Int} (har : IntsF F arv ar) {tv : Value} {t : List Int} (ht : IntsF F tv t) {p : Nat} (hA : AutoOk ar n rs fi) (ho : termOk ar t = true) (hp : p < t.length) (hg : ∀ x9 ∈ t, 0 ≤ x9) (hd : (sub ar t p).length ≤ d) :
    Does prog 70 [.agg #[ii (n), rsv, fiv], .agg #[arv], tv, ii ((p : Int))] F (L) (fun v F' L' => (∃ (m : Nat), (.int .u32 ((m : Int)) : Value) = v ∧ (BitOf m (fun q => Run ar rs q (sub ar t p)))) ∧ L = L') := by
 refine qO func70 rfl rfl rfl ?_
 have hW := termW_of ho
 have htl := termOk_len ho
 have hal := argsL_le ho hp
 have hgp : 0 ≤ t.getD p 0 := hg _ (by rw [List.getD_eq_getElem?_getD, List.getElem?_eq_getElem hp]; exact List.getElem_mem hp)
 have hkA : ((argsL ar t p).length : Int) = ar.getD (t.getD p 0).toNat 0 := by have h8 : (argsL ar t p).length = (arity ar (t.getD p 0)).toNat := argsL_len; rw [arity, if_neg (by omega)] at h8; have h9 := (sigOk_spec hA.sig).2.2 (t.getD p 0).toNat (by have := termOk_lt ho hp; omega); omega
 refine qc (qa (cX (ji [ii (n), rsv, fiv] rfl rfl ?_)))
 intro b1
 refine cX (ji [arv] rfl rfl ?_)
 intro b2
 refine qg (.int .u32 (0)) rfl (qb (qc (qa (qg (sN) rfl (qb (qc (qc (qa (cX (qu [arv] qY qI rfl rfl (Rd.ownN [] rfl rfl) (qd (tv) rfl (qd (ii ((p : Int))) rfl (cX (XOp.frzF <| qq (args := [.agg #[arv], tv, ii (p : Int)]) call88 rfl (argsAtW_spec (p := p) har ht (ho := (by first | assumption | rfl | omega | simp)) (hp := (by first | assumption | rfl | omega | simp))) ?_))))))))))))))
 rintro v1 _ _ _ ⟨rfl, hs1, rfl⟩
 refine ⟨_, _, rfl, fun F1 le1 hz1 => ?_⟩
 replace hrs := hrs.mono le1
 replace hfi := hfi.mono le1
 replace har := har.mono le1
 replace ht := ht.mono le1
 have hf1 : IntsF F1 v1 ((argsL ar t p)) := intsH.fz (xs := (argsL ar t p)) hz1.fz
 refine cX (qG runUnderlying113 rfl hf1.slv (qd (ii (0)) rfl (qb (qF (jg (α := Nat × Value × List Nat × List Value × Nat × FH) (fun xQ => [(2, tv), (3, ii ((p : Int))), (4, ptr b1 0), (5, ptr b2 0), (9, xQ.2.1), (15, v1), (16, ii (((((argsL ar t p)).length : Nat) : Int))), (17, ii (((xQ.1 : Nat) : Int)))]) (fun xQ => slH 50 1 xQ.2.1 xQ.2.2.2.2.1 xQ.2.2.2.1 :: cellsH b2 [arv] 26 :: cellsH b1 [ii (n), rsv, fiv] 29 :: L) (fun xQ F' => xQ.2.2.2.2.2 = F' ∧ F1 ≤ xQ.2.2.2.2.2 ∧ (IsSl xQ.2.1) ∧ (SetsC xQ.2.2.2.2.2 xQ.2.2.2.1 xQ.2.2.1) ∧ (xQ.2.2.2.2.1 = xQ.2.2.1.length) ∧ (xQ.1 ≤ (argsL ar t p).length) ∧ (xQ.2.2.1.length = xQ.1) ∧ (∀ y9, y9 < xQ.1 → BitOf (xQ.2.2.1.getD y9 0) (fun s9 => Run ar rs s9 (sub ar t ((argsL ar t p).getD y9 0).toNat)))) (fun xQ => (argsL ar t p).length - xQ.1) (0, sN, [], [], 0, F1) ⟨rfl, rfl, rfl, rfl, rfl, rfl, rfl, rfl, ⟨⟩⟩ (jj (Sub.addNil 50 1 _ _) (sC (sC (sC sR)))) ⟨rfl, FLe.refl _, (⟨_, _, _, rfl⟩), (CO.nil), (rfl), (Nat.zero_le _), (rfl), (fun y9 hy => absurd hy (by omega))⟩ ?_)))))
 rintro ⟨k, ov, os, cs, m, G1⟩ rE _ _ ⟨rfl, leG, hov, hC, hm, hk, hok, hob⟩
 show X _ _ _ _ (envs [(2, tv), (3, ii ((p : Int))), (4, ptr b1 0), (5, ptr b2 0), (9, ov), (15, v1), (16, ii (((((argsL ar t p)).length : Nat) : Int))), (17, ii ((k : Int)))] rE) _ (slH 50 1 ov m cs :: cellsH b2 [arv] 26 :: cellsH b1 [ii (n), rsv, fiv] 29 :: L)
 replace leG : F1 ≤ G1 := leG
 dsimp only at hov hC hm hk hok hob
 have hak := fun h => argsT_at hW hp (i := k) h
 have leG1 := leG
 replace hrs := hrs.mono leG1
 replace hfi := hfi.mono leG1
 replace har := har.mono leG1
 replace ht := ht.mono leG1
 replace hf1 := hf1.mono leG1
 refine qc (qa (cX (qV rfl rfl (qb (qc ?_)))))
 refine qE (p := (k : Int) < ((((argsL ar t p)).length : Nat) : Int)) rfl (fun h1 => ?_) (fun h1 => ?_)
 ·refine qx (qc (qF (qc (qa (cX (qy k runUnderlying113 sizeOf3 rfl rfl rfl hf1.slv (by omega) (Nat.mul_one _) (cX (qi isAgg3 rfl (hf1.rd (by omega)) (qg (ii (((argsL ar t p)).getD k 0)) rfl (qb (qa (qd (ov) rfl (cX (qu [ii (n), rsv, fiv] jc qN rfl rfl (Rd.ownN [_, _] rfl rfl) (cX (qu [arv] qY qI rfl rfl (Rd.ownN [_] rfl rfl) (qd (tv) rfl (qd (ii (((argsL ar t p)).getD k 0)) rfl ?_))))))))))))))))))
  refine cX (qq (args := [.agg #[ii (n), rsv, fiv], .agg #[arv], tv, ii (((((argsL ar t p)).getD k 0).toNat : Nat) : Int)]) call70 (by rw [show (((((argsL ar t p)).getD k 0).toNat : Nat) : Int) = ((argsL ar t p)).getD k 0 from by omega]; rfl) (ih ((sub ar t ((((argsL ar t p)).getD k 0).toNat)).length) (by omega) (p := (((argsL ar t p)).getD k 0).toNat) hrs hfi har ht (hA := (by first | assumption | rfl | omega | simp)) (ho := (by first | assumption | rfl | omega | simp)) (hp := (by first | assumption | rfl | omega | simp)) (hg := (by first | assumption | rfl | omega | simp)) (hd := (by first | assumption | rfl | omega | simp))) ?_)
  rintro _ F2 _ le2 ⟨⟨x1, rfl, hr1⟩, rfl⟩
  replace hrs := hrs.mono le2
  replace hfi := hfi.mono le2
  replace ht := ht.mono le2
  replace hC := hC.mono le2
  show XL _ _ _ _ _ _ _ (slH 50 1 ov m cs :: cellsH b2 [arv] 26 :: cellsH b1 [ii (n), rsv, fiv] 29 :: L)
  refine cX (qP (s := 1) [.int .u32 ((x1 : Int))] [.int .u32 (0)] [(0, [.int .u32 ((x1 : Int))])] runUnderlying112 sizeOf50 zeroValue50 rfl (by decide) rfl (.cons rfl CellsAre.nil) rfl ?_)
  intro v2 hv1
  refine cX (jN (m := 1) (bytes := 4) (cs := cs) [_] _ [.int .u32 ((x1 : Int))] runUnderlying112 typeInfo50 rfl rfl rfl rfl rfl rfl rfl (SlV.own [] rfl) rfl (Rd.lit [] rfl) (qt rfl qZ) (by (try simp only [List.length_append, List.length_nil, List.length_cons, List.length_singleton]); omega) (by (try simp only [List.length_append, List.length_nil, List.length_cons, List.length_singleton]); omega) ?_)
  intro v3 hs2 hn1 hm1
  have hc1 := SetsC.snoc hC (y := x1)
  refine qg (v3) rfl (qb (qa (cX (qD (((k + 1 : Nat) : Int)) rfl rfl (by omega) (by omega) (qd (ii (((k + 1 : Nat) : Int))) rfl (qb ?_))))))
  exact ⟨(k + 1, v3, os ++ [x1], cs ++ [Value.int .u32 ((x1 : Int))], (m) + 1, F2), _, (qj leG1 le2), rF, ⟨rfl, rfl, rfl, rfl, rfl, rfl, rfl, rfl, ⟨⟩⟩, (sD (sC (sC (sC sR)))), ⟨rfl, (qj leG1 le2), (hs2), (hc1), (by (try dsimp only); rw [List.length_append]; simp only [List.length_singleton]; omega), (by (try dsimp only) <;> omega), (by (try dsimp only); rw [List.length_append]; simp only [List.length_singleton]; omega), (fun y9 hy => (Nat.lt_or_ge y9 k).elim (fun h => by show BitOf ((os ++ [_]).getD y9 0) _; rw [getD_appL (by omega)]; exact hob y9 h) (fun h => by obtain rfl : y9 = k := (by omega); show BitOf ((os ++ [_]).getD y9 0) _; rw [getD_appR hok]; exact hr1))⟩, (by omega)⟩
 refine jd (qp (qp (qJ (qc (jf [] _ _ rfl (fun F3 le3 hz2 => ?_))))))
 replace hrs := hrs.mono le3
 replace hfi := hfi.mono le3
 replace ht := ht.mono le3
 replace hC := hC.mono le3
 have hf2 : SetsF F3 ov os := CO.fz hC (by first | rfl | omega | (rw [List.length_set]; omega) | (simp; done) | (rw [List.length_append]; simp only [List.length_singleton]; omega) | ((simp only [List.length_append, List.length_singleton, List.length_nil]) <;> omega)) hz2.fz
 refine jq [cellsH b2 [arv] 26, cellsH b1 [ii (n), rsv, fiv] 29] L 6 [] [[], [], [], [1, 2], [3]] (phiL [qe (.agg #[ii (n), rsv, fiv]), qe tv, qe (ii ((p : Int)) : Value), qe (.pointer (some (elemA tv (p)))), qe (ii (t.getD p 0)), qe ov]) (ownL []) mixed rfl rfl (by kernel_rfl) ?_ ?_
 ·refine pD (fun W R z9 => ?_) ?_
  ·refine qh (qu [ii (n), rsv, fiv] jc qN rfl rfl (Rd.ownN [_] rfl rfl) ?_)
   exact ⟨rfl, rfl, rfl⟩
  refine pD (fun W R z9 => ?_) ?_
  ·refine qh (qk (tv) rfl ?_)
   exact ⟨rfl, rfl, rfl⟩
  refine pD (fun W R z9 => ?_) ?_
  ·refine qh (qk (ii ((p : Int))) rfl ?_)
   exact ⟨rfl, rfl, rfl⟩
  refine pD (fun W R z9 => ?_) ?_
  ·rw [zB 1 2 (z9 1 rfl) (z9 2 rfl)]
   refine qh (qy p qf qr rfl rfl rfl ht.slv (by omega) (Nat.mul_one _) ?_)
   exact ⟨rfl, rfl, rfl⟩
  refine pD (fun W R z9 => ?_) ?_
  ·rw [zA 3 (z9 3 rfl)]
   refine qh (qi qM rfl (ht.rd (by omega)) ?_)
   exact ⟨rfl, rfl, rfl⟩
  refine pD (fun W R z9 => ?_) ?_
  ·refine qh (qk (ov) rfl ?_)
   exact ⟨rfl, rfl, rfl⟩
  exact stepsP.nil
 intro W hphi
 rw [eS (l := [(0, _), (4, _), (5, _)]) ⟨(hphi 0 (by decide)), (hphi 4 (by decide)), (hphi 5 (by decide)), ⟨⟩⟩]
 show XL _ _ _ _ _ _ _ (cellsH b2 [arv] 26 :: cellsH b1 [ii (n), rsv, fiv] 29 :: L)
 refine cX (qq (args := [.agg #[ii (n), rsv, fiv], ii (t.getD p 0), ov]) call89 rfl (reaches_spec (f := t.getD p 0) hrs hfi hf2 (hA9 := (⟨ar, hA, by omega⟩)) (hs32 := (fun y9 hy => (hob y9 (by omega)).small))) ?_)
 rintro _ _ _ _ ⟨rfl, x2, rfl, hr2, rfl⟩
 refine qg (.int .u32 ((x2 : Int))) rfl (qb (qC (qv (L' := L) [.int .u32 ((x2 : Int))] (.int .u32 ((x2 : Int))) (.tmp rfl .nil) rfl (qj (qj le1 leG1) le3) rF (sD (sD sR)) ?_)))
 exact ⟨⟨_, rfl, hr2.iff (fun x => (Leads.mono (fun i hi hs y9 hy => (hob y9 (by have h7 := hA.rule i hi; have h8 := h7.args; rw [hs] at h8; omega)).has (by have h7 := hA.rule i hi; exact (h7.arg y9 hy).1))).trans (run_sub hA ho hp).symm)⟩, rfl⟩

theorem statesAt_spec (d : Nat) : ∀ {F : FH} {L : List HP}  {n : Int} {rsv : Value} {rs : List TranT} (hrs : TransF F rsv rs) {fiv : Value} {fi : List Int} (hfi : IntsF F fiv fi) {arv : Value} {ar : List Int} (har : IntsF F arv ar) {tv : Value} {t : List Int} (ht : IntsF F tv t) {p : Nat} (hA : AutoOk ar n rs fi) (ho : termOk ar t = true) (hp : p < t.length) (hg : ∀ x9 ∈ t, 0 ≤ x9) (hd : (sub ar t p).length ≤ d), Does prog 70 [.agg #[ii (n), rsv, fiv], .agg #[arv], tv, ii ((p : Int))] F L (fun v F' L' => (∃ (m : Nat), (.int .u32 ((m : Int)) : Value) = v ∧ (BitOf m (fun q => Run ar rs q (sub ar t p)))) ∧ L = L') := by
  induction d using Nat.strongRecOn with
  | _ d ih =>
    intros
    exact statesAt_spec_step ih (by assumption) (by assumption) (by assumption) (by assumption) (by assumption) (by assumption) (by assumption) (by assumption) (by assumption)

/- (impl.Auto).reached -/
set_option maxRecDepth 20000 in
theorem reached_spec {F : FH} {L : List HP} {n : Int} {rsv : Value} {rs : List TranT} (hrs : TransF F rsv rs) {fiv : Value} {fi : List Int} (hfi : IntsF F fiv fi) (hA9 : ∃ ar, AutoOk ar n rs fi) :
    Does prog 24 [.agg #[ii (n), rsv, fiv]] F (L) (fun v F' L' => F = F' ∧ ∃ (m : Nat), (.int .u32 ((m : Int)) : Value) = v ∧ (m < 65536 ∧ ClosedB rs m rs.length) ∧ L = L') := by
 refine qO func24 rfl rfl rfl ?_
 obtain ⟨ar, hA⟩ := hA9
 have hfw := hA.few
 refine qc (qa (cX (ji [ii (n), rsv, fiv] rfl rfl ?_)))
 intro b1
 refine qg (.int .u32 (0)) rfl (qb (qc (qa (qg (.int .u32 (0)) rfl (qb (qc (qc (qa (qg (.bool (true)) rfl (qb (qF (jg (α := Nat × Bool) (fun xQ => [(1, ptr b1 0), (3, .int .u32 (((xQ.1 : Nat) : Int))), (4, .bool (xQ.2))]) (fun xQ => cellsH b1 [ii (n), rsv, fiv] 29 :: L) (fun xQ F' => F = F' ∧ (xQ.1 < 65536) ∧ (xQ.2 = false → ClosedB rs xQ.1 rs.length)) (fun xQ => 2 * unB xQ.1 + (if xQ.2 = true then 1 else 0)) (0, true) ⟨rfl, rfl, rfl, ⟨⟩⟩ (sC sR) ⟨rfl, (by decide), (fun h => absurd h (by decide))⟩ ?_))))))))))))
 rintro ⟨m, b⟩ rE _ _ ⟨rfl, hm, hcl⟩
 show X _ _ _ _ (envs [(1, ptr b1 0), (3, .int .u32 ((m : Int))), (4, .bool (b))] rE) _ (cellsH b1 [ii (n), rsv, fiv] 29 :: L)
 dsimp only at hm hcl
 refine qc (qc (qa (qd (.bool (b)) rfl (qb ?_))))
 refine jr (t := b) rfl (fun h1 => ?_) (fun h1 => ?_)
 ·have hbt : b = true := h1
  refine qx (qF (qc (qa (qg (.bool (false)) rfl (qb (qc (qa (cX (ql (1) qA rfl jh (by decide) rfl rfl (cX (qi jo rfl (Rd.own [] rfl rfl) (cX (qG qR rfl hrs.slv (qd (ii (0)) rfl (qb (qF (jg (α := Nat × Nat × Bool) (fun xQ => [(1, ptr b1 0), (3, .int .u32 (((xQ.2.1 : Nat) : Int))), (4, .bool (xQ.2.2)), (9, rsv), (10, ii ((rs.length : Int))), (11, ii (((xQ.1 : Nat) : Int)))]) (fun xQ => cellsH b1 [ii (n), rsv, fiv] 29 :: L) (fun xQ F' => F = F' ∧ (xQ.1 ≤ rs.length) ∧ (xQ.2.1 < 65536) ∧ (xQ.2.2 = true → unB xQ.2.1 < unB m) ∧ (xQ.2.2 = false → xQ.2.1 = m ∧ ClosedB rs m xQ.1) ∧ (unB xQ.2.1 ≤ unB m)) (fun xQ => rs.length - xQ.1) (0, m, false) ⟨rfl, rfl, rfl, rfl, rfl, rfl, ⟨⟩⟩ (sC sR) ⟨rfl, (by (try dsimp only) <;> omega), (hm), (fun (h : false = true) => by cases h), (fun _ => ⟨rfl, fun i hi => absurd hi (by omega)⟩), (Nat.le_refl _)⟩ ?_)))))))))))))))))
  rintro ⟨k, m9, b9⟩ rE _ _ ⟨rfl, hk, hm9, hye9, hno9, hle9⟩
  show X _ _ _ _ (envs [(1, ptr b1 0), (3, .int .u32 ((m9 : Int))), (4, .bool (b9)), (9, rsv), (10, ii ((rs.length : Int))), (11, ii ((k : Int)))] rE) _ (cellsH b1 [ii (n), rsv, fiv] 29 :: L)
  dsimp only at hk hm9 hye9 hno9 hle9
  have hTk := fun (h : k < rs.length) => hA.rule k h
  have hlk := fun (h : k < rs.length) => hA.argl h
  have h16 := hA.n16
  refine qc (qa (cX (qV rfl rfl (qb (qc ?_)))))
  refine qE (p := (k : Int) < (rs.length : Int)) rfl (fun h2 => ?_) (fun h2 => ?_)
  ·refine qx (qc (qF (qc (qa (cX (qy k qR jb rfl rfl rfl hrs.slv (by omega) rfl ?_))))))
   obtain ⟨a1, ha1, hrg1, hq1⟩ := hrs.rd (i := k) (by omega)
   refine cX (qu [ii ((rs.getD k (0, [], 0)).1), a1, ii ((rs.getD k (0, [], 0)).2.2)] jD jb rfl rfl (Rd.all (hrg1 _)) (cX (jt [ii (0), sN, ii (0)] jF rfl ?_)))
   intro b2
   refine cX (qX [] _ [ii ((rs.getD k (0, [], 0)).1), a1, ii ((rs.getD k (0, [], 0)).2.2)] jb rfl rfl rfl (qt rfl (qt (qU (qS ha1)) (qt rfl qZ))) rfl rfl rfl (qb (qc (qa (cX (ql (1) qB rfl qw (by decide) rfl rfl (cX (qi qT rfl (Rd.own [] rfl rfl) (cX (qq (args := [a1]) call25 rfl (setOf_spec ha1 (hll := (by have := hlk (by omega); omega)) (hq := (fun i hi => by have h9 := (hTk (by omega)).arg i hi; omega))) ?_))))))))))
   rintro _ _ _ _ ⟨rfl, x1, rfl, hr1, rfl⟩
   refine qd (.int .u32 ((m9 : Int))) rfl (cX (XOp.andNot32 (m := x1) (n := m9) rfl rfl (by first | decide | omega | exact BitOf.small (by assumption) | (show 2 ^ _ < 4294967296; exact Nat.lt_of_lt_of_le (Nat.pow_lt_pow_right (by decide) (show _ < 32 by omega)) (by decide))) (by first | decide | omega | exact BitOf.small (by assumption) | (show 2 ^ _ < 4294967296; exact Nat.lt_of_lt_of_le (Nat.pow_lt_pow_right (by decide) (show _ < 32 by omega)) (by decide))) (cX (jp rfl rfl (qd (.bool (decide (((((x1 &&& (4294967295 - m9)) : Nat) : Int) : Int) = 0))) rfl ?_)))))
   by_cases h3 : ((((x1 &&& (4294967295 - m9)) : Nat) : Int) : Int) = 0
   ·have hsz := (args_all (fun i hi => ((hTk (by omega)).arg i hi).1)).1 ((sub_zero hr1 (by omega)).1 h3)
    refine qo (t := 21) rfl (vT h3) (qk (.int .u32 ((m9 : Int))) rfl (qo (t := 21) rfl (vT h3) (ql (2) qB rfl qr (by decide) rfl rfl (qo (t := 21) rfl (vT h3) (qi qM rfl (Rd.own [] rfl rfl) (qo (t := 21) rfl (vT h3) (qq (args := [.int .u32 ((m9 : Int)), ii ((rs.getD k (0, [], 0)).2.2)]) call62 rfl (has_spec (m := m9) (q := (rs.getD k (0, [], 0)).2.2) (hm := (by omega)) (hq := (by have := (hTk (by omega)).to; omega))) ?_)))))))
    rintro _ _ _ _ ⟨rfl, rfl, rfl⟩
    refine qo (t := 21) rfl (vT h3) (jx rfl (cX (qL (.bool (!(m9.testBit ((rs.getD k (0, [], 0)).2.2).toNat))) (vT h3) rfl (qb ?_))))
    refine jr (t := !(m9.testBit ((rs.getD k (0, [], 0)).2.2).toNat)) rfl (fun h4 => ?_) (fun h4 => ?_)
    ·have hto9 := (hTk (by omega)).to
     have hbit : m9.testBit (rs.getD k (0, [], 0)).2.2.toNat = false := Bool.not_inj (y := false) h4
     have hput : m9 ||| 2 ^ (rs.getD k (0, [], 0)).2.2.toNat < 65536 ∧ unB (m9 ||| 2 ^ (rs.getD k (0, [], 0)).2.2.toNat) < unB m := ⟨Nat.or_lt_two_pow (n := 16) hm9 (Nat.lt_of_lt_of_le (Nat.pow_lt_pow_right (by decide) (show (rs.getD k (0, [], 0)).2.2.toNat < 16 by omega)) (by decide)), Nat.lt_of_lt_of_le (unB_put hbit (by omega)) hle9⟩
     refine qc (qa (qd (.int .u32 ((m9 : Int))) rfl (cX (ql (2) qB rfl qr (by decide) rfl rfl (cX (qi qM rfl (Rd.own [] rfl rfl) (cX (XOp.convI (k' := .i64) (a := (rs.getD k (0, [], 0)).2.2) ((((rs.getD k (0, [], 0)).2.2).toNat : Nat) : Int) runUnderlying2 runUnderlying96 rfl (conv64 (by omega) (by omega)) (cX (XOp.shl32 (q := ((rs.getD k (0, [], 0)).2.2).toNat) rfl rfl (by omega) (cX (XOp.or32 (m := m9) (n := (2 ^ (((rs.getD k (0, [], 0)).2.2).toNat))) rfl rfl (by first | decide | omega | exact BitOf.small (by assumption) | (show 2 ^ _ < 4294967296; exact Nat.lt_of_lt_of_le (Nat.pow_lt_pow_right (by decide) (show _ < 32 by omega)) (by decide))) (by first | decide | omega | exact BitOf.small (by assumption) | (show 2 ^ _ < 4294967296; exact Nat.lt_of_lt_of_le (Nat.pow_lt_pow_right (by decide) (show _ < 32 by omega)) (by decide))) (qg (.int .u32 ((((m9 ||| ((2 ^ (((rs.getD k (0, [], 0)).2.2).toNat)))) : Nat) : Int))) rfl (qb (qa (qg (.bool (true)) rfl ?_))))))))))))))))
     refine qb (qa (cX (qD (((k + 1 : Nat) : Int)) rfl rfl (by omega) (by omega) (qd (ii (((k + 1 : Nat) : Int))) rfl (qb ?_)))))
     exact ⟨(k + 1, (m9 ||| ((2 ^ (((rs.getD k (0, [], 0)).2.2).toNat)))), true), _, FLe.refl _, rF, ⟨rfl, rfl, rfl, rfl, rfl, rfl, ⟨⟩⟩, (sD (sC sR)), ⟨rfl, (by (try dsimp only) <;> omega), (by first | exact hput.1 | exact hm9), (fun h8 => by first | exact hput.2 | exact hye9 h8), (fun h8 => by first | exact ⟨(hno9 h8).1, fun i hi => (Nat.lt_or_ge i k).elim (fun h => (hno9 h8).2 i h) (fun h => by obtain rfl : i = k := (by omega); rw [← (hno9 h8).1]; exact hkeep)⟩ | (cases h8; done)), (by first | exact Nat.le_of_lt hput.2 | exact hle9)⟩, (by omega)⟩
    have hto9 := (hTk (by omega)).to
    have hkeep : (∀ j, j < (rs.getD k (0, [], 0)).2.1.length → m9.testBit ((rs.getD k (0, [], 0)).2.1.getD j 0).toNat = true) → m9.testBit (rs.getD k (0, [], 0)).2.2.toNat = true := fun _ => Bool.not_inj (y := true) h4
    refine qx (qa (cX (qD (((k + 1 : Nat) : Int)) rfl rfl (by omega) (by omega) (qd (ii (((k + 1 : Nat) : Int))) rfl (qb ?_)))))
    exact ⟨(k + 1, m9, b9), _, FLe.refl _, rF, ⟨rfl, rfl, rfl, rfl, rfl, rfl, ⟨⟩⟩, (sD (sC sR)), ⟨rfl, (by (try dsimp only) <;> omega), (by first | exact hput.1 | exact hm9), (fun h8 => by first | exact hput.2 | exact hye9 h8), (fun h8 => by first | exact ⟨(hno9 h8).1, fun i hi => (Nat.lt_or_ge i k).elim (fun h => (hno9 h8).2 i h) (fun h => by obtain rfl : i = k := (by omega); rw [← (hno9 h8).1]; exact hkeep)⟩ | (cases h8; done)), (by first | exact Nat.le_of_lt hput.2 | exact hle9)⟩, (by omega)⟩
   have hkeep : (∀ j, j < (rs.getD k (0, [], 0)).2.1.length → m9.testBit ((rs.getD k (0, [], 0)).2.1.getD j 0).toNat = true) → m9.testBit (rs.getD k (0, [], 0)).2.2.toNat = true := fun h8 => absurd ((sub_zero hr1 (by omega)).2 ((args_all (fun i hi => ((hTk (by omega)).arg i hi).1)).2 h8)) h3
   refine qm (t := 21) rfl (vF h3) (qm (t := 21) rfl (vF h3) (qm (t := 21) rfl (vF h3) (qm (t := 21) rfl (vF h3) (qm (t := 21) rfl (vF h3) (cX (qQ (.bool (false)) (vF h3) rfl (qb (jG rfl (qx (qa (cX (qD (((k + 1 : Nat) : Int)) rfl rfl (by omega) (by omega) ?_))))))))))))
   refine qd (ii (((k + 1 : Nat) : Int))) rfl (qb ?_)
   exact ⟨(k + 1, m9, b9), _, FLe.refl _, rF, ⟨rfl, rfl, rfl, rfl, rfl, rfl, ⟨⟩⟩, (sD (sC sR)), ⟨rfl, (by (try dsimp only) <;> omega), (by first | exact hput.1 | exact hm9), (fun h8 => by first | exact hput.2 | exact hye9 h8), (fun h8 => by first | exact ⟨(hno9 h8).1, fun i hi => (Nat.lt_or_ge i k).elim (fun h => (hno9 h8).2 i h) (fun h => by obtain rfl : i = k := (by omega); rw [← (hno9 h8).1]; exact hkeep)⟩ | (cases h8; done)), (by first | exact Nat.le_of_lt hput.2 | exact hle9)⟩, (by omega)⟩
  refine jd (qp (qp (qJ ?_)))
  exact ⟨(m9, b9), _, FLe.refl _, rF, ⟨rfl, rfl, rfl, ⟨⟩⟩, (sC sR), ⟨rfl, (hm9), (fun h8 => by have h7 := (hno9 h8); rw [h7.1]; exact fun i hi => h7.2 i (by omega))⟩, (by (try dsimp only); rw [hbt]; cases hb9 : b9 with | true => (have h7 := hye9 hb9; simp; omega) | false => (have h7 := (hno9 hb9).1; rw [h7]; simp))⟩
 have hbt : b = false := h1
 refine jd (qp (qp (qJ (qc (qa (qd (.int .u32 ((m : Int))) rfl (qg (.int .u32 ((m : Int))) rfl (qb (qC (qv (L' := L) [.int .u32 ((m : Int))] (.int .u32 ((m : Int))) (.tmp rfl .nil) rfl rF rF (sD sR) ?_))))))))))
 exact ⟨rfl, _, rfl, ⟨hm, hcl hbt⟩, rfl⟩
theorem statesAtZ_spec {F : FH} {L : List HP} {n : Int} {rsv : Value} {rs : List TranT} (hrs : TransF F rsv rs) {fiv : Value} {fi : List Int} (hfi : IntsF F fiv fi) {arv : Value} {ar : List Int} (har : IntsF F arv ar) {tv : Value} {t : List Int} (ht : IntsF F tv t) {p : Nat} (hA : AutoOk ar n rs fi) (ho : termOk ar t = true) (hp : p < t.length) (hg : ∀ x9 ∈ t, 0 ≤ x9) :
    Does prog 70 [.agg #[.int .i64 n, rsv, fiv], .agg #[arv], tv, ii (p : Int)] F L (fun v F' L' => (∃ (x : Int), (.int .u32 x : Value) = v ∧ BitZ x (fun q => Run ar rs q (sub ar t p))) ∧ L = L') :=
  (statesAt_spec _ hrs hfi har ht hA ho hp hg (Nat.le_refl _)).mono (by rintro _ F' L' le ⟨⟨m, rfl, h⟩, rfl⟩; exact ⟨⟨_, rfl, h.z⟩, rfl⟩)
theorem setOfZ_spec {F : FH} {L : List HP} {lv : Value} {l : List Int} (hl : IntsF F lv l) (hll : l.length ≤ 4000000) (hq : ∀ i, i < l.length → 0 ≤ l.getD i 0 ∧ l.getD i 0 < 16) :
    Does prog 25 [lv] F L (fun v F' L' => (F = F' ∧ ∃ (x : Int), (.int .u32 x : Value) = v ∧ BitZ x (fun q => q ∈ l)) ∧ L = L') :=
  (setOf_spec hl hll hq).mono (by rintro _ F' L' le ⟨rfl, m, rfl, h, rfl⟩; exact ⟨⟨rfl, _, rfl, h.z⟩, rfl⟩)
theorem reachedZ_spec {F : FH} {L : List HP} {n : Int} {rsv : Value} {rs : List TranT} (hrs : TransF F rsv rs) {fiv : Value} {fi : List Int} (hfi : IntsF F fiv fi) (hA9 : ∃ ar, AutoOk ar n rs fi) :
    Does prog 24 [.agg #[.int .i64 n, rsv, fiv]] F L (fun v F' L' => (F = F' ∧ ∃ (x : Int), (.int .u32 x : Value) = v ∧ RchZ rs x) ∧ L = L') :=
  (reached_spec hrs hfi hA9).mono (by rintro _ F' L' le ⟨rfl, m, rfl, h, rfl⟩; exact ⟨⟨rfl, _, rfl, .of h⟩, rfl⟩)


/- (impl.Auto).accepts -/
set_option maxRecDepth 20000 in
theorem accepts_spec {F : FH} {L : List HP} {n : Int} {rsv : Value} {rs : List TranT} (hrs : TransF F rsv rs) {fiv : Value} {fi : List Int} (hfi : IntsF F fiv fi) {arv : Value} {ar : List Int} (har : IntsF F arv ar) {tv : Value} {t : List Int} (ht : IntsF F tv t) (hA : AutoOk ar n rs fi) (ho : termOk ar t = true) (hg : ∀ x9 ∈ t, 0 ≤ x9) :
    Does prog 38 [.agg #[ii (n), rsv, fiv], .agg #[arv], tv] F (L) (fun v F' L' => (.bool (accT ar rs fi t) : Value) = v ∧ L = L') := by
 refine qO func38 rfl rfl rfl ?_
 have htl := termOk_len ho
 have hfl := hA.sizes
 have h16 := hA.n16
 refine qc (qa (cX (ji [ii (n), rsv, fiv] rfl rfl ?_)))
 intro b1
 refine cX (ji [arv] rfl rfl ?_)
 intro b2
 refine qg (.bool (false)) rfl (qb (qc ?_))
 refine X.drawG [cellsH b2 [arv] 26, cellsH b1 [ii (n), rsv, fiv] 29] L 6 [] [[], [], [], [0, 1, 2], [], [4]] [] (phiG [pe (.agg #[ii (n), rsv, fiv]), pe (.agg #[arv]), pe tv, fun FF us v => (.int .u32 (((intAt v))) : Value) = v ∧ (BitZ ((intAt v)) (fun q => Run ar rs q (sub ar t 0))), pe (ptr b1 2), pe fiv]) (ownL []) mixed rfl rfl (by kernel_rfl) (by kernel_rfl) (MonoG.get (m1 (m1 (m1 (mC (fun le h => ⟨h.1, h.2⟩) (m1 (m1 MonoG.nil))))))) ?_ ?_
 ·refine gD (fun W Fs R lF z9 => ?_) ?_
  ·replace hrs := hrs.mono lF
   replace hfi := hfi.mono lF
   replace har := har.mono lF
   replace ht := ht.mono lF
   refine qh (qu [ii (n), rsv, fiv] jc qN rfl rfl (Rd.ownN [_] rfl rfl) ?_)
   exact ⟨rfl, rfl⟩
  refine gD (fun W Fs R lF z9 => ?_) ?_
  ·replace hrs := hrs.mono lF
   replace hfi := hfi.mono lF
   replace har := har.mono lF
   replace ht := ht.mono lF
   refine qh (qu [arv] qY qI rfl rfl (Rd.ownN [] rfl rfl) ?_)
   exact ⟨rfl, rfl⟩
  refine gD (fun W Fs R lF z9 => ?_) ?_
  ·refine qh (qk (tv) rfl ?_)
   exact ⟨rfl, rfl⟩
  refine gD (fun W Fs R lF z9 => ?_) ?_
  ·replace hrs := hrs.mono lF
   replace hfi := hfi.mono lF
   replace har := har.mono lF
   replace ht := ht.mono lF
   rw [eS (l := [(0, _), (1, _), (2, _)]) ⟨z9 0 rfl, z9 1 rfl, z9 2 rfl, ⟨⟩⟩]
   refine qh (qq (args := [.agg #[ii (n), rsv, fiv], .agg #[arv], tv, ii ((0 : Nat) : Int)]) call70 rfl (statesAtZ_spec (p := 0) hrs hfi har ht (hA := (hA)) (ho := (ho)) (hp := (by omega)) (hg := (hg))) ?_)
   rintro _ F2 _ le2 ⟨⟨x2, rfl, hr2⟩, rfl⟩
   replace hrs := hrs.mono le2
   replace hfi := hfi.mono le2
   exact ⟨⟨rfl, hr2⟩, rfl⟩
  refine gD (fun W Fs R lF z9 => ?_) ?_
  ·refine qh (ql (2) qA rfl qw (by decide) rfl rfl ?_)
   exact ⟨rfl, rfl⟩
  refine gD (fun W Fs R lF z9 => ?_) ?_
  ·replace hrs := hrs.mono lF
   replace hfi := hfi.mono lF
   rw [zA 4 (z9 4 rfl)]
   refine qh (qi qT rfl (Rd.own [_] rfl rfl) ?_)
   exact ⟨rfl, rfl⟩
  exact stepsG.nil
 intro W F3 le3 hphi
 obtain ⟨e3, f3_1hx⟩ := hphi 3 (by decide)
 generalize hu1 : (intAt (W 3)) = u1 at e3 f3_1hx
 rw [eS (l := [(3, (.int .u32 ((u1)))), (5, _)]) ⟨(e3).symm, (hphi 5 (by decide)), ⟨⟩⟩]
 replace hfi := hfi.mono le3
 show XL _ _ _ _ _ _ _ (cellsH b2 [arv] 26 :: cellsH b1 [ii (n), rsv, fiv] 29 :: L)
 refine cX (qq (args := [fiv]) call25 rfl (setOfZ_spec hfi (hll := (by first | assumption | rfl | omega | simp)) (hq := (fun i hi => by have h9 := hA.fin i hi; omega))) ?_)
 rintro _ _ _ _ ⟨⟨rfl, x3, rfl, hr3⟩, rfl⟩
 show XL _ _ _ _ _ _ _ (cellsH b2 [arv] 26 :: cellsH b1 [ii (n), rsv, fiv] 29 :: L)
 refine cX (XOp.and32Z (a := (u1)) (b := x3) rfl rfl (BitZ.lt (by assumption)) (BitZ.lt (by assumption)) (cX (XOp.neq rfl rfl (qg (.bool (decide (((((((u1)).toNat &&& (x3).toNat) : Nat) : Int) : Int) ≠ 0))) rfl (qb (qC (qv (L' := L) [.bool (decide (((((((u1)).toNat &&& (x3).toNat) : Nat) : Int) : Int) ≠ 0))] (.bool (decide (((((((u1)).toNat &&& (x3).toNat) : Nat) : Int) : Int) ≠ 0))) (.tmp rfl .nil) rfl le3 rF (sD (sD sR)) ?_)))))))
 exact ⟨congrArg Value.bool (by have h9 := acc_iff (t := t) hA (by have h7 := f3_1hx.2; rw [sub_zero' ho] at h7; exact h7) hr3.2; rw [Bool.eq_iff_iff, accT_iff, decide_eq_true_iff]; exact ⟨fun h8 h7 => h9.1 h7 h8, fun h8 => Classical.not_not.1 (fun h7 => h8 (h9.2 h7))⟩), rfl⟩

/- impl.AcceptsIn -/
theorem AcceptsIn_spec {F : FH} {L : List HP} {arv : Value} {ar : List Int} (har : IntsF F arv ar) {n : Int} {rsv : Value} {rs : List TranT} (hrs : TransF F rsv rs) {fiv : Value} {fi : List Int} (hfi : IntsF F fiv fi) {tv : Value} {t : List Int} (ht : IntsF F tv t) (hlf : fi.length ≤ 4000000) (hlt : t.length ≤ 4000000) :
    Does prog 11 [.agg #[arv], .agg #[ii (n), rsv, fiv], tv] F (L) (fun v F' L' => (.bool ((autoB ar n rs fi && groundB ar t && accT ar rs fi t)) : Value) = v ∧ L = L') := by
 refine qO func11 rfl rfl rfl (qc (qa (cX (ji [arv] rfl rfl ?_))))
 intro b1
 refine cX (ji [ii (n), rsv, fiv] rfl rfl ?_)
 intro b2
 refine qg (.bool (false)) rfl (qb (qc (qa (cX (qu [arv] qY qI rfl rfl (Rd.ownN [_] rfl rfl) (cX (qu [ii (n), rsv, fiv] jc qN rfl rfl (Rd.ownN [] rfl rfl) (cX (qq (args := [.agg #[arv], .agg #[ii (n), rsv, fiv]]) call23 rfl (AutoOk_spec har hrs hfi (hlf := (by first | assumption | rfl | omega | simp))) ?_)))))))))
 rintro _ _ _ _ ⟨rfl, rfl, rfl⟩
 refine qd (.bool (autoB ar n rs fi)) rfl ?_
 by_cases h1 : (autoB ar n rs fi) = true
 ·have hA : autoB ar n rs fi = true := h1
  have hA2 := auto_iff.1 hA
  refine qo (t := 10) rfl (vB h1) (qu [arv] qY qI rfl rfl (Rd.ownN [_] rfl rfl) (qo (t := 10) rfl (vB h1) (qk (tv) rfl (qo (t := 10) rfl (vB h1) (qq (args := [.agg #[arv], tv]) call37 rfl (iGroundIn_spec har ht (hlt := (by first | assumption | rfl | omega | simp))) ?_)))))
  rintro _ _ _ _ ⟨rfl, rfl, rfl⟩
  refine cX (qL (.bool (groundB ar t)) (vB h1) rfl (qd (.bool (groundB ar t)) rfl ?_))
  by_cases h2 : (groundB ar t) = true
  ·have hG : groundB ar t = true := h2
   have hG2 := ground_iff.1 hG
   refine qo (t := 15) rfl (vB h2) (qu [ii (n), rsv, fiv] jc qN rfl rfl (Rd.ownN [] rfl rfl) (qo (t := 15) rfl (vB h2) (qu [arv] qY qI rfl rfl (Rd.ownN [_] rfl rfl) (qo (t := 15) rfl (vB h2) (qk (tv) rfl (qo (t := 15) rfl (vB h2) (qq (args := [.agg #[ii (n), rsv, fiv], .agg #[arv], tv]) call38 rfl (accepts_spec hrs hfi har ht (hA := (hA2)) (ho := (hG2.1)) (hg := (hG2.2))) ?_)))))))
   rintro _ F1 _ le1 ⟨rfl, rfl⟩
   refine cX (qL (.bool (accT ar rs fi t)) (vB h2) rfl (qg (.bool (accT ar rs fi t)) rfl (qb (qC (qv (L' := L) [.bool (accT ar rs fi t)] (.bool (accT ar rs fi t)) (.tmp rfl .nil) rfl le1 rF (sD (sD sR)) ?_)))))
   exact ⟨congrArg Value.bool (by first | (rw [hA]; rfl) | (rw [hA, hG]; rfl) | (rw [hA, hG, Bool.true_and, Bool.true_and])), rfl⟩
  rw [Bool.not_eq_true] at h2
  have hG : groundB ar t = false := h2
  refine qm (t := 15) rfl (vB h2) (qm (t := 15) rfl (vB h2) (qm (t := 15) rfl (vB h2) (qm (t := 15) rfl (vB h2) (cX (qQ (.bool (false)) (vB h2) rfl (qg (.bool (false)) rfl (qb (qC (qv (L' := L) [.bool (false)] (.bool (false)) (.tmp rfl .nil) rfl rF rF (sD (sD sR)) ?_)))))))))
  exact ⟨congrArg Value.bool (by first | (rw [hA]; rfl) | (rw [hA, hG]; rfl) | (rw [hA, hG, Bool.true_and, Bool.true_and])), rfl⟩
 rw [Bool.not_eq_true] at h1
 have hA : autoB ar n rs fi = false := h1
 refine qm (t := 10) rfl (vB h1) (qm (t := 10) rfl (vB h1) (qm (t := 10) rfl (vB h1) (cX (qQ (.bool (false)) (vB h1) rfl (qd (.bool (false)) rfl (qm (t := 15) rfl rfl (qm (t := 15) rfl rfl (qm (t := 15) rfl rfl (qm (t := 15) rfl rfl (cX (qQ (.bool (false)) rfl rfl ?_)))))))))))
 refine qg (.bool (false)) rfl (qb (qC (qv (L' := L) [.bool (false)] (.bool (false)) (.tmp rfl .nil) rfl rF rF (sD (sD sR)) ?_)))
 exact ⟨congrArg Value.bool (by first | (rw [hA]; rfl) | (rw [hA, hG]; rfl) | (rw [hA, hG, Bool.true_and, Bool.true_and])), rfl⟩
end Go.Proofs.Ytgdcboopbmpdoaa
