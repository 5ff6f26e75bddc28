/-
  Walks, one after the other (part 4).
-/
import Derived.Test.YtenomejgjcpbdaaGreatQKL1
import Derived.Test.YtenomejgjcpbdaaGreatQKB1
import Derived.Test.YtenomejgjcpbdaaGreatQKB2
set_option linter.unusedSimpArgs false
set_option linter.unusedVariables false
namespace Go.Proofs.YtenomejgjcpbdaaGreat
open Go X M Tryz

/- impl.EqOk -/
theorem EqOk_spec {F : FH} {L : List HP} {arv : Value} {ar : List Int} (har : IntsF F arv ar) {lv : Value} {l : List Int} (hl : IntsF F lv l) {rv : Value} {r : List Int} (hr : IntsF F rv r) :
    Does prog 114 [.agg #[arv], .agg #[lv, rv]] F (L) (fun v F' L' => (.bool (eqOkL ar (l, r)) : Value) = v ∧ F = F' ∧ L = L') := by
 refine qH func114 rfl rfl rfl (qf (qc (cX (qZ [arv] rfl rfl ?_))))
 intro b1
 refine cX (qZ [lv, rv] rfl rfl ?_)
 intro b2
 refine qi (.bool (false)) rfl (qd (qf (qc (cX (qq [arv] qI qw rfl rfl (Rd.ownN [_] rfl rfl) (cX (ql (0) jX rfl qv (by decide) rfl rfl (cX (qk qS rfl (Rd.own [] rfl rfl) (cX (qm (args := [.agg #[arv], lv]) call113 rfl (TermOk_spec har hl) ?_)))))))))))
 rintro _ _ _ _ ⟨rfl, rfl, rfl⟩
 refine qh (.bool (termOk ar l)) rfl ?_
 by_cases h1 : (termOk ar l) = true
 ·refine qr (t := 9) rfl (vB h1) (qq [arv] qI qw rfl rfl (Rd.ownN [_] rfl rfl) (qr (t := 9) rfl (vB h1) (ql (1) jX rfl qv (by decide) rfl rfl (qr (t := 9) rfl (vB h1) (qk qS rfl (Rd.own [] rfl rfl) (qr (t := 9) rfl (vB h1) (qm (args := [.agg #[arv], rv]) call113 rfl (TermOk_spec har hr) ?_)))))))
  rintro _ _ _ _ ⟨rfl, rfl, rfl⟩
  refine cX (qP (.bool (termOk ar r)) (vB h1) rfl (qi (.bool (termOk ar r)) rfl (qd (qu (qs (L' := L) [.bool (termOk ar r)] (.bool (termOk ar r)) (.tmp rfl .nil) rfl rF rF (sD (sD sR)) ?_)))))
  exact ⟨(vB (by unfold eqOkL; simp_all)), rfl, rfl⟩
 rw [Bool.not_eq_true] at h1
 refine qp (t := 9) rfl (vB h1) (qp (t := 9) rfl (vB h1) (qp (t := 9) rfl (vB h1) (qp (t := 9) rfl (vB h1) (cX (qN (.bool (false)) (vB h1) rfl (qi (.bool (false)) rfl (qd (qu (qs (L' := L) [.bool (false)] (.bool (false)) (.tmp rfl .nil) rfl rF rF (sD (sD sR)) ?_)))))))))
 exact ⟨(vB (by unfold eqOkL; simp_all)), rfl, rfl⟩

/- impl.EqsOk$1 -/
theorem EqsOk1_spec {F : FH} {L : List HP} {lv : Value} {l : List Int} (hl : IntsF F lv l) {rv : Value} {r : List Int} (hr : IntsF F rv r) {arv : Value} {ar : List Int} (har : IntsF F arv ar) {b : Nat} (hzb : FzC F b [arv]) :
    Does prog 232 [.agg #[lv, rv], ptr b 0] F (L) (fun v F' L' => (.bool (!(eqOkL ar (l, r))) : Value) = v ∧ F = F' ∧ L = L') := by
 refine qH func232 rfl rfl rfl (qf (qc (cX (qZ [lv, rv] rfl rfl ?_))))
 intro b1
 refine qi (.bool (false)) rfl (qd (qf (qc (cX (qq [arv] qI qw rfl rfl (FzC.rd hzb rfl) (cX (qq [lv, rv] isAgg168 sizeOf168 rfl rfl (Rd.ownN [] rfl rfl) (cX (qm (args := [.agg #[arv], .agg #[lv, rv]]) call114 rfl (EqOk_spec har hl hr) ?_)))))))))
 rintro _ _ _ _ ⟨rfl, rfl, rfl⟩
 refine cX (jf rfl (qi (.bool (!(eqOkL ar (l, r)))) rfl (qd (qu (qs (L' := L) [.bool (!(eqOkL ar (l, r)))] (.bool (!(eqOkL ar (l, r)))) (.tmp rfl .nil) rfl rF rF (sD sR) ?_)))))
 exact ⟨rfl, rfl, rfl⟩

/- slices.IndexFunc[[]impl.Eq,impl.Eq] -/
theorem IndexFuncEq_spec {F : FH} {L : List HP} {esv : Value} {es : List (List Int × List Int)} (hes : PairsF F esv es) {arv : Value} {ar : List Int} (har : IntsF F arv ar) {b : Nat} (hzb : FzC F b [arv]) (hlt : es.length ≤ 4000000) :
    Does prog 298 [esv, .func (.func 232) #[] #[ptr b 0]] F (L) (fun v F' L' => (ii (badG (eqOkL ar) es) : Value) = v ∧ F = F' ∧ L = L') := by
 refine qH func298 rfl rfl rfl (qf (qc (qi (ii (0)) rfl (qd (qf (qf (qc (qh (esv) rfl (cX (qE jI rfl hes.slv (qh (ii (0)) rfl (qd (qR (jy (α := Nat) (fun k => [(0, esv), (1, .func (.func 232) #[] #[ptr b 0]), (7, ii ((es.length : Int))), (8, ii ((k : Int)))]) (fun k => L) (fun k F' => F = F' ∧ (k ≤ es.length) ∧ (∀ i, i < k → eqOkL ar (es.getD i ([], [])) = true)) (fun k => es.length - k) 0 ⟨rfl, rfl, rfl, rfl, ⟨⟩⟩ sR ⟨rfl, (by (try dsimp only) <;> omega), (fun i hi => absurd hi (by omega))⟩ ?_))))))))))))))
 rintro k rE _ _ ⟨rfl, hk, hall⟩
 show X _ _ _ _ (envs [(0, esv), (1, .func (.func 232) #[] #[ptr b 0]), (7, ii ((es.length : Int))), (8, ii ((k : Int)))] rE) _ (L)
 refine qf (qc (cX (jh rfl rfl (qd (qf ?_)))))
 refine qC (p := (k : Int) < (es.length : Int)) rfl (fun h1 => ?_) (fun h1 => ?_)
 ·refine qA (qf (qR (qf (qc (qh (ii ((k : Int))) rfl (qi (ii ((k : Int))) rfl (qd (qf (qc (qh (.func (.func 232) #[] #[ptr b 0]) rfl (qh (esv) rfl (qh (ii ((k : Int))) rfl (cX (qD k jI sizeOf168 rfl rfl rfl hes.slv (by omega) rfl ?_))))))))))))))
  obtain ⟨a1, a2, ha1, ha2, hr1, hr2⟩ := hes.rd (i := k) (by omega)
  refine cX (qq [a1, a2] isAgg168 sizeOf168 rfl rfl (Rd.two (hr1 _) (hr2 _)) (cX (XOp.callV (first := []) (captured := [ptr b 0]) (args := [.agg #[a1, a2], ptr b 0]) call232 rfl rfl (EqsOk1_spec ha1 ha2 har hzb) ?_)))
  rintro _ _ _ _ ⟨rfl, rfl, rfl⟩
  refine qd ?_
  refine jw (t := !(eqOkL ar (((es.getD k ([], [])).1), ((es.getD k ([], [])).2)))) rfl (fun h2 => ?_) (fun h2 => ?_)
  ·refine qf (qc (qh (ii ((k : Int))) rfl (qi (ii ((k : Int))) rfl (qd (qu (qL (qo (qo (qL (qo (qs (L' := L) [ii ((k : Int))] (ii ((k : Int))) (.tmp rfl .nil) rfl rF rF sR ?_)))))))))))
   exact ⟨(vI (badG_at ([], []) (by omega) (by simp_all) hall)), rfl, rfl⟩
  refine qA (qc (cX (qU (((k + 1 : Nat) : Int)) rfl rfl (by omega) (by omega) (qh (ii (((k + 1 : Nat) : Int))) rfl (qd ?_)))))
  exact ⟨k + 1, _, FLe.refl _, rF, ⟨rfl, rfl, rfl, rfl, ⟨⟩⟩, sR, ⟨rfl, (by (try dsimp only) <;> omega), (fun i hi => (Nat.lt_or_ge i k).elim (fun h => hall i h) (fun h => by obtain rfl : i = k := (by omega); simp_all))⟩, (by omega)⟩
 refine jo (qB (qB (qW (qf (qc (qi (ii (-1)) rfl (qd (qu (qs (L' := L) [ii (-1)] (ii (-1)) (.tmp rfl .nil) rfl rF rF sR ?_)))))))))
 exact ⟨(vI (badG_none ([], []) (fun i hi => hall i (by omega)))), rfl, rfl⟩

/- slices.ContainsFunc[[]impl.Eq,impl.Eq] -/
theorem ContainsFuncEq_spec {F : FH} {L : List HP} {esv : Value} {es : List (List Int × List Int)} (hes : PairsF F esv es) {arv : Value} {ar : List Int} (har : IntsF F arv ar) {b : Nat} (hzb : FzC F b [arv]) (hlt : es.length ≤ 4000000) :
    Does prog 231 [esv, .func (.func 232) #[] #[ptr b 0]] F (L) (fun v F' L' => (.bool (decide (badG (eqOkL ar) es ≥ 0)) : Value) = v ∧ F = F' ∧ L = L') := by
 refine qH func231 rfl rfl rfl (qf (qc (qi (.bool (false)) rfl (qd (qf (qc (qh (esv) rfl (qh (.func (.func 232) #[] #[ptr b 0]) rfl (cX (qm (args := [esv, .func (.func 232) #[] #[ptr b 0]]) call298 rfl (IndexFuncEq_spec hes har hzb (hlt := (by first | assumption | rfl | omega | simp))) ?_))))))))))
 rintro _ _ _ _ ⟨rfl, rfl, rfl⟩
 refine cX (jZ rfl rfl (qi (.bool (decide ((badG (eqOkL ar) es : Int) ≥ 0))) rfl (qd (qu (qs (L' := L) [.bool (decide ((badG (eqOkL ar) es : Int) ≥ 0))] (.bool (decide ((badG (eqOkL ar) es : Int) ≥ 0))) (.tmp rfl .nil) rfl rF rF sR ?_)))))
 exact ⟨rfl, rfl, rfl⟩

/- impl.EqsOk -/
theorem EqsOk_spec {F : FH} {L : List HP} {arv : Value} {ar : List Int} (har : IntsF F arv ar) {esv : Value} {es : List (List Int × List Int)} (hes : PairsF F esv es) :
    Does prog 133 [.agg #[arv], esv] F (L) (fun v F' L' => (.bool (eqsOkL ar es) : Value) = v ∧ F = F' ∧ L = L') := by
 refine qH func133 rfl rfl rfl (qf (qc (cX (qZ [arv] rfl rfl ?_))))
 intro b1
 refine qi (.bool (false)) rfl (qd (qf (qf (qc (cX (qq [arv] qI qw rfl rfl (Rd.ownN [] rfl rfl) (cX (qm (args := [.agg #[arv]]) call199 rfl (SigOk_spec har) ?_))))))))
 rintro _ _ _ _ ⟨rfl, rfl, rfl⟩
 refine cX (jf rfl (qh (.bool (!(sigOk ar))) rfl ?_))
 by_cases h1 : (!(sigOk ar)) = true
 ·refine qp (t := 8) rfl (vB h1) (qp (t := 8) rfl (vB h1) (qp (t := 8) rfl (vB h1) (cX (qP (.bool (true)) (vB h1) rfl (qd (jC rfl (qf (qc (qi (.bool (false)) rfl (qd (qu (qo (qs (L' := L) [.bool (false)] (.bool (false)) (.tmp rfl .nil) rfl rF rF (sD sR) ?_)))))))))))))
  exact ⟨(vB (by unfold eqsOkL; simp_all <;> omega)), rfl, rfl⟩
 rw [Bool.not_eq_true] at h1
 refine qr (t := 8) rfl (vB h1) (qt (esv) rfl (qr (t := 8) rfl (vB h1) (qE jI rfl hes.slv (qr (t := 8) rfl (vB h1) (jH rfl rfl (cX (qN (.bool (decide (((es.length : Int) : Int) > 12))) (vB h1) rfl (qd ?_))))))))
 refine qC (p := ((es.length : Int) : Int) > 12) rfl (fun h2 => ?_) (fun h2 => ?_)
 ·refine qf (qc (qi (.bool (false)) rfl (qd (qu (qo (qs (L' := L) [.bool (false)] (.bool (false)) (.tmp rfl .nil) rfl rF rF (sD sR) ?_))))))
  exact ⟨(vB (by unfold eqsOkL; simp_all <;> omega)), rfl, rfl⟩
 refine qA (qf (qc (qh (esv) rfl (cX (XOp.makeFuncL [] [ptr b1 0] rfl rfl (XL.freeze [] _ _ rfl (fun F1 le1 hz1 => ?_)))))))
 replace har := har.mono le1
 replace hes := hes.mono le1
 have hf1 : FzC F1 b1 [arv] := Fz.cells hz1
 refine cX (qm (args := [esv, .func (.func 232) #[] #[ptr b1 0]]) call231 rfl (ContainsFuncEq_spec hes har hf1 (hlt := (by first | assumption | rfl | omega | simp))) ?_)
 rintro _ _ _ _ ⟨rfl, rfl, rfl⟩
 refine cX (jQ rfl (qi (.bool (decide (¬(badG (eqOkL ar) es ≥ 0)))) rfl (qd (qu (qs (L' := L) [.bool (decide (¬(badG (eqOkL ar) es ≥ 0)))] (.bool (decide (¬(badG (eqOkL ar) es ≥ 0)))) (.tmp rfl .nil) rfl rF le1 sR ?_)))))
 exact ⟨(vB (by unfold eqsOkL; have hb := badG_iff (q := eqOkL ar) (l := es); cases hA : es.all (eqOkL ar) <;> simp_all <;> omega)), rfl, rfl⟩

/- spec.EqOk -/
theorem sEqOk_spec {F : FH} {L : List HP} {arv : Value} {ar : List Int} (har : IntsF F arv ar) {lv : Value} {l : List Int} (hl : IntsF F lv l) {rv : Value} {r : List Int} (hr : IntsF F rv r) (hla : ar.length ≤ 4000000) (hll : l.length ≤ 4000000) (hlr : r.length ≤ 4000000) :
    Does prog 234 [.agg #[arv], .agg #[lv, rv]] F (L) (fun v F' L' => (.bool (eqOkL ar (l, r)) : Value) = v ∧ F = F' ∧ L = L') := by
 refine qH func234 rfl rfl rfl (qf (qc (cX (qZ [arv] rfl rfl ?_))))
 intro b1
 refine cX (qZ [lv, rv] rfl rfl ?_)
 intro b2
 refine qi (.bool (false)) rfl (qd (qf (qc (cX (qq [arv] qI qw rfl rfl (Rd.ownN [_] rfl rfl) (cX (ql (0) jX rfl qv (by decide) rfl rfl (cX (qk qS rfl (Rd.own [] rfl rfl) (cX (qm (args := [.agg #[arv], lv]) call136 rfl (sTermOk_spec har hl (hla := (by first | assumption | rfl | omega | simp)) (hlt := (by first | assumption | rfl | omega | simp))) ?_)))))))))))
 rintro _ _ _ _ ⟨rfl, rfl, rfl⟩
 refine qh (.bool (termOk ar l)) rfl ?_
 by_cases h1 : (termOk ar l) = true
 ·refine qr (t := 9) rfl (vB h1) (qq [arv] qI qw rfl rfl (Rd.ownN [_] rfl rfl) (qr (t := 9) rfl (vB h1) (ql (1) jX rfl qv (by decide) rfl rfl (qr (t := 9) rfl (vB h1) (qk qS rfl (Rd.own [] rfl rfl) (qr (t := 9) rfl (vB h1) (qm (args := [.agg #[arv], rv]) call136 rfl (sTermOk_spec har hr (hla := (by first | assumption | rfl | omega | simp)) (hlt := (by first | assumption | rfl | omega | simp))) ?_)))))))
  rintro _ _ _ _ ⟨rfl, rfl, rfl⟩
  refine cX (qP (.bool (termOk ar r)) (vB h1) rfl (qi (.bool (termOk ar r)) rfl (qd (qu (qs (L' := L) [.bool (termOk ar r)] (.bool (termOk ar r)) (.tmp rfl .nil) rfl rF rF (sD (sD sR)) ?_)))))
  exact ⟨(vB (by unfold eqOkL; simp_all)), rfl, rfl⟩
 rw [Bool.not_eq_true] at h1
 refine qp (t := 9) rfl (vB h1) (qp (t := 9) rfl (vB h1) (qp (t := 9) rfl (vB h1) (qp (t := 9) rfl (vB h1) (cX (qN (.bool (false)) (vB h1) rfl (qi (.bool (false)) rfl (qd (qu (qs (L' := L) [.bool (false)] (.bool (false)) (.tmp rfl .nil) rfl rF rF (sD (sD sR)) ?_)))))))))
 exact ⟨(vB (by unfold eqOkL; simp_all)), rfl, rfl⟩

/- spec.EqsOk -/
theorem sEqsOk_spec {F : FH} {L : List HP} {arv : Value} {ar : List Int} (har : IntsF F arv ar) {esv : Value} {es : List (List Int × List Int)} (hes : PairsF F esv es) (hla : ar.length ≤ 4000000) (hel : es.length ≤ 4000000) (heb : ∀ i, i < es.length → (es.getD i ([], [])).1.length ≤ 4000000 ∧ (es.getD i ([], [])).2.length ≤ 4000000) :
    Does prog 135 [.agg #[arv], esv] F (L) (fun v F' L' => (.bool (eqsOkL ar es) : Value) = v ∧ F = F' ∧ L = L') := by
 refine qH func135 rfl rfl rfl (qf (qc (cX (qZ [arv] rfl rfl ?_))))
 intro b1
 refine qi (.bool (false)) rfl (qd (qf (qf (qc (cX (qq [arv] qI qw rfl rfl (Rd.ownN [] rfl rfl) (cX (qm (args := [.agg #[arv]]) call168 rfl (sSigOk_spec har (hla := (by first | assumption | rfl | omega | simp))) ?_))))))))
 rintro _ _ _ _ ⟨rfl, rfl, rfl⟩
 refine cX (jf rfl (qh (.bool (!(sigOk ar))) rfl ?_))
 by_cases h1 : (!(sigOk ar)) = true
 ·refine qp (t := 9) rfl (vB h1) (qp (t := 9) rfl (vB h1) (qp (t := 9) rfl (vB h1) (cX (qP (.bool (true)) (vB h1) rfl (qd (jC rfl (qf (qc (qi (.bool (false)) rfl (qd (qu (qo (qs (L' := L) [.bool (false)] (.bool (false)) (.tmp rfl .nil) rfl rF rF (sD sR) ?_)))))))))))))
  exact ⟨(vB (by unfold eqsOkL; simp_all <;> omega)), rfl, rfl⟩
 rw [Bool.not_eq_true] at h1
 refine qr (t := 9) rfl (vB h1) (qt (esv) rfl (qr (t := 9) rfl (vB h1) (qE jI rfl hes.slv (qr (t := 9) rfl (vB h1) (jH rfl rfl (cX (qN (.bool (decide (((es.length : Int) : Int) > 12))) (vB h1) rfl (qd ?_))))))))
 refine qC (p := ((es.length : Int) : Int) > 12) rfl (fun h2 => ?_) (fun h2 => ?_)
 ·refine qf (qc (qi (.bool (false)) rfl (qd (qu (qo (qs (L' := L) [.bool (false)] (.bool (false)) (.tmp rfl .nil) rfl rF rF (sD sR) ?_))))))
  exact ⟨(vB (by unfold eqsOkL; simp_all <;> omega)), rfl, rfl⟩
 refine qA (qf (qf (qc (qi (ii (0)) rfl (qd (qR (jy (α := Nat) (fun k => [(1, esv), (2, ptr b1 0), (5, ii ((k : Int)))]) (fun k => cellsH b1 [arv] 36 :: L) (fun k F' => F = F' ∧ (k ≤ es.length) ∧ (∀ i, i < k → eqOkL ar (es.getD i ([], [])) = true)) (fun k => es.length - k) 0 ⟨rfl, rfl, rfl, ⟨⟩⟩ (sC sR) ⟨rfl, (by (try dsimp only) <;> omega), (fun i hi => absurd hi (by omega))⟩ ?_)))))))
 rintro k rE _ _ ⟨rfl, hk, hall⟩
 show X _ _ _ _ (envs [(1, esv), (2, ptr b1 0), (5, ii ((k : Int)))] rE) _ (cellsH b1 [arv] 36 :: L)
 have hebk := heb k
 refine qf (qf (qc (qh (ii ((k : Int))) rfl (qh (esv) rfl (cX (qE jI rfl hes.slv (cX (jh rfl rfl (qd ?_)))))))))
 refine qC (p := (k : Int) < (es.length : Int)) rfl (fun h3 => ?_) (fun h3 => ?_)
 ·refine qA (qf (qR (qf ?_)))
  obtain ⟨a1, a2, ha1, ha2, hr1, hr2⟩ := hes.rd (i := k) (by omega)
  refine jY [cellsH b1 [arv] 36] L 5 [] [[], [], [], [1, 2], [3]] (phiL [qe (.agg #[arv]), qe esv, qe (ii ((k : Int)) : Value), qe (.pointer (some (elemA esv (k * 2)))), qe (.agg #[a1, a2])]) (ownL []) mixed rfl rfl (by kernel_rfl) ?_ ?_
  ·refine pD (fun W R z9 => ?_) ?_
   ·refine qj (qq [arv] qI qw rfl rfl (Rd.ownN [] rfl rfl) ?_)
    exact ⟨rfl, rfl, rfl⟩
   refine pD (fun W R z9 => ?_) ?_
   ·refine qj (qt (esv) rfl ?_)
    exact ⟨rfl, rfl, rfl⟩
   refine pD (fun W R z9 => ?_) ?_
   ·refine qj (qt (ii ((k : Int))) rfl ?_)
    exact ⟨rfl, rfl, rfl⟩
   refine pD (fun W R z9 => ?_) ?_
   ·rw [eS (l := [(1, _), (2, _)]) ⟨z9 1 rfl, z9 2 rfl, ⟨⟩⟩]
    refine qj (qD k jI sizeOf168 rfl rfl rfl hes.slv (by omega) rfl ?_)
    exact ⟨rfl, rfl, rfl⟩
   refine pD (fun W R z9 => ?_) ?_
   ·rw [eS (l := [(3, _)]) ⟨z9 3 rfl, ⟨⟩⟩]
    refine qj (qq [a1, a2] isAgg168 sizeOf168 rfl rfl (Rd.two (hr1 _) (hr2 _)) ?_)
    exact ⟨rfl, rfl, rfl⟩
   exact stepsP.nil
  intro W hphi
  rw [eS (l := [(0, _), (4, _)]) ⟨(hphi 0 (by decide)), (hphi 4 (by decide)), ⟨⟩⟩]
  show XL _ _ _ _ _ _ _ (cellsH b1 [arv] 36 :: L)
  refine cX (qm (args := [.agg #[arv], .agg #[a1, a2]]) call234 rfl (sEqOk_spec har ha1 ha2 (hla := (by first | assumption | rfl | omega | simp)) (hll := (by first | assumption | rfl | omega | simp)) (hlr := (by first | assumption | rfl | omega | simp))) ?_)
  rintro _ _ _ _ ⟨rfl, rfl, rfl⟩
  refine cX (jf rfl (qd ?_))
  refine jw (t := !(eqOkL ar (((es.getD k ([], [])).1), ((es.getD k ([], [])).2)))) rfl (fun h4 => ?_) (fun h4 => ?_)
  ·refine qf (qc (qi (.bool (false)) rfl (qd (qu (qL (qo (qo (qL (qo (qs (L' := L) [.bool (false)] (.bool (false)) (.tmp rfl .nil) rfl rF rF (sD sR) ?_))))))))))
   exact ⟨(vB (by rw [eqsOkL, all_fail ([], []) (k := k) (by omega) (by simp_all), Bool.and_false])), rfl, rfl⟩
  refine qA (qc (qh (ii ((k : Int))) rfl (cX (qU (((k + 1 : Nat) : Int)) rfl rfl (by omega) (by omega) (qi (ii (((k + 1 : Nat) : Int))) rfl (qd ?_))))))
  exact ⟨k + 1, _, FLe.refl _, rF, ⟨rfl, rfl, rfl, ⟨⟩⟩, (sC sR), ⟨rfl, (by (try dsimp only) <;> omega), (fun i hi => (Nat.lt_or_ge i k).elim (fun h => hall i h) (fun h => by obtain rfl : i = k := (by omega); simp_all))⟩, (by omega)⟩
 refine jo (qB (qB (qW (qf (qc (qi (.bool (true)) rfl (qd (qu (qs (L' := L) [.bool (true)] (.bool (true)) (.tmp rfl .nil) rfl rF rF (sD sR) ?_)))))))))
 exact ⟨(vB (by rw [eqsOkL, (all_getD_iff ([], [])).2 (fun i hi => hall i (by omega))]; simp_all <;> omega)), rfl, rfl⟩
end Go.Proofs.YtenomejgjcpbdaaGreat
