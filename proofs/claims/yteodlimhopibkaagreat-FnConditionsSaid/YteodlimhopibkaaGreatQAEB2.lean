/-
  Walks, one after the other (part 3).
-/
import Derived.Test.YteodlimhopibkaaGreatQAEL1
import Derived.Test.YteodlimhopibkaaGreatQAEB1
set_option linter.unusedSimpArgs false
set_option linter.unusedVariables false
namespace Go.Proofs.YteodlimhopibkaaGreat
open Go X M Tryz

/- impl.EqOk -/
theorem EqOkC_spec {F : FH} {L : List HP} {arv : Value} {ar : List Int} (har : IntsF F arv ar) {lv : Value} {l : List Int} (hl : IntsF F lv l) {rv : Value} {r : List Int} (hr : IntsF F rv r) :
    Does prog 39 [.agg #[arv], .agg #[lv, rv]] F (L) (fun v F' L' => (.bool (eqOkL ar (l, r)) : Value) = v ∧ F = F' ∧ L = L') := by
 refine qL func39 rfl rfl rfl (qg (qd (cX (je [arv] rfl rfl ?_))))
 intro b1
 refine cX (je [lv, rv] rfl rfl ?_)
 intro b2
 refine qj (.bool (false)) rfl (qf (qg (qd (cX (qs [arv] qW qB rfl rfl (Rd.ownN [_] rfl rfl) (cX (qq (0) jw rfl qy (by decide) rfl rfl (cX (qm qX rfl (Rd.own [] rfl rfl) (cX (qn (args := [.agg #[arv], lv]) call38 rfl (TermOk_spec har hl) ?_)))))))))))
 rintro _ _ _ _ ⟨rfl, rfl, rfl⟩
 refine qi (.bool (termOk ar l)) rfl ?_
 by_cases h1 : (termOk ar l) = true
 ·refine qr (t := 9) rfl (vB h1) (qs [arv] qW qB rfl rfl (Rd.ownN [_] rfl rfl) (qr (t := 9) rfl (vB h1) (qq (1) jw rfl qy (by decide) rfl rfl (qr (t := 9) rfl (vB h1) (qm qX rfl (Rd.own [] rfl rfl) (qr (t := 9) rfl (vB h1) (qn (args := [.agg #[arv], rv]) call38 rfl (TermOk_spec har hr) ?_)))))))
  rintro _ _ _ _ ⟨rfl, rfl, rfl⟩
  refine cX (qN (.bool (termOk ar r)) (vB h1) rfl (qj (.bool (termOk ar r)) rfl (qf (qu (qt (L' := L) [.bool (termOk ar r)] (.bool (termOk ar r)) (.tmp rfl .nil) rfl rF rF (sD (sD sR)) ?_)))))
  exact ⟨(vB (by unfold eqOkL; simp_all)), rfl, rfl⟩
 rw [Bool.not_eq_true] at h1
 refine qp (t := 9) rfl (vB h1) (qp (t := 9) rfl (vB h1) (qp (t := 9) rfl (vB h1) (qp (t := 9) rfl (vB h1) (cX (qM (.bool (false)) (vB h1) rfl (qj (.bool (false)) rfl (qf (qu (qt (L' := L) [.bool (false)] (.bool (false)) (.tmp rfl .nil) rfl rF rF (sD (sD sR)) ?_)))))))))
 exact ⟨(vB (by unfold eqOkL; simp_all)), rfl, rfl⟩

/- spec.EqOk -/
theorem sEqOkC_spec {F : FH} {L : List HP} {arv : Value} {ar : List Int} (har : IntsF F arv ar) {lv : Value} {l : List Int} (hl : IntsF F lv l) {rv : Value} {r : List Int} (hr : IntsF F rv r) (hla : ar.length ≤ 4000000) (hll : l.length ≤ 4000000) (hlr : r.length ≤ 4000000) :
    Does prog 87 [.agg #[arv], .agg #[lv, rv]] F (L) (fun v F' L' => (.bool (eqOkL ar (l, r)) : Value) = v ∧ F = F' ∧ L = L') := by
 refine qL func87 rfl rfl rfl (qg (qd (cX (je [arv] rfl rfl ?_))))
 intro b1
 refine cX (je [lv, rv] rfl rfl ?_)
 intro b2
 refine qj (.bool (false)) rfl (qf (qg (qd (cX (qs [arv] qW qB rfl rfl (Rd.ownN [_] rfl rfl) (cX (qq (0) jw rfl qy (by decide) rfl rfl (cX (qm qX rfl (Rd.own [] rfl rfl) (cX (qn (args := [.agg #[arv], lv]) call44 rfl (sTermOk_spec har hl (hla := (by first | assumption | rfl | omega | simp)) (hlt := (by first | assumption | rfl | omega | simp))) ?_)))))))))))
 rintro _ _ _ _ ⟨rfl, rfl, rfl⟩
 refine qi (.bool (termOk ar l)) rfl ?_
 by_cases h1 : (termOk ar l) = true
 ·refine qr (t := 9) rfl (vB h1) (qs [arv] qW qB rfl rfl (Rd.ownN [_] rfl rfl) (qr (t := 9) rfl (vB h1) (qq (1) jw rfl qy (by decide) rfl rfl (qr (t := 9) rfl (vB h1) (qm qX rfl (Rd.own [] rfl rfl) (qr (t := 9) rfl (vB h1) (qn (args := [.agg #[arv], rv]) call44 rfl (sTermOk_spec har hr (hla := (by first | assumption | rfl | omega | simp)) (hlt := (by first | assumption | rfl | omega | simp))) ?_)))))))
  rintro _ _ _ _ ⟨rfl, rfl, rfl⟩
  refine cX (qN (.bool (termOk ar r)) (vB h1) rfl (qj (.bool (termOk ar r)) rfl (qf (qu (qt (L' := L) [.bool (termOk ar r)] (.bool (termOk ar r)) (.tmp rfl .nil) rfl rF rF (sD (sD sR)) ?_)))))
  exact ⟨(vB (by unfold eqOkL; simp_all)), rfl, rfl⟩
 rw [Bool.not_eq_true] at h1
 refine qp (t := 9) rfl (vB h1) (qp (t := 9) rfl (vB h1) (qp (t := 9) rfl (vB h1) (qp (t := 9) rfl (vB h1) (cX (qM (.bool (false)) (vB h1) rfl (qj (.bool (false)) rfl (qf (qu (qt (L' := L) [.bool (false)] (.bool (false)) (.tmp rfl .nil) rfl rF rF (sD (sD sR)) ?_)))))))))
 exact ⟨(vB (by unfold eqOkL; simp_all)), rfl, rfl⟩

/- impl.known$1 -/
theorem known1_spec {F : FH} {L : List HP} {uv : Value} {u : List Int} (hu : IntsF F uv u) {n : Int} {b : Nat} (hzb : FzC F b [ii (n)]) (hbd : u.length ≤ 9223372036854775807) :
    Does prog 73 [uv, ptr b 0] F (L) (fun v F' L' => (.bool (decide (n ∈ u)) : Value) = v ∧ F = F' ∧ L = L') := by
 refine qL func73 rfl rfl rfl (qg (qd (qj (.bool (false)) rfl (qf (qg (qd (qi (uv) rfl (cX (qm jj rfl (FzC.rd1 hzb rfl) (cX (qn (args := [uv, ii (n)]) call70 rfl (Contains_spec (n := n) hu (hbd := (by first | assumption | rfl | omega | simp))) ?_)))))))))))
 rintro _ _ _ _ ⟨rfl, rfl, rfl⟩
 refine qj (.bool (decide (n ∈ u))) rfl (qf (qu (qt (L' := L) [.bool (decide (n ∈ u))] (.bool (decide (n ∈ u))) (.tmp rfl .nil) rfl rF rF sR ?_)))
 exact ⟨rfl, rfl, rfl⟩

/- slices.IndexFunc[[][]int64,[]int64] -/
theorem IndexFuncKnown_spec {F : FH} {L : List HP} {usv : Value} {us : List (List Int)} (hus : RowsF F usv us) {n : Int} {b : Nat} (hzb : FzC F b [ii (n)]) (hlt : us.length ≤ 4000000) (hub : ∀ i, i < us.length → (us.getD i []).length ≤ 4000000) :
    Does prog 96 [usv, .func (.func 73) #[] #[ptr b 0]] F (L) (fun v F' L' => (ii (badG (fun u : List Int => !decide (n ∈ u)) us) : Value) = v ∧ F = F' ∧ L = L') := by
 refine qL func96 rfl rfl rfl (qg (qd (qj (ii (0)) rfl (qf (qg (qg (qd (qi (usv) rfl (cX (qE ja rfl hus.slv (qi (ii (0)) rfl (qf (qQ (jr (α := Nat) (fun k => [(0, usv), (1, .func (.func 73) #[] #[ptr b 0]), (7, ii ((us.length : Int))), (8, ii ((k : Int)))]) (fun k => L) (fun k F' => F = F' ∧ (k ≤ us.length) ∧ (∀ i, i < k → (fun u : List Int => !decide (n ∈ u)) (us.getD i []) = true)) (fun k => us.length - k) 0 ⟨rfl, rfl, rfl, rfl, ⟨⟩⟩ sR ⟨rfl, (by (try dsimp only) <;> omega), (fun i hi => absurd hi (by omega))⟩ ?_))))))))))))))
 rintro k rE _ _ ⟨rfl, hk, hall⟩
 show X _ _ _ _ (envs [(0, usv), (1, .func (.func 73) #[] #[ptr b 0]), (7, ii ((us.length : Int))), (8, ii ((k : Int)))] rE) _ (L)
 have hubk := hub k
 refine qg (qd (cX (jb rfl rfl (qf (qg ?_)))))
 refine qH (p := (k : Int) < (us.length : Int)) rfl (fun h1 => ?_) (fun h1 => ?_)
 ·refine qz (qg (qQ (qg (qd (qi (ii ((k : Int))) rfl (qj (ii ((k : Int))) rfl (qf (qg (qd (qi (.func (.func 73) #[] #[ptr b 0]) rfl (qi (usv) rfl (qi (ii ((k : Int))) rfl (cX (qD k ja qy rfl rfl rfl hus.slv (by omega) (Nat.mul_one _) ?_))))))))))))))
  obtain ⟨a1, ha1, hr1⟩ := hus.rd (i := k) (by omega)
  refine cX (qm qX rfl (hr1 _) (cX (XOp.callV (first := []) (captured := [ptr b 0]) (args := [a1, ptr b 0]) call73 rfl rfl (known1_spec ha1 hzb (hbd := (by have := hubk (by omega); omega))) ?_)))
  rintro _ _ _ _ ⟨rfl, rfl, rfl⟩
  refine qf ?_
  refine qH (p := n ∈ ((us.getD k []))) rfl (fun h2 => ?_) (fun h2 => ?_)
  ·refine qg (qd (qi (ii ((k : Int))) rfl (qj (ii ((k : Int))) rfl (qf (qu (qI (ql (ql (qI (ql (qt (L' := L) [ii ((k : Int))] (ii ((k : Int))) (.tmp rfl .nil) rfl rF rF sR ?_)))))))))))
   exact ⟨(vI (badG_at [] (by omega) (by simp_all) hall)), rfl, rfl⟩
  refine qz (qd (cX (qS (((k + 1 : Nat) : Int)) rfl rfl (by omega) (by omega) (qi (ii (((k + 1 : Nat) : Int))) rfl (qf ?_)))))
  exact ⟨k + 1, _, FLe.refl _, rF, ⟨rfl, rfl, rfl, rfl, ⟨⟩⟩, sR, ⟨rfl, (by (try dsimp only) <;> omega), (fun i hi => (Nat.lt_or_ge i k).elim (fun h => hall i h) (fun h => by obtain rfl : i = k := (by omega); simp_all))⟩, (by omega)⟩
 refine jn (qA (qA (qV (qg (qd (qj (ii (-1)) rfl (qf (qu (qt (L' := L) [ii (-1)] (ii (-1)) (.tmp rfl .nil) rfl rF rF sR ?_)))))))))
 exact ⟨(vI (badG_none [] (fun i hi => hall i (by omega)))), rfl, rfl⟩

/- slices.ContainsFunc[[][]int64,[]int64] -/
theorem ContainsFuncKnown_spec {F : FH} {L : List HP} {usv : Value} {us : List (List Int)} (hus : RowsF F usv us) {n : Int} {b : Nat} (hzb : FzC F b [ii (n)]) (hlt : us.length ≤ 4000000) (hub : ∀ i, i < us.length → (us.getD i []).length ≤ 4000000) :
    Does prog 72 [usv, .func (.func 73) #[] #[ptr b 0]] F (L) (fun v F' L' => (.bool (us.any (fun u => decide (n ∈ u))) : Value) = v ∧ F = F' ∧ L = L') := by
 refine qL func72 rfl rfl rfl (qg (qd (qj (.bool (false)) rfl (qf (qg (qd (qi (usv) rfl (qi (.func (.func 73) #[] #[ptr b 0]) rfl (cX (qn (args := [usv, .func (.func 73) #[] #[ptr b 0]]) call96 rfl (IndexFuncKnown_spec hus hzb (hlt := (by first | assumption | rfl | omega | simp)) (hub := (by first | assumption | rfl | omega | simp))) ?_))))))))))
 rintro _ _ _ _ ⟨rfl, rfl, rfl⟩
 refine cX (jW rfl rfl (qj (.bool (decide ((badG (fun u : List Int => !decide (n ∈ u)) us : Int) ≥ 0))) rfl (qf (qu (qt (L' := L) [.bool (decide ((badG (fun u : List Int => !decide (n ∈ u)) us : Int) ≥ 0))] (.bool (decide ((badG (fun u : List Int => !decide (n ∈ u)) us : Int) ≥ 0))) (.tmp rfl .nil) rfl rF rF sR ?_)))))
 exact ⟨(vB (by have hb := badG_iff (q := fun u : List Int => !decide (n ∈ u)) (l := us); exact any_badG.symm)), rfl, rfl⟩

/- impl.known -/
theorem known_spec {F : FH} {L : List HP} {tv : Value} {t : List Int} (ht : IntsF F tv t) {usv : Value} {us : List (List Int)} (hus : RowsF F usv us) (hlt : us.length ≤ 4000000) (hub : ∀ i, i < us.length → (us.getD i []).length ≤ 4000000) (hl9 : t.length ≤ 4000000) :
    Does prog 40 [tv, usv] F (L) (fun v F' L' => (.bool (knownL t us) : Value) = v ∧ F = F' ∧ L = L') := by
 refine qL func40 rfl rfl rfl (qg (qd (qj (.bool (false)) rfl (qf (qg (qg (qd (qi (tv) rfl (cX (qE qh rfl ht.slv (qi (ii (0)) rfl (qf (qQ (jr (α := Nat) (fun k => [(1, usv), (7, tv), (8, ii ((t.length : Int))), (9, ii ((k : Int)))]) (fun k => L) (fun k F' => F = F' ∧ (k ≤ t.length) ∧ (∀ i, i < k → (decide (0 ≤ t.getD i 0) || us.any (fun u => decide (t.getD i 0 ∈ u))) = true)) (fun k => t.length - k) 0 ⟨rfl, rfl, rfl, rfl, ⟨⟩⟩ sR ⟨rfl, (by (try dsimp only) <;> omega), (fun i hi => absurd hi (by omega))⟩ ?_))))))))))))))
 rintro k rE _ _ ⟨rfl, hk, hall⟩
 show X _ _ _ _ (envs [(1, usv), (7, tv), (8, ii ((t.length : Int))), (9, ii ((k : Int)))] rE) _ (L)
 refine qg (qd (cX (jb rfl rfl (qf (qg ?_)))))
 refine qH (p := (k : Int) < (t.length : Int)) rfl (fun h1 => ?_) (fun h1 => ?_)
 ·refine qz (qg (qQ (qg (qd (cX (qD k qh qC rfl rfl rfl ht.slv (by omega) (Nat.mul_one _) (cX (qm jj rfl (ht.rd (by omega)) (cX (jm [ii (0)] qP rfl ?_))))))))))
  intro b1
  refine cX (jL [] _ [ii (t.getD k 0)] qC rfl rfl rfl rfl rfl rfl (qf (qg (qd (cX (qm jj rfl (Rd.own [] rfl rfl) (cX (jb rfl rfl (qi (.bool (decide ((t.getD k 0 : Int) < 0))) rfl ?_)))))))))
  by_cases h2 : (t.getD k 0 : Int) < 0
  ·refine qr (t := 15) rfl (vT h2) (qo (usv) rfl (qr (t := 15) rfl (vT h2) (XOp.makeFuncL [] [ptr b1 0] rfl rfl (XL.freeze [] _ _ rfl (fun F1 le1 hz1 => ?_)))))
   replace hus := hus.mono le1
   have hf1 : FzC F1 b1 [ii (t.getD k 0)] := Fz.cells hz1
   refine qr (t := 15) rfl (vT h2) (qn (args := [usv, .func (.func 73) #[] #[ptr b1 0]]) call72 rfl (ContainsFuncKnown_spec hus hf1 (hlt := (by first | assumption | rfl | omega | simp)) (hub := (by first | assumption | rfl | omega | simp))) ?_)
   rintro _ _ _ _ ⟨rfl, rfl, rfl⟩
   refine qr (t := 15) rfl (vT h2) (jg rfl (cX (qN (.bool (!(us.any (fun u => decide ((t.getD k 0) ∈ u))))) (vT h2) rfl (qf ?_))))
   refine js (t := !(us.any (fun u => decide ((t.getD k 0) ∈ u)))) rfl (fun h3 => ?_) (fun h3 => ?_)
   ·refine qg (qd (qj (.bool (false)) rfl (qf (qu (qI (ql (ql (qI (ql (qt (L' := L) [.bool (false)] (.bool (false)) (.tmp rfl .nil) rfl rF le1 sR ?_))))))))))
    exact ⟨(vB (by rw [knownL, all_fail 0 (k := k) (by omega) (by rw [decide_eq_false (show ¬ 0 ≤ t.getD k 0 by omega)]; simp_all)])), rfl, rfl⟩
   refine qz (qd (cX (qS (((k + 1 : Nat) : Int)) rfl rfl (by omega) (by omega) (qi (ii (((k + 1 : Nat) : Int))) rfl (qf ?_)))))
   exact ⟨k + 1, _, FLe.refl _, le1, ⟨rfl, rfl, rfl, rfl, ⟨⟩⟩, sR, ⟨rfl, (by (try dsimp only) <;> omega), (fun i hi => (Nat.lt_or_ge i k).elim (fun h => hall i h) (fun h => by obtain rfl : i = k := (by omega); first | (rw [decide_eq_true (show 0 ≤ t.getD i 0 by omega)]; rfl) | simp_all))⟩, (by omega)⟩
  refine qp (t := 15) rfl (vF h2) (qp (t := 15) rfl (vF h2) (qp (t := 15) rfl (vF h2) (qp (t := 15) rfl (vF h2) (cX (qM (.bool (false)) (vF h2) rfl (qf (jS rfl (qz (qd (cX (qS (((k + 1 : Nat) : Int)) rfl rfl (by omega) (by omega) (qi (ii (((k + 1 : Nat) : Int))) rfl ?_))))))))))))
  refine qf ?_
  exact ⟨k + 1, _, FLe.refl _, rF, ⟨rfl, rfl, rfl, rfl, ⟨⟩⟩, (sD sR), ⟨rfl, (by (try dsimp only) <;> omega), (fun i hi => (Nat.lt_or_ge i k).elim (fun h => hall i h) (fun h => by obtain rfl : i = k := (by omega); first | (rw [decide_eq_true (show 0 ≤ t.getD i 0 by omega)]; rfl) | simp_all))⟩, (by omega)⟩
 refine jn (qA (qA (qV (qg (qd (qj (.bool (true)) rfl (qf (qu (qt (L' := L) [.bool (true)] (.bool (true)) (.tmp rfl .nil) rfl rF rF sR ?_)))))))))
 exact ⟨(vB (by rw [knownL, all_getD_iff 0]; exact fun i hi => hall i (by omega))), rfl, rfl⟩

/- impl.CRuleOk -/
set_option maxRecDepth 20000 in
theorem CRuleOk_spec {F : FH} {L : List HP} {arv : Value} {ar : List Int} (har : IntsF F arv ar) {lv : Value} {l : List Int} (hl : IntsF F lv l) {rv : Value} {r : List Int} (hr : IntsF F rv r) {csv : Value} {cs : List (List Int × List Int)} (hcs : PairsF F csv cs) :
    Does prog 17 [.agg #[arv], .agg #[lv, rv, csv]] F (L) (fun v F' L' => (.bool (cruleOk ar (l, r, cs)) : Value) = v ∧ F = F' ∧ L = L') := by
 refine qL func17 rfl rfl rfl (qg (qd (cX (je [arv] rfl rfl ?_))))
 intro b1
 refine cX (je [lv, rv, csv] rfl rfl ?_)
 intro b2
 refine qj (.bool (false)) rfl (qf (qg (qg (qd (cX (qs [arv] qW qB rfl rfl (Rd.ownN [_] rfl rfl) (cX (qq (0) qR rfl qy (by decide) rfl rfl (cX (qm qX rfl (Rd.own [] rfl rfl) (cX (qn (args := [.agg #[arv], lv]) call38 rfl (TermOk_spec har hl) ?_))))))))))))
 rintro _ _ _ _ ⟨rfl, rfl, rfl⟩
 refine cX (jg rfl (qi (.bool (!(termOk ar l))) rfl ?_))
 by_cases h1 : (!(termOk ar l)) = true
 ·refine qp (t := 13) rfl (vB h1) (qp (t := 13) rfl (vB h1) (qp (t := 13) rfl (vB h1) (qp (t := 13) rfl (vB h1) (qp (t := 13) rfl (vB h1) (cX (qN (.bool (true)) (vB h1) rfl (qi (.bool (true)) rfl (qp (t := 20) rfl rfl (qp (t := 20) rfl rfl (qp (t := 20) rfl rfl ?_))))))))))
  refine qp (t := 20) rfl rfl (qp (t := 20) rfl rfl (cX (qN (.bool (true)) rfl rfl (qi (.bool (true)) rfl (qp (t := 27) rfl rfl (qp (t := 27) rfl rfl (qp (t := 27) rfl rfl (qp (t := 27) rfl rfl (cX (qN (.bool (true)) rfl rfl (qf ?_)))))))))))
  refine jH rfl (qg (qd (qj (.bool (false)) rfl (qf (qu (ql (qt (L' := L) [.bool (false)] (.bool (false)) (.tmp rfl .nil) rfl rF rF (sD (sD sR)) ?_)))))))
  exact ⟨(vB (cruleOk_no1 (by intro h1 h2 h3 h4; simp_all <;> omega))), rfl, rfl⟩
 rw [Bool.not_eq_true] at h1
 have hlo : termOk ar l = true := Bool.not_inj (y := true) h1
 have hll := termOk_len hlo
 refine qr (t := 13) rfl (vB h1) (qs [arv] qW qB rfl rfl (Rd.ownN [_] rfl rfl) (qr (t := 13) rfl (vB h1) (qq (1) qR rfl qy (by decide) rfl rfl (qr (t := 13) rfl (vB h1) (qm qX rfl (Rd.own [] rfl rfl) (qr (t := 13) rfl (vB h1) (qn (args := [.agg #[arv], rv]) call38 rfl (TermOk_spec har hr) ?_)))))))
 rintro _ _ _ _ ⟨rfl, rfl, rfl⟩
 refine qr (t := 13) rfl (vB h1) (jg rfl (cX (qM (.bool (!(termOk ar r))) (vB h1) rfl (qi (.bool (!(termOk ar r))) rfl ?_))))
 by_cases h2 : (!(termOk ar r)) = true
 ·refine qp (t := 20) rfl (vB h2) (qp (t := 20) rfl (vB h2) (qp (t := 20) rfl (vB h2) (qp (t := 20) rfl (vB h2) (qp (t := 20) rfl (vB h2) (cX (qN (.bool (true)) (vB h2) rfl (qi (.bool (true)) rfl (qp (t := 27) rfl rfl (qp (t := 27) rfl rfl (qp (t := 27) rfl rfl ?_))))))))))
  refine qp (t := 27) rfl rfl (cX (qN (.bool (true)) rfl rfl (qf (jH rfl (qg (qd (qj (.bool (false)) rfl (qf (qu (ql (qt (L' := L) [.bool (false)] (.bool (false)) (.tmp rfl .nil) rfl rF rF (sD (sD sR)) ?_)))))))))))
  exact ⟨(vB (cruleOk_no1 (by intro h1 h2 h3 h4; simp_all <;> omega))), rfl, rfl⟩
 rw [Bool.not_eq_true] at h2
 have hro : termOk ar r = true := Bool.not_inj (y := true) h2
 have hrl := termOk_len hro
 refine qr (t := 20) rfl (vB h2) (qq (0) qR rfl qy (by decide) rfl rfl (qr (t := 20) rfl (vB h2) (qm qX rfl (Rd.own [] rfl rfl) (qr (t := 20) rfl (vB h2) (qD 0 qh qC rfl rfl rfl hl.slv (by omega) (Nat.mul_one _) (qr (t := 20) rfl (vB h2) (qm jj rfl (hl.rd (by omega)) (qr (t := 20) rfl (vB h2) (jb rfl rfl (cX (qM (.bool (decide ((l.getD 0 0 : Int) < 0))) (vB h2) rfl (qi (.bool (decide ((l.getD 0 0 : Int) < 0))) rfl ?_))))))))))))
 by_cases h3 : (l.getD 0 0 : Int) < 0
 ·refine qp (t := 27) rfl (vT h3) (qp (t := 27) rfl (vT h3) (qp (t := 27) rfl (vT h3) (qp (t := 27) rfl (vT h3) (cX (qN (.bool (true)) (vT h3) rfl (qf (jH rfl (qg (qd (qj (.bool (false)) rfl (qf ?_)))))))))))
  refine qu (ql (qt (L' := L) [.bool (false)] (.bool (false)) (.tmp rfl .nil) rfl rF rF (sD (sD sR)) ?_))
  exact ⟨(vB (cruleOk_no1 (by intro h1 h2 h3 h4; simp_all <;> omega))), rfl, rfl⟩
 refine qr (t := 27) rfl (vF h3) (qq (2) qR rfl jx (by decide) rfl rfl (qr (t := 27) rfl (vF h3) (qm isAgg49 rfl (Rd.own [] rfl rfl) (qr (t := 27) rfl (vF h3) (qE jh rfl hcs.slv (qr (t := 27) rfl (vF h3) (jF rfl rfl (cX (qM (.bool (decide (((cs.length : Int) : Int) > 2))) (vF h3) rfl (qf ?_))))))))))
 refine qH (p := ((cs.length : Int) : Int) > 2) rfl (fun h4 => ?_) (fun h4 => ?_)
 ·refine qg (qd (qj (.bool (false)) rfl (qf (qu (ql (qt (L' := L) [.bool (false)] (.bool (false)) (.tmp rfl .nil) rfl rF rF (sD (sD sR)) ?_))))))
  exact ⟨(vB (cruleOk_no1 (by intro h1 h2 h3 h4; simp_all <;> omega))), rfl, rfl⟩
 refine qz (qg (qd (cX (qq (0) qR rfl qy (by decide) rfl rfl (cX (qm qX rfl (Rd.own [] rfl rfl) (cX (qx (s := 1) [lv] [sN] [(0, [lv])] ja qy zeroValue24 rfl (by decide) rfl (.cons (cells_one (qv hl)) CellsAre.nil) rfl ?_))))))))
 intro v1 hv1
 refine qj (v1) rfl (qf (qg (qg (qd (cX (qq (2) qR rfl jx (by decide) rfl rfl (cX (qm isAgg49 rfl (Rd.own [_] rfl rfl) (cX (qE jh rfl hcs.slv (qi (ii (0)) rfl (qf (qQ ?_)))))))))))))
 have hc1 : RowsC F [lv] ([l] : List (List Int)) := (RowsC.snoc (CO.nil : RowsC F [] []) hl)
 refine jr (α := Nat × Value × RowL × List Value × Nat × FH) (fun xQ => [(2, ptr b1 0), (3, ptr b2 0), (5, xQ.2.1), (37, csv), (38, ii ((cs.length : Int))), (39, ii (((xQ.1 : Nat) : Int)))]) (fun xQ => slH 24 1 xQ.2.1 xQ.2.2.2.2.1 xQ.2.2.2.1 :: cellsH b2 [lv, rv, csv] 51 :: cellsH b1 [arv] 26 :: L) (fun xQ F' => xQ.2.2.2.2.2 = F' ∧ F ≤ xQ.2.2.2.2.2 ∧ (xQ.1 ≤ cs.length) ∧ (IsSl xQ.2.1) ∧ (RowsC xQ.2.2.2.2.2 xQ.2.2.2.1 xQ.2.2.1) ∧ (xQ.2.2.2.2.1 = xQ.2.2.1.length) ∧ (cOkGo ar [l] cs = cOkGo ar xQ.2.2.1 (cs.drop xQ.1)) ∧ (xQ.2.2.1.length = 1 + xQ.1) ∧ (∀ i, i < xQ.2.2.1.length → (xQ.2.2.1.getD i []).length ≤ 60)) (fun xQ => cs.length - xQ.1) (0, v1, [l], [lv], 1, F) ⟨rfl, rfl, rfl, rfl, rfl, rfl, ⟨⟩⟩ (sC (sC (sC sR))) ⟨rfl, FLe.refl _, (Nat.zero_le _), ((jE hv1)), (hc1), (rfl), (rfl), (rfl), (fun i hi => by obtain rfl : i = 0 := (by simp at hi; omega); exact hll.2)⟩ ?_
 rintro ⟨k, ov, os, cv, m, G1⟩ rE _ _ ⟨rfl, leG, hk, hov, hC, hm, hos, hol, hob⟩
 show X _ _ _ _ (envs [(2, ptr b1 0), (3, ptr b2 0), (5, ov), (37, csv), (38, ii ((cs.length : Int))), (39, ii ((k : Int)))] rE) _ (slH 24 1 ov m cv :: cellsH b2 [lv, rv, csv] 51 :: cellsH b1 [arv] 26 :: L)
 replace leG : F ≤ G1 := leG
 dsimp only at hk hov hC hm hos hol hob
 have leG1 := leG
 replace har := har.mono leG1
 replace hr := hr.mono leG1
 replace hcs := hcs.mono leG1
 refine qg (qd (cX (jb rfl rfl (qf (qg ?_)))))
 refine qH (p := (k : Int) < (cs.length : Int)) rfl (fun h5 => ?_) (fun h5 => ?_)
 ·refine qz (qg (qQ (qg (qd (cX (qD k jh jK rfl rfl rfl hcs.slv (by omega) rfl ?_))))))
  obtain ⟨a1, a2, ha1, ha2, hr1, hr2⟩ := hcs.rd (i := k) (by omega)
  refine cX (qs [a1, a2] isAgg71 jK rfl rfl (Rd.two (hr1 _) (hr2 _)) (cX (jm [sN, sN] jM rfl ?_)))
  intro b3
  refine cX (qO [] _ [a1, a2] jK rfl rfl rfl (qw (qJ (qv ha1)) (qw (qJ (qv ha2)) qT)) rfl rfl rfl (qf (qg (qg (qd (cX (qs [arv] qW qB rfl rfl (Rd.ownN [_, _, _] rfl rfl) (cX (qs [a1, a2] isAgg71 jK rfl rfl (Rd.ownN [] rfl rfl) (cX (qn (args := [.agg #[arv], .agg #[a1, a2]]) call39 rfl (EqOkC_spec har ha1 ha2) ?_)))))))))))
  rintro _ _ _ _ ⟨rfl, rfl, rfl⟩
  refine cX (jg rfl (qi (.bool (!(eqOkL ar (((cs.getD k ([], [])).1), ((cs.getD k ([], [])).2))))) rfl ?_))
  by_cases h6 : (!(eqOkL ar (((cs.getD k ([], [])).1), ((cs.getD k ([], [])).2)))) = true
  ·have hek := Bool.not_inj (y := false) h6
   refine qp (t := 47) rfl (vB h6) (qp (t := 47) rfl (vB h6) (qp (t := 47) rfl (vB h6) (qp (t := 47) rfl (vB h6) (qp (t := 47) rfl (vB h6) (cX (qN (.bool (true)) (vB h6) rfl (qf (jH rfl (qg (qd (qj (.bool (false)) rfl ?_)))))))))))
   refine qf (qu (ql (qI (ql (ql (qI (ql (qt (L' := L) [.bool (false)] (.bool (false)) (.tmp rfl .nil) rfl rF leG1 (sD (sD (sD (sD sR)))) ?_))))))))
   exact ⟨(vB (cruleOk_no2 (hos.trans (cOk_fail (by omega) (by first | exact .inl hek | exact .inr hkn))))), rfl, rfl⟩
  rw [Bool.not_eq_true] at h6
  have hek := Bool.not_inj (y := true) h6
  have hel1 : (cs.getD k ([], [])).1.length ≤ 60 := (termOk_len (eqOk_both hek).1).2
  have hel2 : (cs.getD k ([], [])).2.length ≤ 60 := (termOk_len (eqOk_both hek).2).2
  refine qr (t := 47) rfl (vB h6) (qq (0) jw rfl qy (by decide) rfl rfl (qr (t := 47) rfl (vB h6) (qm qX rfl (Rd.own [] rfl rfl) (qr (t := 47) rfl (vB h6) (qo (ov) rfl (qr (t := 47) rfl (vB h6) (XOp.lend [_] _ _ rfl (fun F1 le1 hz1 => ?_))))))))
  have hf1 : RowsF _ ov os := (CO.fz (RowsC.mono hC (qc le1 rF)) (by first | rfl | assumption | omega | (rw [List.length_append]; simp only [List.length_singleton]; omega)) hz1 : RowsF _ ov os)
  refine id (qn (args := [a1, ov]) call40 rfl (known_spec ((ha1.mono le1)) hf1 (hlt := (by omega)) (hub := (fun i hi => by have := hob i hi; omega)) (hl9 := (by omega))) ?_)
  rintro _ _ _ _ ⟨rfl, rfl, rfl⟩
  show XL _ _ _ _ _ _ _ (slH 24 1 ov m cv :: cellsH b3 [a1, a2] 71 :: cellsH b2 [lv, rv, csv] 51 :: cellsH b1 [arv] 26 :: L)
  refine qr (t := 47) rfl (vB h6) (jg rfl (cX (qM (.bool (!(knownL ((cs.getD k ([], [])).1) os))) (vB h6) rfl (qf ?_))))
  refine js (t := !(knownL ((cs.getD k ([], [])).1) os)) rfl (fun h7 => ?_) (fun h7 => ?_)
  ·have hkn := Bool.not_inj (y := false) h7
   refine qg (qd (qj (.bool (false)) rfl (qf (qu (ql (qI (ql (ql (qI (ql (qt (L' := L) [.bool (false)] (.bool (false)) (.tmp rfl .nil) rfl rF leG1 (sD (sD (sD (sD sR)))) ?_)))))))))))
   exact ⟨(vB (cruleOk_no2 (hos.trans (cOk_fail (by omega) (by first | exact .inl hek | exact .inr hkn))))), rfl, rfl⟩
  have hkn := Bool.not_inj (y := true) h7
  refine qz (qd (qi (ov) rfl (cX (qq (1) jw rfl qy (by decide) rfl rfl (cX (qm qX rfl (Rd.own [_] rfl rfl) (cX (qx (s := 1) [a2] [sN] [(0, [a2])] ja qy zeroValue24 rfl (by decide) rfl (.cons (cells_one (qv ha2)) CellsAre.nil) rfl ?_))))))))
  intro v2 hv2
  refine cX (XOp.append (m := 1) (bytes := 24) (cs := cv) [_] _ [a2] ja typeInfo24 rfl rfl rfl rfl rfl rfl rfl (SlV.own [] rfl) rfl (Rd.lit [] rfl) (qw (qJ (qv ha2)) qT) (by (try simp only [List.length_append, List.length_nil, List.length_cons, List.length_singleton]); omega) (by (try simp only [List.length_append, List.length_nil, List.length_cons, List.length_singleton]); omega) ?_)
  intro v3 hs1 hn1 hm1
  have hc2 := RowsC.snoc hC ha2
  refine qj (v3) rfl (qf (qd (cX (qS (((k + 1 : Nat) : Int)) rfl rfl (by omega) (by omega) (qi (ii (((k + 1 : Nat) : Int))) rfl (qf ?_))))))
  exact ⟨(k + 1, v3, os ++ [(cs.getD k ([], [])).2], cv ++ [a2], (m) + 1, G1), _, leG1, rF, ⟨rfl, rfl, rfl, rfl, rfl, rfl, ⟨⟩⟩, (sD (sC (sD (sC (sC sR))))), ⟨rfl, leG1, (by (try dsimp only) <;> omega), (hs1), (hc2), (by (try dsimp only); rw [List.length_append]; simp only [List.length_singleton]; omega), (hos.trans (cOk_next (by omega) hek hkn)), (by (try dsimp only); rw [List.length_append]; simp only [List.length_singleton]; omega), (rows_snoc60 hob hel2)⟩, (by omega)⟩
 refine jn (qA (qA (qV (qg (qd (cX (qq (1) qR rfl qy (by decide) rfl rfl (cX (qm qX rfl (Rd.own [_] rfl rfl) (qi (ov) rfl (cX (XOp.lend [] _ _ rfl (fun F2 le2 hz2 => ?_)))))))))))))
 have hf2 : RowsF _ ov os := (CO.fz (RowsC.mono hC (qc le2 rF)) (by first | rfl | assumption | omega | (rw [List.length_append]; simp only [List.length_singleton]; omega)) hz2 : RowsF _ ov os)
 refine id (qn (args := [rv, ov]) call40 rfl (known_spec ((hr.mono le2)) hf2 (hlt := (by omega)) (hub := (fun i hi => by have := hob i hi; omega)) (hl9 := (by omega))) ?_)
 rintro _ _ _ _ ⟨rfl, rfl, rfl⟩
 show XL _ _ _ _ _ _ _ (slH 24 1 ov m cv :: cellsH b2 [lv, rv, csv] 51 :: cellsH b1 [arv] 26 :: L)
 refine qj (.bool (knownL r os)) rfl (qf (qu (qt (L' := L) [.bool (knownL r os)] (.bool (knownL r os)) (.tmp rfl .nil) rfl rF leG1 (sD (sD (sD sR))) ?_)))
 exact ⟨(vB (cruleOk_yes hlo hro (by omega) (by omega) (hos.trans (cOk_end (by omega))))), rfl, rfl⟩

/- impl.CSystemOk$1 -/
theorem CSystemOk1_spec {F : FH} {L : List HP} {lv : Value} {l : List Int} (hl : IntsF F lv l) {rv : Value} {r : List Int} (hr : IntsF F rv r) {csv : Value} {cs : List (List Int × List Int)} (hcs : PairsF F csv cs) {arv : Value} {ar : List Int} (har : IntsF F arv ar) {crv : Value} {cr : List CRuleT} (hcr : CRulesF F crv cr) {b : Nat} (hzb : FzC F b [arv, crv]) :
    Does prog 55 [.agg #[lv, rv, csv], ptr b 0] F (L) (fun v F' L' => (.bool (!(cruleOk ar (l, r, cs))) : Value) = v ∧ F = F' ∧ L = L') := by
 refine qL func55 rfl rfl rfl (qg (qd (cX (je [lv, rv, csv] rfl rfl ?_))))
 intro b1
 refine qj (.bool (false)) rfl (qf (qg (qd (cX (qq (0) qF rfl qB (by decide) rfl rfl (cX (qs [arv] qW qB rfl rfl (FzC.rdN (o := 0) hzb rfl) (cX (qs [lv, rv, csv] isAgg51 jv rfl rfl (Rd.ownN [] rfl rfl) (cX (qn (args := [.agg #[arv], .agg #[lv, rv, csv]]) call17 rfl (CRuleOk_spec har hl hr hcs) ?_)))))))))))
 rintro _ _ _ _ ⟨rfl, rfl, rfl⟩
 refine cX (jg rfl (qj (.bool (!(cruleOk ar (l, r, cs)))) rfl (qf (qu (qt (L' := L) [.bool (!(cruleOk ar (l, r, cs)))] (.bool (!(cruleOk ar (l, r, cs)))) (.tmp rfl .nil) rfl rF rF (sD sR) ?_)))))
 exact ⟨rfl, rfl, rfl⟩

/- slices.IndexFunc[[]impl.CRule,impl.CRule] -/
theorem IndexFuncC_spec {F : FH} {L : List HP} {xsv : Value} {xs : List CRuleT} (hxs : CRulesF F xsv xs) {arv : Value} {ar : List Int} (har : IntsF F arv ar) {crv : Value} {cr : List CRuleT} (hcr : CRulesF F crv cr) {b : Nat} (hzb : FzC F b [arv, crv]) (hlt : xs.length ≤ 4000000) :
    Does prog 85 [xsv, .func (.func 55) #[] #[ptr b 0]] F (L) (fun v F' L' => (ii (badG (cruleOk ar) xs) : Value) = v ∧ F = F' ∧ L = L') := by
 refine qL func85 rfl rfl rfl (qg (qd (qj (ii (0)) rfl (qf (qg (qg (qd (qi (xsv) rfl (cX (qE qU rfl hxs.slv (qi (ii (0)) rfl (qf (qQ (jr (α := Nat) (fun k => [(0, xsv), (1, .func (.func 55) #[] #[ptr b 0]), (7, ii ((xs.length : Int))), (8, ii ((k : Int)))]) (fun k => L) (fun k F' => F = F' ∧ (k ≤ xs.length) ∧ (∀ i, i < k → cruleOk ar (xs.getD i ([], [], [])) = true)) (fun k => xs.length - k) 0 ⟨rfl, rfl, rfl, rfl, ⟨⟩⟩ sR ⟨rfl, (by (try dsimp only) <;> omega), (fun i hi => absurd hi (by omega))⟩ ?_))))))))))))))
 rintro k rE _ _ ⟨rfl, hk, hall⟩
 show X _ _ _ _ (envs [(0, xsv), (1, .func (.func 55) #[] #[ptr b 0]), (7, ii ((xs.length : Int))), (8, ii ((k : Int)))] rE) _ (L)
 refine qg (qd (cX (jb rfl rfl (qf (qg ?_)))))
 refine qH (p := (k : Int) < (xs.length : Int)) rfl (fun h1 => ?_) (fun h1 => ?_)
 ·refine qz (qg (qQ (qg (qd (qi (ii ((k : Int))) rfl (qj (ii ((k : Int))) rfl (qf (qg (qd (qi (.func (.func 55) #[] #[ptr b 0]) rfl (qi (xsv) rfl (qi (ii ((k : Int))) rfl (cX (qD k qU jv rfl rfl rfl hxs.slv (by omega) rfl ?_))))))))))))))
  obtain ⟨a1, a2, a3, ha1, ha2, ha3, hrg1, hq1⟩ := hxs.rd (i := k) (by omega)
  refine cX (qs [a1, a2, a3] isAgg51 jv rfl rfl (Rd.all (hrg1 _)) (cX (XOp.callV (first := []) (captured := [ptr b 0]) (args := [.agg #[a1, a2, a3], ptr b 0]) call55 rfl rfl (CSystemOk1_spec ha1 ha2 ha3 har hcr hzb) ?_)))
  rintro _ _ _ _ ⟨rfl, rfl, rfl⟩
  refine qf ?_
  refine js (t := !(cruleOk ar (((xs.getD k ([], [], [])).1), ((xs.getD k ([], [], [])).2.1), ((xs.getD k ([], [], [])).2.2)))) rfl (fun h2 => ?_) (fun h2 => ?_)
  ·refine qg (qd (qi (ii ((k : Int))) rfl (qj (ii ((k : Int))) rfl (qf (qu (qI (ql (ql (qI (ql (qt (L' := L) [ii ((k : Int))] (ii ((k : Int))) (.tmp rfl .nil) rfl rF rF sR ?_)))))))))))
   exact ⟨(vI (badG_at (([], [], []) : CR) (by omega) (by simp_all) hall)), rfl, rfl⟩
  refine qz (qd (cX (qS (((k + 1 : Nat) : Int)) rfl rfl (by omega) (by omega) (qi (ii (((k + 1 : Nat) : Int))) rfl (qf ?_)))))
  exact ⟨k + 1, _, FLe.refl _, rF, ⟨rfl, rfl, rfl, rfl, ⟨⟩⟩, sR, ⟨rfl, (by (try dsimp only) <;> omega), (fun i hi => (Nat.lt_or_ge i k).elim (fun h => hall i h) (fun h => by obtain rfl : i = k := (by omega); simp_all))⟩, (by omega)⟩
 refine jn (qA (qA (qV (qg (qd (qj (ii (-1)) rfl (qf (qu (qt (L' := L) [ii (-1)] (ii (-1)) (.tmp rfl .nil) rfl rF rF sR ?_)))))))))
 exact ⟨(vI (badG_none (([], [], []) : CR) (fun i hi => hall i (by omega)))), rfl, rfl⟩

/- slices.ContainsFunc[[]impl.CRule,impl.CRule] -/
theorem ContainsFuncC_spec {F : FH} {L : List HP} {xsv : Value} {xs : List CRuleT} (hxs : CRulesF F xsv xs) {arv : Value} {ar : List Int} (har : IntsF F arv ar) {crv : Value} {cr : List CRuleT} (hcr : CRulesF F crv cr) {b : Nat} (hzb : FzC F b [arv, crv]) (hlt : xs.length ≤ 4000000) :
    Does prog 54 [xsv, .func (.func 55) #[] #[ptr b 0]] F (L) (fun v F' L' => (.bool (decide (badG (cruleOk ar) xs ≥ 0)) : Value) = v ∧ F = F' ∧ L = L') := by
 refine qL func54 rfl rfl rfl (qg (qd (qj (.bool (false)) rfl (qf (qg (qd (qi (xsv) rfl (qi (.func (.func 55) #[] #[ptr b 0]) rfl (cX (qn (args := [xsv, .func (.func 55) #[] #[ptr b 0]]) call85 rfl (IndexFuncC_spec hxs har hcr hzb (hlt := (by first | assumption | rfl | omega | simp))) ?_))))))))))
 rintro _ _ _ _ ⟨rfl, rfl, rfl⟩
 refine cX (jW rfl rfl (qj (.bool (decide ((badG (cruleOk ar) xs : Int) ≥ 0))) rfl (qf (qu (qt (L' := L) [.bool (decide ((badG (cruleOk ar) xs : Int) ≥ 0))] (.bool (decide ((badG (cruleOk ar) xs : Int) ≥ 0))) (.tmp rfl .nil) rfl rF rF sR ?_)))))
 exact ⟨rfl, rfl, rfl⟩

/- impl.CSystemOk -/
theorem CSystemOk_spec {F : FH} {L : List HP} {arv : Value} {ar : List Int} (har : IntsF F arv ar) {crv : Value} {cr : List CRuleT} (hcr : CRulesF F crv cr) :
    Does prog 29 [.agg #[arv, crv]] F (L) (fun v F' L' => (.bool (csysOk ar cr) : Value) = v ∧ F = F' ∧ L = L') := by
 refine qL func29 rfl rfl rfl (qg (qd (cX (je [arv, crv] rfl rfl ?_))))
 intro b1
 refine qj (.bool (false)) rfl (qf (qg (qg (qd (cX (qq (0) qF rfl qB (by decide) rfl rfl (cX (qs [arv] qW qB rfl rfl (Rd.ownN [] rfl rfl) (cX (qn (args := [.agg #[arv]]) call53 rfl (SigOk_spec har) ?_))))))))))
 rintro _ _ _ _ ⟨rfl, rfl, rfl⟩
 refine cX (jg rfl (qi (.bool (!(sigOk ar))) rfl ?_))
 by_cases h1 : (!(sigOk ar)) = true
 ·refine qp (t := 7) rfl (vB h1) (qp (t := 7) rfl (vB h1) (qp (t := 7) rfl (vB h1) (qp (t := 7) rfl (vB h1) (cX (qN (.bool (true)) (vB h1) rfl (qf (jH rfl (qg (qd (qj (.bool (false)) rfl (qf ?_)))))))))))
  refine qu (ql (qt (L' := L) [.bool (false)] (.bool (false)) (.tmp rfl .nil) rfl rF rF (sD sR) ?_))
  exact ⟨(vB (by unfold csysOk; simp_all <;> omega)), rfl, rfl⟩
 rw [Bool.not_eq_true] at h1
 refine qr (t := 7) rfl (vB h1) (qq (1) qF rfl jp (by decide) rfl rfl (qr (t := 7) rfl (vB h1) (qm jz rfl (Rd.own [] rfl rfl) (qr (t := 7) rfl (vB h1) (qE qU rfl hcr.slv (qr (t := 7) rfl (vB h1) (jF rfl rfl (cX (qM (.bool (decide (((cr.length : Int) : Int) > 12))) (vB h1) rfl (qf ?_))))))))))
 refine qH (p := ((cr.length : Int) : Int) > 12) rfl (fun h2 => ?_) (fun h2 => ?_)
 ·refine qg (qd (qj (.bool (false)) rfl (qf (qu (ql (qt (L' := L) [.bool (false)] (.bool (false)) (.tmp rfl .nil) rfl rF rF (sD sR) ?_))))))
  exact ⟨(vB (by unfold csysOk; simp_all <;> omega)), rfl, rfl⟩
 refine qz (qg (qd (cX (qq (1) qF rfl jp (by decide) rfl rfl (cX (qm jz rfl (Rd.own [] rfl rfl) (cX (XOp.makeFuncL [] [ptr b1 0] rfl rfl (XL.freeze [] _ _ rfl (fun F1 le1 hz1 => ?_))))))))))
 replace har := har.mono le1
 replace hcr := hcr.mono le1
 have hf1 : FzC F1 b1 [arv, crv] := Fz.cells hz1
 refine cX (qn (args := [crv, .func (.func 55) #[] #[ptr b1 0]]) call54 rfl (ContainsFuncC_spec hcr har hcr hf1 (hlt := (by first | assumption | rfl | omega | simp))) ?_)
 rintro _ _ _ _ ⟨rfl, rfl, rfl⟩
 refine cX (XOp.notD rfl (qj (.bool (decide (¬(badG (cruleOk ar) cr ≥ 0)))) rfl (qf (qu (qt (L' := L) [.bool (decide (¬(badG (cruleOk ar) cr ≥ 0)))] (.bool (decide (¬(badG (cruleOk ar) cr ≥ 0)))) (.tmp rfl .nil) rfl rF le1 sR ?_)))))
 exact ⟨(vB (by unfold csysOk; have hb := badG_iff (q := cruleOk ar) (l := cr); cases hA : cr.all (cruleOk ar) <;> simp_all <;> omega)), rfl, rfl⟩

/- (impl.CSystem).depthOk -/
theorem depthOk_spec {F : FH} {L : List HP} {arv : Value} {ar : List Int} (har : IntsF F arv ar) {crv : Value} {cr : List CRuleT} (hcr : CRulesF F crv cr) {tv : Value} {t : List Int} (ht : IntsF F tv t) {z : Int} :
    Does prog 20 [.agg #[arv, crv], tv, ii (z)] F (L) (fun v F' L' => (.bool (depthB ar cr t z) : Value) = v ∧ F = F' ∧ L = L') := by
 refine qL func20 rfl rfl rfl (qg (qd (cX (je [arv, crv] rfl rfl ?_))))
 intro b1
 refine qj (.bool (false)) rfl (qf (qg (qd (cX (qs [arv, crv] qY qK rfl rfl (Rd.ownN [] rfl rfl) (cX (qn (args := [.agg #[arv, crv]]) call29 rfl (CSystemOk_spec har hcr) ?_)))))))
 rintro _ _ _ _ ⟨rfl, rfl, rfl⟩
 refine qi (.bool (csysOk ar cr)) rfl ?_
 by_cases h1 : (csysOk ar cr) = true
 ·refine qr (t := 9) rfl (vB h1) (qq (0) qF rfl qB (by decide) rfl rfl (qr (t := 9) rfl (vB h1) (qs [arv] qW qB rfl rfl (Rd.ownN [] rfl rfl) (qr (t := 9) rfl (vB h1) (qo (tv) rfl (qr (t := 9) rfl (vB h1) (qn (args := [.agg #[arv], tv]) call38 rfl (TermOk_spec har ht) ?_)))))))
  rintro _ _ _ _ ⟨rfl, rfl, rfl⟩
  refine cX (qN (.bool (termOk ar t)) (vB h1) rfl (qi (.bool (termOk ar t)) rfl ?_))
  by_cases h2 : (termOk ar t) = true
  ·refine qr (t := 15) rfl (vB h2) (qo (ii (z)) rfl (qr (t := 15) rfl (vB h2) (jW rfl rfl (cX (qN (.bool (decide ((z : Int) ≥ 0))) (vB h2) rfl (qi (.bool (decide ((z : Int) ≥ 0))) rfl ?_))))))
   by_cases h3 : (z : Int) ≥ 0
   ·refine qr (t := 19) rfl (vT h3) (qo (ii (z)) rfl (qr (t := 19) rfl (vT h3) (XOp.leq rfl rfl (cX (qN (.bool (decide ((z : Int) ≤ 2))) (vT h3) rfl (qj (.bool (decide ((z : Int) ≤ 2))) rfl (qf (qu (qt (L' := L) [.bool (decide ((z : Int) ≤ 2))] (.bool (decide ((z : Int) ≤ 2))) (.tmp rfl .nil) rfl rF rF (sD sR) ?_)))))))))
    exact ⟨(vB (by unfold depthB; simp_all <;> omega)), rfl, rfl⟩
   refine qp (t := 19) rfl (vF h3) (qp (t := 19) rfl (vF h3) (cX (qM (.bool (false)) (vF h3) rfl (qj (.bool (false)) rfl (qf (qu (qt (L' := L) [.bool (false)] (.bool (false)) (.tmp rfl .nil) rfl rF rF (sD sR) ?_)))))))
   exact ⟨(vB (by unfold depthB; simp_all <;> omega)), rfl, rfl⟩
  rw [Bool.not_eq_true] at h2
  refine qp (t := 15) rfl (vB h2) (qp (t := 15) rfl (vB h2) (cX (qM (.bool (false)) (vB h2) rfl (qi (.bool (false)) rfl (qp (t := 19) rfl rfl (qp (t := 19) rfl rfl (cX (qM (.bool (false)) rfl rfl (qj (.bool (false)) rfl (qf (qu (qt (L' := L) [.bool (false)] (.bool (false)) (.tmp rfl .nil) rfl rF rF (sD sR) ?_))))))))))))
  exact ⟨(vB (by unfold depthB; simp_all <;> omega)), rfl, rfl⟩
 rw [Bool.not_eq_true] at h1
 refine qp (t := 9) rfl (vB h1) (qp (t := 9) rfl (vB h1) (qp (t := 9) rfl (vB h1) (qp (t := 9) rfl (vB h1) (cX (qM (.bool (false)) (vB h1) rfl (qi (.bool (false)) rfl (qp (t := 15) rfl rfl (qp (t := 15) rfl rfl (cX (qM (.bool (false)) rfl rfl (qi (.bool (false)) rfl ?_)))))))))))
 refine qp (t := 19) rfl rfl (qp (t := 19) rfl rfl (cX (qM (.bool (false)) rfl rfl (qj (.bool (false)) rfl (qf (qu (qt (L' := L) [.bool (false)] (.bool (false)) (.tmp rfl .nil) rfl rF rF (sD sR) ?_)))))))
 exact ⟨(vB (by unfold depthB; simp_all <;> omega)), rfl, rfl⟩

/- (impl.CSystem).step -/
set_option maxHeartbeats 2000000 in
set_option maxRecDepth 20000 in
theorem cstep_step {d : Nat} (ih : ∀ m : Nat, m < d → ∀ {F : FH} {L : List HP}  {arv : Value} {ar : List Int} (har : IntsF F arv ar) {crv : Value} {cr : List CRuleT} (hcr : CRulesF F crv cr) {tv : Value} {t : List Int} (ht : IntsF F tv t) (hc : csysOk ar cr = true) (ho : termOk ar t = true) (hd2 : m ≤ 2), Does prog 21 [.agg #[arv, crv], tv, ii ((m : Int))] F L (fun v F' L' => (∃ (a : Value), (.tuple #[a, .bool ((normC ar cr m t).isSome)] : Value) = v ∧ (IntsF F' a ((normC ar cr m t).getD []))) ∧ L = L')) {F : FH} {L : List HP}  {arv : Value} {ar : List Int} (har : IntsF F arv ar) {crv : Value} {cr : List CRuleT} (hcr : CRulesF F crv cr) {tv : Value} {t : List Int} (ht : IntsF F tv t) {p : Nat} {lv : Value} {l : List Int} (hl : IntsF F lv l) {rv : Value} {r : List Int} (hr : IntsF F rv r) {csv : Value} {cs : List (List Int × List Int)} (hcs : PairsF F csv cs) (hc : csysOk ar cr = true) (ho : termOk ar t = true) (hd2 : d ≤ 2) (hp : p < t.length) (hR : CRuleOk ar (l, r, cs)) :
    Does prog 32 [.agg #[arv, crv], tv, ii ((p : Int)), .agg #[lv, rv, csv], ii ((d : Int))] F (L) (fun v F' L' => (∃ (a : Value), (.tuple #[a, .bool ((stepD ar cr d (l, r, cs) t p).isSome)] : Value) = v ∧ (IntsF F' a ((stepD ar cr d (l, r, cs) t p).getD [])) ∧ (Fresh F F' (intsH 2 a ((stepD ar cr d (l, r, cs) t p).getD [])))) ∧ L = L') := by
 refine qL func32 rfl rfl rfl ?_
 have hsl := sigOk_spec (termOk_sig ho)
 have htl := termOk_len ho
 have hcl := (csysOk_iff.1 hc).2.1
 have hRl : termOk ar l = true := hR.left
 have hRr : termOk ar r = true := hR.right
 have hRn : cs.length ≤ 2 := hR.len
 have hRc : ∀ i, i < cs.length → termOk ar (cs.getD i ([], [])).1 = true ∧ termOk ar (cs.getD i ([], [])).2 = true := hR.conds
 have hll := termOk_len hRl
 have hrl := termOk_len hRr
 have hlg := fun k (hk : k < l.length) => termOk_ge hRl hk
 have hrg := fun k (hk : k < r.length) => termOk_ge hRr hk
 have hso := sub_ok ho hp
 have hsl2 := termOk_len hso
 refine qg (qd (cX (je [arv, crv] rfl rfl ?_)))
 intro b1
 refine cX (je [lv, rv, csv] rfl rfl ?_)
 intro b2
 refine qj (sN) rfl (qj (.bool (false)) rfl (qf (qg ?_)))
 refine jG [cellsH b2 [lv, rv, csv] 51, cellsH b1 [arv, crv] 29] L 16 [[], [], [], [], [], [], [], [], [], [], [], [10], [10], [], [], [10, 14]] [[], [0], [], [2], [], [4], [], [], [5, 6, 7], [], [1, 3, 8, 9], [10], [10, 11], [10, 11], [], [10, 12, 14]] [[], [], [], [], [], [], [], [], [], [], [], [], [], [], [], [14]] (phiG [pe (ptr b1 0), pe (.agg #[arv]), pe (ptr b2 0), pe lv, pe (ptr b1 0), pe (.agg #[arv]), pe tv, pe (ii ((p : Int)) : Value), fun FF us v => ((v) : Value) = v ∧ (IntsF FF (v) (sub ar t p)) ∧ (isNil (v) = false), pe (.agg (List.replicate 24 (sN)).toArray), fun FF us v => (.tuple #[.agg (((aggL (tupAt v 0)))).toArray, .bool ((mGo ar ((sub ar t p)) l 0 (List.replicate 24 ([] : List Int))).isSome)] : Value) = v ∧ (SomeBindsF FF ((aggL (tupAt v 0))) (fun bl => (bl.length = 24) ∧ (∀ r, mGo ar ((sub ar t p)) l 0 (List.replicate 24 ([] : List Int)) = some r → bl = r))), fun FF us v => v = (.tuple #[.agg (((aggL (tupAt (us.getD 0 undef) 0)))).toArray, .bool ((mGo ar ((sub ar t p)) l 0 (List.replicate 24 ([] : List Int))).isSome)] : Value), fun FF us v => v = (.agg (((aggL (tupAt (us.getD 0 undef) 0)))).toArray : Value), pe (.bool ((mGo ar ((sub ar t p)) l 0 (List.replicate 24 ([] : List Int))).isSome) : Value), fun FF us v => v = ptr (blk v) 0, fun FF us v => True]) (ownL [o0, o0, o0, o0, o0, o0, o0, o0, o0, o0, o0, o0, o0, o0, fun us v => [cellsH (blk v) (List.replicate 24 (sN)) 89], fun us v => [cellsH (blk (us.getD 1 undef)) (((aggL (tupAt (us.getD 0 undef) 0)))) 89]]) mixed rfl rfl (by kernel_rfl) (by kernel_rfl) (MonoG.get (m1 (m1 (m1 (m1 (m1 (m1 (m1 (m1 (mC (fun le h => ⟨h.1, h.2.1.mono le, h.2.2⟩) (m1 (mC (fun le h => ⟨h.1, h.2.mono le⟩) (mC (fun le h => h) (mC (fun le h => h) (m1 (mC (fun le h => h) (mC (fun le h => h) MonoG.nil))))))))))))))))) ?_ ?_
 ·refine gD (fun W Fs R lF z9 => ?_) ?_
  ·refine qk (qq (0) qF rfl qB (by decide) rfl rfl ?_)
   exact ⟨rfl, rfl⟩
  refine gD (fun W Fs R lF z9 => ?_) ?_
  ·replace har := har.mono lF
   replace hcr := hcr.mono lF
   replace ht := ht.mono lF
   replace hl := hl.mono lF
   replace hr := hr.mono lF
   replace hcs := hcs.mono lF
   rw [zA 0 (z9 0 rfl)]
   refine qk (qs [arv] qW qB rfl rfl (Rd.ownN [_] rfl rfl) ?_)
   exact ⟨rfl, rfl⟩
  refine gD (fun W Fs R lF z9 => ?_) ?_
  ·refine qk (qq (0) qR rfl qy (by decide) rfl rfl ?_)
   exact ⟨rfl, rfl⟩
  refine gD (fun W Fs R lF z9 => ?_) ?_
  ·replace har := har.mono lF
   replace hcr := hcr.mono lF
   replace ht := ht.mono lF
   replace hl := hl.mono lF
   replace hr := hr.mono lF
   replace hcs := hcs.mono lF
   rw [zA 2 (z9 2 rfl)]
   refine qk (qm qX rfl (Rd.own [] rfl rfl) ?_)
   exact ⟨rfl, rfl⟩
  refine gD (fun W Fs R lF z9 => ?_) ?_
  ·refine qk (qq (0) qF rfl qB (by decide) rfl rfl ?_)
   exact ⟨rfl, rfl⟩
  refine gD (fun W Fs R lF z9 => ?_) ?_
  ·replace har := har.mono lF
   replace hcr := hcr.mono lF
   replace ht := ht.mono lF
   replace hl := hl.mono lF
   replace hr := hr.mono lF
   replace hcs := hcs.mono lF
   rw [zA 4 (z9 4 rfl)]
   refine qk (qs [arv] qW qB rfl rfl (Rd.ownN [_] rfl rfl) ?_)
   exact ⟨rfl, rfl⟩
  refine gD (fun W Fs R lF z9 => ?_) ?_
  ·refine qk (qo (tv) rfl ?_)
   exact ⟨rfl, rfl⟩
  refine gD (fun W Fs R lF z9 => ?_) ?_
  ·refine qk (qo (ii ((p : Int))) rfl ?_)
   exact ⟨rfl, rfl⟩
  refine gD (fun W Fs R lF z9 => ?_) ?_
  ·replace har := har.mono lF
   replace hcr := hcr.mono lF
   replace ht := ht.mono lF
   replace hl := hl.mono lF
   replace hr := hr.mono lF
   replace hcs := hcs.mono lF
   rw [eS (l := [(5, _), (6, _), (7, _)]) ⟨z9 5 rfl, z9 6 rfl, z9 7 rfl, ⟨⟩⟩]
   refine qk (qn (args := [.agg #[arv], tv, ii (p : Int)]) call59 rfl (subAt_spec (p := p) har ht (ho := (by first | assumption | rfl | omega | simp)) (hp := (by first | assumption | rfl | omega | simp)) (hnn := (notNil_of_pos ht (by omega)))) ?_)
   rintro v2 _ _ _ ⟨rfl, rfl, hv2, hn2⟩
   exact ⟨⟨rfl, hv2, hn2⟩, rfl⟩
  refine gD (fun W Fs R lF z9 => ?_) ?_
  ·replace har := har.mono lF
   replace hcr := hcr.mono lF
   replace ht := ht.mono lF
   replace hl := hl.mono lF
   replace hr := hr.mono lF
   replace hcs := hcs.mono lF
   refine qk (XOp.build0 (List.replicate 24 (sN)) runUnderlying89 ⟨_, qy⟩ zeroValue89 rfl ?_)
   exact ⟨rfl, rfl⟩
  refine gD (fun W Fs R lF z9 => ?_) ?_
  ·obtain ⟨e8, f8_1ha, f8_1hn⟩ := z9 8 rfl
   replace har := har.mono lF
   replace hcr := hcr.mono lF
   replace ht := ht.mono lF
   replace hl := hl.mono lF
   replace hr := hr.mono lF
   replace hcs := hcs.mono lF
   rw [eS (l := [(1, _), (3, _), (8, ((W 8))), (9, _)]) ⟨z9 1 rfl, z9 3 rfl, (e8).symm, z9 9 rfl, ⟨⟩⟩]
   refine qk (qn (args := [.agg #[arv], lv, ((W 8)), .agg (List.replicate 24 (sN)).toArray]) call58 rfl (matchInto_spec har hl f8_1ha ((BindC.nils 24)) ((by first | assumption | rfl | simp | omega)) (ho := (by first | assumption | rfl | omega | simp)) (hpl := (by first | assumption | rfl | omega | simp)) (hpg := (by first | exact hlg | exact hcg2))) ?_)
   rintro _ _ _ _ ⟨rfl, x3, x4, rfl, hr4, hr5, hr6, rfl⟩
   exact ⟨⟨rfl, ⟨_, hr4, hr5, hr6⟩⟩, rfl⟩
  refine gD (fun W Fs R lF z9 => ?_) ?_
  ·obtain ⟨e10, f10_1hp_bs⟩ := z9 10 rfl
   obtain ⟨t10X1_bs, f10_1hp_bs, q10_1_bs0, q10_1_bs1⟩ := f10_1hp_bs
   rw [eS (l := [(10, (.tuple #[.agg (((aggL (tupAt (W 10) 0)))).toArray, .bool ((mGo ar ((sub ar t p)) l 0 (List.replicate 24 ([] : List Int))).isSome)]))]) ⟨(e10).symm, ⟨⟩⟩]
   refine qk (qo (.tuple #[.agg (((aggL (tupAt (W 10) 0)))).toArray, .bool ((mGo ar ((sub ar t p)) l 0 (List.replicate 24 ([] : List Int))).isSome)]) rfl ?_)
   exact ⟨rfl, rfl⟩
  refine gD (fun W Fs R lF z9 => ?_) ?_
  ·obtain ⟨e10, f10_1hp_bs⟩ := z9 10 rfl
   obtain ⟨t10X1_bs, f10_1hp_bs, q10_1_bs0, q10_1_bs1⟩ := f10_1hp_bs
   have e11 : W 11 = (.tuple #[.agg (((aggL (tupAt (W 10) 0)))).toArray, .bool ((mGo ar ((sub ar t p)) l 0 (List.replicate 24 ([] : List Int))).isSome)] : Value) := z9 11 rfl
   rw [eS (l := [(10, (.tuple #[.agg (((aggL (tupAt (W 10) 0)))).toArray, .bool ((mGo ar ((sub ar t p)) l 0 (List.replicate 24 ([] : List Int))).isSome)])), (11, (.tuple #[.agg (((aggL (tupAt (W 10) 0)))).toArray, .bool ((mGo ar ((sub ar t p)) l 0 (List.replicate 24 ([] : List Int))).isSome)]))]) ⟨(e10).symm, e11, ⟨⟩⟩]
   refine qk (qG (.agg (((aggL (tupAt (W 10) 0)))).toArray) rfl rfl ?_)
   exact ⟨rfl, rfl⟩
  refine gD (fun W Fs R lF z9 => ?_) ?_
  ·obtain ⟨e10, f10_1hp_bs⟩ := z9 10 rfl
   obtain ⟨t10X1_bs, f10_1hp_bs, q10_1_bs0, q10_1_bs1⟩ := f10_1hp_bs
   have e11 : W 11 = (.tuple #[.agg (((aggL (tupAt (W 10) 0)))).toArray, .bool ((mGo ar ((sub ar t p)) l 0 (List.replicate 24 ([] : List Int))).isSome)] : Value) := z9 11 rfl
   rw [eS (l := [(10, (.tuple #[.agg (((aggL (tupAt (W 10) 0)))).toArray, .bool ((mGo ar ((sub ar t p)) l 0 (List.replicate 24 ([] : List Int))).isSome)])), (11, (.tuple #[.agg (((aggL (tupAt (W 10) 0)))).toArray, .bool ((mGo ar ((sub ar t p)) l 0 (List.replicate 24 ([] : List Int))).isSome)]))]) ⟨(e10).symm, e11, ⟨⟩⟩]
   refine qk (qG (.bool ((mGo ar ((sub ar t p)) l 0 (List.replicate 24 ([] : List Int))).isSome)) rfl rfl ?_)
   exact ⟨rfl, rfl⟩
  refine gD (fun W Fs R lF z9 => ?_) ?_
  ·replace har := har.mono lF
   replace hcr := hcr.mono lF
   replace ht := ht.mono lF
   replace hr := hr.mono lF
   replace hcs := hcs.mono lF
   refine qk (jm (List.replicate 24 (sN)) zeroValue89 rfl ?_)
   intro b4
   exact ⟨rfl, rfl⟩
  refine gD (fun W Fs R lF z9 => ?_) ?_
  ·obtain ⟨e10, f10_1hp_bs⟩ := z9 10 rfl
   obtain ⟨t10X1_bs, f10_1hp_bs, q10_1_bs0, q10_1_bs1⟩ := f10_1hp_bs
   have e12 : W 12 = (.agg (((aggL (tupAt (W 10) 0)))).toArray : Value) := z9 12 rfl
   have e14 : W 14 = ptr (blk (W 14)) 0 := z9 14 rfl
   replace har := har.mono lF
   replace hcr := hcr.mono lF
   replace ht := ht.mono lF
   replace hr := hr.mono lF
   replace hcs := hcs.mono lF
   rw [eS (l := [(10, (.tuple #[.agg (((aggL (tupAt (W 10) 0)))).toArray, .bool ((mGo ar ((sub ar t p)) l 0 (List.replicate 24 ([] : List Int))).isSome)])), (12, (.agg (((aggL (tupAt (W 10) 0)))).toArray)), (14, ptr (blk (W 14)) 0)]) ⟨(e10).symm, e12, e14, ⟨⟩⟩]
   show XG _ _ _ _ _ (cellsH (blk (W 14)) (List.replicate 24 (sN)) 89 :: ([cellsH b2 [lv, rv, csv] 51, cellsH b1 [arv, crv] 29] ++ R)) _
   refine qk (qO [] _ (((aggL (tupAt (W 10) 0)))) jX rfl rfl (by have := CO.len f10_1hp_bs; (try simp only [List.length_set, List.length_replicate] at this ⊢) <;> omega) f10_1hp_bs.ones rfl (Nat.ble_eq_true_of_le (Nat.le_of_eq (by (try simp only [List.length_replicate]) <;> omega))) (arr_over (by (try simp only [List.length_replicate]) <;> omega)) ?_)
   exact ⟨trivial, rfl⟩
  exact stepsG.nil
 intro W F3 le3 hphi
 obtain ⟨e8, f8_1ha, f8_1hn⟩ := hphi 8 (by decide)
 obtain ⟨e10, f10_1hp_bs⟩ := hphi 10 (by decide)
 obtain ⟨t10X1_bs, f10_1hp_bs, q10_1_bs0, q10_1_bs1⟩ := f10_1hp_bs
 have e11 : W 11 = (.tuple #[.agg (((aggL (tupAt (W 10) 0)))).toArray, .bool ((mGo ar ((sub ar t p)) l 0 (List.replicate 24 ([] : List Int))).isSome)] : Value) := hphi 11 (by decide)
 have e12 : W 12 = (.agg (((aggL (tupAt (W 10) 0)))).toArray : Value) := hphi 12 (by decide)
 have e14 : W 14 = ptr (blk (W 14)) 0 := hphi 14 (by decide)
 generalize hu1 : ((W 8)) = u1 at e8 f8_1ha f8_1hn e10 f10_1hp_bs e11 e12 e14
 generalize hu2 : ((aggL (tupAt (W 10) 0))) = u2 at e8 f8_1ha f8_1hn e10 f10_1hp_bs e11 e12 e14
 generalize hu3 : blk (W 14) = b5 at e8 f8_1ha f8_1hn e10 f10_1hp_bs e11 e12 e14
 rw [eS (l := [(10, (.tuple #[.agg (u2).toArray, .bool ((mGo ar ((sub ar t p)) l 0 (List.replicate 24 ([] : List Int))).isSome)])), (13, _), (14, ptr b5 0)]) ⟨(e10).symm, (hphi 13 (by decide)), e14, ⟨⟩⟩]
 replace har := har.mono le3
 replace hcr := hcr.mono le3
 replace ht := ht.mono le3
 replace hr := hr.mono le3
 replace hcs := hcs.mono le3
 show XL _ _ _ _ _ _ _ (cellsH b5 u2 89 :: cellsH b2 [lv, rv, csv] 51 :: cellsH b1 [arv, crv] 29 :: L)
 refine qj (.bool ((mGo ar ((sub ar t p)) l 0 (List.replicate 24 ([] : List Int))).isSome)) rfl (qf (qg (qg (qd ?_))))
 skip
 refine qi (.bool ((mGo ar ((sub ar t p)) l 0 (List.replicate 24 ([] : List Int))).isSome)) rfl (cX (jg rfl (qi (.bool (!((mGo ar ((sub ar t p)) l 0 (List.replicate 24 ([] : List Int))).isSome))) rfl ?_)))
 by_cases h1 : (!((mGo ar ((sub ar t p)) l 0 (List.replicate 24 ([] : List Int))).isSome)) = true
 ·have hmN := Bool.not_inj (y := false) h1
  refine qp (t := 36) rfl (vB h1) (qp (t := 36) rfl (vB h1) (qp (t := 36) rfl (vB h1) (qp (t := 36) rfl (vB h1) (qp (t := 36) rfl (vB h1) (XL.noU (t := 41) rfl rfl (XL.noU (t := 41) rfl rfl (qp (t := 36) rfl (vB h1) (cX (qN (.bool (true)) (vB h1) rfl (qf ?_))))))))))
  refine jH rfl (qg (qd (qj (sN) rfl (qj (.bool (false)) rfl (qf (qu (ql (qt (L' := L) [sN, .bool (false)] (.tuple #[sN, .bool (false)]) (.tmp rfl (.tmp rfl .nil)) rfl le3 rF (sD (sD (sD sR))) ?_))))))))
  have e : stepD ar cr d (l, r, cs) t p = none := by first | exact stepD_none (given_none hmN) | exact stepD_nofill hgs hf2 | exact stepD_none (hgo.trans (condD_nofill hk9 hf0)) | exact stepD_none (hgo.trans (condD_nonorm hd9 hk9 hf1 hn0)) | exact stepD_none (hgo.trans (condD_nomatch hd9 hk9 hf1 hn1 hm9)) | exact stepD_none (given_zero hm0 (by (try dsimp only); omega) (by omega))
  exact ⟨⟨_, by rw [e]; rfl, by rw [e]; exact IntsF.nilV, by rw [e]; exact Fresh.ofNil _⟩, rfl⟩
 rw [Bool.not_eq_true] at h1
 have hm0 := opt_is (Bool.not_inj (y := true) h1) (by assumption)
 refine qr (t := 36) rfl (vB h1) (qq (2) qR rfl jx (by decide) rfl rfl (qr (t := 36) rfl (vB h1) (qm isAgg49 rfl (Rd.own [_] rfl rfl) (qr (t := 36) rfl (vB h1) (qE jh rfl hcs.slv (qr (t := 36) rfl (vB h1) (jF rfl rfl (qr (t := 36) rfl (vB h1) (qo (.bool (decide (((cs.length : Int) : Int) > 0))) rfl ?_)))))))))
 by_cases h2 : ((cs.length : Int) : Int) > 0
 ·refine qr (t := 41) rfl (vT h2) (qo (ii ((d : Int))) rfl (qr (t := 41) rfl (vT h2) (jD rfl rfl (qr (t := 36) rfl (vB h1) (qN (.bool (decide ((d : Int) = 0))) (vT h2) rfl (cX (qM (.bool (decide ((d : Int) = 0))) (vB h1) rfl (qf ?_))))))))
  refine qH (p := (d : Int) = 0) rfl (fun h3 => ?_) (fun h3 => ?_)
  ·refine qg (qd (qj (sN) rfl (qj (.bool (false)) rfl (qf (qu (ql (qt (L' := L) [sN, .bool (false)] (.tuple #[sN, .bool (false)]) (.tmp rfl (.tmp rfl .nil)) rfl le3 rF (sD (sD (sD sR))) ?_)))))))
   have e : stepD ar cr d (l, r, cs) t p = none := by first | exact stepD_none (given_none hmN) | exact stepD_nofill hgs hf2 | exact stepD_none (hgo.trans (condD_nofill hk9 hf0)) | exact stepD_none (hgo.trans (condD_nonorm hd9 hk9 hf1 hn0)) | exact stepD_none (hgo.trans (condD_nomatch hd9 hk9 hf1 hn1 hm9)) | exact stepD_none (given_zero hm0 (by (try dsimp only); omega) (by omega))
   exact ⟨⟨_, by rw [e]; rfl, by rw [e]; exact IntsF.nilV, by rw [e]; exact Fresh.ofNil _⟩, rfl⟩
  refine qz (qg (qg (qd (cX (qq (2) qR rfl jx (by decide) rfl rfl (cX (qm isAgg49 rfl (Rd.own [_] rfl rfl) (cX (qE jh rfl hcs.slv (qi (ii (0)) rfl (qf (qQ (jr (α := Nat × List Value × RowL × FH) (fun xQ => [(1, tv), (2, ii ((p : Int))), (4, ii ((d : Int))), (5, ptr b1 0), (8, ptr b2 0), (12, ptr b5 0), (47, csv), (48, ii ((cs.length : Int))), (49, ii (((xQ.1 : Nat) : Int)))]) (fun xQ => cellsH b5 xQ.2.1 89 :: cellsH b2 [lv, rv, csv] 51 :: cellsH b1 [arv, crv] 29 :: L) (fun xQ F' => xQ.2.2.2 = F' ∧ F3 ≤ xQ.2.2.2 ∧ (BindC xQ.2.2.2 xQ.2.1 xQ.2.2.1) ∧ (xQ.2.2.1.length = 24) ∧ (RowsOk ar xQ.2.2.1) ∧ (xQ.1 ≤ cs.length) ∧ (givenD ar cr d (sub ar t p) (l, r, cs) = condD ar cr d xQ.2.2.1 (cs.drop xQ.1))) (fun xQ => cs.length - xQ.1) (0, u2, t10X1_bs, F3) ⟨rfl, rfl, rfl, rfl, rfl, rfl, rfl, rfl, rfl, ⟨⟩⟩ (sC (sC (sC sR))) ⟨rfl, FLe.refl _, (f10_1hp_bs), (q10_1_bs0), (mGo_ok hso _ _ _ _ hm0 RowsOk.nil24), (Nat.zero_le _), (by first | exact given_go hm0 (.inr (by omega)) | exact given_go hm0 (.inl (by (try dsimp only); omega)))⟩ ?_)))))))))))))
  rintro ⟨k, bs, bl, G1⟩ rE _ _ ⟨rfl, leG, hbc, hbn, hbo, hk, hgo⟩
  show X _ _ _ _ (envs [(1, tv), (2, ii ((p : Int))), (4, ii ((d : Int))), (5, ptr b1 0), (8, ptr b2 0), (12, ptr b5 0), (47, csv), (48, ii ((cs.length : Int))), (49, ii ((k : Int)))] rE) _ (cellsH b5 bs 89 :: cellsH b2 [lv, rv, csv] 51 :: cellsH b1 [arv, crv] 29 :: L)
  replace leG : F3 ≤ G1 := leG
  dsimp only at hbc hbn hbo hk hgo
  have hbl := hbo.len
  have hcd := fun (h : k < cs.length) => hRc k h
  have leG1 := leG
  replace har := har.mono leG1
  replace hcr := hcr.mono leG1
  replace ht := ht.mono leG1
  replace hr := hr.mono leG1
  replace hcs := hcs.mono leG1
  replace f10_1hp_bs := f10_1hp_bs.mono leG1
  refine qg (qd (cX (jb rfl rfl (qf (qg ?_)))))
  refine qH (p := (k : Int) < (cs.length : Int)) rfl (fun h4 => ?_) (fun h4 => ?_)
  ·have hd9 : d ≠ 0 := by omega
   have hk9 : k < cs.length := by omega
   have hc1 := (hcd hk9).1
   have hc2 := (hcd hk9).2
   have hcl1 := termOk_len hc1
   have hcl2 := termOk_len hc2
   have hcg1 := fun i (hi : i < (cs.getD k ([], [])).1.length) => termOk_ge hc1 hi
   have hcg2 := fun i (hi : i < (cs.getD k ([], [])).2.length) => termOk_ge hc2 hi
   refine qz (qg (qQ (qg (qd (cX (qD k jh jK rfl rfl rfl hcs.slv (by omega) rfl ?_))))))
   obtain ⟨a1, a2, ha1, ha2, hr7, hr8⟩ := hcs.rd (i := k) (by omega)
   refine cX (qs [a1, a2] isAgg71 jK rfl rfl (Rd.two (hr7 _) (hr8 _)) (cX (jm [sN, sN] jM rfl ?_)))
   intro b6
   refine cX (qO [] _ [a1, a2] jK rfl rfl rfl (qw (qJ (qv ha1)) (qw (qJ (qv ha2)) qT)) rfl rfl rfl (qf (qg ?_)))
   refine jG [cellsH b6 [a1, a2] 71, cellsH b5 bs 89, cellsH b2 [lv, rv, csv] 51, cellsH b1 [arv, crv] 29] L 9 [[], [], [], [], [], [4], [4], [], [4]] [[], [0], [], [2], [1, 3], [4], [4, 5], [4, 5], [4, 6]] [] (phiG [pe (.agg (bs).toArray), fun FF us v => (.agg #[((aggAt v 0))] : Value) = v ∧ (RowsF FF ((aggAt v 0)) bl), pe (ptr b6 0), pe a1, fun FF us v => (.tuple #[((tupAt v 0)), .bool ((fillL bl ((cs.getD k ([], [])).1)).isSome)] : Value) = v ∧ (IntsF FF ((tupAt v 0)) ((fillL bl ((cs.getD k ([], [])).1)).getD [])), fun FF us v => v = (.tuple #[((tupAt (us.getD 0 undef) 0)), .bool ((fillL bl ((cs.getD k ([], [])).1)).isSome)] : Value), fun FF us v => v = ((tupAt (us.getD 0 undef) 0)), pe (.bool ((fillL bl ((cs.getD k ([], [])).1)).isSome)), fun FF us v => v = ((tupAt (us.getD 0 undef) 0))]) (ownL []) mixed rfl rfl (by kernel_rfl) (by kernel_rfl) (MonoG.get (m1 (mC (fun le h => ⟨h.1, h.2.mono le⟩) (m1 (m1 (mC (fun le h => ⟨h.1, h.2.mono le⟩) (mC (fun le h => h) (mC (fun le h => h) (m1 (mC (fun le h => h) MonoG.nil)))))))))) ?_ ?_
   ·refine gD (fun W Fs R lF z9 => ?_) ?_
    ·replace har := har.mono lF
     replace hcr := hcr.mono lF
     replace ht := ht.mono lF
     replace hr := hr.mono lF
     replace hcs := hcs.mono lF
     replace f10_1hp_bs := f10_1hp_bs.mono lF
     replace hbc := hbc.mono lF
     replace ha1 := ha1.mono lF
     replace ha2 := ha2.mono lF
     refine qk (qs bs isAgg89 jX (by have := CO.len hbc; (try simp only [List.length_set, List.length_replicate] at this ⊢) <;> omega) rfl (Rd.ownN [_] rfl take_all) ?_)
     exact ⟨rfl, rfl⟩
    refine gD (fun W Fs R lF z9 => ?_) ?_
    ·replace har := har.mono lF
     replace hcr := hcr.mono lF
     replace ht := ht.mono lF
     replace hr := hr.mono lF
     replace hcs := hcs.mono lF
     replace f10_1hp_bs := f10_1hp_bs.mono lF
     replace hbc := hbc.mono lF
     replace ha1 := ha1.mono lF
     replace ha2 := ha2.mono lF
     rw [zA 0 (z9 0 rfl)]
     refine qk (qn (args := [.agg (bs).toArray]) call61 rfl (subst_spec hbc ((by first | assumption | rfl | simp | omega))) ?_)
     rintro _ F6 _ le6 ⟨x7, rfl, hr12, rfl⟩
     replace har := har.mono le6
     replace hcr := hcr.mono le6
     replace ht := ht.mono le6
     replace hr := hr.mono le6
     replace hcs := hcs.mono le6
     replace f10_1hp_bs := f10_1hp_bs.mono le6
     replace hbc := hbc.mono le6
     replace ha1 := ha1.mono le6
     replace ha2 := ha2.mono le6
     exact ⟨⟨rfl, hr12⟩, rfl⟩
    refine gD (fun W Fs R lF z9 => ?_) ?_
    ·refine qk (qq (0) jw rfl qy (by decide) rfl rfl ?_)
     exact ⟨rfl, rfl⟩
    refine gD (fun W Fs R lF z9 => ?_) ?_
    ·replace har := har.mono lF
     replace hcr := hcr.mono lF
     replace ht := ht.mono lF
     replace hr := hr.mono lF
     replace hcs := hcs.mono lF
     replace f10_1hp_bs := f10_1hp_bs.mono lF
     replace hbc := hbc.mono lF
     replace ha1 := ha1.mono lF
     replace ha2 := ha2.mono lF
     rw [zA 2 (z9 2 rfl)]
     refine qk (qm qX rfl (Rd.own [] rfl rfl) ?_)
     exact ⟨rfl, rfl⟩
    refine gD (fun W Fs R lF z9 => ?_) ?_
    ·obtain ⟨e1, f1_2hr⟩ := z9 1 rfl
     replace har := har.mono lF
     replace hcr := hcr.mono lF
     replace ht := ht.mono lF
     replace hr := hr.mono lF
     replace hcs := hcs.mono lF
     replace f10_1hp_bs := f10_1hp_bs.mono lF
     replace hbc := hbc.mono lF
     replace ha1 := ha1.mono lF
     replace ha2 := ha2.mono lF
     rw [eS (l := [(1, (.agg #[((aggAt (W 1) 0))])), (3, _)]) ⟨(e1).symm, z9 3 rfl, ⟨⟩⟩]
     refine qk (qn (args := [.agg #[((aggAt (W 1) 0))], a1]) call60 rfl (fill_spec f1_2hr ha1 (hsl := (by omega)) (hsb := (fun i => by have := hbl i; omega)) (htl := (by omega)) (htg := (fun i hi => by first | (have := hcg1 i hi; omega) | (have := hrg i hi; omega)))) ?_)
     rintro _ F7 _ le7 ⟨x8, rfl, hr13, hr14, rfl⟩
     replace har := har.mono le7
     replace hcr := hcr.mono le7
     replace ht := ht.mono le7
     replace hr := hr.mono le7
     replace hcs := hcs.mono le7
     replace f10_1hp_bs := f10_1hp_bs.mono le7
     replace hbc := hbc.mono le7
     replace ha2 := ha2.mono le7
     replace f1_2hr := f1_2hr.mono le7
     exact ⟨⟨rfl, hr13⟩, rfl⟩
    refine gD (fun W Fs R lF z9 => ?_) ?_
    ·obtain ⟨e4, f4_2hr⟩ := z9 4 rfl
     rw [eS (l := [(4, (.tuple #[((tupAt (W 4) 0)), .bool ((fillL bl ((cs.getD k ([], [])).1)).isSome)]))]) ⟨(e4).symm, ⟨⟩⟩]
     refine qk (qo (.tuple #[((tupAt (W 4) 0)), .bool ((fillL bl ((cs.getD k ([], [])).1)).isSome)]) rfl ?_)
     exact ⟨rfl, rfl⟩
    refine gD (fun W Fs R lF z9 => ?_) ?_
    ·obtain ⟨e4, f4_2hr⟩ := z9 4 rfl
     have e5 : W 5 = (.tuple #[((tupAt (W 4) 0)), .bool ((fillL bl ((cs.getD k ([], [])).1)).isSome)] : Value) := z9 5 rfl
     rw [eS (l := [(4, (.tuple #[((tupAt (W 4) 0)), .bool ((fillL bl ((cs.getD k ([], [])).1)).isSome)])), (5, (.tuple #[((tupAt (W 4) 0)), .bool ((fillL bl ((cs.getD k ([], [])).1)).isSome)]))]) ⟨(e4).symm, e5, ⟨⟩⟩]
     refine qk (qG (((tupAt (W 4) 0))) rfl rfl ?_)
     exact ⟨rfl, rfl⟩
    refine gD (fun W Fs R lF z9 => ?_) ?_
    ·obtain ⟨e4, f4_2hr⟩ := z9 4 rfl
     have e5 : W 5 = (.tuple #[((tupAt (W 4) 0)), .bool ((fillL bl ((cs.getD k ([], [])).1)).isSome)] : Value) := z9 5 rfl
     rw [eS (l := [(4, (.tuple #[((tupAt (W 4) 0)), .bool ((fillL bl ((cs.getD k ([], [])).1)).isSome)])), (5, (.tuple #[((tupAt (W 4) 0)), .bool ((fillL bl ((cs.getD k ([], [])).1)).isSome)]))]) ⟨(e4).symm, e5, ⟨⟩⟩]
     refine qk (qG (.bool ((fillL bl ((cs.getD k ([], [])).1)).isSome)) rfl rfl ?_)
     exact ⟨rfl, rfl⟩
    refine gD (fun W Fs R lF z9 => ?_) ?_
    ·obtain ⟨e4, f4_2hr⟩ := z9 4 rfl
     have e6 : W 6 = ((tupAt (W 4) 0)) := z9 6 rfl
     rw [eS (l := [(4, (.tuple #[((tupAt (W 4) 0)), .bool ((fillL bl ((cs.getD k ([], [])).1)).isSome)])), (6, ((tupAt (W 4) 0)))]) ⟨(e4).symm, e6, ⟨⟩⟩]
     refine qk (jo (((tupAt (W 4) 0))) rfl ?_)
     exact ⟨rfl, rfl⟩
    exact stepsG.nil
   intro W F8 le8 hphi
   obtain ⟨e1, f1_2hr⟩ := hphi 1 (by decide)
   obtain ⟨e4, f4_2hr⟩ := hphi 4 (by decide)
   have e5 : W 5 = (.tuple #[((tupAt (W 4) 0)), .bool ((fillL bl ((cs.getD k ([], [])).1)).isSome)] : Value) := hphi 5 (by decide)
   have e6 : W 6 = ((tupAt (W 4) 0)) := hphi 6 (by decide)
   have e8 : W 8 = ((tupAt (W 4) 0)) := hphi 8 (by decide)
   generalize hu4 : ((aggAt (W 1) 0)) = u3 at e1 f1_2hr e4 f4_2hr e5 e6 e8
   generalize hu5 : ((tupAt (W 4) 0)) = u4 at e1 f1_2hr e4 f4_2hr e5 e6 e8
   rw [eS (l := [(4, (.tuple #[u4, .bool ((fillL bl ((cs.getD k ([], [])).1)).isSome)])), (7, _), (8, u4)]) ⟨(e4).symm, (hphi 7 (by decide)), e8, ⟨⟩⟩]
   replace har := har.mono le8
   replace hcr := hcr.mono le8
   replace ht := ht.mono le8
   replace hr := hr.mono le8
   replace hcs := hcs.mono le8
   replace f10_1hp_bs := f10_1hp_bs.mono le8
   replace hbc := hbc.mono le8
   replace ha2 := ha2.mono le8
   show XL _ _ _ _ _ _ _ (cellsH b6 [a1, a2] 71 :: cellsH b5 bs 89 :: cellsH b2 [lv, rv, csv] 51 :: cellsH b1 [arv, crv] 29 :: L)
   refine qj (.bool ((fillL bl ((cs.getD k ([], [])).1)).isSome)) rfl (qf (qg (qg (qd (qi (.bool ((fillL bl ((cs.getD k ([], [])).1)).isSome)) rfl (cX (jg rfl (qf ?_))))))))
   refine js (t := !((fillL bl ((cs.getD k ([], [])).1)).isSome)) rfl (fun h5 => ?_) (fun h5 => ?_)
   ·have hf0 := Bool.not_inj (y := false) h5
    refine qg (qd (qj (sN) rfl (qj (.bool (false)) rfl (qf (qu (ql (qI (ql (ql (qI (ql (qt (L' := L) [sN, .bool (false)] (.tuple #[sN, .bool (false)]) (.tmp rfl (.tmp rfl .nil)) rfl (qc (qc le3 leG1) le8) rF (sD (sD (sD (sD sR)))) ?_))))))))))))
    have e : stepD ar cr d (l, r, cs) t p = none := by first | exact stepD_none (given_none hmN) | exact stepD_nofill hgs hf2 | exact stepD_none (hgo.trans (condD_nofill hk9 hf0)) | exact stepD_none (hgo.trans (condD_nonorm hd9 hk9 hf1 hn0)) | exact stepD_none (hgo.trans (condD_nomatch hd9 hk9 hf1 hn1 hm9)) | exact stepD_none (given_zero hm0 (by (try dsimp only); omega) (by omega))
    exact ⟨⟨_, by rw [e]; rfl, by rw [e]; exact IntsF.nilV, by rw [e]; exact Fresh.ofNil _⟩, rfl⟩
   have hf1 := Bool.not_inj (y := true) h5
   have hfo := fill_okS hbo hc1 hf1
   refine qz (qg (qd (cX (qs [arv, crv] qY qK rfl rfl (Rd.ownN [_, _, _] rfl rfl) (qi (u4) rfl (qi (ii ((d : Int))) rfl (cX (jl (((d - 1 : Nat) : Int)) rfl rfl (by omega) (by omega) (cX (qn (args := [.agg #[arv, crv], u4, ii ((d - 1 : Nat) : Int)]) call21 rfl (ih (d - 1) (by omega) har hcr f4_2hr (hc := (by first | assumption | rfl | omega | simp)) (ho := (hfo)) (hd2 := (by first | assumption | rfl | omega | simp))) ?_))))))))))
   rintro _ F9 _ le9 ⟨⟨x9, rfl, hr15⟩, rfl⟩
   replace har := har.mono le9
   replace hcr := hcr.mono le9
   replace ht := ht.mono le9
   replace hr := hr.mono le9
   replace hcs := hcs.mono le9
   replace f10_1hp_bs := f10_1hp_bs.mono le9
   replace hbc := hbc.mono le9
   replace ha2 := ha2.mono le9
   show XL _ _ _ _ _ _ _ (cellsH b6 [a1, a2] 71 :: cellsH b5 bs 89 :: cellsH b2 [lv, rv, csv] 51 :: cellsH b1 [arv, crv] 29 :: L)
   refine qi (.tuple #[x9, .bool ((normC ar cr (d - 1) ((fillL bl ((cs.getD k ([], [])).1)).getD [])).isSome)]) rfl (cX (qG (x9) rfl rfl (cX (qG (.bool ((normC ar cr (d - 1) ((fillL bl ((cs.getD k ([], [])).1)).getD [])).isSome)) rfl rfl (qj (x9) rfl (qj (.bool ((normC ar cr (d - 1) ((fillL bl ((cs.getD k ([], [])).1)).getD [])).isSome)) rfl (qf (qg (qg (qd (qi (.bool ((normC ar cr (d - 1) ((fillL bl ((cs.getD k ([], [])).1)).getD [])).isSome)) rfl (cX (jg rfl (qf ?_))))))))))))))
   refine js (t := !((normC ar cr (d - 1) ((fillL bl ((cs.getD k ([], [])).1)).getD [])).isSome)) rfl (fun h6 => ?_) (fun h6 => ?_)
   ·have hn0 := Bool.not_inj (y := false) h6
    refine qg (qd (qj (sN) rfl (qj (.bool (false)) rfl (qf (qu (ql (qI (ql (ql (qI (ql (qt (L' := L) [sN, .bool (false)] (.tuple #[sN, .bool (false)]) (.tmp rfl (.tmp rfl .nil)) rfl (qc (qc (qc le3 leG1) le8) le9) rF (sD (sD (sD (sD sR)))) ?_))))))))))))
    have e : stepD ar cr d (l, r, cs) t p = none := by first | exact stepD_none (given_none hmN) | exact stepD_nofill hgs hf2 | exact stepD_none (hgo.trans (condD_nofill hk9 hf0)) | exact stepD_none (hgo.trans (condD_nonorm hd9 hk9 hf1 hn0)) | exact stepD_none (hgo.trans (condD_nomatch hd9 hk9 hf1 hn1 hm9)) | exact stepD_none (given_zero hm0 (by (try dsimp only); omega) (by omega))
    exact ⟨⟨_, by rw [e]; rfl, by rw [e]; exact IntsF.nilV, by rw [e]; exact Fresh.ofNil _⟩, rfl⟩
   have hn1 := Bool.not_inj (y := true) h6
   have hwo := norm_okS hc hfo hn1
   refine qz (qg (qd (cX (qq (0) qF rfl qB (by decide) rfl rfl (cX (qs [arv] qW qB rfl rfl (Rd.ownN [_, _, _] rfl rfl) (cX (qq (1) jw rfl qy (by decide) rfl rfl (cX (qm qX rfl (Rd.own [] rfl rfl) (qi (x9) rfl (cX (qs bs isAgg89 jX (by have := CO.len hbc; (try simp only [List.length_set, List.length_replicate] at this ⊢) <;> omega) rfl (Rd.ownN [_] rfl take_all) (cX (qn (args := [.agg #[arv], a2, x9, .agg (bs).toArray]) call58 rfl (matchInto_spec har ha2 hr15 hbc ((by first | assumption | rfl | simp | omega)) (ho := (by first | assumption | rfl | omega | simp)) (hpl := (by first | assumption | rfl | omega | simp)) (hpg := (by first | exact hlg | exact hcg2))) ?_)))))))))))))))
   rintro _ _ _ _ ⟨rfl, x10, x11, rfl, hr16, hr17, hr18, rfl⟩
   skip
   refine qi (.tuple #[.agg (x10).toArray, .bool ((mGo ar ((normC ar cr (d - 1) ((fillL bl ((cs.getD k ([], [])).1)).getD [])).getD []) ((cs.getD k ([], [])).2) 0 bl).isSome)]) rfl (cX (qG (.agg (x10).toArray) rfl rfl (cX (qG (.bool ((mGo ar ((normC ar cr (d - 1) ((fillL bl ((cs.getD k ([], [])).1)).getD [])).getD []) ((cs.getD k ([], [])).2) 0 bl).isSome)) rfl rfl (cX (qO [_] _ x10 jX rfl rfl (by have := CO.len hr16; (try simp only [List.length_set, List.length_replicate] at this ⊢) <;> omega) hr16.ones rfl (Nat.ble_eq_true_of_le (Nat.le_of_eq (by have := CO.len hbc; (try simp only [List.length_set, List.length_replicate] at this ⊢) <;> omega))) (arr_over (by have := CO.len hbc; (try simp only [List.length_set, List.length_replicate] at this ⊢) <;> omega)) (qj (.bool ((mGo ar ((normC ar cr (d - 1) ((fillL bl ((cs.getD k ([], [])).1)).getD [])).getD []) ((cs.getD k ([], [])).2) 0 bl).isSome)) rfl (qf (qg (qd (qi (.bool ((mGo ar ((normC ar cr (d - 1) ((fillL bl ((cs.getD k ([], [])).1)).getD [])).getD []) ((cs.getD k ([], [])).2) 0 bl).isSome)) rfl (cX (jg rfl (qf ?_))))))))))))))
   refine js (t := !((mGo ar ((normC ar cr (d - 1) ((fillL bl ((cs.getD k ([], [])).1)).getD [])).getD []) ((cs.getD k ([], [])).2) 0 bl).isSome)) rfl (fun h7 => ?_) (fun h7 => ?_)
   ·have hm9 := Bool.not_inj (y := false) h7
    refine qg (qd (qj (sN) rfl (qj (.bool (false)) rfl (qf (qu (qI (ql (ql (qI (ql (qt (L' := L) [sN, .bool (false)] (.tuple #[sN, .bool (false)]) (.tmp rfl (.tmp rfl .nil)) rfl (qc (qc (qc le3 leG1) le8) le9) rF (sD (sD (sD (sD sR)))) ?_)))))))))))
    have e : stepD ar cr d (l, r, cs) t p = none := by first | exact stepD_none (given_none hmN) | exact stepD_nofill hgs hf2 | exact stepD_none (hgo.trans (condD_nofill hk9 hf0)) | exact stepD_none (hgo.trans (condD_nonorm hd9 hk9 hf1 hn0)) | exact stepD_none (hgo.trans (condD_nomatch hd9 hk9 hf1 hn1 hm9)) | exact stepD_none (given_zero hm0 (by (try dsimp only); omega) (by omega))
    exact ⟨⟨_, by rw [e]; rfl, by rw [e]; exact IntsF.nilV, by rw [e]; exact Fresh.ofNil _⟩, rfl⟩
   have hm1 := opt_is (Bool.not_inj (y := true) h7) (by assumption)
   refine qz (qd (cX (qS (((k + 1 : Nat) : Int)) rfl rfl (by omega) (by omega) (qi (ii (((k + 1 : Nat) : Int))) rfl (qf ?_)))))
   exact ⟨(k + 1, x10, x11, F9), _, (qc (qc leG1 le8) le9), rF, ⟨rfl, rfl, rfl, rfl, rfl, rfl, rfl, rfl, rfl, ⟨⟩⟩, (sD (sC (sC (sC sR)))), ⟨rfl, (qc (qc leG1 le8) le9), (hr16), (hr17), (mGo_ok hwo _ _ _ _ hm1 hbo), (by (try dsimp only) <;> omega), (hgo.trans (condD_next hd9 (by omega) hf1 hn1 hm1))⟩, (by omega)⟩
  refine jn (qA (qA (qV (qg ?_))))
  refine jG [cellsH b5 bs 89, cellsH b2 [lv, rv, csv] 51, cellsH b1 [arv, crv] 29] L 9 [[], [], [], [], [], [4], [4], [], [4]] [[], [0], [], [2], [1, 3], [4], [4, 5], [4, 5], [4, 6]] [] (phiG [pe (.agg (bs).toArray), fun FF us v => (.agg #[((aggAt v 0))] : Value) = v ∧ (RowsF FF ((aggAt v 0)) bl), pe (ptr b2 1), pe rv, fun FF us v => (.tuple #[((tupAt v 0)), .bool ((fillL bl r).isSome)] : Value) = v ∧ (IntsF FF ((tupAt v 0)) ((fillL bl r).getD [])), fun FF us v => v = (.tuple #[((tupAt (us.getD 0 undef) 0)), .bool ((fillL bl r).isSome)] : Value), fun FF us v => v = ((tupAt (us.getD 0 undef) 0)), pe (.bool ((fillL bl r).isSome)), fun FF us v => v = ((tupAt (us.getD 0 undef) 0))]) (ownL []) mixed rfl rfl (by kernel_rfl) (by kernel_rfl) (MonoG.get (m1 (mC (fun le h => ⟨h.1, h.2.mono le⟩) (m1 (m1 (mC (fun le h => ⟨h.1, h.2.mono le⟩) (mC (fun le h => h) (mC (fun le h => h) (m1 (mC (fun le h => h) MonoG.nil)))))))))) ?_ ?_
  ·refine gD (fun W Fs R lF z9 => ?_) ?_
   ·replace har := har.mono lF
    replace hcr := hcr.mono lF
    replace ht := ht.mono lF
    replace hr := hr.mono lF
    replace hcs := hcs.mono lF
    replace f10_1hp_bs := f10_1hp_bs.mono lF
    replace hbc := hbc.mono lF
    refine qk (qs bs isAgg89 jX (by have := CO.len hbc; (try simp only [List.length_set, List.length_replicate] at this ⊢) <;> omega) rfl (Rd.ownN [] rfl take_all) ?_)
    exact ⟨rfl, rfl⟩
   refine gD (fun W Fs R lF z9 => ?_) ?_
   ·replace har := har.mono lF
    replace hcr := hcr.mono lF
    replace ht := ht.mono lF
    replace hr := hr.mono lF
    replace hcs := hcs.mono lF
    replace f10_1hp_bs := f10_1hp_bs.mono lF
    replace hbc := hbc.mono lF
    rw [zA 0 (z9 0 rfl)]
    refine qk (qn (args := [.agg (bs).toArray]) call61 rfl (subst_spec hbc ((by first | assumption | rfl | simp | omega))) ?_)
    rintro _ F13 _ le13 ⟨x14, rfl, hr22, rfl⟩
    replace har := har.mono le13
    replace hcr := hcr.mono le13
    replace ht := ht.mono le13
    replace hr := hr.mono le13
    replace hcs := hcs.mono le13
    replace f10_1hp_bs := f10_1hp_bs.mono le13
    replace hbc := hbc.mono le13
    exact ⟨⟨rfl, hr22⟩, rfl⟩
   refine gD (fun W Fs R lF z9 => ?_) ?_
   ·refine qk (qq (1) qR rfl qy (by decide) rfl rfl ?_)
    exact ⟨rfl, rfl⟩
   refine gD (fun W Fs R lF z9 => ?_) ?_
   ·replace har := har.mono lF
    replace hcr := hcr.mono lF
    replace ht := ht.mono lF
    replace hr := hr.mono lF
    replace hcs := hcs.mono lF
    replace f10_1hp_bs := f10_1hp_bs.mono lF
    replace hbc := hbc.mono lF
    rw [zA 2 (z9 2 rfl)]
    refine qk (qm qX rfl (Rd.own [_] rfl rfl) ?_)
    exact ⟨rfl, rfl⟩
   refine gD (fun W Fs R lF z9 => ?_) ?_
   ·obtain ⟨e1, f1_3hr⟩ := z9 1 rfl
    replace har := har.mono lF
    replace hcr := hcr.mono lF
    replace ht := ht.mono lF
    replace hr := hr.mono lF
    replace hcs := hcs.mono lF
    replace f10_1hp_bs := f10_1hp_bs.mono lF
    replace hbc := hbc.mono lF
    rw [eS (l := [(1, (.agg #[((aggAt (W 1) 0))])), (3, _)]) ⟨(e1).symm, z9 3 rfl, ⟨⟩⟩]
    refine qk (qn (args := [.agg #[((aggAt (W 1) 0))], rv]) call60 rfl (fill_spec f1_3hr hr (hsl := (by omega)) (hsb := (fun i => by have := hbl i; omega)) (htl := (by omega)) (htg := (fun i hi => by first | (have := hcg1 i hi; omega) | (have := hrg i hi; omega)))) ?_)
    rintro _ F14 _ le14 ⟨x15, rfl, hr23, hr24, rfl⟩
    replace har := har.mono le14
    replace hcr := hcr.mono le14
    replace ht := ht.mono le14
    replace hr := hr.mono le14
    replace hcs := hcs.mono le14
    replace f10_1hp_bs := f10_1hp_bs.mono le14
    replace hbc := hbc.mono le14
    replace f1_3hr := f1_3hr.mono le14
    exact ⟨⟨rfl, hr23⟩, rfl⟩
   refine gD (fun W Fs R lF z9 => ?_) ?_
   ·obtain ⟨e4, f4_3hr⟩ := z9 4 rfl
    rw [eS (l := [(4, (.tuple #[((tupAt (W 4) 0)), .bool ((fillL bl r).isSome)]))]) ⟨(e4).symm, ⟨⟩⟩]
    refine qk (qo (.tuple #[((tupAt (W 4) 0)), .bool ((fillL bl r).isSome)]) rfl ?_)
    exact ⟨rfl, rfl⟩
   refine gD (fun W Fs R lF z9 => ?_) ?_
   ·obtain ⟨e4, f4_3hr⟩ := z9 4 rfl
    have e5 : W 5 = (.tuple #[((tupAt (W 4) 0)), .bool ((fillL bl r).isSome)] : Value) := z9 5 rfl
    rw [eS (l := [(4, (.tuple #[((tupAt (W 4) 0)), .bool ((fillL bl r).isSome)])), (5, (.tuple #[((tupAt (W 4) 0)), .bool ((fillL bl r).isSome)]))]) ⟨(e4).symm, e5, ⟨⟩⟩]
    refine qk (qG (((tupAt (W 4) 0))) rfl rfl ?_)
    exact ⟨rfl, rfl⟩
   refine gD (fun W Fs R lF z9 => ?_) ?_
   ·obtain ⟨e4, f4_3hr⟩ := z9 4 rfl
    have e5 : W 5 = (.tuple #[((tupAt (W 4) 0)), .bool ((fillL bl r).isSome)] : Value) := z9 5 rfl
    rw [eS (l := [(4, (.tuple #[((tupAt (W 4) 0)), .bool ((fillL bl r).isSome)])), (5, (.tuple #[((tupAt (W 4) 0)), .bool ((fillL bl r).isSome)]))]) ⟨(e4).symm, e5, ⟨⟩⟩]
    refine qk (qG (.bool ((fillL bl r).isSome)) rfl rfl ?_)
    exact ⟨rfl, rfl⟩
   refine gD (fun W Fs R lF z9 => ?_) ?_
   ·obtain ⟨e4, f4_3hr⟩ := z9 4 rfl
    have e6 : W 6 = ((tupAt (W 4) 0)) := z9 6 rfl
    rw [eS (l := [(4, (.tuple #[((tupAt (W 4) 0)), .bool ((fillL bl r).isSome)])), (6, ((tupAt (W 4) 0)))]) ⟨(e4).symm, e6, ⟨⟩⟩]
    refine qk (jo (((tupAt (W 4) 0))) rfl ?_)
    exact ⟨rfl, rfl⟩
   exact stepsG.nil
  intro W F15 le15 hphi
  obtain ⟨e1, f1_3hr⟩ := hphi 1 (by decide)
  obtain ⟨e4, f4_3hr⟩ := hphi 4 (by decide)
  have e5 : W 5 = (.tuple #[((tupAt (W 4) 0)), .bool ((fillL bl r).isSome)] : Value) := hphi 5 (by decide)
  have e6 : W 6 = ((tupAt (W 4) 0)) := hphi 6 (by decide)
  have e8 : W 8 = ((tupAt (W 4) 0)) := hphi 8 (by decide)
  generalize hu6 : ((aggAt (W 1) 0)) = u5 at e1 f1_3hr e4 f4_3hr e5 e6 e8
  generalize hu7 : ((tupAt (W 4) 0)) = u6 at e1 f1_3hr e4 f4_3hr e5 e6 e8
  rw [eS (l := [(4, (.tuple #[u6, .bool ((fillL bl r).isSome)])), (7, _), (8, u6)]) ⟨(e4).symm, (hphi 7 (by decide)), e8, ⟨⟩⟩]
  replace har := har.mono le15
  replace hcr := hcr.mono le15
  replace ht := ht.mono le15
  replace hr := hr.mono le15
  replace hcs := hcs.mono le15
  replace f10_1hp_bs := f10_1hp_bs.mono le15
  replace hbc := hbc.mono le15
  show XL _ _ _ _ _ _ _ (cellsH b5 bs 89 :: cellsH b2 [lv, rv, csv] 51 :: cellsH b1 [arv, crv] 29 :: L)
  refine qj (.bool ((fillL bl r).isSome)) rfl (qf (qg (qg (qd (qi (.bool ((fillL bl r).isSome)) rfl (cX (jg rfl (qf ?_))))))))
  refine js (t := !((fillL bl r).isSome)) rfl (fun h8 => ?_) (fun h8 => ?_)
  ·have hgs := hgo.trans (condD_end (by omega))
   have hf2 := Bool.not_inj (y := false) h8
   refine qg (qd (qj (sN) rfl (qj (.bool (false)) rfl (qf (qu (ql (qt (L' := L) [sN, .bool (false)] (.tuple #[sN, .bool (false)]) (.tmp rfl (.tmp rfl .nil)) rfl (qc (qc le3 leG1) le15) rF (sD (sD (sD sR))) ?_)))))))
   have e : stepD ar cr d (l, r, cs) t p = none := by first | exact stepD_none (given_none hmN) | exact stepD_nofill hgs hf2 | exact stepD_none (hgo.trans (condD_nofill hk9 hf0)) | exact stepD_none (hgo.trans (condD_nonorm hd9 hk9 hf1 hn0)) | exact stepD_none (hgo.trans (condD_nomatch hd9 hk9 hf1 hn1 hm9)) | exact stepD_none (given_zero hm0 (by (try dsimp only); omega) (by omega))
   exact ⟨⟨_, by rw [e]; rfl, by rw [e]; exact IntsF.nilV, by rw [e]; exact Fresh.ofNil _⟩, rfl⟩
  have hgs := hgo.trans (condD_end (by omega))
  have hf2 := Bool.not_inj (y := true) h8
  have hfo := fill_okS hbo hRr hf2
  have hful := termOk_len hfo
  refine qz (qg (qd (cX (qq (0) qF rfl qB (by decide) rfl rfl (cX (qs [arv] qW qB rfl rfl (Rd.ownN [_, _] rfl rfl) (qi (tv) rfl (qi (ii ((p : Int))) rfl (qi (u6) rfl (cX (qn (args := [.agg #[arv], tv, ii (p : Int), u6]) call62 rfl (put_spec (p := p) har ht f4_3hr (ho := (by first | assumption | rfl | omega | simp)) (hp := (by first | assumption | rfl | omega | simp)) (hul := (by first | assumption | rfl | omega | simp))) ?_)))))))))))
  rintro _ F16 _ le16 ⟨x16, rfl, hr25, hr26, hr27, rfl⟩
  replace har := har.mono le16
  replace hcr := hcr.mono le16
  replace ht := ht.mono le16
  replace hr := hr.mono le16
  replace hcs := hcs.mono le16
  replace f10_1hp_bs := f10_1hp_bs.mono le16
  replace hbc := hbc.mono le16
  refine cX (qG (x16) rfl rfl (cX (qG (.bool ((putL ar t p ((fillL bl r).getD [])).isSome)) rfl rfl (qj (x16) rfl (qj (.bool ((putL ar t p ((fillL bl r).getD [])).isSome)) rfl (qf (qu (qt (L' := L) [x16, .bool ((putL ar t p ((fillL bl r).getD [])).isSome)] (.tuple #[x16, .bool ((putL ar t p ((fillL bl r).getD [])).isSome)]) (.tmp rfl (.tmp rfl .nil)) rfl (qc (qc (qc le3 leG1) le15) le16) rF (sD (sD (sD sR))) ?_))))))))
  have e := stepD_put (x := (l, r, cs)) hgs hf2
  exact ⟨⟨_, by rw [e], by rw [e]; exact hr25, by rw [e]; exact (hr27.base (qc (qc le3 leG1) le15))⟩, rfl⟩
 refine qp (t := 41) rfl (vF h2) (qp (t := 41) rfl (vF h2) (qr (t := 36) rfl (vB h1) (qM (.bool (false)) (vF h2) rfl (cX (qM (.bool (false)) (vB h1) rfl (qf (jS rfl (qz (qg (qg (qd (cX (qq (2) qR rfl jx (by decide) rfl rfl (cX (qm isAgg49 rfl (Rd.own [_] rfl rfl) (cX (qE jh rfl hcs.slv ?_)))))))))))))))))
 refine qi (ii (0)) rfl (qf (qQ (jr (α := Nat × List Value × RowL × FH) (fun xQ => [(1, tv), (2, ii ((p : Int))), (4, ii ((d : Int))), (5, ptr b1 0), (8, ptr b2 0), (12, ptr b5 0), (47, csv), (48, ii ((cs.length : Int))), (49, ii (((xQ.1 : Nat) : Int)))]) (fun xQ => cellsH b5 xQ.2.1 89 :: cellsH b2 [lv, rv, csv] 51 :: cellsH b1 [arv, crv] 29 :: L) (fun xQ F' => xQ.2.2.2 = F' ∧ F3 ≤ xQ.2.2.2 ∧ (BindC xQ.2.2.2 xQ.2.1 xQ.2.2.1) ∧ (xQ.2.2.1.length = 24) ∧ (RowsOk ar xQ.2.2.1) ∧ (xQ.1 ≤ cs.length) ∧ (givenD ar cr d (sub ar t p) (l, r, cs) = condD ar cr d xQ.2.2.1 (cs.drop xQ.1))) (fun xQ => cs.length - xQ.1) (0, u2, t10X1_bs, F3) ⟨rfl, rfl, rfl, rfl, rfl, rfl, rfl, rfl, rfl, ⟨⟩⟩ (sC (sC (sC sR))) ⟨rfl, FLe.refl _, (f10_1hp_bs), (q10_1_bs0), (mGo_ok hso _ _ _ _ hm0 RowsOk.nil24), (Nat.zero_le _), (by first | exact given_go hm0 (.inr (by omega)) | exact given_go hm0 (.inl (by (try dsimp only); omega)))⟩ ?_)))
 rintro ⟨k, bs, bl, G2⟩ rE _ _ ⟨rfl, leG, hbc, hbn, hbo, hk, hgo⟩
 show X _ _ _ _ (envs [(1, tv), (2, ii ((p : Int))), (4, ii ((d : Int))), (5, ptr b1 0), (8, ptr b2 0), (12, ptr b5 0), (47, csv), (48, ii ((cs.length : Int))), (49, ii ((k : Int)))] rE) _ (cellsH b5 bs 89 :: cellsH b2 [lv, rv, csv] 51 :: cellsH b1 [arv, crv] 29 :: L)
 replace leG : F3 ≤ G2 := leG
 dsimp only at hbc hbn hbo hk hgo
 have hbl := hbo.len
 have hcd := fun (h : k < cs.length) => hRc k h
 have leG2 := leG
 replace har := har.mono leG2
 replace hcr := hcr.mono leG2
 replace ht := ht.mono leG2
 replace hr := hr.mono leG2
 replace hcs := hcs.mono leG2
 refine qg (qd (cX (jb rfl rfl (qf (qg ?_)))))
 refine qH (p := (k : Int) < (cs.length : Int)) rfl (fun h9 => ?_) (fun h9 => ?_)
 ·have hd9 : d ≠ 0 := by omega
  have hk9 : k < cs.length := by omega
  have hc1 := (hcd hk9).1
  have hc2 := (hcd hk9).2
  have hcl1 := termOk_len hc1
  have hcl2 := termOk_len hc2
  have hcg1 := fun i (hi : i < (cs.getD k ([], [])).1.length) => termOk_ge hc1 hi
  have hcg2 := fun i (hi : i < (cs.getD k ([], [])).2.length) => termOk_ge hc2 hi
  refine qz (qg (qQ (qg (qd (cX (qD k jh jK rfl rfl rfl hcs.slv (by omega) rfl ?_))))))
  obtain ⟨a3, a4, ha3, ha4, hr28, hr29⟩ := hcs.rd (i := k) (by omega)
  refine cX (qs [a3, a4] isAgg71 jK rfl rfl (Rd.two (hr28 _) (hr29 _)) (cX (jm [sN, sN] jM rfl ?_)))
  intro b7
  refine cX (qO [] _ [a3, a4] jK rfl rfl rfl (qw (qJ (qv ha3)) (qw (qJ (qv ha4)) qT)) rfl rfl rfl (qf (qg ?_)))
  refine jG [cellsH b7 [a3, a4] 71, cellsH b5 bs 89, cellsH b2 [lv, rv, csv] 51, cellsH b1 [arv, crv] 29] L 9 [[], [], [], [], [], [4], [4], [], [4]] [[], [0], [], [2], [1, 3], [4], [4, 5], [4, 5], [4, 6]] [] (phiG [pe (.agg (bs).toArray), fun FF us v => (.agg #[((aggAt v 0))] : Value) = v ∧ (RowsF FF ((aggAt v 0)) bl), pe (ptr b7 0), pe a3, fun FF us v => (.tuple #[((tupAt v 0)), .bool ((fillL bl ((cs.getD k ([], [])).1)).isSome)] : Value) = v ∧ (IntsF FF ((tupAt v 0)) ((fillL bl ((cs.getD k ([], [])).1)).getD [])), fun FF us v => v = (.tuple #[((tupAt (us.getD 0 undef) 0)), .bool ((fillL bl ((cs.getD k ([], [])).1)).isSome)] : Value), fun FF us v => v = ((tupAt (us.getD 0 undef) 0)), pe (.bool ((fillL bl ((cs.getD k ([], [])).1)).isSome)), fun FF us v => v = ((tupAt (us.getD 0 undef) 0))]) (ownL []) mixed rfl rfl (by kernel_rfl) (by kernel_rfl) (MonoG.get (m1 (mC (fun le h => ⟨h.1, h.2.mono le⟩) (m1 (m1 (mC (fun le h => ⟨h.1, h.2.mono le⟩) (mC (fun le h => h) (mC (fun le h => h) (m1 (mC (fun le h => h) MonoG.nil)))))))))) ?_ ?_
  ·refine gD (fun W Fs R lF z9 => ?_) ?_
   ·replace har := har.mono lF
    replace hcr := hcr.mono lF
    replace ht := ht.mono lF
    replace hr := hr.mono lF
    replace hbc := hbc.mono lF
    replace ha3 := ha3.mono lF
    replace ha4 := ha4.mono lF
    refine qk (qs bs isAgg89 jX (by have := CO.len hbc; (try simp only [List.length_set, List.length_replicate] at this ⊢) <;> omega) rfl (Rd.ownN [_] rfl take_all) ?_)
    exact ⟨rfl, rfl⟩
   refine gD (fun W Fs R lF z9 => ?_) ?_
   ·replace har := har.mono lF
    replace hcr := hcr.mono lF
    replace ht := ht.mono lF
    replace hr := hr.mono lF
    replace hbc := hbc.mono lF
    replace ha3 := ha3.mono lF
    replace ha4 := ha4.mono lF
    rw [zA 0 (z9 0 rfl)]
    refine qk (qn (args := [.agg (bs).toArray]) call61 rfl (subst_spec hbc ((by first | assumption | rfl | simp | omega))) ?_)
    rintro _ F19 _ le19 ⟨x19, rfl, hr33, rfl⟩
    replace har := har.mono le19
    replace hcr := hcr.mono le19
    replace ht := ht.mono le19
    replace hr := hr.mono le19
    replace hbc := hbc.mono le19
    replace ha3 := ha3.mono le19
    replace ha4 := ha4.mono le19
    exact ⟨⟨rfl, hr33⟩, rfl⟩
   refine gD (fun W Fs R lF z9 => ?_) ?_
   ·refine qk (qq (0) jw rfl qy (by decide) rfl rfl ?_)
    exact ⟨rfl, rfl⟩
   refine gD (fun W Fs R lF z9 => ?_) ?_
   ·replace har := har.mono lF
    replace hcr := hcr.mono lF
    replace ht := ht.mono lF
    replace hr := hr.mono lF
    replace hbc := hbc.mono lF
    replace ha3 := ha3.mono lF
    replace ha4 := ha4.mono lF
    rw [zA 2 (z9 2 rfl)]
    refine qk (qm qX rfl (Rd.own [] rfl rfl) ?_)
    exact ⟨rfl, rfl⟩
   refine gD (fun W Fs R lF z9 => ?_) ?_
   ·obtain ⟨e1, f1_4hr⟩ := z9 1 rfl
    replace har := har.mono lF
    replace hcr := hcr.mono lF
    replace ht := ht.mono lF
    replace hr := hr.mono lF
    replace hbc := hbc.mono lF
    replace ha3 := ha3.mono lF
    replace ha4 := ha4.mono lF
    rw [eS (l := [(1, (.agg #[((aggAt (W 1) 0))])), (3, _)]) ⟨(e1).symm, z9 3 rfl, ⟨⟩⟩]
    refine qk (qn (args := [.agg #[((aggAt (W 1) 0))], a3]) call60 rfl (fill_spec f1_4hr ha3 (hsl := (by omega)) (hsb := (fun i => by have := hbl i; omega)) (htl := (by omega)) (htg := (fun i hi => by first | (have := hcg1 i hi; omega) | (have := hrg i hi; omega)))) ?_)
    rintro _ F20 _ le20 ⟨x20, rfl, hr34, hr35, rfl⟩
    replace har := har.mono le20
    replace hcr := hcr.mono le20
    replace ht := ht.mono le20
    replace hr := hr.mono le20
    replace hbc := hbc.mono le20
    replace ha4 := ha4.mono le20
    replace f1_4hr := f1_4hr.mono le20
    exact ⟨⟨rfl, hr34⟩, rfl⟩
   refine gD (fun W Fs R lF z9 => ?_) ?_
   ·obtain ⟨e4, f4_4hr⟩ := z9 4 rfl
    rw [eS (l := [(4, (.tuple #[((tupAt (W 4) 0)), .bool ((fillL bl ((cs.getD k ([], [])).1)).isSome)]))]) ⟨(e4).symm, ⟨⟩⟩]
    refine qk (qo (.tuple #[((tupAt (W 4) 0)), .bool ((fillL bl ((cs.getD k ([], [])).1)).isSome)]) rfl ?_)
    exact ⟨rfl, rfl⟩
   refine gD (fun W Fs R lF z9 => ?_) ?_
   ·obtain ⟨e4, f4_4hr⟩ := z9 4 rfl
    have e5 : W 5 = (.tuple #[((tupAt (W 4) 0)), .bool ((fillL bl ((cs.getD k ([], [])).1)).isSome)] : Value) := z9 5 rfl
    rw [eS (l := [(4, (.tuple #[((tupAt (W 4) 0)), .bool ((fillL bl ((cs.getD k ([], [])).1)).isSome)])), (5, (.tuple #[((tupAt (W 4) 0)), .bool ((fillL bl ((cs.getD k ([], [])).1)).isSome)]))]) ⟨(e4).symm, e5, ⟨⟩⟩]
    refine qk (qG (((tupAt (W 4) 0))) rfl rfl ?_)
    exact ⟨rfl, rfl⟩
   refine gD (fun W Fs R lF z9 => ?_) ?_
   ·obtain ⟨e4, f4_4hr⟩ := z9 4 rfl
    have e5 : W 5 = (.tuple #[((tupAt (W 4) 0)), .bool ((fillL bl ((cs.getD k ([], [])).1)).isSome)] : Value) := z9 5 rfl
    rw [eS (l := [(4, (.tuple #[((tupAt (W 4) 0)), .bool ((fillL bl ((cs.getD k ([], [])).1)).isSome)])), (5, (.tuple #[((tupAt (W 4) 0)), .bool ((fillL bl ((cs.getD k ([], [])).1)).isSome)]))]) ⟨(e4).symm, e5, ⟨⟩⟩]
    refine qk (qG (.bool ((fillL bl ((cs.getD k ([], [])).1)).isSome)) rfl rfl ?_)
    exact ⟨rfl, rfl⟩
   refine gD (fun W Fs R lF z9 => ?_) ?_
   ·obtain ⟨e4, f4_4hr⟩ := z9 4 rfl
    have e6 : W 6 = ((tupAt (W 4) 0)) := z9 6 rfl
    rw [eS (l := [(4, (.tuple #[((tupAt (W 4) 0)), .bool ((fillL bl ((cs.getD k ([], [])).1)).isSome)])), (6, ((tupAt (W 4) 0)))]) ⟨(e4).symm, e6, ⟨⟩⟩]
    refine qk (jo (((tupAt (W 4) 0))) rfl ?_)
    exact ⟨rfl, rfl⟩
   exact stepsG.nil
  intro W F21 le21 hphi
  obtain ⟨e1, f1_4hr⟩ := hphi 1 (by decide)
  obtain ⟨e4, f4_4hr⟩ := hphi 4 (by decide)
  have e5 : W 5 = (.tuple #[((tupAt (W 4) 0)), .bool ((fillL bl ((cs.getD k ([], [])).1)).isSome)] : Value) := hphi 5 (by decide)
  have e6 : W 6 = ((tupAt (W 4) 0)) := hphi 6 (by decide)
  have e8 : W 8 = ((tupAt (W 4) 0)) := hphi 8 (by decide)
  generalize hu8 : ((aggAt (W 1) 0)) = u7 at e1 f1_4hr e4 f4_4hr e5 e6 e8
  generalize hu9 : ((tupAt (W 4) 0)) = u8 at e1 f1_4hr e4 f4_4hr e5 e6 e8
  rw [eS (l := [(4, (.tuple #[u8, .bool ((fillL bl ((cs.getD k ([], [])).1)).isSome)])), (7, _), (8, u8)]) ⟨(e4).symm, (hphi 7 (by decide)), e8, ⟨⟩⟩]
  replace har := har.mono le21
  replace hcr := hcr.mono le21
  replace ht := ht.mono le21
  replace hr := hr.mono le21
  replace hbc := hbc.mono le21
  replace ha4 := ha4.mono le21
  show XL _ _ _ _ _ _ _ (cellsH b7 [a3, a4] 71 :: cellsH b5 bs 89 :: cellsH b2 [lv, rv, csv] 51 :: cellsH b1 [arv, crv] 29 :: L)
  refine qj (.bool ((fillL bl ((cs.getD k ([], [])).1)).isSome)) rfl (qf (qg (qg (qd (qi (.bool ((fillL bl ((cs.getD k ([], [])).1)).isSome)) rfl (cX (jg rfl (qf ?_))))))))
  refine js (t := !((fillL bl ((cs.getD k ([], [])).1)).isSome)) rfl (fun h10 => ?_) (fun h10 => ?_)
  ·have hf0 := Bool.not_inj (y := false) h10
   refine qg (qd (qj (sN) rfl (qj (.bool (false)) rfl (qf (qu (ql (qI (ql (ql (qI (ql (qt (L' := L) [sN, .bool (false)] (.tuple #[sN, .bool (false)]) (.tmp rfl (.tmp rfl .nil)) rfl (qc (qc le3 leG2) le21) rF (sD (sD (sD (sD sR)))) ?_))))))))))))
   have e : stepD ar cr d (l, r, cs) t p = none := by first | exact stepD_none (given_none hmN) | exact stepD_nofill hgs hf2 | exact stepD_none (hgo.trans (condD_nofill hk9 hf0)) | exact stepD_none (hgo.trans (condD_nonorm hd9 hk9 hf1 hn0)) | exact stepD_none (hgo.trans (condD_nomatch hd9 hk9 hf1 hn1 hm9)) | exact stepD_none (given_zero hm0 (by (try dsimp only); omega) (by omega))
   exact ⟨⟨_, by rw [e]; rfl, by rw [e]; exact IntsF.nilV, by rw [e]; exact Fresh.ofNil _⟩, rfl⟩
  have hf1 := Bool.not_inj (y := true) h10
  have hfo := fill_okS hbo hc1 hf1
  refine qz (qg (qd (cX (qs [arv, crv] qY qK rfl rfl (Rd.ownN [_, _, _] rfl rfl) (qi (u8) rfl (qi (ii ((d : Int))) rfl (cX (jl (((d - 1 : Nat) : Int)) rfl rfl (by omega) (by omega) (cX (qn (args := [.agg #[arv, crv], u8, ii ((d - 1 : Nat) : Int)]) call21 rfl (ih (d - 1) (by omega) har hcr f4_4hr (hc := (by first | assumption | rfl | omega | simp)) (ho := (hfo)) (hd2 := (by first | assumption | rfl | omega | simp))) ?_))))))))))
  rintro _ F22 _ le22 ⟨⟨x21, rfl, hr36⟩, rfl⟩
  replace har := har.mono le22
  replace ht := ht.mono le22
  replace hr := hr.mono le22
  replace hbc := hbc.mono le22
  replace ha4 := ha4.mono le22
  show XL _ _ _ _ _ _ _ (cellsH b7 [a3, a4] 71 :: cellsH b5 bs 89 :: cellsH b2 [lv, rv, csv] 51 :: cellsH b1 [arv, crv] 29 :: L)
  refine qi (.tuple #[x21, .bool ((normC ar cr (d - 1) ((fillL bl ((cs.getD k ([], [])).1)).getD [])).isSome)]) rfl (cX (qG (x21) rfl rfl (cX (qG (.bool ((normC ar cr (d - 1) ((fillL bl ((cs.getD k ([], [])).1)).getD [])).isSome)) rfl rfl (qj (x21) rfl (qj (.bool ((normC ar cr (d - 1) ((fillL bl ((cs.getD k ([], [])).1)).getD [])).isSome)) rfl (qf (qg (qg (qd (qi (.bool ((normC ar cr (d - 1) ((fillL bl ((cs.getD k ([], [])).1)).getD [])).isSome)) rfl (cX (jg rfl (qf ?_))))))))))))))
  refine js (t := !((normC ar cr (d - 1) ((fillL bl ((cs.getD k ([], [])).1)).getD [])).isSome)) rfl (fun h11 => ?_) (fun h11 => ?_)
  ·have hn0 := Bool.not_inj (y := false) h11
   refine qg (qd (qj (sN) rfl (qj (.bool (false)) rfl (qf (qu (ql (qI (ql (ql (qI (ql (qt (L' := L) [sN, .bool (false)] (.tuple #[sN, .bool (false)]) (.tmp rfl (.tmp rfl .nil)) rfl (qc (qc (qc le3 leG2) le21) le22) rF (sD (sD (sD (sD sR)))) ?_))))))))))))
   have e : stepD ar cr d (l, r, cs) t p = none := by first | exact stepD_none (given_none hmN) | exact stepD_nofill hgs hf2 | exact stepD_none (hgo.trans (condD_nofill hk9 hf0)) | exact stepD_none (hgo.trans (condD_nonorm hd9 hk9 hf1 hn0)) | exact stepD_none (hgo.trans (condD_nomatch hd9 hk9 hf1 hn1 hm9)) | exact stepD_none (given_zero hm0 (by (try dsimp only); omega) (by omega))
   exact ⟨⟨_, by rw [e]; rfl, by rw [e]; exact IntsF.nilV, by rw [e]; exact Fresh.ofNil _⟩, rfl⟩
  have hn1 := Bool.not_inj (y := true) h11
  have hwo := norm_okS hc hfo hn1
  refine qz (qg (qd (cX (qq (0) qF rfl qB (by decide) rfl rfl (cX (qs [arv] qW qB rfl rfl (Rd.ownN [_, _, _] rfl rfl) (cX (qq (1) jw rfl qy (by decide) rfl rfl (cX (qm qX rfl (Rd.own [] rfl rfl) (qi (x21) rfl (cX (qs bs isAgg89 jX (by have := CO.len hbc; (try simp only [List.length_set, List.length_replicate] at this ⊢) <;> omega) rfl (Rd.ownN [_] rfl take_all) (cX (qn (args := [.agg #[arv], a4, x21, .agg (bs).toArray]) call58 rfl (matchInto_spec har ha4 hr36 hbc ((by first | assumption | rfl | simp | omega)) (ho := (by first | assumption | rfl | omega | simp)) (hpl := (by first | assumption | rfl | omega | simp)) (hpg := (by first | exact hlg | exact hcg2))) ?_)))))))))))))))
  rintro _ _ _ _ ⟨rfl, x22, x23, rfl, hr37, hr38, hr39, rfl⟩
  skip
  refine qi (.tuple #[.agg (x22).toArray, .bool ((mGo ar ((normC ar cr (d - 1) ((fillL bl ((cs.getD k ([], [])).1)).getD [])).getD []) ((cs.getD k ([], [])).2) 0 bl).isSome)]) rfl (cX (qG (.agg (x22).toArray) rfl rfl (cX (qG (.bool ((mGo ar ((normC ar cr (d - 1) ((fillL bl ((cs.getD k ([], [])).1)).getD [])).getD []) ((cs.getD k ([], [])).2) 0 bl).isSome)) rfl rfl (cX (qO [_] _ x22 jX rfl rfl (by have := CO.len hr37; (try simp only [List.length_set, List.length_replicate] at this ⊢) <;> omega) hr37.ones rfl (Nat.ble_eq_true_of_le (Nat.le_of_eq (by have := CO.len hbc; (try simp only [List.length_set, List.length_replicate] at this ⊢) <;> omega))) (arr_over (by have := CO.len hbc; (try simp only [List.length_set, List.length_replicate] at this ⊢) <;> omega)) (qj (.bool ((mGo ar ((normC ar cr (d - 1) ((fillL bl ((cs.getD k ([], [])).1)).getD [])).getD []) ((cs.getD k ([], [])).2) 0 bl).isSome)) rfl (qf (qg (qd (qi (.bool ((mGo ar ((normC ar cr (d - 1) ((fillL bl ((cs.getD k ([], [])).1)).getD [])).getD []) ((cs.getD k ([], [])).2) 0 bl).isSome)) rfl (cX (jg rfl (qf ?_))))))))))))))
  refine js (t := !((mGo ar ((normC ar cr (d - 1) ((fillL bl ((cs.getD k ([], [])).1)).getD [])).getD []) ((cs.getD k ([], [])).2) 0 bl).isSome)) rfl (fun h12 => ?_) (fun h12 => ?_)
  ·have hm9 := Bool.not_inj (y := false) h12
   refine qg (qd (qj (sN) rfl (qj (.bool (false)) rfl (qf (qu (qI (ql (ql (qI (ql (qt (L' := L) [sN, .bool (false)] (.tuple #[sN, .bool (false)]) (.tmp rfl (.tmp rfl .nil)) rfl (qc (qc (qc le3 leG2) le21) le22) rF (sD (sD (sD (sD sR)))) ?_)))))))))))
   have e : stepD ar cr d (l, r, cs) t p = none := by first | exact stepD_none (given_none hmN) | exact stepD_nofill hgs hf2 | exact stepD_none (hgo.trans (condD_nofill hk9 hf0)) | exact stepD_none (hgo.trans (condD_nonorm hd9 hk9 hf1 hn0)) | exact stepD_none (hgo.trans (condD_nomatch hd9 hk9 hf1 hn1 hm9)) | exact stepD_none (given_zero hm0 (by (try dsimp only); omega) (by omega))
   exact ⟨⟨_, by rw [e]; rfl, by rw [e]; exact IntsF.nilV, by rw [e]; exact Fresh.ofNil _⟩, rfl⟩
  have hm1 := opt_is (Bool.not_inj (y := true) h12) (by assumption)
  refine qz (qd (cX (qS (((k + 1 : Nat) : Int)) rfl rfl (by omega) (by omega) (qi (ii (((k + 1 : Nat) : Int))) rfl (qf ?_)))))
  exact ⟨(k + 1, x22, x23, F22), _, (qc (qc leG2 le21) le22), rF, ⟨rfl, rfl, rfl, rfl, rfl, rfl, rfl, rfl, rfl, ⟨⟩⟩, (sD (sC (sC (sC sR)))), ⟨rfl, (qc (qc leG2 le21) le22), (hr37), (hr38), (mGo_ok hwo _ _ _ _ hm1 hbo), (by (try dsimp only) <;> omega), (hgo.trans (condD_next hd9 (by omega) hf1 hn1 hm1))⟩, (by omega)⟩
 refine jn (qA (qA (qV (qg ?_))))
 refine jG [cellsH b5 bs 89, cellsH b2 [lv, rv, csv] 51, cellsH b1 [arv, crv] 29] L 9 [[], [], [], [], [], [4], [4], [], [4]] [[], [0], [], [2], [1, 3], [4], [4, 5], [4, 5], [4, 6]] [] (phiG [pe (.agg (bs).toArray), fun FF us v => (.agg #[((aggAt v 0))] : Value) = v ∧ (RowsF FF ((aggAt v 0)) bl), pe (ptr b2 1), pe rv, fun FF us v => (.tuple #[((tupAt v 0)), .bool ((fillL bl r).isSome)] : Value) = v ∧ (IntsF FF ((tupAt v 0)) ((fillL bl r).getD [])), fun FF us v => v = (.tuple #[((tupAt (us.getD 0 undef) 0)), .bool ((fillL bl r).isSome)] : Value), fun FF us v => v = ((tupAt (us.getD 0 undef) 0)), pe (.bool ((fillL bl r).isSome)), fun FF us v => v = ((tupAt (us.getD 0 undef) 0))]) (ownL []) mixed rfl rfl (by kernel_rfl) (by kernel_rfl) (MonoG.get (m1 (mC (fun le h => ⟨h.1, h.2.mono le⟩) (m1 (m1 (mC (fun le h => ⟨h.1, h.2.mono le⟩) (mC (fun le h => h) (mC (fun le h => h) (m1 (mC (fun le h => h) MonoG.nil)))))))))) ?_ ?_
 ·refine gD (fun W Fs R lF z9 => ?_) ?_
  ·replace har := har.mono lF
   replace ht := ht.mono lF
   replace hr := hr.mono lF
   replace hbc := hbc.mono lF
   refine qk (qs bs isAgg89 jX (by have := CO.len hbc; (try simp only [List.length_set, List.length_replicate] at this ⊢) <;> omega) rfl (Rd.ownN [] rfl take_all) ?_)
   exact ⟨rfl, rfl⟩
  refine gD (fun W Fs R lF z9 => ?_) ?_
  ·replace har := har.mono lF
   replace ht := ht.mono lF
   replace hr := hr.mono lF
   replace hbc := hbc.mono lF
   rw [zA 0 (z9 0 rfl)]
   refine qk (qn (args := [.agg (bs).toArray]) call61 rfl (subst_spec hbc ((by first | assumption | rfl | simp | omega))) ?_)
   rintro _ F26 _ le26 ⟨x26, rfl, hr43, rfl⟩
   replace har := har.mono le26
   replace ht := ht.mono le26
   replace hr := hr.mono le26
   exact ⟨⟨rfl, hr43⟩, rfl⟩
  refine gD (fun W Fs R lF z9 => ?_) ?_
  ·refine qk (qq (1) qR rfl qy (by decide) rfl rfl ?_)
   exact ⟨rfl, rfl⟩
  refine gD (fun W Fs R lF z9 => ?_) ?_
  ·replace har := har.mono lF
   replace ht := ht.mono lF
   replace hr := hr.mono lF
   rw [zA 2 (z9 2 rfl)]
   refine qk (qm qX rfl (Rd.own [_] rfl rfl) ?_)
   exact ⟨rfl, rfl⟩
  refine gD (fun W Fs R lF z9 => ?_) ?_
  ·obtain ⟨e1, f1_5hr⟩ := z9 1 rfl
   replace har := har.mono lF
   replace ht := ht.mono lF
   replace hr := hr.mono lF
   rw [eS (l := [(1, (.agg #[((aggAt (W 1) 0))])), (3, _)]) ⟨(e1).symm, z9 3 rfl, ⟨⟩⟩]
   refine qk (qn (args := [.agg #[((aggAt (W 1) 0))], rv]) call60 rfl (fill_spec f1_5hr hr (hsl := (by omega)) (hsb := (fun i => by have := hbl i; omega)) (htl := (by omega)) (htg := (fun i hi => by first | (have := hcg1 i hi; omega) | (have := hrg i hi; omega)))) ?_)
   rintro _ F27 _ le27 ⟨x27, rfl, hr44, hr45, rfl⟩
   replace har := har.mono le27
   replace ht := ht.mono le27
   replace f1_5hr := f1_5hr.mono le27
   exact ⟨⟨rfl, hr44⟩, rfl⟩
  refine gD (fun W Fs R lF z9 => ?_) ?_
  ·obtain ⟨e4, f4_5hr⟩ := z9 4 rfl
   rw [eS (l := [(4, (.tuple #[((tupAt (W 4) 0)), .bool ((fillL bl r).isSome)]))]) ⟨(e4).symm, ⟨⟩⟩]
   refine qk (qo (.tuple #[((tupAt (W 4) 0)), .bool ((fillL bl r).isSome)]) rfl ?_)
   exact ⟨rfl, rfl⟩
  refine gD (fun W Fs R lF z9 => ?_) ?_
  ·obtain ⟨e4, f4_5hr⟩ := z9 4 rfl
   have e5 : W 5 = (.tuple #[((tupAt (W 4) 0)), .bool ((fillL bl r).isSome)] : Value) := z9 5 rfl
   rw [eS (l := [(4, (.tuple #[((tupAt (W 4) 0)), .bool ((fillL bl r).isSome)])), (5, (.tuple #[((tupAt (W 4) 0)), .bool ((fillL bl r).isSome)]))]) ⟨(e4).symm, e5, ⟨⟩⟩]
   refine qk (qG (((tupAt (W 4) 0))) rfl rfl ?_)
   exact ⟨rfl, rfl⟩
  refine gD (fun W Fs R lF z9 => ?_) ?_
  ·obtain ⟨e4, f4_5hr⟩ := z9 4 rfl
   have e5 : W 5 = (.tuple #[((tupAt (W 4) 0)), .bool ((fillL bl r).isSome)] : Value) := z9 5 rfl
   rw [eS (l := [(4, (.tuple #[((tupAt (W 4) 0)), .bool ((fillL bl r).isSome)])), (5, (.tuple #[((tupAt (W 4) 0)), .bool ((fillL bl r).isSome)]))]) ⟨(e4).symm, e5, ⟨⟩⟩]
   refine qk (qG (.bool ((fillL bl r).isSome)) rfl rfl ?_)
   exact ⟨rfl, rfl⟩
  refine gD (fun W Fs R lF z9 => ?_) ?_
  ·obtain ⟨e4, f4_5hr⟩ := z9 4 rfl
   have e6 : W 6 = ((tupAt (W 4) 0)) := z9 6 rfl
   rw [eS (l := [(4, (.tuple #[((tupAt (W 4) 0)), .bool ((fillL bl r).isSome)])), (6, ((tupAt (W 4) 0)))]) ⟨(e4).symm, e6, ⟨⟩⟩]
   refine qk (jo (((tupAt (W 4) 0))) rfl ?_)
   exact ⟨rfl, rfl⟩
  exact stepsG.nil
 intro W F28 le28 hphi
 obtain ⟨e1, f1_5hr⟩ := hphi 1 (by decide)
 obtain ⟨e4, f4_5hr⟩ := hphi 4 (by decide)
 have e5 : W 5 = (.tuple #[((tupAt (W 4) 0)), .bool ((fillL bl r).isSome)] : Value) := hphi 5 (by decide)
 have e6 : W 6 = ((tupAt (W 4) 0)) := hphi 6 (by decide)
 have e8 : W 8 = ((tupAt (W 4) 0)) := hphi 8 (by decide)
 generalize hu10 : ((aggAt (W 1) 0)) = u9 at e1 f1_5hr e4 f4_5hr e5 e6 e8
 generalize hu11 : ((tupAt (W 4) 0)) = u10 at e1 f1_5hr e4 f4_5hr e5 e6 e8
 rw [eS (l := [(4, (.tuple #[u10, .bool ((fillL bl r).isSome)])), (7, _), (8, u10)]) ⟨(e4).symm, (hphi 7 (by decide)), e8, ⟨⟩⟩]
 replace har := har.mono le28
 replace ht := ht.mono le28
 show XL _ _ _ _ _ _ _ (cellsH b5 bs 89 :: cellsH b2 [lv, rv, csv] 51 :: cellsH b1 [arv, crv] 29 :: L)
 refine qj (.bool ((fillL bl r).isSome)) rfl (qf (qg (qg (qd (qi (.bool ((fillL bl r).isSome)) rfl (cX (jg rfl (qf ?_))))))))
 refine js (t := !((fillL bl r).isSome)) rfl (fun h13 => ?_) (fun h13 => ?_)
 ·have hgs := hgo.trans (condD_end (by omega))
  have hf2 := Bool.not_inj (y := false) h13
  refine qg (qd (qj (sN) rfl (qj (.bool (false)) rfl (qf (qu (ql (qt (L' := L) [sN, .bool (false)] (.tuple #[sN, .bool (false)]) (.tmp rfl (.tmp rfl .nil)) rfl (qc (qc le3 leG2) le28) rF (sD (sD (sD sR))) ?_)))))))
  have e : stepD ar cr d (l, r, cs) t p = none := by first | exact stepD_none (given_none hmN) | exact stepD_nofill hgs hf2 | exact stepD_none (hgo.trans (condD_nofill hk9 hf0)) | exact stepD_none (hgo.trans (condD_nonorm hd9 hk9 hf1 hn0)) | exact stepD_none (hgo.trans (condD_nomatch hd9 hk9 hf1 hn1 hm9)) | exact stepD_none (given_zero hm0 (by (try dsimp only); omega) (by omega))
  exact ⟨⟨_, by rw [e]; rfl, by rw [e]; exact IntsF.nilV, by rw [e]; exact Fresh.ofNil _⟩, rfl⟩
 have hgs := hgo.trans (condD_end (by omega))
 have hf2 := Bool.not_inj (y := true) h13
 have hfo := fill_okS hbo hRr hf2
 have hful := termOk_len hfo
 refine qz (qg (qd (cX (qq (0) qF rfl qB (by decide) rfl rfl (cX (qs [arv] qW qB rfl rfl (Rd.ownN [_, _] rfl rfl) (qi (tv) rfl (qi (ii ((p : Int))) rfl (qi (u10) rfl (cX (qn (args := [.agg #[arv], tv, ii (p : Int), u10]) call62 rfl (put_spec (p := p) har ht f4_5hr (ho := (by first | assumption | rfl | omega | simp)) (hp := (by first | assumption | rfl | omega | simp)) (hul := (by first | assumption | rfl | omega | simp))) ?_)))))))))))
 rintro _ F29 _ le29 ⟨x28, rfl, hr46, hr47, hr48, rfl⟩
 refine cX (qG (x28) rfl rfl (cX (qG (.bool ((putL ar t p ((fillL bl r).getD [])).isSome)) rfl rfl (qj (x28) rfl (qj (.bool ((putL ar t p ((fillL bl r).getD [])).isSome)) rfl (qf (qu (qt (L' := L) [x28, .bool ((putL ar t p ((fillL bl r).getD [])).isSome)] (.tuple #[x28, .bool ((putL ar t p ((fillL bl r).getD [])).isSome)]) (.tmp rfl (.tmp rfl .nil)) rfl (qc (qc (qc le3 leG2) le28) le29) rF (sD (sD (sD sR))) ?_))))))))
 have e := stepD_put (x := (l, r, cs)) hgs hf2
 exact ⟨⟨_, by rw [e], by rw [e]; exact hr46, by rw [e]; exact (hr48.base (qc (qc le3 leG2) le28))⟩, rfl⟩

/- (impl.CSystem).pick -/
set_option maxHeartbeats 2000000 in
set_option maxRecDepth 20000 in
theorem cpick_step {d : Nat} (ih : ∀ m : Nat, m < d → ∀ {F : FH} {L : List HP}  {arv : Value} {ar : List Int} (har : IntsF F arv ar) {crv : Value} {cr : List CRuleT} (hcr : CRulesF F crv cr) {tv : Value} {t : List Int} (ht : IntsF F tv t) (hc : csysOk ar cr = true) (ho : termOk ar t = true) (hd2 : m ≤ 2), Does prog 21 [.agg #[arv, crv], tv, ii ((m : Int))] F L (fun v F' L' => (∃ (a : Value), (.tuple #[a, .bool ((normC ar cr m t).isSome)] : Value) = v ∧ (IntsF F' a ((normC ar cr m t).getD []))) ∧ L = L')) {F : FH} {L : List HP}  {arv : Value} {ar : List Int} (har : IntsF F arv ar) {crv : Value} {cr : List CRuleT} (hcr : CRulesF F crv cr) {tv : Value} {t : List Int} (ht : IntsF F tv t) (hc : csysOk ar cr = true) (ho : termOk ar t = true) (hd2 : d ≤ 2) :
    Does prog 25 [.agg #[arv, crv], tv, ii ((d : Int))] F (L) (fun v F' L' => (∃ (a : Value), (.tuple #[ii (bestD t (pickD ar cr d t)), ii (ruleB ar cr d t (pickD ar cr d t)), a] : Value) = v ∧ (IntsF F' a (toB ar cr d t (pickD ar cr d t)))) ∧ L = L') := by
 refine qL func25 rfl rfl rfl ?_
 have hsl := sigOk_spec (termOk_sig ho)
 have htl := termOk_len ho
 have hcl := (csysOk_iff.1 hc).2.1
 refine qg (qd (cX (je [arv, crv] rfl rfl ?_)))
 intro b1
 refine qj (ii (0)) rfl (qj (ii (0)) rfl (qj (sN) rfl (qf (qg (qd (qj (ii (-1)) rfl (qj (ii (0)) rfl (qf (qg (qd (qj (sN) rfl (qf (qg (qd (qi (tv) rfl ?_)))))))))))))))
 refine cX (qE qh rfl ht.slv (qj (ii ((t.length : Int))) rfl (qf (qg (qg (qd (qi (tv) rfl (cX (qE qh rfl ht.slv (cX (jl (((t.length : Int)) - 1) rfl rfl (by omega) (by omega) (qj (ii (((t.length : Int)) - 1)) rfl (qf (qQ (jr (α := Nat × Nat × Value × FH) (fun xQ => [(1, tv), (2, ii ((d : Int))), (3, ptr b1 0), (9, ii (bestD t xQ.2.1)), (10, ii (ruleB ar cr d t xQ.2.1)), (11, xQ.2.2.1), (12, ii (((xQ.2.1 : Nat) : Int))), (13, ii (((xQ.1 : Int) - 1)))]) (fun xQ => cellsH b1 [arv, crv] 29 :: L) (fun xQ F' => xQ.2.2.2 = F' ∧ F ≤ xQ.2.2.2 ∧ (IntsF xQ.2.2.2 xQ.2.2.1 (toB ar cr d t xQ.2.1)) ∧ (xQ.1 ≤ t.length) ∧ (LowD ar cr d t xQ.1 xQ.2.1)) (fun xQ => xQ.1) (t.length, t.length, sN, F) ⟨rfl, rfl, rfl, (vI bestD_start.symm), (vI ruleB_start.symm), rfl, rfl, (vI (by (try dsimp only) <;> omega)), ⟨⟩⟩ (sC sR) ⟨rfl, FLe.refl _, (by (try dsimp only); rw [toB_start]; exact IntsF.nilV), (Nat.le_refl _), (LowD.start)⟩ ?_)))))))))))))))
 rintro ⟨j, lo, tov, G1⟩ rE _ _ ⟨rfl, leG, htv, hj, hlw⟩
 show X _ _ _ _ (envs [(1, tv), (2, ii ((d : Int))), (3, ptr b1 0), (9, ii (bestD t lo)), (10, ii (ruleB ar cr d t lo)), (11, tov), (12, ii (((lo : Nat) : Int))), (13, ii (((j : Int) - 1)))] rE) _ (cellsH b1 [arv, crv] 29 :: L)
 replace leG : F ≤ G1 := leG
 dsimp only at htv hj hlw
 have hlle := hlw.le
 have leG1 := leG
 replace har := har.mono leG1
 replace hcr := hcr.mono leG1
 replace ht := ht.mono leG1
 refine qg (qg (qd (qi (ii (((j : Int) - 1))) rfl (cX (jW rfl rfl (qf ?_))))))
 refine qH (p := (((j : Int) - 1) : Int) ≥ 0) rfl (fun h1 => ?_) (fun h1 => ?_)
 ·have hlw2 : LowD ar cr d t (((j : Int) - 1).toNat + 1) lo := by rw [show ((j : Int) - 1).toNat + 1 = j from by omega]; exact hlw
  have hj9 : ((j : Int) - 1).toNat < t.length := by omega
  refine qz (qg (qQ (qg (qg (qd (qi (tv) rfl (qi (ii (((j : Int) - 1))) rfl (cX (qD ((((j : Int) - 1)).toNat) qh qC rfl rfl (by omega) ht.slv (by omega) (Nat.mul_one _) (cX (qm jj rfl (ht.rd (by omega)) (cX (jb rfl rfl (qi (.bool (decide ((t.getD ((((j : Int) - 1)).toNat) 0 : Int) < 0))) rfl ?_))))))))))))))
  by_cases h2 : (t.getD ((((j : Int) - 1)).toNat) 0 : Int) < 0
  ·have hv9 := h2
   refine qp (t := 32) rfl (vT h2) (qp (t := 32) rfl (vT h2) (qp (t := 32) rfl (vT h2) (qp (t := 32) rfl (vT h2) (qp (t := 32) rfl (vT h2) (qp (t := 32) rfl (vT h2) (qp (t := 32) rfl (vT h2) (cX (qN (.bool (true)) (vT h2) rfl (qf (jH rfl ?_))))))))))
   refine jn (qA (qV (qd (qi (ii (((j : Int) - 1))) rfl (cX (jl ((((j : Int) - 1)) - 1) rfl rfl (by omega) (by omega) (qj (ii ((((j : Int) - 1)) - 1)) rfl (qf ?_))))))))
   exact ⟨(((j : Int) - 1).toNat, lo, tov, G1), _, leG1, rF, ⟨rfl, rfl, rfl, (vI (by first | rfl | ((try dsimp only); rw [bestD_at (by omega)]; omega))), (vI (by first | rfl | exact (ruleB_hit (by omega) hk9 hrk hsr).symm)), rfl, (by first | rfl | ((try dsimp only); exact congrArg (Value.int .i64) (by omega))), (vI (by (try dsimp only); omega)), ⟨⟩⟩, (sC sR), ⟨rfl, leG1, (htv), (by (try dsimp only) <;> omega), (by (try dsimp only); first | exact hlw2.rule (by rw [ruleD_var hc ho (by omega) hv9]; decide) | exact hlw2.cover ho (by omega) (by omega) | exact hlw2.rule hrn | exact hlw2.take ho (by omega) (by omega) (by rw [hrk, ruleG_hit hk9 hsr]; omega))⟩, (by (try dsimp only); omega)⟩
  refine qr (t := 32) rfl (vF h2) (qq (0) qF rfl qB (by decide) rfl rfl (qr (t := 32) rfl (vF h2) (qs [arv] qW qB rfl rfl (Rd.ownN [] rfl rfl) (qr (t := 32) rfl (vF h2) (qo (tv) rfl (qr (t := 32) rfl (vF h2) (qo (ii (((j : Int) - 1))) rfl (qr (t := 32) rfl (vF h2) (qn (args := [.agg #[arv], tv, ii (((((j : Int) - 1)).toNat : Nat) : Int)]) call48 (by rw [show (((((j : Int) - 1)).toNat : Nat) : Int) = ((j : Int) - 1) from by omega]; rfl) (endAt_ok (p := (((j : Int) - 1)).toNat) har ht (ho := (by first | assumption | rfl | omega | (left; simp; done) | (right; simp; done))) (hp := (by first | assumption | rfl | omega | (left; simp; done) | (right; simp; done)))) ?_)))))))))
  rintro _ _ _ _ ⟨rfl, rfl, rfl⟩
  refine qr (t := 32) rfl (vF h2) (qo (ii (((lo : Nat) : Int))) rfl (qr (t := 32) rfl (vF h2) (jF rfl rfl (cX (qM (.bool (decide ((((endN ar t ((((j : Int) - 1)).toNat) : Nat) : Int) : Int) > ((lo : Nat) : Int)))) (vF h2) rfl (qf ?_))))))
  refine qH (p := (((endN ar t ((((j : Int) - 1)).toNat) : Nat) : Int) : Int) > ((lo : Nat) : Int)) rfl (fun h3 => ?_) (fun h3 => ?_)
  ·refine jn (qA (qV (qd (qi (ii (((j : Int) - 1))) rfl (cX (jl ((((j : Int) - 1)) - 1) rfl rfl (by omega) (by omega) (qj (ii ((((j : Int) - 1)) - 1)) rfl (qf ?_))))))))
   exact ⟨(((j : Int) - 1).toNat, lo, tov, G1), _, leG1, rF, ⟨rfl, rfl, rfl, (vI (by first | rfl | ((try dsimp only); rw [bestD_at (by omega)]; omega))), (vI (by first | rfl | exact (ruleB_hit (by omega) hk9 hrk hsr).symm)), rfl, (by first | rfl | ((try dsimp only); exact congrArg (Value.int .i64) (by omega))), (vI (by (try dsimp only); omega)), ⟨⟩⟩, (sC sR), ⟨rfl, leG1, (htv), (by (try dsimp only) <;> omega), (by (try dsimp only); first | exact hlw2.rule (by rw [ruleD_var hc ho (by omega) hv9]; decide) | exact hlw2.cover ho (by omega) (by omega) | exact hlw2.rule hrn | exact hlw2.take ho (by omega) (by omega) (by rw [hrk, ruleG_hit hk9 hsr]; omega))⟩, (by (try dsimp only); omega)⟩
  refine qz (qg (qd (cX (qq (1) qF rfl jp (by decide) rfl rfl (cX (qm jz rfl (Rd.own [] rfl rfl) (cX (qE qU rfl hcr.slv (qi (ii (0)) rfl (qf (qQ (jr (α := Nat × FH) (fun xQ => [(1, tv), (2, ii ((d : Int))), (3, ptr b1 0), (9, ii (bestD t lo)), (10, ii (ruleB ar cr d t lo)), (11, tov), (12, ii (((lo : Nat) : Int))), (13, ii (((j : Int) - 1))), (42, crv), (43, ii ((cr.length : Int))), (44, ii (((xQ.1 : Nat) : Int)))]) (fun xQ => cellsH b1 [arv, crv] 29 :: L) (fun xQ F' => xQ.2 = F' ∧ G1 ≤ xQ.2 ∧ (xQ.1 ≤ cr.length) ∧ (ruleD ar cr d t ((j : Int) - 1).toNat = ruleG ar cr d t ((j : Int) - 1).toNat xQ.1)) (fun xQ => cr.length - xQ.1) (0, G1) ⟨rfl, rfl, rfl, rfl, rfl, rfl, rfl, rfl, rfl, rfl, rfl, ⟨⟩⟩ (sC sR) ⟨rfl, FLe.refl _, (Nat.zero_le _), (rfl)⟩ ?_))))))))))))
  rintro ⟨k, G2⟩ rE _ _ ⟨rfl, leG, hk, hrk⟩
  show X _ _ _ _ (envs [(1, tv), (2, ii ((d : Int))), (3, ptr b1 0), (9, ii (bestD t lo)), (10, ii (ruleB ar cr d t lo)), (11, tov), (12, ii (((lo : Nat) : Int))), (13, ii (((j : Int) - 1))), (42, crv), (43, ii ((cr.length : Int))), (44, ii ((k : Int)))] rE) _ (cellsH b1 [arv, crv] 29 :: L)
  replace leG : G1 ≤ G2 := leG
  dsimp only at hk hrk
  have leG2 := leG
  replace har := har.mono leG2
  replace hcr := hcr.mono leG2
  replace ht := ht.mono leG2
  replace htv := htv.mono leG2
  refine qg (qd (cX (jb rfl rfl (qf (qg ?_)))))
  refine qH (p := (k : Int) < (cr.length : Int)) rfl (fun h4 => ?_) (fun h4 => ?_)
  ·have hk9 : k < cr.length := by omega
   have hR9 := csysOk_at hc hk9
   refine qz (qg (qQ (qg (qd (qi (ii ((k : Int))) rfl (cX (qD k qU jv rfl rfl rfl hcr.slv (by omega) rfl ?_)))))))
   obtain ⟨a1, a2, a3, ha1, ha2, ha3, hrg1, hq1⟩ := hcr.rd (i := k) (by omega)
   refine cX (qs [a1, a2, a3] isAgg51 jv rfl rfl (Rd.all (hrg1 _)) (cX (jm [sN, sN, sN] jP rfl ?_)))
   intro b2
   refine qj (ii ((k : Int))) rfl (cX (qO [] _ [a1, a2, a3] jv rfl rfl rfl (qw (qJ (qv ha1)) (qw (qJ (qv ha2)) (qw (qJ (PairsF.isSl ha3)) qT))) rfl rfl rfl (qf (qg (qd (cX (qs [arv, crv] qY qK rfl rfl (Rd.ownN [_] rfl rfl) (qi (tv) rfl (qi (ii (((j : Int) - 1))) rfl (cX (qs [a1, a2, a3] isAgg51 jv rfl rfl (Rd.ownN [] rfl rfl) (qi (ii ((d : Int))) rfl (cX (qn (args := [.agg #[arv, crv], tv, ii (((((j : Int) - 1)).toNat : Nat) : Int), .agg #[a1, a2, a3], ii (d : Int)]) call32 (by rw [show (((((j : Int) - 1)).toNat : Nat) : Int) = ((j : Int) - 1) from by omega]; rfl) (cstep_step ih (p := (((j : Int) - 1)).toNat) har hcr ht ha1 ha2 ha3 (hc := (by first | assumption | rfl | omega | simp)) (ho := (by first | assumption | rfl | omega | simp)) (hd2 := (by first | assumption | rfl | omega | simp)) (hp := (by first | assumption | rfl | omega | simp)) (hR := (hR9))) ?_))))))))))))))
   rintro _ F1 _ le1 ⟨⟨x1, rfl, hr1, hr2⟩, rfl⟩
   replace htv := htv.mono le1
   show XL _ _ _ _ _ _ _ (cellsH b2 [a1, a2, a3] 51 :: cellsH b1 [arv, crv] 29 :: L)
   refine qi (.tuple #[x1, .bool ((stepD ar cr d (((cr.getD k ([], [], [])).1), ((cr.getD k ([], [], [])).2.1), ((cr.getD k ([], [], [])).2.2)) t ((((j : Int) - 1)).toNat)).isSome)]) rfl (cX (qG (x1) rfl rfl (cX (qG (.bool ((stepD ar cr d (((cr.getD k ([], [], [])).1), ((cr.getD k ([], [], [])).2.1), ((cr.getD k ([], [], [])).2.2)) t ((((j : Int) - 1)).toNat)).isSome)) rfl rfl (qj (x1) rfl (qj (.bool ((stepD ar cr d (((cr.getD k ([], [], [])).1), ((cr.getD k ([], [], [])).2.1), ((cr.getD k ([], [], [])).2.2)) t ((((j : Int) - 1)).toNat)).isSome)) rfl (qf (qg (qd (qi (.bool ((stepD ar cr d (((cr.getD k ([], [], [])).1), ((cr.getD k ([], [], [])).2.1), ((cr.getD k ([], [], [])).2.2)) t ((((j : Int) - 1)).toNat)).isSome)) rfl (qf ?_)))))))))))
   refine js (t := (stepD ar cr d (((cr.getD k ([], [], [])).1), ((cr.getD k ([], [], [])).2.1), ((cr.getD k ([], [], [])).2.2)) t ((((j : Int) - 1)).toNat)).isSome) rfl (fun h5 => ?_) (fun h5 => ?_)
   ·have hsr : (stepD ar cr d (RD cr k) t ((j : Int) - 1).toNat).isSome = true := h5
    refine qg (qd (qi (ii (((j : Int) - 1))) rfl (qi (ii ((k : Int))) rfl (qi (x1) rfl (qj (ii (((j : Int) - 1))) rfl (qj (ii ((k : Int))) rfl (qj (x1) rfl (qf (qg (qd (qi (ii (((j : Int) - 1))) rfl (qj (ii (((j : Int) - 1))) rfl ?_))))))))))))
    refine qf (jn (blockQ_other (by decide) (qA (qA (qV (qd (qi (ii (((j : Int) - 1))) rfl (cX (jl ((((j : Int) - 1)) - 1) rfl rfl (by omega) (by omega) (qj (ii ((((j : Int) - 1)) - 1)) rfl (qf ?_)))))))))))
    exact ⟨(((j : Int) - 1).toNat, ((j : Int) - 1).toNat, x1, F1), _, (qc (qc leG1 leG2) le1), rF, ⟨rfl, rfl, rfl, (vI (by first | rfl | ((try dsimp only); rw [bestD_at (by omega)]; omega))), (vI (by first | rfl | exact (ruleB_hit (by omega) hk9 hrk hsr).symm)), rfl, (by first | rfl | ((try dsimp only); exact congrArg (Value.int .i64) (by omega))), (vI (by (try dsimp only); omega)), ⟨⟩⟩, (sD (sC sR)), ⟨rfl, (qc (qc leG1 leG2) le1), (by (try dsimp only); rw [toB_hit (by omega) hk9 hrk hsr]; exact hr1), (by (try dsimp only) <;> omega), (by (try dsimp only); first | exact hlw2.rule (by rw [ruleD_var hc ho (by omega) hv9]; decide) | exact hlw2.cover ho (by omega) (by omega) | exact hlw2.rule hrn | exact hlw2.take ho (by omega) (by omega) (by rw [hrk, ruleG_hit hk9 hsr]; omega))⟩, (by (try dsimp only); omega)⟩
   have hsn : (stepD ar cr d (RD cr k) t ((j : Int) - 1).toNat).isSome = false := h5
   refine qz (qd (cX (qS (((k + 1 : Nat) : Int)) rfl rfl (by omega) (by omega) (qi (ii (((k + 1 : Nat) : Int))) rfl (qf ?_)))))
   exact ⟨(k + 1, F1), _, (qc leG2 le1), rF, ⟨rfl, rfl, rfl, rfl, rfl, rfl, rfl, rfl, rfl, rfl, rfl, ⟨⟩⟩, (sD (sC sR)), ⟨rfl, (qc leG2 le1), (by (try dsimp only) <;> omega), (hrk.trans (ruleG_miss hk9 hsn))⟩, (by omega)⟩
  have hrn : ruleD ar cr d t ((j : Int) - 1).toNat < 0 := by rw [hrk, ruleG_end (by omega)]; decide
  refine jn (qA (qA (qV (qd (qi (ii (((j : Int) - 1))) rfl (cX (jl ((((j : Int) - 1)) - 1) rfl rfl (by omega) (by omega) (qj (ii ((((j : Int) - 1)) - 1)) rfl (qf ?_)))))))))
  exact ⟨(((j : Int) - 1).toNat, lo, tov, G2), _, (qc leG1 leG2), rF, ⟨rfl, rfl, rfl, (vI (by first | rfl | ((try dsimp only); rw [bestD_at (by omega)]; omega))), (vI (by first | rfl | exact (ruleB_hit (by omega) hk9 hrk hsr).symm)), rfl, (by first | rfl | ((try dsimp only); exact congrArg (Value.int .i64) (by omega))), (vI (by (try dsimp only); omega)), ⟨⟩⟩, (sC sR), ⟨rfl, (qc leG1 leG2), (htv), (by (try dsimp only) <;> omega), (by (try dsimp only); first | exact hlw2.rule (by rw [ruleD_var hc ho (by omega) hv9]; decide) | exact hlw2.cover ho (by omega) (by omega) | exact hlw2.rule hrn | exact hlw2.take ho (by omega) (by omega) (by rw [hrk, ruleG_hit hk9 hsr]; omega))⟩, (by (try dsimp only); omega)⟩
 refine jn (qA (qA (qV (qg (qd (qi (ii (bestD t lo)) rfl (qi (ii (ruleB ar cr d t lo)) rfl (qi (tov) rfl (qj (ii (bestD t lo)) rfl (qj (ii (ruleB ar cr d t lo)) rfl (qj (tov) rfl (qf (qu (qt (L' := L) [ii (bestD t lo), ii (ruleB ar cr d t lo), tov] (.tuple #[ii (bestD t lo), ii (ruleB ar cr d t lo), tov]) (.tmp rfl (.tmp rfl (.tmp rfl .nil))) rfl leG1 rF (sD sR) ?_))))))))))))))
 have hpl : pickD ar cr d t = lo := LowD.done (by rw [← show j = 0 from by omega]; exact hlw)
 rw [hpl]
 exact ⟨⟨_, rfl, htv⟩, rfl⟩

/- impl.spend -/
theorem spend_spec {F : FH} {L : List HP} {b f : Nat} (hf : f ≤ 1000) :
    Does prog 46 [ptr b 0] F (cellsH b [ii ((f : Int))] 3 :: L) (fun v F' L' => (.bool (decide (f ≠ 0)) : Value) = v ∧ F = F' ∧ cellsH b [ii ((f - 1 : Nat) : Int)] 3 :: L = L') := by
 refine qL func46 rfl rfl rfl (qg (qd (qj (.bool (false)) rfl (qf (qg (qg (qd (qi (ptr b 0) rfl (cX (jA rfl (cX (qm isAgg3 rfl (Rd.own [] rfl rfl) (cX (jD rfl rfl (qf ?_)))))))))))))))
 refine qH (p := (f : Int) = 0) rfl (fun h1 => ?_) (fun h1 => ?_)
 ·refine qg (qd (qj (.bool (false)) rfl (qf (qu (ql (qt (L' := cellsH b [ii ((f : Int))] 3 :: L) [.bool (false)] (.bool (false)) (.tmp rfl .nil) rfl rF rF (sC sR) ?_))))))
  refine ⟨congrArg Value.bool (by first | exact decide_eq_false (by omega) | exact decide_eq_true (by omega)), rfl, ?_⟩
  exact congrArg (fun z : Int => cellsH b [.int .i64 z] 3 :: L) (by omega)
 refine qz (qg (qd (qi (ptr b 0) rfl (cX (jA rfl (cX (qm isAgg3 rfl (Rd.own [] rfl rfl) (cX (jl (((f : Int)) - 1) rfl rfl (by omega) (by omega) (cX (jA rfl (cX (jL [] _ [ii (((f : Int)) - 1)] sizeOf3 rfl rfl rfl rfl rfl rfl (qf (qg (qd (qj (.bool (true)) rfl (qf ?_))))))))))))))))))
 refine qu (qt (L' := cellsH b [ii (((f : Int)) - 1)] 3 :: L) [.bool (true)] (.bool (true)) (.tmp rfl .nil) rfl rF rF (sC sR) ?_)
 refine ⟨congrArg Value.bool (by first | exact decide_eq_false (by omega) | exact decide_eq_true (by omega)), rfl, ?_⟩
 exact congrArg (fun z : Int => cellsH b [.int .i64 z] 3 :: L) (by omega)

/- (impl.CSystem).normal -/
set_option maxHeartbeats 2000000 in
set_option maxRecDepth 20000 in
theorem cnormal_step {d : Nat} (ih : ∀ m : Nat, m < d → ∀ {F : FH} {L : List HP}  {arv : Value} {ar : List Int} (har : IntsF F arv ar) {crv : Value} {cr : List CRuleT} (hcr : CRulesF F crv cr) {tv : Value} {t : List Int} (ht : IntsF F tv t) (hc : csysOk ar cr = true) (ho : termOk ar t = true) (hd2 : m ≤ 2), Does prog 21 [.agg #[arv, crv], tv, ii ((m : Int))] F L (fun v F' L' => (∃ (a : Value), (.tuple #[a, .bool ((normC ar cr m t).isSome)] : Value) = v ∧ (IntsF F' a ((normC ar cr m t).getD []))) ∧ L = L')) {F : FH} {L : List HP}  {arv : Value} {ar : List Int} (har : IntsF F arv ar) {crv : Value} {cr : List CRuleT} (hcr : CRulesF F crv cr) {tv : Value} {t : List Int} (ht : IntsF F tv t) (hc : csysOk ar cr = true) (ho : termOk ar t = true) (hd2 : d ≤ 2) :
    Does prog 21 [.agg #[arv, crv], tv, ii ((d : Int))] F (L) (fun v F' L' => (∃ (a : Value), (.tuple #[a, .bool ((normC ar cr d t).isSome)] : Value) = v ∧ (IntsF F' a ((normC ar cr d t).getD []))) ∧ L = L') := by
 refine qL func21 rfl rfl rfl ?_
 have hsl := sigOk_spec (termOk_sig ho)
 have htl := termOk_len ho
 have hcl := (csysOk_iff.1 hc).2.1
 refine qg (qd (cX (je [arv, crv] rfl rfl ?_)))
 intro b1
 refine qj (sN) rfl (qj (.bool (false)) rfl (qf (qg (qd (cX (jm [ii (0)] zeroValue3 rfl ?_))))))
 intro b2
 refine cX (jL [] _ [ii (8)] sizeOf3 rfl rfl rfl rfl rfl rfl (qf (qQ (jr (α := Nat × Value × List Int × FH) (fun xQ => [(1, xQ.2.1), (2, ii ((d : Int))), (3, ptr b1 0), (8, ptr b2 0)]) (fun xQ => cellsH b2 [ii (((xQ.1 : Nat) : Int))] 3 :: cellsH b1 [arv, crv] 29 :: L) (fun xQ F' => xQ.2.2.2 = F' ∧ F ≤ xQ.2.2.2 ∧ (IntsF xQ.2.2.2 xQ.2.1 xQ.2.2.1) ∧ (termOk ar xQ.2.2.1 = true) ∧ (normC ar cr d t = normD ar cr d xQ.1 xQ.2.2.1) ∧ (xQ.1 ≤ 8)) (fun xQ => xQ.1) (8, tv, t, F) ⟨rfl, rfl, rfl, rfl, ⟨⟩⟩ (sC (sC sR)) ⟨rfl, FLe.refl _, (ht), (ho), (normD_eq), (Nat.le_refl _)⟩ ?_))))
 rintro ⟨f, cv, cur, G1⟩ rE _ _ ⟨rfl, leG, hcv, hoc, hgo, hf8⟩
 show X _ _ _ _ (envs [(1, cv), (2, ii ((d : Int))), (3, ptr b1 0), (8, ptr b2 0)] rE) _ (cellsH b2 [ii ((f : Int))] 3 :: cellsH b1 [arv, crv] 29 :: L)
 replace leG : F ≤ G1 := leG
 dsimp only at hcv hoc hgo hf8
 have hcl9 := termOk_len hoc
 have hple := pickD_le (ar := ar) (cr := cr) (d := d) (t := cur)
 have leG1 := leG
 replace har := har.mono leG1
 replace hcr := hcr.mono leG1
 refine qQ (qg (qd (cX (qs [arv, crv] qY qK rfl rfl (Rd.ownN [_] rfl rfl) (qi (cv) rfl (qi (ii ((d : Int))) rfl (cX (qn (args := [.agg #[arv, crv], cv, ii (d : Int)]) call25 rfl (cpick_step ih har hcr hcv (hc := (by first | assumption | rfl | omega | simp)) (ho := (by first | assumption | rfl | omega | simp)) (hd2 := (by first | assumption | rfl | omega | simp))) ?_))))))))
 rintro _ F1 _ le1 ⟨⟨x1, rfl, hr1⟩, rfl⟩
 replace hcv := hcv.mono le1
 show XL _ _ _ _ _ _ _ (cellsH b2 [ii ((f : Int))] 3 :: cellsH b1 [arv, crv] 29 :: L)
 refine qi (.tuple #[ii (bestD cur (pickD ar cr d cur)), ii (ruleB ar cr d cur (pickD ar cr d cur)), x1]) rfl (cX (qG (ii (bestD cur (pickD ar cr d cur))) rfl rfl (cX (qG (ii (ruleB ar cr d cur (pickD ar cr d cur))) rfl rfl (cX (qG (x1) rfl rfl (qj (ii (bestD cur (pickD ar cr d cur))) rfl (qj (ii (ruleB ar cr d cur (pickD ar cr d cur))) rfl (qj (x1) rfl (qf (qg (qg (qd (qi (ii (bestD cur (pickD ar cr d cur))) rfl (cX (jb rfl rfl ?_))))))))))))))))
 refine qf ?_
 refine qH (p := (bestD cur (pickD ar cr d cur) : Int) < 0) rfl (fun h1 => ?_) (fun h1 => ?_)
 ·have hpn : pickD ar cr d cur = cur.length := (bestD_neg hple).1 (by omega)
  refine qg (qd (qi (cv) rfl (qj (cv) rfl (qj (.bool (true)) rfl (qf (qu (ql (qI (ql (qI (qt (L' := L) [cv, .bool (true)] (.tuple #[cv, .bool (true)]) (.tmp rfl (.tmp rfl .nil)) rfl (qc leG1 le1) rF (sD (sD sR)) ?_)))))))))))
  have e : normC ar cr d t = some cur := hgo.trans (normD_nil hpn)
  exact ⟨⟨_, by rw [e]; rfl, by rw [e]; exact hcv⟩, rfl⟩
 have hpn : pickD ar cr d cur ≠ cur.length := fun e => by have := (bestD_neg hple).2 e; omega
 refine qz (qg (qg (qd (cX (qn (args := [ptr b2 0]) call46 rfl (spend_spec (f := f) (by omega)) ?_)))))
 rintro _ _ _ _ ⟨rfl, rfl, rfl⟩
 show XL _ _ _ _ _ _ _ (cellsH b2 [ii (((f - 1 : Nat) : Int))] 3 :: cellsH b1 [arv, crv] 29 :: L)
 refine cX (XOp.notD rfl (qf ?_))
 refine qH (p := ¬(f ≠ 0)) rfl (fun h2 => ?_) (fun h2 => ?_)
 ·refine qg (qd (qj (sN) rfl (qj (.bool (false)) rfl (qf (qu (ql (qI (ql (qI (qt (L' := L) [sN, .bool (false)] (.tuple #[sN, .bool (false)]) (.tmp rfl (.tmp rfl .nil)) rfl (qc leG1 le1) rF (sD (sD sR)) ?_))))))))))
  have e : normC ar cr d t = none := by rw [hgo, show f = 0 from by omega]; exact normD_zero hpn
  exact ⟨⟨_, by rw [e]; rfl, by rw [e]; exact IntsF.nilV⟩, rfl⟩
 refine qz (qd (qi (x1) rfl (qj (x1) rfl (qf ?_))))
 exact ⟨(f - 1, x1, toB ar cr d cur (pickD ar cr d cur), F1), _, (qc leG1 le1), rF, ⟨rfl, rfl, rfl, rfl, ⟨⟩⟩, (sC (sC sR)), ⟨rfl, (qc leG1 le1), (hr1), (toB_ok hc hoc hpn), (hgo.trans (normD_next hpn (by omega))), (by (try dsimp only) <;> omega)⟩, (by (try dsimp only); omega)⟩

theorem cnormal (d : Nat) : ∀ {F : FH} {L : List HP}  {arv : Value} {ar : List Int} (har : IntsF F arv ar) {crv : Value} {cr : List CRuleT} (hcr : CRulesF F crv cr) {tv : Value} {t : List Int} (ht : IntsF F tv t) (hc : csysOk ar cr = true) (ho : termOk ar t = true) (hd2 : d ≤ 2), Does prog 21 [.agg #[arv, crv], tv, ii ((d : Int))] F L (fun v F' L' => (∃ (a : Value), (.tuple #[a, .bool ((normC ar cr d t).isSome)] : Value) = v ∧ (IntsF F' a ((normC ar cr d t).getD []))) ∧ L = L') := by
  induction d using Nat.strongRecOn with
  | _ d ih =>
    intros
    exact cnormal_step ih (by assumption) (by assumption) (by assumption) (by assumption) (by assumption) (by assumption)

/- impl.CPickBy -/
theorem CPickBy_spec {F : FH} {L : List HP} {arv : Value} {ar : List Int} (har : IntsF F arv ar) {crv : Value} {cr : List CRuleT} (hcr : CRulesF F crv cr) {tv : Value} {t : List Int} (ht : IntsF F tv t) {z : Int} :
    Does prog 8 [.agg #[arv, crv], tv, ii (z)] F (L) (fun v F' L' => (.tuple #[ii ((pickF ar cr t z).1), ii ((pickF ar cr t z).2.1), .bool ((pickF ar cr t z).2.2)] : Value) = v ∧ L = L') := by
 refine qL func8 rfl rfl rfl (qg (qd (cX (je [arv, crv] rfl rfl ?_))))
 intro b1
 refine qj (ii (0)) rfl (qj (ii (0)) rfl (qj (.bool (false)) rfl (qf (qg (qg (qd (cX (qs [arv, crv] qY qK rfl rfl (Rd.ownN [] rfl rfl) (qi (tv) rfl (qi (ii (z)) rfl (cX (qn (args := [.agg #[arv, crv], tv, ii (z)]) call20 rfl (depthOk_spec (z := z) har hcr ht) ?_))))))))))))
 rintro _ _ _ _ ⟨rfl, rfl, rfl⟩
 refine cX (jg rfl (qf ?_))
 refine js (t := !(depthB ar cr t z)) rfl (fun h1 => ?_) (fun h1 => ?_)
 ·have hdb := Bool.not_inj (y := false) h1
  refine qg (qd (qj (ii (0)) rfl (qj (ii (0)) rfl (qj (.bool (false)) rfl (qf (qu (ql (qt (L' := L) [ii (0), ii (0), .bool (false)] (.tuple #[ii (0), ii (0), .bool (false)]) (.tmp rfl (.tmp rfl (.tmp rfl .nil))) rfl rF rF (sD sR) ?_))))))))
  first | (rw [pickF_no (by assumption)]; exact ⟨rfl, rfl⟩) | (rw [pickF_nil hpn]; exact ⟨rfl, rfl⟩) | (rw [pickF_yes hdb hpn, bestD_at (by omega), ruleB_at (by omega)]; exact ⟨rfl, rfl⟩)
 have hdb := Bool.not_inj (y := true) h1
 have hdq := depth_iff.1 hdb
 have hc := hdq.1.1
 have ho := hdq.1.2
 have hz := hdq.2
 have hple := pickD_le (ar := ar) (cr := cr) (d := z.toNat) (t := t)
 refine qz (qg (qd (cX (qs [arv, crv] qY qK rfl rfl (Rd.ownN [] rfl rfl) (qi (tv) rfl (qi (ii (z)) rfl (cX (qn (args := [.agg #[arv, crv], tv, ii (((z).toNat : Nat) : Int)]) call25 (by rw [show (((z).toNat : Nat) : Int) = z from by omega]; rfl) (cpick_step (d := (z).toNat) (fun m9 _ => cnormal m9) har hcr ht (hc := (by first | assumption | rfl | omega | simp)) (ho := (by first | assumption | rfl | omega | simp)) (hd2 := (by first | assumption | rfl | omega | simp))) ?_))))))))
 rintro _ F1 _ le1 ⟨⟨x1, rfl, hr1⟩, rfl⟩
 show XL _ _ _ _ _ _ _ (cellsH b1 [arv, crv] 29 :: L)
 refine qi (.tuple #[ii (bestD t (pickD ar cr ((z).toNat) t)), ii (ruleB ar cr ((z).toNat) t (pickD ar cr ((z).toNat) t)), x1]) rfl (cX (qG (ii (bestD t (pickD ar cr ((z).toNat) t))) rfl rfl (cX (qG (ii (ruleB ar cr ((z).toNat) t (pickD ar cr ((z).toNat) t))) rfl rfl (cX (qG (x1) rfl rfl (qj (ii (bestD t (pickD ar cr ((z).toNat) t))) rfl (qj (ii (ruleB ar cr ((z).toNat) t (pickD ar cr ((z).toNat) t))) rfl (qj (x1) rfl (qf (qg (qg (qd (qi (ii (bestD t (pickD ar cr ((z).toNat) t))) rfl (cX (jb rfl rfl ?_))))))))))))))))
 refine qf ?_
 refine qH (p := (bestD t (pickD ar cr ((z).toNat) t) : Int) < 0) rfl (fun h2 => ?_) (fun h2 => ?_)
 ·have hpn : pickD ar cr z.toNat t = t.length := (bestD_neg hple).1 (by omega)
  refine qg (qd (qj (ii (0)) rfl (qj (ii (0)) rfl (qj (.bool (false)) rfl (qf (qu (ql (qt (L' := L) [ii (0), ii (0), .bool (false)] (.tuple #[ii (0), ii (0), .bool (false)]) (.tmp rfl (.tmp rfl (.tmp rfl .nil))) rfl le1 rF (sD sR) ?_))))))))
  first | (rw [pickF_no (by assumption)]; exact ⟨rfl, rfl⟩) | (rw [pickF_nil hpn]; exact ⟨rfl, rfl⟩) | (rw [pickF_yes hdb hpn, bestD_at (by omega), ruleB_at (by omega)]; exact ⟨rfl, rfl⟩)
 have hpn : pickD ar cr z.toNat t ≠ t.length := fun e => by have := (bestD_neg hple).2 e; omega
 refine qz (qg (qd (qi (ii (bestD t (pickD ar cr ((z).toNat) t))) rfl (qi (ii (ruleB ar cr ((z).toNat) t (pickD ar cr ((z).toNat) t))) rfl (qj (ii (bestD t (pickD ar cr ((z).toNat) t))) rfl (qj (ii (ruleB ar cr ((z).toNat) t (pickD ar cr ((z).toNat) t))) rfl (qj (.bool (true)) rfl (qf (qu (qt (L' := L) [ii (bestD t (pickD ar cr ((z).toNat) t)), ii (ruleB ar cr ((z).toNat) t (pickD ar cr ((z).toNat) t)), .bool (true)] (.tuple #[ii (bestD t (pickD ar cr ((z).toNat) t)), ii (ruleB ar cr ((z).toNat) t (pickD ar cr ((z).toNat) t)), .bool (true)]) (.tmp rfl (.tmp rfl (.tmp rfl .nil))) rfl le1 rF (sD sR) ?_))))))))))
 first | (rw [pickF_no (by assumption)]; exact ⟨rfl, rfl⟩) | (rw [pickF_nil hpn]; exact ⟨rfl, rfl⟩) | (rw [pickF_yes hdb hpn, bestD_at (by omega), ruleB_at (by omega)]; exact ⟨rfl, rfl⟩)
end Go.Proofs.YteodlimhopibkaaGreat
