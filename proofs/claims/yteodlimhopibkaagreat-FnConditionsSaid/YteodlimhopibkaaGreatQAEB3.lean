/-
  Walks, one after the other (part 4).
-/
import Derived.Test.YteodlimhopibkaaGreatQAEL1
import Derived.Test.YteodlimhopibkaaGreatQAEB2
import Derived.Test.YteodlimhopibkaaGreatQAEB0
set_option linter.unusedSimpArgs false
set_option linter.unusedVariables false
namespace Go.Proofs.YteodlimhopibkaaGreat
open Go X M Tryz

/- spec.l1Into -/
theorem l1IntoS_spec {F : FH} {L : List HP} {xsv : Value} {xs : List Int} (hxs : IntsF F xsv xs) {n : Int} (hlx : xs.length ≤ 1000) :
    Does prog 101 [xsv, ii (n)] F (L) (fun v F' L' => ∃ (a : Value), ∃ (os : List Int), (a : Value) = v ∧ (IntsF F' a os) ∧ (IntoS xs os n) ∧ (os.length ≤ xs.length + 1) ∧ L = L') := by
 refine qL func101 rfl rfl rfl (qg (qd (qj (sN) rfl (qf (qg (qd (qj (ii (0)) rfl (qf (qg (qQ (jr (α := Nat) (fun k => [(0, xsv), (1, ii (n)), (5, ii ((k : Int)))]) (fun k => L) (fun k F' => F = F' ∧ (k ≤ xs.length)) (fun k => xs.length - k) 0 ⟨rfl, rfl, rfl, ⟨⟩⟩ sR ⟨rfl, (Nat.zero_le _)⟩ ?_)))))))))))
 rintro k rE _ _ ⟨rfl, hk⟩
 show X _ _ _ _ (envs [(0, xsv), (1, ii (n)), (5, ii ((k : Int)))] rE) _ (L)
 refine qg (qg (qd (qi (ii ((k : Int))) rfl (qi (xsv) rfl (cX (qE qh rfl hxs.slv (cX (jb rfl rfl (qi (.bool (decide ((k : Int) < (xs.length : Int)))) rfl ?_)))))))))
 by_cases h1 : (k : Int) < (xs.length : Int)
 ·refine qr (t := 11) rfl (vT h1) (qo (xsv) rfl (qr (t := 11) rfl (vT h1) (qo (ii ((k : Int))) rfl (qr (t := 11) rfl (vT h1) (qD k qh qC rfl rfl rfl hxs.slv (by omega) (Nat.mul_one _) (qr (t := 11) rfl (vT h1) (qm jj rfl (hxs.rd (by omega)) (qr (t := 11) rfl (vT h1) (qo (ii (n)) rfl (qr (t := 11) rfl (vT h1) (jb rfl rfl (cX (qN (.bool (decide ((xs.getD k 0 : Int) < n))) (vT h1) rfl (qf ?_))))))))))))))
  refine qH (p := (xs.getD k 0 : Int) < n) rfl (fun h2 => ?_) (fun h2 => ?_)
  ·refine qz (qQ (qd (qi (ii ((k : Int))) rfl (cX (qS (((k + 1 : Nat) : Int)) rfl rfl (by omega) (by omega) (qj (ii (((k + 1 : Nat) : Int))) rfl (qf ?_)))))))
   exact ⟨k + 1, _, FLe.refl _, rF, ⟨rfl, rfl, rfl, ⟨⟩⟩, sR, ⟨rfl, (by (try dsimp only) <;> omega)⟩, (by omega)⟩
  refine jn (qA (qA (qV (qg (qg (qd (qi (ii ((k : Int))) rfl (qi (xsv) rfl (cX (qE qh rfl hxs.slv (cX (jb rfl rfl (qi (.bool (decide ((k : Int) < (xs.length : Int)))) rfl (qr (t := 25) rfl (vT h1) (qo (xsv) rfl (qr (t := 25) rfl (vT h1) (qo (ii ((k : Int))) rfl (qr (t := 25) rfl (vT h1) (qD k qh qC rfl rfl rfl hxs.slv (by omega) (Nat.mul_one _) ?_)))))))))))))))))))
  refine qr (t := 25) rfl (vT h1) (qm jj rfl (hxs.rd (by omega)) (qr (t := 25) rfl (vT h1) (qo (ii (n)) rfl (qr (t := 25) rfl (vT h1) (jD rfl rfl (cX (qN (.bool (decide ((xs.getD k 0 : Int) = n))) (vT h1) rfl (qf ?_))))))))
  refine qH (p := (xs.getD k 0 : Int) = n) rfl (fun h3 => ?_) (fun h3 => ?_)
  ·refine qg (qd (qi (xsv) rfl (qj (xsv) rfl (qf (qu (ql (qt (L' := L) [xsv] (xsv) (.tmp rfl .nil) rfl rF rF sR ?_)))))))
   exact ⟨_, _, rfl, hxs, IntoS.has (mem_of_getD (k := k) (by omega) (by omega)), by omega, rfl⟩
  refine qz (qg (qd (qi (xsv) rfl (qi (ii ((k : Int))) rfl (cX (XOp.sliceI 0 k qh qC rfl hxs rfl ⟨_, rfl⟩ (by omega) (by omega) ?_))))))
  intro v1 hv1 hn1
  refine cX (qn (args := [v1]) call31 rfl (l1Copy_spec hv1 (hlt := (by simp; omega))) ?_)
  rintro v2 _ _ _ ⟨rfl, hs1, rfl⟩
  refine qi (ii (n)) rfl (cX (qx (s := 1) [ii (n)] [ii (0)] [(0, [ii (n)])] qh qC qP rfl (by decide) rfl (.cons rfl CellsAre.nil) rfl ?_))
  intro v3 hv2
  refine cX (XOp.append1 (u := n) [_] _ qh typeInfo2 rfl rfl rfl rfl rfl rfl (SlV.own [] rfl) (Rd.sl [] rfl rfl) (by (try simp only [List.length_append, List.length_nil, List.length_cons, List.length_singleton, List.length_take, List.length_drop]); omega) ?_)
  intro v4 hs2 hn2
  refine qj (v4) rfl (qf (qg (qd (qi (v4) rfl (qi (xsv) rfl (qi (ii ((k : Int))) rfl (cX (XOp.sliceI k ((xs).length) qh qC rfl hxs ⟨_, rfl⟩ rfl (by omega) (by omega) ?_))))))))
  intro v5 hv3 hn3
  refine cX (yd [_] _ qh typeInfo2 rfl rfl rfl rfl rfl rfl hv3 (by (try simp only [List.length_append, List.length_nil, List.length_cons, List.length_singleton, List.length_take, List.length_drop]); omega) ?_)
  intro v6 hs3 hn4 hm1
  refine qj (v6) rfl (qf (ji [_] _ _ rfl (fun F1 le1 hz1 => ?_)))
  replace hxs := hxs.mono le1
  have hf1 : IntsF F1 v6 (((((((xs.drop 0).take (k - 0))))) ++ [n]) ++ (((xs.drop k).take (((xs).length) - k)))) := intsH.fz (xs := ((((((xs.drop 0).take (k - 0))))) ++ [n]) ++ (((xs.drop k).take (((xs).length) - k)))) hz1.fz
  refine qu (qt (L' := L) [v6] (v6) (.tmp rfl .nil) rfl le1 rF (sD sR) ?_)
  exact ⟨_, _, rfl, hf1, by have h9 := IntoS.ins (xs := xs) (n := n) k; have h8 : List.take (xs.length - k) (List.drop k xs) = List.drop k xs := List.take_of_length_le (by simp); simpa [h8] using h9, by simp only [List.length_append, List.length_take, List.length_drop, List.length_singleton]; omega, rfl⟩
 refine qp (t := 11) rfl (vF h1) (qp (t := 11) rfl (vF h1) (qp (t := 11) rfl (vF h1) (qp (t := 11) rfl (vF h1) (qp (t := 11) rfl (vF h1) (qp (t := 11) rfl (vF h1) (cX (qM (.bool (false)) (vF h1) rfl (qf (jS rfl (jn (qA (qA (qV ?_)))))))))))))
 refine qg (qg (qd (qi (ii ((k : Int))) rfl (qi (xsv) rfl (cX (qE qh rfl hxs.slv (cX (jb rfl rfl (qi (.bool (decide ((k : Int) < (xs.length : Int)))) rfl (qp (t := 25) rfl (vF h1) (qp (t := 25) rfl (vF h1) (qp (t := 25) rfl (vF h1) (qp (t := 25) rfl (vF h1) ?_)))))))))))))
 refine qp (t := 25) rfl (vF h1) (qp (t := 25) rfl (vF h1) (cX (qM (.bool (false)) (vF h1) rfl (qf (jS rfl (qz (qg (qd (qi (xsv) rfl (qi (ii ((k : Int))) rfl (cX (XOp.sliceI 0 k qh qC rfl hxs rfl ⟨_, rfl⟩ (by omega) (by omega) ?_))))))))))))
 intro v7 hv4 hn5
 refine cX (qn (args := [v7]) call31 rfl (l1Copy_spec hv4 (hlt := (by simp; omega))) ?_)
 rintro v8 _ _ _ ⟨rfl, hs4, rfl⟩
 refine qi (ii (n)) rfl (cX (qx (s := 1) [ii (n)] [ii (0)] [(0, [ii (n)])] qh qC qP rfl (by decide) rfl (.cons rfl CellsAre.nil) rfl ?_))
 intro v9 hv5
 refine cX (XOp.append1 (u := n) [_] _ qh typeInfo2 rfl rfl rfl rfl rfl rfl (SlV.own [] rfl) (Rd.sl [] rfl rfl) (by (try simp only [List.length_append, List.length_nil, List.length_cons, List.length_singleton, List.length_take, List.length_drop]); omega) ?_)
 intro v10 hs5 hn6
 refine qj (v10) rfl (qf (qg (qd (qi (v10) rfl (qi (xsv) rfl (qi (ii ((k : Int))) rfl (cX (XOp.sliceI k ((xs).length) qh qC rfl hxs ⟨_, rfl⟩ rfl (by omega) (by omega) ?_))))))))
 intro v11 hv6 hn7
 refine cX (yd [_] _ qh typeInfo2 rfl rfl rfl rfl rfl rfl hv6 (by (try simp only [List.length_append, List.length_nil, List.length_cons, List.length_singleton, List.length_take, List.length_drop]); omega) ?_)
 intro v12 hs6 hn8 hm2
 refine qj (v12) rfl (qf (ji [_] _ _ rfl (fun F2 le2 hz2 => ?_)))
 have hf2 : IntsF F2 v12 (((((((xs.drop 0).take (k - 0))))) ++ [n]) ++ (((xs.drop k).take (((xs).length) - k)))) := intsH.fz (xs := ((((((xs.drop 0).take (k - 0))))) ++ [n]) ++ (((xs.drop k).take (((xs).length) - k)))) hz2.fz
 refine qu (qt (L' := L) [v12] (v12) (.tmp rfl .nil) rfl le2 rF (sD sR) ?_)
 exact ⟨_, _, rfl, hf2, by have h9 := IntoS.ins (xs := xs) (n := n) k; have h8 : List.take (xs.length - k) (List.drop k xs) = List.drop k xs := List.take_of_length_le (by simp); simpa [h8] using h9, by simp only [List.length_append, List.length_take, List.length_drop, List.length_singleton]; omega, rfl⟩

/- spec.l27With -/
theorem l27With_spec {F : FH} {L : List HP} {vsv : Value} {vs : List Int} (hvs : IntsF F vsv vs) {tv : Value} {t : List Int} (ht : IntsF F tv t) (hlv : vs.length ≤ 500) (hlt : t.length ≤ 60) (htg : ∀ i, i < t.length → -24 ≤ t.getD i 0) :
    Does prog 86 [vsv, tv] F (L) (fun v F' L' => ∃ (a : Value), ∃ (ws : List Int), (a : Value) = v ∧ (IntsF F' a ws) ∧ (WithS vs ws t) ∧ (ws.length ≤ vs.length + t.length) ∧ L = L') := by
 refine qL func86 rfl rfl rfl ?_
 have htk := htg
 refine qg (qd (qj (sN) rfl (qf (qg (qg (qd (qj (ii (0)) rfl (qf (qQ (jr (α := Nat × Value × List Int × FH) (fun xQ => [(0, xQ.2.1), (1, tv), (5, ii (((xQ.1 : Nat) : Int)))]) (fun xQ => L) (fun xQ F' => xQ.2.2.2 = F' ∧ F ≤ xQ.2.2.2 ∧ (IntsF xQ.2.2.2 xQ.2.1 xQ.2.2.1) ∧ (xQ.1 ≤ t.length) ∧ (WithS vs xQ.2.2.1 (t.take xQ.1)) ∧ (xQ.2.2.1.length ≤ vs.length + xQ.1)) (fun xQ => t.length - xQ.1) (0, vsv, vs, F) ⟨rfl, rfl, rfl, ⟨⟩⟩ sR ⟨rfl, FLe.refl _, (hvs), (Nat.zero_le _), (WithS.start), (by (try dsimp only) <;> omega)⟩ ?_))))))))))
 rintro ⟨k, wv, ws, G1⟩ rE _ _ ⟨rfl, leG, hwv, hk, hws, hwl⟩
 show X _ _ _ _ (envs [(0, wv), (1, tv), (5, ii ((k : Int)))] rE) _ (L)
 replace leG : F ≤ G1 := leG
 dsimp only at hwv hk hws hwl
 have leG1 := leG
 replace ht := ht.mono leG1
 refine qg (qg (qd (qi (ii ((k : Int))) rfl (qi (tv) rfl (cX (qE qh rfl ht.slv (cX (jb rfl rfl (qf ?_)))))))))
 refine qH (p := (k : Int) < (t.length : Int)) rfl (fun h1 => ?_) (fun h1 => ?_)
 ·have htk9 := htg k (by omega)
  refine qz (qg (qQ (qg (qd (qi (tv) rfl (qi (ii ((k : Int))) rfl (cX (qD k qh qC rfl rfl rfl ht.slv (by omega) (Nat.mul_one _) (cX (qm jj rfl (ht.rd (by omega)) (cX (jb rfl rfl (qf ?_)))))))))))))
  refine qH (p := (t.getD k 0 : Int) < 0) rfl (fun h2 => ?_) (fun h2 => ?_)
  ·refine qd (qi (wv) rfl (qi (tv) rfl (qi (ii ((k : Int))) rfl (cX (qD k qh qC rfl rfl rfl ht.slv (by omega) (Nat.mul_one _) (cX (qm jj rfl (ht.rd (by omega)) (cX (jl ((-1) - (t.getD k 0)) rfl rfl (by omega) (by omega) (cX (qn (args := [wv, ii ((-1) - (t.getD k 0))]) call101 rfl (l1IntoS_spec (n := (-1) - (t.getD k 0)) hwv (hlx := (by first | assumption | rfl | omega | simp))) ?_)))))))))))
   rintro _ F1 _ le1 ⟨x1, x2, rfl, hr1, hr2, hr3, rfl⟩
   replace hwv := hwv.mono le1
   refine qj (x1) rfl (qf (qd (qi (ii ((k : Int))) rfl (cX (qS (((k + 1 : Nat) : Int)) rfl rfl (by omega) (by omega) (qj (ii (((k + 1 : Nat) : Int))) rfl (qf ?_)))))))
   exact ⟨(k + 1, x1, x2, F1), _, (qc leG1 le1), rF, ⟨rfl, rfl, rfl, ⟨⟩⟩, sR, ⟨rfl, (qc leG1 le1), (hr1), (by (try dsimp only) <;> omega), (hws.next (by omega) (by assumption) hr2), (by have h9 := hr3; (try dsimp only); omega)⟩, (by omega)⟩
  refine qz (qd (qi (ii ((k : Int))) rfl (cX (qS (((k + 1 : Nat) : Int)) rfl rfl (by omega) (by omega) (qj (ii (((k + 1 : Nat) : Int))) rfl (qf ?_))))))
  exact ⟨(k + 1, wv, ws, G1), _, leG1, rF, ⟨rfl, rfl, rfl, ⟨⟩⟩, sR, ⟨rfl, leG1, (hwv), (by (try dsimp only) <;> omega), (hws.skip (by omega) (by assumption)), (by (try dsimp only) <;> omega)⟩, (by omega)⟩
 refine jn (qA (qA (qV (qg (qd (qi (wv) rfl (qj (wv) rfl (qf (qu (qt (L' := L) [wv] (wv) (.tmp rfl .nil) rfl leG1 rF sR ?_))))))))))
 exact ⟨_, _, rfl, hwv, by rw [List.take_of_length_le (by omega)] at hws; exact hws, by omega, rfl⟩

/- spec.l27Within -/
theorem l27Within_spec {F : FH} {L : List HP} {tv : Value} {t : List Int} (ht : IntsF F tv t) {vsv : Value} {vs : List Int} (hvs : IntsF F vsv vs) (hlt : t.length ≤ 4000000) (hlv : vs.length ≤ 4000000) (htg : ∀ i, i < t.length → -24 ≤ t.getD i 0) :
    Does prog 88 [tv, vsv] F (L) (fun v F' L' => (.bool (withinL t vs) : Value) = v ∧ F = F' ∧ L = L') := by
 refine qL func88 rfl rfl rfl (qg (qd (qj (.bool (false)) rfl (qf (qg (qg (qd (qj (ii (0)) rfl (qf (qQ (jr (α := Nat) (fun k => [(0, tv), (1, vsv), (5, ii ((k : Int)))]) (fun k => L) (fun k F' => F = F' ∧ (k ≤ t.length) ∧ (∀ i, i < k → (decide (0 ≤ t.getD i 0) || decide ((-1 - t.getD i 0) ∈ vs)) = true)) (fun k => t.length - k) 0 ⟨rfl, rfl, rfl, ⟨⟩⟩ sR ⟨rfl, (by (try dsimp only) <;> omega), (fun i hi => absurd hi (by omega))⟩ ?_)))))))))))
 rintro k rE _ _ ⟨rfl, hk, hall⟩
 show X _ _ _ _ (envs [(0, tv), (1, vsv), (5, ii ((k : Int)))] rE) _ (L)
 have htk := htg k
 refine qg (qg (qd (qi (ii ((k : Int))) rfl (qi (tv) rfl (cX (qE qh rfl ht.slv (cX (jb rfl rfl (qf ?_)))))))))
 refine qH (p := (k : Int) < (t.length : Int)) rfl (fun h1 => ?_) (fun h1 => ?_)
 ·refine qz (qg (qQ (qg (qd (qi (tv) rfl (qi (ii ((k : Int))) rfl (cX (qD k qh qC rfl rfl rfl ht.slv (by omega) (Nat.mul_one _) (cX (qm jj rfl (ht.rd (by omega)) (cX (jb rfl rfl (qi (.bool (decide ((t.getD k 0 : Int) < 0))) rfl ?_)))))))))))))
  by_cases h2 : (t.getD k 0 : Int) < 0
  ·refine qr (t := 17) rfl (vT h2) (qo (vsv) rfl (qr (t := 17) rfl (vT h2) (qo (tv) rfl (qr (t := 17) rfl (vT h2) (qo (ii ((k : Int))) rfl (qr (t := 17) rfl (vT h2) (qD k qh qC rfl rfl rfl ht.slv (by omega) (Nat.mul_one _) (qr (t := 17) rfl (vT h2) (qm jj rfl (ht.rd (by omega)) (qr (t := 17) rfl (vT h2) (jl ((-1) - (t.getD k 0)) rfl rfl (by omega) (by omega) (qr (t := 17) rfl (vT h2) (qn (args := [vsv, ii ((-1) - (t.getD k 0))]) call102 rfl (l1Has_spec (n := (-1) - (t.getD k 0)) hvs (hbd := (by first | assumption | rfl | omega | simp))) ?_)))))))))))))
   rintro _ _ _ _ ⟨rfl, rfl, rfl⟩
   refine qr (t := 17) rfl (vT h2) (XOp.notD rfl (cX (qN (.bool (decide (¬(((-1) - (t.getD k 0)) ∈ vs)))) (vT h2) rfl (qf ?_))))
   refine qH (p := ¬(((-1) - (t.getD k 0)) ∈ vs)) rfl (fun h3 => ?_) (fun h3 => ?_)
   ·refine qg (qd (qj (.bool (false)) rfl (qf (qu (qI (ql (ql (qI (ql (qt (L' := L) [.bool (false)] (.bool (false)) (.tmp rfl .nil) rfl rF rF sR ?_))))))))))
    exact ⟨(vB (by rw [withinL, all_fail 0 (k := k) (by omega) (by rw [decide_eq_false (show ¬ 0 ≤ t.getD k 0 by omega)]; simp_all)])), rfl, rfl⟩
   refine qz (qd (qi (ii ((k : Int))) rfl (cX (qS (((k + 1 : Nat) : Int)) rfl rfl (by omega) (by omega) (qj (ii (((k + 1 : Nat) : Int))) rfl (qf ?_))))))
   exact ⟨k + 1, _, FLe.refl _, rF, ⟨rfl, rfl, rfl, ⟨⟩⟩, sR, ⟨rfl, (by (try dsimp only) <;> omega), (fun i hi => (Nat.lt_or_ge i k).elim (fun h => hall i h) (fun h => by obtain rfl : i = k := (by omega); first | (rw [decide_eq_true (show 0 ≤ t.getD i 0 by omega)]; rfl) | simp_all))⟩, (by omega)⟩
  refine qp (t := 17) rfl (vF h2) (qp (t := 17) rfl (vF h2) (qp (t := 17) rfl (vF h2) (qp (t := 17) rfl (vF h2) (qp (t := 17) rfl (vF h2) (qp (t := 17) rfl (vF h2) (qp (t := 17) rfl (vF h2) (qp (t := 17) rfl (vF h2) (cX (qM (.bool (false)) (vF h2) rfl (qf ?_))))))))))
  refine jS rfl (qz (qd (qi (ii ((k : Int))) rfl (cX (qS (((k + 1 : Nat) : Int)) rfl rfl (by omega) (by omega) (qj (ii (((k + 1 : Nat) : Int))) rfl (qf ?_)))))))
  exact ⟨k + 1, _, FLe.refl _, rF, ⟨rfl, rfl, rfl, ⟨⟩⟩, sR, ⟨rfl, (by (try dsimp only) <;> omega), (fun i hi => (Nat.lt_or_ge i k).elim (fun h => hall i h) (fun h => by obtain rfl : i = k := (by omega); first | (rw [decide_eq_true (show 0 ≤ t.getD i 0 by omega)]; rfl) | simp_all))⟩, (by omega)⟩
 refine jn (qA (qA (qV (qg (qd (qj (.bool (true)) rfl (qf (qu (qt (L' := L) [.bool (true)] (.bool (true)) (.tmp rfl .nil) rfl rF rF sR ?_)))))))))
 exact ⟨(vB (by rw [withinL, all_getD_iff 0]; exact fun i hi => hall i (by omega))), rfl, rfl⟩

/- spec.CRuleOk -/
set_option maxRecDepth 20000 in
theorem sCRuleOk_spec {F : FH} {L : List HP} {arv : Value} {ar : List Int} (har : IntsF F arv ar) {lv : Value} {l : List Int} (hl : IntsF F lv l) {rv : Value} {r : List Int} (hr : IntsF F rv r) {csv : Value} {cs : List (List Int × List Int)} (hcs : PairsF F csv cs) (hla : ar.length ≤ 4000000) (hlb : l.length ≤ 4000000) (hlc : r.length ≤ 4000000) (hln : cs.length ≤ 4000000) (hcb : ∀ i, i < cs.length → (cs.getD i ([], [])).1.length ≤ 4000000 ∧ (cs.getD i ([], [])).2.length ≤ 4000000) :
    Does prog 57 [.agg #[arv], .agg #[lv, rv, csv]] F (L) (fun v F' L' => (.bool (cruleOk ar (l, r, cs)) : Value) = v ∧ F = F' ∧ L = L') := by
 refine qL func57 rfl rfl rfl (qg (qd (cX (je [arv] rfl rfl ?_))))
 intro b1
 refine cX (je [lv, rv, csv] rfl rfl ?_)
 intro b2
 refine qj (.bool (false)) rfl (qf (qg (qg (qd (cX (qs [arv] qW qB rfl rfl (Rd.ownN [_] rfl rfl) (cX (qq (0) qR rfl qy (by decide) rfl rfl (cX (qm qX rfl (Rd.own [] rfl rfl) (cX (qn (args := [.agg #[arv], lv]) call44 rfl (sTermOk_spec har hl (hla := (by first | assumption | rfl | omega | simp)) (hlt := (by first | assumption | rfl | omega | simp))) ?_))))))))))))
 rintro _ _ _ _ ⟨rfl, rfl, rfl⟩
 refine cX (jg rfl (qi (.bool (!(termOk ar l))) rfl ?_))
 by_cases h1 : (!(termOk ar l)) = true
 ·refine qp (t := 12) rfl (vB h1) (qp (t := 12) rfl (vB h1) (qp (t := 12) rfl (vB h1) (qp (t := 12) rfl (vB h1) (qp (t := 12) rfl (vB h1) (cX (qN (.bool (true)) (vB h1) rfl (qi (.bool (true)) rfl (qp (t := 19) rfl rfl (qp (t := 19) rfl rfl (qp (t := 19) rfl rfl ?_))))))))))
  refine qp (t := 19) rfl rfl (qp (t := 19) rfl rfl (cX (qN (.bool (true)) rfl rfl (qi (.bool (true)) rfl (qp (t := 26) rfl rfl (qp (t := 26) rfl rfl (qp (t := 26) rfl rfl (qp (t := 26) rfl rfl (cX (qN (.bool (true)) rfl rfl (qf ?_)))))))))))
  refine jH rfl (qg (qd (qj (.bool (false)) rfl (qf (qu (ql (qt (L' := L) [.bool (false)] (.bool (false)) (.tmp rfl .nil) rfl rF rF (sD (sD sR)) ?_)))))))
  exact ⟨(vB (cruleOk_no1 (by intro h1 h2 h3 h4; simp_all <;> omega))), rfl, rfl⟩
 rw [Bool.not_eq_true] at h1
 have hlo : termOk ar l = true := Bool.not_inj (y := true) h1
 have hll := termOk_len hlo
 have hlg := fun i (hi : i < l.length) => termOk_ge hlo hi
 refine qr (t := 12) rfl (vB h1) (qs [arv] qW qB rfl rfl (Rd.ownN [_] rfl rfl) (qr (t := 12) rfl (vB h1) (qq (1) qR rfl qy (by decide) rfl rfl (qr (t := 12) rfl (vB h1) (qm qX rfl (Rd.own [] rfl rfl) (qr (t := 12) rfl (vB h1) (qn (args := [.agg #[arv], rv]) call44 rfl (sTermOk_spec har hr (hla := (by first | assumption | rfl | omega | simp)) (hlt := (by first | assumption | rfl | omega | simp))) ?_)))))))
 rintro _ _ _ _ ⟨rfl, rfl, rfl⟩
 refine qr (t := 12) rfl (vB h1) (jg rfl (cX (qM (.bool (!(termOk ar r))) (vB h1) rfl (qi (.bool (!(termOk ar r))) rfl ?_))))
 by_cases h2 : (!(termOk ar r)) = true
 ·refine qp (t := 19) rfl (vB h2) (qp (t := 19) rfl (vB h2) (qp (t := 19) rfl (vB h2) (qp (t := 19) rfl (vB h2) (qp (t := 19) rfl (vB h2) (cX (qN (.bool (true)) (vB h2) rfl (qi (.bool (true)) rfl (qp (t := 26) rfl rfl (qp (t := 26) rfl rfl (qp (t := 26) rfl rfl ?_))))))))))
  refine qp (t := 26) rfl rfl (cX (qN (.bool (true)) rfl rfl (qf (jH rfl (qg (qd (qj (.bool (false)) rfl (qf (qu (ql (qt (L' := L) [.bool (false)] (.bool (false)) (.tmp rfl .nil) rfl rF rF (sD (sD sR)) ?_)))))))))))
  exact ⟨(vB (cruleOk_no1 (by intro h1 h2 h3 h4; simp_all <;> omega))), rfl, rfl⟩
 rw [Bool.not_eq_true] at h2
 have hro : termOk ar r = true := Bool.not_inj (y := true) h2
 have hrl := termOk_len hro
 have hrg := fun i (hi : i < r.length) => termOk_ge hro hi
 refine qr (t := 19) rfl (vB h2) (qq (0) qR rfl qy (by decide) rfl rfl (qr (t := 19) rfl (vB h2) (qm qX rfl (Rd.own [] rfl rfl) (qr (t := 19) rfl (vB h2) (qD 0 qh qC rfl rfl rfl hl.slv (by omega) (Nat.mul_one _) (qr (t := 19) rfl (vB h2) (qm jj rfl (hl.rd (by omega)) (qr (t := 19) rfl (vB h2) (jb rfl rfl (cX (qM (.bool (decide ((l.getD 0 0 : Int) < 0))) (vB h2) rfl (qi (.bool (decide ((l.getD 0 0 : Int) < 0))) rfl ?_))))))))))))
 by_cases h3 : (l.getD 0 0 : Int) < 0
 ·refine qp (t := 26) rfl (vT h3) (qp (t := 26) rfl (vT h3) (qp (t := 26) rfl (vT h3) (qp (t := 26) rfl (vT h3) (cX (qN (.bool (true)) (vT h3) rfl (qf (jH rfl (qg (qd (qj (.bool (false)) rfl (qf ?_)))))))))))
  refine qu (ql (qt (L' := L) [.bool (false)] (.bool (false)) (.tmp rfl .nil) rfl rF rF (sD (sD sR)) ?_))
  exact ⟨(vB (cruleOk_no1 (by intro h1 h2 h3 h4; simp_all <;> omega))), rfl, rfl⟩
 refine qr (t := 26) rfl (vF h3) (qq (2) qR rfl jx (by decide) rfl rfl (qr (t := 26) rfl (vF h3) (qm isAgg49 rfl (Rd.own [] rfl rfl) (qr (t := 26) rfl (vF h3) (qE jh rfl hcs.slv (qr (t := 26) rfl (vF h3) (jF rfl rfl (cX (qM (.bool (decide (((cs.length : Int) : Int) > 2))) (vF h3) rfl (qf ?_))))))))))
 refine qH (p := ((cs.length : Int) : Int) > 2) rfl (fun h4 => ?_) (fun h4 => ?_)
 ·refine qg (qd (qj (.bool (false)) rfl (qf (qu (ql (qt (L' := L) [.bool (false)] (.bool (false)) (.tmp rfl .nil) rfl rF rF (sD (sD sR)) ?_))))))
  exact ⟨(vB (cruleOk_no1 (by intro h1 h2 h3 h4; simp_all <;> omega))), rfl, rfl⟩
 refine qz (qg (qd (cX (qx (s := 1) [] [ii (0)] [] qh qC qP rfl (by decide) rfl CellsAre.nil rfl ?_))))
 intro v1 hv1
 refine cX (qq (0) qR rfl qy (by decide) rfl rfl (cX (qm qX rfl (Rd.own [_] rfl rfl) ?_)))
 show XL _ _ _ _ _ _ _ (intsH 2 v1 ([] : List Int) :: cellsH b2 [lv, rv, csv] 51 :: cellsH b1 [arv] 26 :: L)
 refine jf [] _ _ rfl (fun F1 le1 hz1 => ?_)
 replace har := har.mono le1
 replace hl := hl.mono le1
 replace hr := hr.mono le1
 replace hcs := hcs.mono le1
 have hf1 : IntsF F1 v1 ([]) := intsH.fz (xs := []) hz1.fz
 refine cX (qn (args := [v1, lv]) call86 rfl (l27With_spec hf1 hl (hlv := (by first | (simp; done) | omega)) (hlt := (by first | assumption | rfl | omega | simp)) (htg := (by first | exact hlg | exact heg2))) ?_)
 rintro _ F2 _ le2 ⟨x1, x2, rfl, hr1, hr2, hr3, rfl⟩
 replace har := har.mono le2
 replace hr := hr.mono le2
 replace hcs := hcs.mono le2
 refine qj (x1) rfl (qf (qg (qg (qd (qj (ii (0)) rfl (qf (qQ (jr (α := Nat × Value × List Int × RowL × FH) (fun xQ => [(2, ptr b1 0), (3, ptr b2 0), (5, xQ.2.1), (6, ii (((xQ.1 : Nat) : Int)))]) (fun xQ => cellsH b2 [lv, rv, csv] 51 :: cellsH b1 [arv] 26 :: L) (fun xQ F' => xQ.2.2.2.2 = F' ∧ F2 ≤ xQ.2.2.2.2 ∧ (IntsF xQ.2.2.2.2 xQ.2.1 xQ.2.2.1) ∧ (xQ.1 ≤ cs.length) ∧ (VSet xQ.2.2.2.1 xQ.2.2.1) ∧ (cOkGo ar [l] cs = cOkGo ar xQ.2.2.2.1 (cs.drop xQ.1)) ∧ (xQ.2.2.1.length ≤ 60 * (xQ.1 + 1))) (fun xQ => cs.length - xQ.1) (0, x1, x2, [l], F2) ⟨rfl, rfl, rfl, rfl, ⟨⟩⟩ (sC (sC sR)) ⟨rfl, FLe.refl _, (hr1), (Nat.zero_le _), (VSet.one hr2), (rfl), (by have h9 := hr3; (try simp only [List.length_nil] at h9); (try dsimp only); omega)⟩ ?_))))))))
 rintro ⟨k, vv, vs, us, G1⟩ rE _ _ ⟨rfl, leG, hvv, hk, hvs, hos, hvl⟩
 show X _ _ _ _ (envs [(2, ptr b1 0), (3, ptr b2 0), (5, vv), (6, ii ((k : Int)))] rE) _ (cellsH b2 [lv, rv, csv] 51 :: cellsH b1 [arv] 26 :: L)
 replace leG : F2 ≤ G1 := leG
 dsimp only at hvv hk hvs hos hvl
 have hcbk := hcb k
 have leG1 := leG
 replace har := har.mono leG1
 replace hr := hr.mono leG1
 replace hcs := hcs.mono leG1
 refine qg (qg (qd (qi (ii ((k : Int))) rfl (cX (qq (2) qR rfl jx (by decide) rfl rfl (cX (qm isAgg49 rfl (Rd.own [] rfl rfl) (cX (qE jh rfl hcs.slv (cX (jb rfl rfl (qf ?_))))))))))))
 refine qH (p := (k : Int) < (cs.length : Int)) rfl (fun h5 => ?_) (fun h5 => ?_)
 ·refine qz (qg (qQ (qg (qg ?_))))
  obtain ⟨a1, a2, ha1, ha2, hr4, hr5⟩ := hcs.rd (i := k) (by omega)
  by_cases h6 : (!(eqOkL ar (((cs.getD k ([], [])).1), ((cs.getD k ([], [])).2)))) = true
  ·have hek : eqOkL ar (cs.getD k ([], [])) = false := Bool.not_inj (y := false) h6
   refine X.draw [cellsH b2 [lv, rv, csv] 51, cellsH b1 [arv] 26] L 16 [] [[], [], [1], [], [2, 3], [4], [0, 5], [6], [7], [8], [8, 9], [8], [8, 10, 11], [8, 12], [8, 13], [8]] (phiL [qe (.agg #[arv]), qe (ptr b2 2), qe csv, qe (ii ((k : Int)) : Value), qe (.pointer (some (elemA csv (k * 2)))), qe (.agg #[a1, a2]), qe (.bool (eqOkL ar (((cs.getD k ([], [])).1), ((cs.getD k ([], [])).2)))), qe (.bool (!(eqOkL ar (((cs.getD k ([], [])).1), ((cs.getD k ([], [])).2))))), qe (.bool (!(eqOkL ar (((cs.getD k ([], [])).1), ((cs.getD k ([], [])).2))))), qe undef, qe undef, qe undef, qe undef, qe undef, qe undef, qe undef]) (ownL []) mixed rfl rfl (by kernel_rfl) ?_ ?_
   ·refine pD (fun W R z9 => ?_) ?_
    ·refine qk (qs [arv] qW qB rfl rfl (Rd.ownN [_] rfl rfl) ?_)
     exact ⟨rfl, rfl, rfl⟩
    refine pD (fun W R z9 => ?_) ?_
    ·refine qk (qq (2) qR rfl jx (by decide) rfl rfl ?_)
     exact ⟨rfl, rfl, rfl⟩
    refine pD (fun W R z9 => ?_) ?_
    ·rw [zA 1 (z9 1 rfl)]
     refine qk (qm isAgg49 rfl (Rd.own [] rfl rfl) ?_)
     exact ⟨rfl, rfl, rfl⟩
    refine pD (fun W R z9 => ?_) ?_
    ·refine qk (qo (ii ((k : Int))) rfl ?_)
     exact ⟨rfl, rfl, rfl⟩
    refine pD (fun W R z9 => ?_) ?_
    ·rw [zB 2 3 (z9 2 rfl) (z9 3 rfl)]
     refine qk (qD k jh jK rfl rfl rfl hcs.slv (by omega) rfl ?_)
     exact ⟨rfl, rfl, rfl⟩
    refine pD (fun W R z9 => ?_) ?_
    ·rw [zA 4 (z9 4 rfl)]
     refine qk (qs [a1, a2] isAgg71 jK rfl rfl (Rd.two (hr4 _) (hr5 _)) ?_)
     exact ⟨rfl, rfl, rfl⟩
    refine pD (fun W R z9 => ?_) ?_
    ·rw [zB 0 5 (z9 0 rfl) (z9 5 rfl)]
     refine qk (qn (args := [.agg #[arv], .agg #[a1, a2]]) call87 rfl (sEqOkC_spec har ha1 ha2 (hla := (by first | assumption | rfl | omega | simp)) (hll := (by first | assumption | rfl | omega | simp)) (hlr := (by first | assumption | rfl | omega | simp))) ?_)
     rintro _ _ _ _ ⟨rfl, rfl, rfl⟩
     exact ⟨rfl, rfl, rfl⟩
    refine pD (fun W R z9 => ?_) ?_
    ·rw [zA 6 (z9 6 rfl)]
     refine qk (jg rfl ?_)
     exact ⟨rfl, rfl, rfl⟩
    refine pD (fun W R z9 => ?_) ?_
    ·rw [zA 7 (z9 7 rfl)]
     refine qk (qo (.bool (!(eqOkL ar (((cs.getD k ([], [])).1), ((cs.getD k ([], [])).2))))) rfl ?_)
     exact ⟨rfl, rfl, rfl⟩
    refine pD (fun W R z9 => ?_) ?_
    ·rw [zA 8 (z9 8 rfl)]
     exact jC (t := 51) rfl (vB h6) ⟨rfl, rfl, rfl⟩
    refine pD (fun W R z9 => ?_) ?_
    ·rw [eS (l := [(8, _), (9, undef)]) ⟨z9 8 rfl, z9 9 rfl, ⟨⟩⟩]
     exact jC (t := 51) rfl (vB h6) ⟨rfl, rfl, rfl⟩
    refine pD (fun W R z9 => ?_) ?_
    ·rw [zA 8 (z9 8 rfl)]
     exact jC (t := 51) rfl (vB h6) ⟨rfl, rfl, rfl⟩
    refine pD (fun W R z9 => ?_) ?_
    ·rw [eS (l := [(8, _), (10, undef), (11, undef)]) ⟨z9 8 rfl, z9 10 rfl, z9 11 rfl, ⟨⟩⟩]
     exact jC (t := 51) rfl (vB h6) ⟨rfl, rfl, rfl⟩
    refine pD (fun W R z9 => ?_) ?_
    ·rw [eS (l := [(8, _), (12, undef)]) ⟨z9 8 rfl, z9 12 rfl, ⟨⟩⟩]
     exact jC (t := 51) rfl (vB h6) ⟨rfl, rfl, rfl⟩
    refine pD (fun W R z9 => ?_) ?_
    ·rw [eS (l := [(8, _), (13, undef)]) ⟨z9 8 rfl, z9 13 rfl, ⟨⟩⟩]
     exact jC (t := 51) rfl (vB h6) ⟨rfl, rfl, rfl⟩
    refine pD (fun W R z9 => ?_) ?_
    ·rw [zA 8 (z9 8 rfl)]
     exact jC (t := 51) rfl (vB h6) ⟨rfl, rfl, rfl⟩
    exact stepsP.nil
   intro W hphi
   rw [eS (l := [(8, _), (14, undef), (15, undef)]) ⟨(hphi 8 (by decide)), (hphi 14 (by decide)), (hphi 15 (by decide)), ⟨⟩⟩]
   show XL _ _ _ _ _ _ _ (cellsH b2 [lv, rv, csv] 51 :: cellsH b1 [arv] 26 :: L)
   refine qp (t := 51) rfl (vB h6) (qp (t := 51) rfl (vB h6) (cX (qN (.bool (true)) (vB h6) rfl (qf (jH rfl (qg (qd (qj (.bool (false)) rfl (qf (qu (ql (qI (ql (ql (qI (ql (qt (L' := L) [.bool (false)] (.bool (false)) (.tmp rfl .nil) rfl rF (qc (qc le1 le2) leG1) (sD (sD sR)) ?_)))))))))))))))))
   exact ⟨(vB (cruleOk_no2 (hos.trans (cOk_fail (by omega) (by first | exact .inl hek | exact .inr hkn))))), rfl, rfl⟩
  rw [Bool.not_eq_true] at h6
  have hek : eqOkL ar (cs.getD k ([], [])) = true := Bool.not_inj (y := true) h6
  have hek2 := eqOk_both hek
  have hel1 : (cs.getD k ([], [])).1.length ≤ 60 := (termOk_len hek2.1).2
  have hel2 : (cs.getD k ([], [])).2.length ≤ 60 := (termOk_len hek2.2).2
  have heg1 := fun i (hi : i < (cs.getD k ([], [])).1.length) => termOk_ge hek2.1 hi
  have heg2 := fun i (hi : i < (cs.getD k ([], [])).2.length) => termOk_ge hek2.2 hi
  refine X.draw [cellsH b2 [lv, rv, csv] 51, cellsH b1 [arv] 26] L 16 [] [[], [], [1], [], [2, 3], [4], [0, 5], [6], [7], [8], [8, 9], [8], [8, 10, 11], [8, 12], [8, 13], [8]] (phiL [qe (.agg #[arv]), qe (ptr b2 2), qe csv, qe (ii ((k : Int)) : Value), qe (.pointer (some (elemA csv (k * 2)))), qe (.agg #[a1, a2]), qe (.bool (eqOkL ar (((cs.getD k ([], [])).1), ((cs.getD k ([], [])).2)))), qe (.bool (!(eqOkL ar (((cs.getD k ([], [])).1), ((cs.getD k ([], [])).2))))), qe (.bool (!(eqOkL ar (((cs.getD k ([], [])).1), ((cs.getD k ([], [])).2))))), qe (ptr b2 2), qe csv, qe (ii ((k : Int)) : Value), qe (.pointer (some (elemA csv (k * 2)))), qe (.pointer (some (elemA csv (k * 2)))), qe a1, qe vv]) (ownL []) mixed rfl rfl (by kernel_rfl) ?_ ?_
  ·refine pD (fun W R z9 => ?_) ?_
   ·refine qk (qs [arv] qW qB rfl rfl (Rd.ownN [_] rfl rfl) ?_)
    exact ⟨rfl, rfl, rfl⟩
   refine pD (fun W R z9 => ?_) ?_
   ·refine qk (qq (2) qR rfl jx (by decide) rfl rfl ?_)
    exact ⟨rfl, rfl, rfl⟩
   refine pD (fun W R z9 => ?_) ?_
   ·rw [zA 1 (z9 1 rfl)]
    refine qk (qm isAgg49 rfl (Rd.own [] rfl rfl) ?_)
    exact ⟨rfl, rfl, rfl⟩
   refine pD (fun W R z9 => ?_) ?_
   ·refine qk (qo (ii ((k : Int))) rfl ?_)
    exact ⟨rfl, rfl, rfl⟩
   refine pD (fun W R z9 => ?_) ?_
   ·rw [zB 2 3 (z9 2 rfl) (z9 3 rfl)]
    refine qk (qD k jh jK rfl rfl rfl hcs.slv (by omega) rfl ?_)
    exact ⟨rfl, rfl, rfl⟩
   refine pD (fun W R z9 => ?_) ?_
   ·rw [zA 4 (z9 4 rfl)]
    refine qk (qs [a1, a2] isAgg71 jK rfl rfl (Rd.two (hr4 _) (hr5 _)) ?_)
    exact ⟨rfl, rfl, rfl⟩
   refine pD (fun W R z9 => ?_) ?_
   ·rw [zB 0 5 (z9 0 rfl) (z9 5 rfl)]
    refine qk (qn (args := [.agg #[arv], .agg #[a1, a2]]) call87 rfl (sEqOkC_spec har ha1 ha2 (hla := (by first | assumption | rfl | omega | simp)) (hll := (by first | assumption | rfl | omega | simp)) (hlr := (by first | assumption | rfl | omega | simp))) ?_)
    rintro _ _ _ _ ⟨rfl, rfl, rfl⟩
    exact ⟨rfl, rfl, rfl⟩
   refine pD (fun W R z9 => ?_) ?_
   ·rw [zA 6 (z9 6 rfl)]
    refine qk (jg rfl ?_)
    exact ⟨rfl, rfl, rfl⟩
   refine pD (fun W R z9 => ?_) ?_
   ·rw [zA 7 (z9 7 rfl)]
    refine qk (qo (.bool (!(eqOkL ar (((cs.getD k ([], [])).1), ((cs.getD k ([], [])).2))))) rfl ?_)
    exact ⟨rfl, rfl, rfl⟩
   refine pD (fun W R z9 => ?_) ?_
   ·rw [zA 8 (z9 8 rfl)]
    refine jq (t := 51) rfl (vB h6) (qq (2) qR rfl jx (by decide) rfl rfl ?_)
    exact ⟨rfl, rfl, rfl⟩
   refine pD (fun W R z9 => ?_) ?_
   ·rw [zB 8 9 (z9 8 rfl) (z9 9 rfl)]
    refine jq (t := 51) rfl (vB h6) (qm isAgg49 rfl (Rd.own [] rfl rfl) ?_)
    exact ⟨rfl, rfl, rfl⟩
   refine pD (fun W R z9 => ?_) ?_
   ·rw [zA 8 (z9 8 rfl)]
    refine jq (t := 51) rfl (vB h6) (qo (ii ((k : Int))) rfl ?_)
    exact ⟨rfl, rfl, rfl⟩
   refine pD (fun W R z9 => ?_) ?_
   ·rw [eS (l := [(8, _), (10, _), (11, _)]) ⟨z9 8 rfl, z9 10 rfl, z9 11 rfl, ⟨⟩⟩]
    refine jq (t := 51) rfl (vB h6) (qD k jh jK rfl rfl rfl hcs.slv (by omega) rfl ?_)
    exact ⟨rfl, rfl, rfl⟩
   refine pD (fun W R z9 => ?_) ?_
   ·rw [zB 8 12 (z9 8 rfl) (z9 12 rfl)]
    refine jq (t := 51) rfl (vB h6) (jV (k * 2) jw rfl qy (by decide) rfl rfl ?_)
    exact ⟨rfl, rfl, rfl⟩
   refine pD (fun W R z9 => ?_) ?_
   ·rw [zB 8 13 (z9 8 rfl) (z9 13 rfl)]
    refine jq (t := 51) rfl (vB h6) (qm qX rfl (hr4 _) ?_)
    exact ⟨rfl, rfl, rfl⟩
   refine pD (fun W R z9 => ?_) ?_
   ·rw [zA 8 (z9 8 rfl)]
    refine jq (t := 51) rfl (vB h6) (qo (vv) rfl ?_)
    exact ⟨rfl, rfl, rfl⟩
   exact stepsP.nil
  intro W hphi
  rw [eS (l := [(8, _), (14, _), (15, _)]) ⟨(hphi 8 (by decide)), (hphi 14 (by decide)), (hphi 15 (by decide)), ⟨⟩⟩]
  show XL _ _ _ _ _ _ _ (cellsH b2 [lv, rv, csv] 51 :: cellsH b1 [arv] 26 :: L)
  refine qr (t := 51) rfl (vB h6) (qn (args := [a1, vv]) call88 rfl (l27Within_spec ha1 hvv (hlt := (by first | assumption | rfl | omega | simp)) (hlv := (by first | assumption | rfl | omega | simp)) (htg := (by first | exact heg1 | exact hrg))) ?_)
  rintro _ _ _ _ ⟨rfl, rfl, rfl⟩
  refine qr (t := 51) rfl (vB h6) (jg rfl (cX (qM (.bool (!(withinL ((cs.getD k ([], [])).1) vs))) (vB h6) rfl (qf ?_))))
  refine js (t := !(withinL ((cs.getD k ([], [])).1) vs)) rfl (fun h7 => ?_) (fun h7 => ?_)
  ·have hkn : knownL (cs.getD k ([], [])).1 us = false := by rw [← hvs.known]; exact Bool.not_inj (y := false) h7
   refine qg (qd (qj (.bool (false)) rfl (qf (qu (ql (qI (ql (ql (qI (ql (qt (L' := L) [.bool (false)] (.bool (false)) (.tmp rfl .nil) rfl rF (qc (qc le1 le2) leG1) (sD (sD sR)) ?_)))))))))))
   exact ⟨(vB (cruleOk_no2 (hos.trans (cOk_fail (by omega) (by first | exact .inl hek | exact .inr hkn))))), rfl, rfl⟩
  have hkn : knownL (cs.getD k ([], [])).1 us = true := by rw [← hvs.known]; exact Bool.not_inj (y := true) h7
  refine qz (qd (qi (vv) rfl (cX (qq (2) qR rfl jx (by decide) rfl rfl (cX (qm isAgg49 rfl (Rd.own [] rfl rfl) (qi (ii ((k : Int))) rfl (cX (qD k jh jK rfl rfl rfl hcs.slv (by omega) rfl (cX (jV (k * 2 + 1) jw rfl qy (by decide) rfl rfl (cX (qm qX rfl (hr5 _) (cX (qn (args := [vv, a2]) call86 rfl (l27With_spec hvv ha2 (hlv := (by first | (simp; done) | omega)) (hlt := (by first | assumption | rfl | omega | simp)) (htg := (by first | exact hlg | exact heg2))) ?_)))))))))))))))
  rintro _ F3 _ le3 ⟨x3, x4, rfl, hr6, hr7, hr8, rfl⟩
  replace hr := hr.mono le3
  replace hvv := hvv.mono le3
  refine qj (x3) rfl (qf (qd (qi (ii ((k : Int))) rfl (cX (qS (((k + 1 : Nat) : Int)) rfl rfl (by omega) (by omega) (qj (ii (((k + 1 : Nat) : Int))) rfl (qf ?_)))))))
  exact ⟨(k + 1, x3, x4, us ++ [(cs.getD k ([], [])).2], F3), _, (qc leG1 le3), rF, ⟨rfl, rfl, rfl, rfl, ⟨⟩⟩, (sC (sC sR)), ⟨rfl, (qc leG1 le3), (hr6), (by (try dsimp only) <;> omega), (hvs.snoc hr7), (hos.trans (cOk_next (by omega) hek hkn)), (by have h9 := hr8; (try dsimp only); omega)⟩, (by omega)⟩
 refine jn (qA (qA (qV (qg (qd (cX (qq (1) qR rfl qy (by decide) rfl rfl (cX (qm qX rfl (Rd.own [] rfl rfl) (qi (vv) rfl (cX (qn (args := [rv, vv]) call88 rfl (l27Within_spec hr hvv (hlt := (by first | assumption | rfl | omega | simp)) (hlv := (by first | assumption | rfl | omega | simp)) (htg := (by first | exact heg1 | exact hrg))) ?_))))))))))))
 rintro _ _ _ _ ⟨rfl, rfl, rfl⟩
 refine qj (.bool (withinL r vs)) rfl (qf (qu (qt (L' := L) [.bool (withinL r vs)] (.bool (withinL r vs)) (.tmp rfl .nil) rfl rF (qc (qc le1 le2) leG1) (sD (sD sR)) ?_)))
 exact ⟨(vB ((cruleOk_yes hlo hro (by omega) (by omega) (hos.trans (cOk_end (by omega)))).trans hvs.known.symm)), rfl, rfl⟩

/- spec.CSystemOk -/
theorem sCSystemOk_spec {F : FH} {L : List HP} {arv : Value} {ar : List Int} (har : IntsF F arv ar) {crv : Value} {cr : List CRuleT} (hcr : CRulesF F crv cr) (hla : ar.length ≤ 4000000) (hlr : cr.length ≤ 4000000) (hrb : ∀ i, i < cr.length → (cr.getD i ([], [], [])).1.length ≤ 4000000 ∧ (cr.getD i ([], [], [])).2.1.length ≤ 4000000 ∧ (cr.getD i ([], [], [])).2.2.length ≤ 4000000 ∧ ∀ q, q < (cr.getD i ([], [], [])).2.2.length → ((cr.getD i ([], [], [])).2.2.getD q ([], [])).1.length ≤ 4000000 ∧ ((cr.getD i ([], [], [])).2.2.getD q ([], [])).2.length ≤ 4000000) :
    Does prog 30 [.agg #[arv, crv]] F (L) (fun v F' L' => (.bool (csysOk ar cr) : Value) = v ∧ F = F' ∧ L = L') := by
 refine qL func30 rfl rfl rfl (qg (qd (cX (je [arv, crv] rfl rfl ?_))))
 intro b1
 refine qj (.bool (false)) rfl (qf (qg (qg (qd (cX (qq (0) qF rfl qB (by decide) rfl rfl (cX (qs [arv] qW qB rfl rfl (Rd.ownN [] rfl rfl) (cX (qn (args := [.agg #[arv]]) call56 rfl (sSigOk_spec har (hla := (by first | assumption | rfl | omega | simp))) ?_))))))))))
 rintro _ _ _ _ ⟨rfl, rfl, rfl⟩
 refine cX (jg rfl (qi (.bool (!(sigOk ar))) rfl ?_))
 by_cases h1 : (!(sigOk ar)) = true
 ·refine qp (t := 8) rfl (vB h1) (qp (t := 8) rfl (vB h1) (qp (t := 8) rfl (vB h1) (qp (t := 8) rfl (vB h1) (cX (qN (.bool (true)) (vB h1) rfl (qf (jH rfl (qg (qd (qj (.bool (false)) rfl (qf ?_)))))))))))
  refine qu (ql (qt (L' := L) [.bool (false)] (.bool (false)) (.tmp rfl .nil) rfl rF rF (sD sR) ?_))
  exact ⟨(vB (by unfold csysOk; simp_all <;> omega)), rfl, rfl⟩
 rw [Bool.not_eq_true] at h1
 refine qr (t := 8) rfl (vB h1) (qq (1) qF rfl jp (by decide) rfl rfl (qr (t := 8) rfl (vB h1) (qm jz rfl (Rd.own [] rfl rfl) (qr (t := 8) rfl (vB h1) (qE qU rfl hcr.slv (qr (t := 8) rfl (vB h1) (jF rfl rfl (cX (qM (.bool (decide (((cr.length : Int) : Int) > 12))) (vB h1) rfl (qf ?_))))))))))
 refine qH (p := ((cr.length : Int) : Int) > 12) rfl (fun h2 => ?_) (fun h2 => ?_)
 ·refine qg (qd (qj (.bool (false)) rfl (qf (qu (ql (qt (L' := L) [.bool (false)] (.bool (false)) (.tmp rfl .nil) rfl rF rF (sD sR) ?_))))))
  exact ⟨(vB (by unfold csysOk; simp_all <;> omega)), rfl, rfl⟩
 refine qz (qg (qg (qd (qj (ii (0)) rfl (qf (qQ (jr (α := Nat) (fun k => [(1, ptr b1 0), (3, ii ((k : Int)))]) (fun k => cellsH b1 [arv, crv] 29 :: L) (fun k F' => F = F' ∧ (k ≤ cr.length) ∧ (∀ i, i < k → cruleOk ar (cr.getD i ([], [], [])) = true)) (fun k => cr.length - k) 0 ⟨rfl, rfl, ⟨⟩⟩ (sC sR) ⟨rfl, (by (try dsimp only) <;> omega), (fun i hi => absurd hi (by omega))⟩ ?_)))))))
 rintro k rE _ _ ⟨rfl, hk, hall⟩
 show X _ _ _ _ (envs [(1, ptr b1 0), (3, ii ((k : Int)))] rE) _ (cellsH b1 [arv, crv] 29 :: L)
 refine qg (qg (qd (qi (ii ((k : Int))) rfl (cX (qq (1) qF rfl jp (by decide) rfl rfl (cX (qm jz rfl (Rd.own [] rfl rfl) (cX (qE qU rfl hcr.slv (cX (jb rfl rfl (qf ?_))))))))))))
 refine qH (p := (k : Int) < (cr.length : Int)) rfl (fun h3 => ?_) (fun h3 => ?_)
 ·refine qz (qg (qQ (qg ?_)))
  obtain ⟨a1, a2, a3, ha1, ha2, ha3, hrg1, hq1⟩ := hcr.rd (i := k) (by omega)
  refine X.draw [cellsH b1 [arv, crv] 29] L 7 [] [[], [0], [], [2], [], [3, 4], [5]] (phiL [qe (ptr b1 0), qe (.agg #[arv]), qe (ptr b1 1), qe crv, qe (ii ((k : Int)) : Value), qe (.pointer (some (elemA crv (k * 3)))), qe (.agg #[a1, a2, a3])]) (ownL []) mixed rfl rfl (by kernel_rfl) ?_ ?_
  ·refine pD (fun W R z9 => ?_) ?_
   ·refine qk (qq (0) qF rfl qB (by decide) rfl rfl ?_)
    exact ⟨rfl, rfl, rfl⟩
   refine pD (fun W R z9 => ?_) ?_
   ·rw [zA 0 (z9 0 rfl)]
    refine qk (qs [arv] qW qB rfl rfl (Rd.ownN [] rfl rfl) ?_)
    exact ⟨rfl, rfl, rfl⟩
   refine pD (fun W R z9 => ?_) ?_
   ·refine qk (qq (1) qF rfl jp (by decide) rfl rfl ?_)
    exact ⟨rfl, rfl, rfl⟩
   refine pD (fun W R z9 => ?_) ?_
   ·rw [zA 2 (z9 2 rfl)]
    refine qk (qm jz rfl (Rd.own [] rfl rfl) ?_)
    exact ⟨rfl, rfl, rfl⟩
   refine pD (fun W R z9 => ?_) ?_
   ·refine qk (qo (ii ((k : Int))) rfl ?_)
    exact ⟨rfl, rfl, rfl⟩
   refine pD (fun W R z9 => ?_) ?_
   ·rw [zB 3 4 (z9 3 rfl) (z9 4 rfl)]
    refine qk (qD k qU jv rfl rfl rfl hcr.slv (by omega) rfl ?_)
    exact ⟨rfl, rfl, rfl⟩
   refine pD (fun W R z9 => ?_) ?_
   ·rw [zA 5 (z9 5 rfl)]
    refine qk (qs [a1, a2, a3] isAgg51 jv rfl rfl (Rd.all (hrg1 _)) ?_)
    exact ⟨rfl, rfl, rfl⟩
   exact stepsP.nil
  intro W hphi
  rw [zB 1 6 (hphi 1 (by decide)) (hphi 6 (by decide))]
  show XL _ _ _ _ _ _ _ (cellsH b1 [arv, crv] 29 :: L)
  refine cX (qn (args := [.agg #[arv], .agg #[a1, a2, a3]]) call57 rfl (sCRuleOk_spec har ha1 ha2 ha3 (hla := (by first | assumption | rfl | omega | simp)) (hlb := ((hrb k (by omega)).1)) (hlc := ((hrb k (by omega)).2.1)) (hln := ((hrb k (by omega)).2.2.1)) (hcb := ((hrb k (by omega)).2.2.2))) ?_)
  rintro _ _ _ _ ⟨rfl, rfl, rfl⟩
  refine cX (jg rfl (qf ?_))
  refine js (t := !(cruleOk ar (((cr.getD k ([], [], [])).1), ((cr.getD k ([], [], [])).2.1), ((cr.getD k ([], [], [])).2.2)))) rfl (fun h4 => ?_) (fun h4 => ?_)
  ·have hrk : cruleOk ar (cr.getD k ([], [], [])) = false := Bool.not_inj (y := false) h4
   refine qg (qd (qj (.bool (false)) rfl (qf (qu (qI (ql (ql (qI (ql (qt (L' := L) [.bool (false)] (.bool (false)) (.tmp rfl .nil) rfl rF rF (sD sR) ?_))))))))))
   exact ⟨(vB (by unfold csysOk; rw [all_fail (([], [], []) : CR) (k := k) (by omega) hrk, Bool.and_false])), rfl, rfl⟩
  have hrk : cruleOk ar (cr.getD k ([], [], [])) = true := Bool.not_inj (y := true) h4
  refine qz (qd (qi (ii ((k : Int))) rfl (cX (qS (((k + 1 : Nat) : Int)) rfl rfl (by omega) (by omega) (qj (ii (((k + 1 : Nat) : Int))) rfl (qf ?_))))))
  exact ⟨k + 1, _, FLe.refl _, rF, ⟨rfl, rfl, ⟨⟩⟩, (sC sR), ⟨rfl, (by (try dsimp only) <;> omega), (fun i hi => (Nat.lt_or_ge i k).elim (fun h => hall i h) (fun h => by obtain rfl : i = k := (by omega); exact hrk))⟩, (by omega)⟩
 refine jn (qA (qA (qV (qg (qd (qj (.bool (true)) rfl (qf (qu (qt (L' := L) [.bool (true)] (.bool (true)) (.tmp rfl .nil) rfl rF rF (sD sR) ?_)))))))))
 exact ⟨(vB (by rw [csysOk_iff.2 ⟨by simp_all, by omega, fun i hi => hall i (by omega)⟩])), rfl, rfl⟩

/- spec.l27Right -/
theorem l27Right_spec {F : FH} {L : List HP} {arv : Value} {ar : List Int} (har : IntsF F arv ar) {crv : Value} {cr : List CRuleT} (hcr : CRulesF F crv cr) {tv : Value} {t : List Int} (ht : IntsF F tv t) {z : Int} (hla : ar.length ≤ 4000000) (hlr : cr.length ≤ 4000000) (hrb : ∀ i, i < cr.length → (cr.getD i ([], [], [])).1.length ≤ 4000000 ∧ (cr.getD i ([], [], [])).2.1.length ≤ 4000000 ∧ (cr.getD i ([], [], [])).2.2.length ≤ 4000000 ∧ ∀ q, q < (cr.getD i ([], [], [])).2.2.length → ((cr.getD i ([], [], [])).2.2.getD q ([], [])).1.length ≤ 4000000 ∧ ((cr.getD i ([], [], [])).2.2.getD q ([], [])).2.length ≤ 4000000) (hlt : t.length ≤ 4000000) :
    Does prog 23 [.agg #[arv, crv], tv, ii (z)] F (L) (fun v F' L' => (.bool (depthB ar cr t z) : Value) = v ∧ F = F' ∧ L = L') := by
 refine qL func23 rfl rfl rfl (qg (qd (cX (je [arv, crv] rfl rfl ?_))))
 intro b1
 refine qj (.bool (false)) rfl (qf (qg (qd (cX (qs [arv, crv] qY qK rfl rfl (Rd.ownN [] rfl rfl) (cX (qn (args := [.agg #[arv, crv]]) call30 rfl (sCSystemOk_spec har hcr (hla := (by first | assumption | rfl | omega | simp)) (hlr := (by first | assumption | rfl | omega | simp)) (hrb := (by first | assumption | rfl | omega | simp))) ?_)))))))
 rintro _ _ _ _ ⟨rfl, rfl, rfl⟩
 refine qi (.bool (csysOk ar cr)) rfl ?_
 by_cases h1 : (csysOk ar cr) = true
 ·refine qr (t := 9) rfl (vB h1) (qq (0) qF rfl qB (by decide) rfl rfl (qr (t := 9) rfl (vB h1) (qs [arv] qW qB rfl rfl (Rd.ownN [] rfl rfl) (qr (t := 9) rfl (vB h1) (qo (tv) rfl (qr (t := 9) rfl (vB h1) (qn (args := [.agg #[arv], tv]) call44 rfl (sTermOk_spec har ht (hla := (by first | assumption | rfl | omega | simp)) (hlt := (by first | assumption | rfl | omega | simp))) ?_)))))))
  rintro _ _ _ _ ⟨rfl, rfl, rfl⟩
  refine cX (qN (.bool (termOk ar t)) (vB h1) rfl (qi (.bool (termOk ar t)) rfl ?_))
  by_cases h2 : (termOk ar t) = true
  ·refine qr (t := 15) rfl (vB h2) (qo (ii (z)) rfl (qr (t := 15) rfl (vB h2) (qn (args := [ii (z), ii (0), ii (2)]) call35 rfl (l1In_spec (n := z) (a := 0) (b := 2)) ?_)))
   rintro _ _ _ _ ⟨rfl, rfl, rfl⟩
   refine cX (qN (.bool (decide (0 ≤ z ∧ z ≤ 2))) (vB h2) rfl (qj (.bool (decide (0 ≤ z ∧ z ≤ 2))) rfl (qf (qu (qt (L' := L) [.bool (decide (0 ≤ z ∧ z ≤ 2))] (.bool (decide (0 ≤ z ∧ z ≤ 2))) (.tmp rfl .nil) rfl rF rF (sD sR) ?_)))))
   exact ⟨(vB (by unfold depthB; simp_all <;> omega)), rfl, rfl⟩
  rw [Bool.not_eq_true] at h2
  refine qp (t := 15) rfl (vB h2) (qp (t := 15) rfl (vB h2) (cX (qM (.bool (false)) (vB h2) rfl (qj (.bool (false)) rfl (qf (qu (qt (L' := L) [.bool (false)] (.bool (false)) (.tmp rfl .nil) rfl rF rF (sD sR) ?_)))))))
  exact ⟨(vB (by unfold depthB; simp_all <;> omega)), rfl, rfl⟩
 rw [Bool.not_eq_true] at h1
 refine qp (t := 9) rfl (vB h1) (qp (t := 9) rfl (vB h1) (qp (t := 9) rfl (vB h1) (qp (t := 9) rfl (vB h1) (cX (qM (.bool (false)) (vB h1) rfl (qi (.bool (false)) rfl (qp (t := 15) rfl rfl (qp (t := 15) rfl rfl (cX (qM (.bool (false)) rfl rfl (qj (.bool (false)) rfl ?_)))))))))))
 refine qf (qu (qt (L' := L) [.bool (false)] (.bool (false)) (.tmp rfl .nil) rfl rF rF (sD sR) ?_))
 exact ⟨(vB (by unfold depthB; simp_all <;> omega)), rfl, rfl⟩

/- spec.l27Given -/
set_option maxHeartbeats 2000000 in
set_option maxRecDepth 20000 in
theorem sgiven_step {d : Nat} (ih : ∀ m : Nat, m < d → ∀ {F : FH} {L : List HP}  {arv : Value} {ar : List Int} (har : IntsF F arv ar) {crv : Value} {cr : List CRuleT} (hcr : CRulesF F crv cr) {tv : Value} {t : List Int} (ht : IntsF F tv t) (hc : csysOk ar cr = true) (ho : termOk ar t = true) (hd2 : m ≤ 2), Does prog 24 [.agg #[arv, crv], tv, ii ((m : Int))] F L (fun v F' L' => (∃ (a : Value), (.tuple #[a, .bool ((normC ar cr m t).isSome)] : Value) = v ∧ (IntsF F' a ((normC ar cr m t).getD []))) ∧ L = L')) {F : FH} {L : List HP}  {arv : Value} {ar : List Int} (har : IntsF F arv ar) {crv : Value} {cr : List CRuleT} (hcr : CRulesF F crv cr) {uv : Value} {u : List Int} (hu : IntsF F uv u) {lv : Value} {l : List Int} (hl : IntsF F lv l) {rv : Value} {r : List Int} (hr : IntsF F rv r) {csv : Value} {cs : List (List Int × List Int)} (hcs : PairsF F csv cs) (hc : csysOk ar cr = true) (hou : termOk ar u = true) (hd2 : d ≤ 2) (hR : CRuleOk ar (l, r, cs)) :
    Does prog 79 [.agg #[arv, crv], uv, .agg #[lv, rv, csv], ii ((d : Int))] F (L) (fun v F' L' => (∃ (a : Value), (.tuple #[a, .bool ((givenD ar cr d u (l, r, cs)).isSome)] : Value) = v ∧ (SomeRowsF F' a (fun g2 => g2.length = 24 ∧ ∀ x, givenD ar cr d u (l, r, cs) = some x → g2 = x))) ∧ L = L') := by
 refine qL func79 rfl rfl rfl ?_
 have hRl : termOk ar l = true := hR.left
 have hRr : termOk ar r = true := hR.right
 have hRn : cs.length ≤ 2 := hR.len
 have hRc : ∀ i, i < cs.length → termOk ar (cs.getD i ([], [])).1 = true ∧ termOk ar (cs.getD i ([], [])).2 = true := hR.conds
 have hul := termOk_len hou
 have hsl := sigOk_spec (termOk_sig hou)
 have hcl := (csysOk_iff.1 hc).2.1
 refine qg (qd (cX (je [arv, crv] rfl rfl ?_)))
 intro b1
 refine cX (je [lv, rv, csv] rfl rfl ?_)
 intro b2
 refine qj (sN) rfl (qj (.bool (false)) rfl (qf (qg ?_)))
 refine jG [cellsH b2 [lv, rv, csv] 51, cellsH b1 [arv, crv] 29] L 11 [[], [], [], [], [], [], [], [6], [6], [], [6]] [[], [0], [], [], [3], [], [1, 2, 4, 5], [6], [6, 7], [6, 7], [6, 8]] [] (phiG [pe (ptr b1 0), pe (.agg #[arv]), fun FF us v => (v : Value) = v ∧ (RowsF FF v (List.replicate 24 [] : List (List Int))), pe (ptr b2 0), pe lv, pe uv, fun FF us v => (.tuple #[((tupAt v 0)), .bool ((mGo ar u l 0 ((List.replicate 24 [] : List (List Int)))).isSome)] : Value) = v ∧ (SomeRowsF FF ((tupAt v 0)) (fun g2 => g2.length = 24 ∧ ∀ x, mGo ar u l 0 ((List.replicate 24 [] : List (List Int))) = some x → g2 = x)), fun FF us v => v = (.tuple #[((tupAt (us.getD 0 undef) 0)), .bool ((mGo ar u l 0 ((List.replicate 24 [] : List (List Int)))).isSome)] : Value), fun FF us v => v = ((tupAt (us.getD 0 undef) 0)), pe (.bool ((mGo ar u l 0 ((List.replicate 24 [] : List (List Int)))).isSome) : Value), fun FF us v => v = ((tupAt (us.getD 0 undef) 0))]) (ownL []) mixed rfl rfl (by kernel_rfl) (by kernel_rfl) (MonoG.get (m1 (m1 (mC (fun le h => ⟨h.1, h.2.mono le⟩) (m1 (m1 (m1 (mC (fun le h => ⟨h.1, h.2.mono le⟩) (mC (fun le h => h) (mC (fun le h => h) (m1 (mC (fun le h => h) MonoG.nil)))))))))))) ?_ ?_
 ·refine gD (fun W Fs R lF z9 => ?_) ?_
  ·refine qk (qq (0) qF rfl qB (by decide) rfl rfl ?_)
   exact ⟨rfl, rfl⟩
  refine gD (fun W Fs R lF z9 => ?_) ?_
  ·replace har := har.mono lF
   replace hcr := hcr.mono lF
   replace hu := hu.mono lF
   replace hl := hl.mono lF
   replace hcs := hcs.mono lF
   rw [zA 0 (z9 0 rfl)]
   refine qk (qs [arv] qW qB rfl rfl (Rd.ownN [_] rfl rfl) ?_)
   exact ⟨rfl, rfl⟩
  refine gD (fun W Fs R lF z9 => ?_) ?_
  ·replace har := har.mono lF
   replace hcr := hcr.mono lF
   replace hu := hu.mono lF
   replace hl := hl.mono lF
   replace hcs := hcs.mono lF
   refine qk (jR <| XOp.makeSlice (n := 24) (bytes := 24) [sN] ja qy typeInfo24 rfl zeroValue24 rfl rfl rfl rfl (by omega) (by omega) ?_)
   intro v1 hv1
   rw [nils]
   refine ⟨_, _, rfl, fun F2 le2 hz1 => ?_⟩
   replace har := har.mono le2
   replace hcr := hcr.mono le2
   replace hu := hu.mono le2
   replace hl := hl.mono le2
   replace hcs := hcs.mono le2
   have hf1 : RowsF F2 v1 (List.replicate 24 [] : List (List Int)) := CO.fz (RowsC.nils 24) (by simp) hz1.fz
   exact ⟨⟨rfl, hf1⟩, rfl⟩
  refine gD (fun W Fs R lF z9 => ?_) ?_
  ·refine qk (qq (0) qR rfl qy (by decide) rfl rfl ?_)
   exact ⟨rfl, rfl⟩
  refine gD (fun W Fs R lF z9 => ?_) ?_
  ·replace har := har.mono lF
   replace hcr := hcr.mono lF
   replace hu := hu.mono lF
   replace hl := hl.mono lF
   replace hcs := hcs.mono lF
   rw [zA 3 (z9 3 rfl)]
   refine qk (qm qX rfl (Rd.own [] rfl rfl) ?_)
   exact ⟨rfl, rfl⟩
  refine gD (fun W Fs R lF z9 => ?_) ?_
  ·refine qk (qo (uv) rfl ?_)
   exact ⟨rfl, rfl⟩
  refine gD (fun W Fs R lF z9 => ?_) ?_
  ·obtain ⟨e2, f2_1mk⟩ := z9 2 rfl
   replace har := har.mono lF
   replace hcr := hcr.mono lF
   replace hu := hu.mono lF
   replace hl := hl.mono lF
   replace hcs := hcs.mono lF
   rw [eS (l := [(1, _), (2, (W 2)), (4, _), (5, _)]) ⟨z9 1 rfl, (e2).symm, z9 4 rfl, z9 5 rfl, ⟨⟩⟩]
   refine qk (qn (args := [.agg #[arv], (W 2), lv, uv]) call97 rfl (l20Match_spec ((l).length) har f2_1mk hl hu (hn := (Nat.le_refl _)) (hop := (by first | assumption | rfl | omega | simp)) (hot := (by first | assumption | rfl | omega | simp)) (hgl := (by first | assumption | rfl | omega | simp))) ?_)
   rintro _ F3 _ le3 ⟨⟨x2, rfl, hr2⟩, rfl⟩
   replace har := har.mono le3
   replace hcr := hcr.mono le3
   replace hcs := hcs.mono le3
   replace f2_1mk := f2_1mk.mono le3
   exact ⟨⟨rfl, hr2⟩, rfl⟩
  refine gD (fun W Fs R lF z9 => ?_) ?_
  ·obtain ⟨e6, f6_1hp_a⟩ := z9 6 rfl
   obtain ⟨t6X1_a, f6_1hp_a, q6_1_a0, q6_1_a1⟩ := f6_1hp_a
   rw [eS (l := [(6, (.tuple #[((tupAt (W 6) 0)), .bool ((mGo ar u l 0 ((List.replicate 24 [] : List (List Int)))).isSome)]))]) ⟨(e6).symm, ⟨⟩⟩]
   refine qk (qo (.tuple #[((tupAt (W 6) 0)), .bool ((mGo ar u l 0 ((List.replicate 24 [] : List (List Int)))).isSome)]) rfl ?_)
   exact ⟨rfl, rfl⟩
  refine gD (fun W Fs R lF z9 => ?_) ?_
  ·obtain ⟨e6, f6_1hp_a⟩ := z9 6 rfl
   obtain ⟨t6X1_a, f6_1hp_a, q6_1_a0, q6_1_a1⟩ := f6_1hp_a
   have e7 : W 7 = (.tuple #[((tupAt (W 6) 0)), .bool ((mGo ar u l 0 ((List.replicate 24 [] : List (List Int)))).isSome)] : Value) := z9 7 rfl
   rw [eS (l := [(6, (.tuple #[((tupAt (W 6) 0)), .bool ((mGo ar u l 0 ((List.replicate 24 [] : List (List Int)))).isSome)])), (7, (.tuple #[((tupAt (W 6) 0)), .bool ((mGo ar u l 0 ((List.replicate 24 [] : List (List Int)))).isSome)]))]) ⟨(e6).symm, e7, ⟨⟩⟩]
   refine qk (qG (((tupAt (W 6) 0))) rfl rfl ?_)
   exact ⟨rfl, rfl⟩
  refine gD (fun W Fs R lF z9 => ?_) ?_
  ·obtain ⟨e6, f6_1hp_a⟩ := z9 6 rfl
   obtain ⟨t6X1_a, f6_1hp_a, q6_1_a0, q6_1_a1⟩ := f6_1hp_a
   have e7 : W 7 = (.tuple #[((tupAt (W 6) 0)), .bool ((mGo ar u l 0 ((List.replicate 24 [] : List (List Int)))).isSome)] : Value) := z9 7 rfl
   rw [eS (l := [(6, (.tuple #[((tupAt (W 6) 0)), .bool ((mGo ar u l 0 ((List.replicate 24 [] : List (List Int)))).isSome)])), (7, (.tuple #[((tupAt (W 6) 0)), .bool ((mGo ar u l 0 ((List.replicate 24 [] : List (List Int)))).isSome)]))]) ⟨(e6).symm, e7, ⟨⟩⟩]
   refine qk (qG (.bool ((mGo ar u l 0 ((List.replicate 24 [] : List (List Int)))).isSome)) rfl rfl ?_)
   exact ⟨rfl, rfl⟩
  refine gD (fun W Fs R lF z9 => ?_) ?_
  ·obtain ⟨e6, f6_1hp_a⟩ := z9 6 rfl
   obtain ⟨t6X1_a, f6_1hp_a, q6_1_a0, q6_1_a1⟩ := f6_1hp_a
   have e8 : W 8 = ((tupAt (W 6) 0)) := z9 8 rfl
   rw [eS (l := [(6, (.tuple #[((tupAt (W 6) 0)), .bool ((mGo ar u l 0 ((List.replicate 24 [] : List (List Int)))).isSome)])), (8, ((tupAt (W 6) 0)))]) ⟨(e6).symm, e8, ⟨⟩⟩]
   refine qk (jo (((tupAt (W 6) 0))) rfl ?_)
   exact ⟨rfl, rfl⟩
  exact stepsG.nil
 intro W F4 le4 hphi
 obtain ⟨e2, f2_1mk⟩ := hphi 2 (by decide)
 obtain ⟨e6, f6_1hp_a⟩ := hphi 6 (by decide)
 obtain ⟨t6X1_a, f6_1hp_a, q6_1_a0, q6_1_a1⟩ := f6_1hp_a
 have e7 : W 7 = (.tuple #[((tupAt (W 6) 0)), .bool ((mGo ar u l 0 ((List.replicate 24 [] : List (List Int)))).isSome)] : Value) := hphi 7 (by decide)
 have e8 : W 8 = ((tupAt (W 6) 0)) := hphi 8 (by decide)
 have e10 : W 10 = ((tupAt (W 6) 0)) := hphi 10 (by decide)
 generalize hu1 : (W 2) = u1 at e2 f2_1mk e6 f6_1hp_a e7 e8 e10
 generalize hu2 : ((tupAt (W 6) 0)) = u2 at e2 f2_1mk e6 f6_1hp_a e7 e8 e10
 rw [eS (l := [(6, (.tuple #[u2, .bool ((mGo ar u l 0 ((List.replicate 24 [] : List (List Int)))).isSome)])), (9, _), (10, u2)]) ⟨(e6).symm, (hphi 9 (by decide)), e10, ⟨⟩⟩]
 replace har := har.mono le4
 replace hcr := hcr.mono le4
 replace hcs := hcs.mono le4
 show XL _ _ _ _ _ _ _ (cellsH b2 [lv, rv, csv] 51 :: cellsH b1 [arv, crv] 29 :: L)
 refine qj (.bool ((mGo ar u l 0 ((List.replicate 24 [] : List (List Int)))).isSome)) rfl (qf (qg (qg (qd (qj (ii (0)) rfl (qf (qQ (jr (α := Nat × Value × RowL × Bool × FH) (fun xQ => [(3, ii ((d : Int))), (4, ptr b1 0), (6, ptr b2 0), (10, xQ.2.1), (11, .bool (xQ.2.2.2.1)), (12, ii (((xQ.1 : Nat) : Int)))]) (fun xQ => cellsH b2 [lv, rv, csv] 51 :: cellsH b1 [arv, crv] 29 :: L) (fun xQ F' => xQ.2.2.2.2 = F' ∧ F4 ≤ xQ.2.2.2.2 ∧ (RowsF xQ.2.2.2.2 xQ.2.1 xQ.2.2.1) ∧ (xQ.2.2.1.length = 24) ∧ (xQ.1 ≤ cs.length) ∧ (GivenAt ar cr d u (l, r, cs) xQ.1 xQ.2.2.1 xQ.2.2.2.1)) (fun xQ => cs.length - xQ.1) (0, u2, t6X1_a, (mGo ar u l 0 ((List.replicate 24 [] : List (List Int)))).isSome, F4) ⟨rfl, rfl, rfl, rfl, rfl, rfl, ⟨⟩⟩ (sC (sC sR)) ⟨rfl, FLe.refl _, (f6_1hp_a), (q6_1_a0), (Nat.zero_le _), (GivenAt.start hou (by exact q6_1_a1))⟩ ?_))))))))
 rintro ⟨k, gv, gs, ok, G1⟩ rE _ _ ⟨rfl, leG, hgv, hgn, hk, hga⟩
 show X _ _ _ _ (envs [(3, ii ((d : Int))), (4, ptr b1 0), (6, ptr b2 0), (10, gv), (11, .bool (ok)), (12, ii ((k : Int)))] rE) _ (cellsH b2 [lv, rv, csv] 51 :: cellsH b1 [arv, crv] 29 :: L)
 replace leG : F4 ≤ G1 := leG
 dsimp only at hgv hgn hk hga
 have hcd := fun (h : k < cs.length) => hRc k h
 have leG1 := leG
 replace har := har.mono leG1
 replace hcr := hcr.mono leG1
 replace hcs := hcs.mono leG1
 refine qg (qg (qd (qi (ii ((k : Int))) rfl (cX (qq (2) qR rfl jx (by decide) rfl rfl (cX (qm isAgg49 rfl (Rd.own [] rfl rfl) (cX (qE jh rfl hcs.slv (cX (jb rfl rfl (qi (.bool (decide ((k : Int) < (cs.length : Int)))) rfl ?_))))))))))))
 by_cases h1 : (k : Int) < (cs.length : Int)
 ·have hk9 : k < cs.length := by omega
  have hc1 := (hcd hk9).1
  have hc2 := (hcd hk9).2
  have hcl1 := termOk_len hc1
  have hcl2 := termOk_len hc2
  have hcg1 := fun i (hi : i < (cs.getD k ([], [])).1.length) => termOk_ge hc1 hi
  refine qr (t := 32) rfl (vT h1) (qo (.bool (ok)) rfl (cX (qN (.bool (ok)) (vT h1) rfl (qf ?_))))
  refine js (t := ok) rfl (fun h2 => ?_) (fun h2 => ?_)
  ·have hok9 : ok = true := h2
   refine qz (qg (qQ (qg (qg (qd (qi (ii ((d : Int))) rfl (cX (jD rfl rfl (qf ?_)))))))))
   refine qH (p := (d : Int) = 0) rfl (fun h3 => ?_) (fun h3 => ?_)
   ·have hd0 : d = 0 := by omega
    refine qg (qd (qi (gv) rfl (qj (gv) rfl (qj (.bool (false)) rfl (qf (qu (ql (qI (ql (ql (qI (ql (qt (L' := L) [gv, .bool (false)] (.tuple #[gv, .bool (false)]) (.tmp rfl (.tmp rfl .nil)) rfl (qc le4 leG1) rF (sD (sD sR)) ?_)))))))))))))
    have e : givenD ar cr d u (l, r, cs) = none := by first | exact hgd.2.trans (condD_nofill hk9 hf0) | exact hgd.2.trans (condD_nonorm hd9 hk9 hf1 hn0) | exact hga.zero hok9 hd0 hk9
    exact ⟨⟨_, by rw [e]; rfl, ⟨_, hgv, hgn, fun x hx => (by rw [e] at hx; cases hx)⟩⟩, rfl⟩
   have hd9 : d ≠ 0 := by omega
   have hgd := hga.go hok9 hd9
   have hbl := hgd.1.len
   refine qz (qg (qd (qi (gv) rfl (cX (jk [gv] [sN] [(0, 1)] [(0, [gv])] jd jT rfl (.cons rfl jy PlacesAre.nil) rfl (.cons (cells_one (RowsF.isSl hgv)) CellsAre.nil) (cX (qq (2) qR rfl jx (by decide) rfl rfl (cX (qm isAgg49 rfl (Rd.own [] rfl rfl) (qi (ii ((k : Int))) rfl (cX (qD k jh jK rfl rfl rfl hcs.slv (by omega) rfl (cX (jV (k * 2) jw rfl qy (by decide) rfl rfl ?_))))))))))))))
   obtain ⟨a1, a2, ha1, ha2, hr3, hr4⟩ := hcs.rd (i := k) (by omega)
   refine cX (qm qX rfl (hr3 _) (cX (qn (args := [.agg #[gv], a1]) call66 rfl (l2Filled_spec hgv ha1 (hsl := (by omega)) (hsb := (fun i => by have := hbl i; omega)) (htl := (by omega)) (htg := (fun i hi => by have := hcg1 i hi; omega))) ?_)))
   rintro _ F5 _ le5 ⟨x3, rfl, hr5, rfl⟩
   replace har := har.mono le5
   replace hcr := hcr.mono le5
   replace hcs := hcs.mono le5
   replace hgv := hgv.mono le5
   replace ha2 := ha2.mono le5
   replace hr4 := Rd.monoA hr4 le5
   refine qi (.tuple #[x3, .bool ((fillL gs ((cs.getD k ([], [])).1)).isSome)]) rfl (cX (qG (x3) rfl rfl (cX (qG (.bool ((fillL gs ((cs.getD k ([], [])).1)).isSome)) rfl rfl (qj (x3) rfl (qj (.bool ((fillL gs ((cs.getD k ([], [])).1)).isSome)) rfl (qf (qg (qg (qd (qi (.bool ((fillL gs ((cs.getD k ([], [])).1)).isSome)) rfl (cX (jg rfl (qf ?_))))))))))))))
   refine js (t := !((fillL gs ((cs.getD k ([], [])).1)).isSome)) rfl (fun h4 => ?_) (fun h4 => ?_)
   ·have hf0 := Bool.not_inj (y := false) h4
    refine qg (qd (qi (gv) rfl (qj (gv) rfl (qj (.bool (false)) rfl (qf (qu (ql (qI (ql (ql (qI (ql (qt (L' := L) [gv, .bool (false)] (.tuple #[gv, .bool (false)]) (.tmp rfl (.tmp rfl .nil)) rfl (qc (qc le4 leG1) le5) rF (sD (sD sR)) ?_)))))))))))))
    have e : givenD ar cr d u (l, r, cs) = none := by first | exact hgd.2.trans (condD_nofill hk9 hf0) | exact hgd.2.trans (condD_nonorm hd9 hk9 hf1 hn0) | exact hga.zero hok9 hd0 hk9
    exact ⟨⟨_, by rw [e]; rfl, ⟨_, hgv, hgn, fun x hx => (by rw [e] at hx; cases hx)⟩⟩, rfl⟩
   have hf1 := Bool.not_inj (y := true) h4
   have hfo := fill_okS hgd.1 hc1 hf1
   have hfl := termOk_len hfo
   refine qz (qg (qd (cX (qs [arv, crv] qY qK rfl rfl (Rd.ownN [_] rfl rfl) (qi (x3) rfl (qi (ii ((d : Int))) rfl (cX (jl (((d - 1 : Nat) : Int)) rfl rfl (by omega) (by omega) (cX (qn (args := [.agg #[arv, crv], x3, ii ((d - 1 : Nat) : Int)]) call24 rfl (ih (d - 1) (by omega) har hcr hr5 (hc := (by first | assumption | rfl | omega | simp)) (ho := (hfo)) (hd2 := (by first | assumption | rfl | omega | simp))) ?_))))))))))
   rintro _ F6 _ le6 ⟨⟨x4, rfl, hr6⟩, rfl⟩
   replace har := har.mono le6
   replace hcs := hcs.mono le6
   replace hgv := hgv.mono le6
   replace ha2 := ha2.mono le6
   replace hr4 := Rd.monoA hr4 le6
   show XL _ _ _ _ _ _ _ (cellsH b2 [lv, rv, csv] 51 :: cellsH b1 [arv, crv] 29 :: L)
   refine qi (.tuple #[x4, .bool ((normC ar cr (d - 1) ((fillL gs ((cs.getD k ([], [])).1)).getD [])).isSome)]) rfl (cX (qG (x4) rfl rfl (cX (qG (.bool ((normC ar cr (d - 1) ((fillL gs ((cs.getD k ([], [])).1)).getD [])).isSome)) rfl rfl (qj (x4) rfl (qj (.bool ((normC ar cr (d - 1) ((fillL gs ((cs.getD k ([], [])).1)).getD [])).isSome)) rfl (qf (qg (qg (qd (qi (.bool ((normC ar cr (d - 1) ((fillL gs ((cs.getD k ([], [])).1)).getD [])).isSome)) rfl (cX (jg rfl (qf ?_))))))))))))))
   refine js (t := !((normC ar cr (d - 1) ((fillL gs ((cs.getD k ([], [])).1)).getD [])).isSome)) rfl (fun h5 => ?_) (fun h5 => ?_)
   ·have hn0 := Bool.not_inj (y := false) h5
    refine qg (qd (qi (gv) rfl (qj (gv) rfl (qj (.bool (false)) rfl (qf (qu (ql (qI (ql (ql (qI (ql (qt (L' := L) [gv, .bool (false)] (.tuple #[gv, .bool (false)]) (.tmp rfl (.tmp rfl .nil)) rfl (qc (qc (qc le4 leG1) le5) le6) rF (sD (sD sR)) ?_)))))))))))))
    have e : givenD ar cr d u (l, r, cs) = none := by first | exact hgd.2.trans (condD_nofill hk9 hf0) | exact hgd.2.trans (condD_nonorm hd9 hk9 hf1 hn0) | exact hga.zero hok9 hd0 hk9
    exact ⟨⟨_, by rw [e]; rfl, ⟨_, hgv, hgn, fun x hx => (by rw [e] at hx; cases hx)⟩⟩, rfl⟩
   have hn1 := Bool.not_inj (y := true) h5
   have hwo := norm_okS hc hfo hn1
   have hwl := termOk_len hwo
   refine qz ?_
   refine jG [cellsH b2 [lv, rv, csv] 51, cellsH b1 [arv, crv] 29] L 15 [[], [], [], [], [], [], [], [], [], [], [], [10], [10], [], [10]] [[], [0], [], [], [3], [], [4, 5], [6], [7], [], [1, 2, 8, 9], [10], [10, 11], [10, 11], [10, 12]] [] (phiG [pe (ptr b1 0), pe (.agg #[arv]), pe gv, pe (ptr b2 2), pe csv, pe (ii ((k : Int)) : Value), pe (.pointer (some (elemA csv (k * 2)))), pe (.pointer (some (elemA csv (k * 2 + 1)))), pe a2, pe x4, fun FF us v => (.tuple #[((tupAt v 0)), .bool ((mGo ar ((normC ar cr (d - 1) ((fillL gs ((cs.getD k ([], [])).1)).getD [])).getD []) ((cs.getD k ([], [])).2) 0 gs).isSome)] : Value) = v ∧ (SomeRowsF FF ((tupAt v 0)) (fun g2 => g2.length = 24 ∧ ∀ x, mGo ar ((normC ar cr (d - 1) ((fillL gs ((cs.getD k ([], [])).1)).getD [])).getD []) ((cs.getD k ([], [])).2) 0 gs = some x → g2 = x)), fun FF us v => v = (.tuple #[((tupAt (us.getD 0 undef) 0)), .bool ((mGo ar ((normC ar cr (d - 1) ((fillL gs ((cs.getD k ([], [])).1)).getD [])).getD []) ((cs.getD k ([], [])).2) 0 gs).isSome)] : Value), fun FF us v => v = ((tupAt (us.getD 0 undef) 0)), pe (.bool ((mGo ar ((normC ar cr (d - 1) ((fillL gs ((cs.getD k ([], [])).1)).getD [])).getD []) ((cs.getD k ([], [])).2) 0 gs).isSome)), fun FF us v => v = ((tupAt (us.getD 0 undef) 0))]) (ownL []) mixed rfl rfl (by kernel_rfl) (by kernel_rfl) (MonoG.get (m1 (m1 (m1 (m1 (m1 (m1 (m1 (m1 (m1 (m1 (mC (fun le h => ⟨h.1, h.2.mono le⟩) (mC (fun le h => h) (mC (fun le h => h) (m1 (mC (fun le h => h) MonoG.nil)))))))))))))))) ?_ ?_
   ·refine gD (fun W Fs R lF z9 => ?_) ?_
    ·refine qk (qq (0) qF rfl qB (by decide) rfl rfl ?_)
     exact ⟨rfl, rfl⟩
    refine gD (fun W Fs R lF z9 => ?_) ?_
    ·replace har := har.mono lF
     replace hcs := hcs.mono lF
     replace hgv := hgv.mono lF
     replace ha2 := ha2.mono lF
     replace hr6 := hr6.mono lF
     replace hr4 := Rd.monoA hr4 lF
     rw [zA 0 (z9 0 rfl)]
     refine qk (qs [arv] qW qB rfl rfl (Rd.ownN [_] rfl rfl) ?_)
     exact ⟨rfl, rfl⟩
    refine gD (fun W Fs R lF z9 => ?_) ?_
    ·refine qk (qo (gv) rfl ?_)
     exact ⟨rfl, rfl⟩
    refine gD (fun W Fs R lF z9 => ?_) ?_
    ·refine qk (qq (2) qR rfl jx (by decide) rfl rfl ?_)
     exact ⟨rfl, rfl⟩
    refine gD (fun W Fs R lF z9 => ?_) ?_
    ·replace har := har.mono lF
     replace hcs := hcs.mono lF
     replace hgv := hgv.mono lF
     replace ha2 := ha2.mono lF
     replace hr6 := hr6.mono lF
     replace hr4 := Rd.monoA hr4 lF
     rw [zA 3 (z9 3 rfl)]
     refine qk (qm isAgg49 rfl (Rd.own [] rfl rfl) ?_)
     exact ⟨rfl, rfl⟩
    refine gD (fun W Fs R lF z9 => ?_) ?_
    ·refine qk (qo (ii ((k : Int))) rfl ?_)
     exact ⟨rfl, rfl⟩
    refine gD (fun W Fs R lF z9 => ?_) ?_
    ·replace har := har.mono lF
     replace hcs := hcs.mono lF
     replace hgv := hgv.mono lF
     replace ha2 := ha2.mono lF
     replace hr6 := hr6.mono lF
     replace hr4 := Rd.monoA hr4 lF
     rw [zB 4 5 (z9 4 rfl) (z9 5 rfl)]
     refine qk (qD k jh jK rfl rfl rfl hcs.slv (by omega) rfl ?_)
     exact ⟨rfl, rfl⟩
    refine gD (fun W Fs R lF z9 => ?_) ?_
    ·rw [zA 6 (z9 6 rfl)]
     refine qk (jV (k * 2 + 1) jw rfl qy (by decide) rfl rfl ?_)
     exact ⟨rfl, rfl⟩
    refine gD (fun W Fs R lF z9 => ?_) ?_
    ·replace har := har.mono lF
     replace hgv := hgv.mono lF
     replace ha2 := ha2.mono lF
     replace hr6 := hr6.mono lF
     replace hr4 := Rd.monoA hr4 lF
     rw [zA 7 (z9 7 rfl)]
     refine qk (qm qX rfl (hr4 _) ?_)
     exact ⟨rfl, rfl⟩
    refine gD (fun W Fs R lF z9 => ?_) ?_
    ·refine qk (qo (x4) rfl ?_)
     exact ⟨rfl, rfl⟩
    refine gD (fun W Fs R lF z9 => ?_) ?_
    ·replace har := har.mono lF
     replace hgv := hgv.mono lF
     replace ha2 := ha2.mono lF
     replace hr6 := hr6.mono lF
     rw [eS (l := [(1, _), (2, _), (8, _), (9, _)]) ⟨z9 1 rfl, z9 2 rfl, z9 8 rfl, z9 9 rfl, ⟨⟩⟩]
     refine qk (qn (args := [.agg #[arv], gv, a2, x4]) call97 rfl (l20Match_spec ((((cs.getD k ([], [])).2)).length) har hgv ha2 hr6 (hn := (Nat.le_refl _)) (hop := (by first | assumption | rfl | omega | simp)) (hot := (by first | assumption | rfl | omega | simp)) (hgl := (by first | assumption | rfl | omega | simp))) ?_)
     rintro _ F8 _ le8 ⟨⟨x6, rfl, hr8⟩, rfl⟩
     replace hgv := hgv.mono le8
     exact ⟨⟨rfl, hr8⟩, rfl⟩
    refine gD (fun W Fs R lF z9 => ?_) ?_
    ·obtain ⟨e10, f10_2hp_a⟩ := z9 10 rfl
     obtain ⟨t10X2_a, f10_2hp_a, q10_2_a0, q10_2_a1⟩ := f10_2hp_a
     rw [eS (l := [(10, (.tuple #[((tupAt (W 10) 0)), .bool ((mGo ar ((normC ar cr (d - 1) ((fillL gs ((cs.getD k ([], [])).1)).getD [])).getD []) ((cs.getD k ([], [])).2) 0 gs).isSome)]))]) ⟨(e10).symm, ⟨⟩⟩]
     refine qk (qo (.tuple #[((tupAt (W 10) 0)), .bool ((mGo ar ((normC ar cr (d - 1) ((fillL gs ((cs.getD k ([], [])).1)).getD [])).getD []) ((cs.getD k ([], [])).2) 0 gs).isSome)]) rfl ?_)
     exact ⟨rfl, rfl⟩
    refine gD (fun W Fs R lF z9 => ?_) ?_
    ·obtain ⟨e10, f10_2hp_a⟩ := z9 10 rfl
     obtain ⟨t10X2_a, f10_2hp_a, q10_2_a0, q10_2_a1⟩ := f10_2hp_a
     have e11 : W 11 = (.tuple #[((tupAt (W 10) 0)), .bool ((mGo ar ((normC ar cr (d - 1) ((fillL gs ((cs.getD k ([], [])).1)).getD [])).getD []) ((cs.getD k ([], [])).2) 0 gs).isSome)] : Value) := z9 11 rfl
     rw [eS (l := [(10, (.tuple #[((tupAt (W 10) 0)), .bool ((mGo ar ((normC ar cr (d - 1) ((fillL gs ((cs.getD k ([], [])).1)).getD [])).getD []) ((cs.getD k ([], [])).2) 0 gs).isSome)])), (11, (.tuple #[((tupAt (W 10) 0)), .bool ((mGo ar ((normC ar cr (d - 1) ((fillL gs ((cs.getD k ([], [])).1)).getD [])).getD []) ((cs.getD k ([], [])).2) 0 gs).isSome)]))]) ⟨(e10).symm, e11, ⟨⟩⟩]
     refine qk (qG (((tupAt (W 10) 0))) rfl rfl ?_)
     exact ⟨rfl, rfl⟩
    refine gD (fun W Fs R lF z9 => ?_) ?_
    ·obtain ⟨e10, f10_2hp_a⟩ := z9 10 rfl
     obtain ⟨t10X2_a, f10_2hp_a, q10_2_a0, q10_2_a1⟩ := f10_2hp_a
     have e11 : W 11 = (.tuple #[((tupAt (W 10) 0)), .bool ((mGo ar ((normC ar cr (d - 1) ((fillL gs ((cs.getD k ([], [])).1)).getD [])).getD []) ((cs.getD k ([], [])).2) 0 gs).isSome)] : Value) := z9 11 rfl
     rw [eS (l := [(10, (.tuple #[((tupAt (W 10) 0)), .bool ((mGo ar ((normC ar cr (d - 1) ((fillL gs ((cs.getD k ([], [])).1)).getD [])).getD []) ((cs.getD k ([], [])).2) 0 gs).isSome)])), (11, (.tuple #[((tupAt (W 10) 0)), .bool ((mGo ar ((normC ar cr (d - 1) ((fillL gs ((cs.getD k ([], [])).1)).getD [])).getD []) ((cs.getD k ([], [])).2) 0 gs).isSome)]))]) ⟨(e10).symm, e11, ⟨⟩⟩]
     refine qk (qG (.bool ((mGo ar ((normC ar cr (d - 1) ((fillL gs ((cs.getD k ([], [])).1)).getD [])).getD []) ((cs.getD k ([], [])).2) 0 gs).isSome)) rfl rfl ?_)
     exact ⟨rfl, rfl⟩
    refine gD (fun W Fs R lF z9 => ?_) ?_
    ·obtain ⟨e10, f10_2hp_a⟩ := z9 10 rfl
     obtain ⟨t10X2_a, f10_2hp_a, q10_2_a0, q10_2_a1⟩ := f10_2hp_a
     have e12 : W 12 = ((tupAt (W 10) 0)) := z9 12 rfl
     rw [eS (l := [(10, (.tuple #[((tupAt (W 10) 0)), .bool ((mGo ar ((normC ar cr (d - 1) ((fillL gs ((cs.getD k ([], [])).1)).getD [])).getD []) ((cs.getD k ([], [])).2) 0 gs).isSome)])), (12, ((tupAt (W 10) 0)))]) ⟨(e10).symm, e12, ⟨⟩⟩]
     refine qk (jo (((tupAt (W 10) 0))) rfl ?_)
     exact ⟨rfl, rfl⟩
    exact stepsG.nil
   intro W F9 le9 hphi
   obtain ⟨e10, f10_2hp_a⟩ := hphi 10 (by decide)
   obtain ⟨t10X2_a, f10_2hp_a, q10_2_a0, q10_2_a1⟩ := f10_2hp_a
   have e11 : W 11 = (.tuple #[((tupAt (W 10) 0)), .bool ((mGo ar ((normC ar cr (d - 1) ((fillL gs ((cs.getD k ([], [])).1)).getD [])).getD []) ((cs.getD k ([], [])).2) 0 gs).isSome)] : Value) := hphi 11 (by decide)
   have e12 : W 12 = ((tupAt (W 10) 0)) := hphi 12 (by decide)
   have e14 : W 14 = ((tupAt (W 10) 0)) := hphi 14 (by decide)
   generalize hu3 : ((tupAt (W 10) 0)) = u3 at e10 f10_2hp_a e11 e12 e14
   rw [eS (l := [(10, (.tuple #[u3, .bool ((mGo ar ((normC ar cr (d - 1) ((fillL gs ((cs.getD k ([], [])).1)).getD [])).getD []) ((cs.getD k ([], [])).2) 0 gs).isSome)])), (13, _), (14, u3)]) ⟨(e10).symm, (hphi 13 (by decide)), e14, ⟨⟩⟩]
   replace hgv := hgv.mono le9
   show XL _ _ _ _ _ _ _ (cellsH b2 [lv, rv, csv] 51 :: cellsH b1 [arv, crv] 29 :: L)
   refine qj (.bool ((mGo ar ((normC ar cr (d - 1) ((fillL gs ((cs.getD k ([], [])).1)).getD [])).getD []) ((cs.getD k ([], [])).2) 0 gs).isSome)) rfl (qf (qd (qi (ii ((k : Int))) rfl (cX (qS (((k + 1 : Nat) : Int)) rfl rfl (by omega) (by omega) (qj (ii (((k + 1 : Nat) : Int))) rfl (qf ?_)))))))
   exact ⟨(k + 1, u3, t10X2_a, (mGo ar ((normC ar cr (d - 1) ((fillL gs ((cs.getD k ([], [])).1)).getD [])).getD []) ((cs.getD k ([], [])).2) 0 gs).isSome, F9), _, (qc (qc (qc leG1 le5) le6) le9), rF, ⟨rfl, rfl, rfl, rfl, rfl, rfl, ⟨⟩⟩, (sC (sC sR)), ⟨rfl, (qc (qc (qc leG1 le5) le6) le9), (f10_2hp_a), (q10_2_a0), (by (try dsimp only) <;> omega), (GivenAt.next (x := (l, r, cs)) hgd.2 hgd.1 hd9 hk9 hf1 hn1 hwo (by exact q10_2_a1))⟩, (by omega)⟩
  have hok9 : ok = false := h2
  refine jn (qA (qA (qV (qg (qd (qi (gv) rfl (qi (.bool (ok)) rfl (qj (gv) rfl (qj (.bool (ok)) rfl (qf (qu (qt (L' := L) [gv, .bool (ok)] (.tuple #[gv, .bool (ok)]) (.tmp rfl (.tmp rfl .nil)) rfl (qc le4 leG1) rF (sD (sD sR)) ?_))))))))))))
  have e := hga.is (by first | exact .inr (by assumption) | (refine .inl ?_; (try dsimp only); omega))
  exact ⟨⟨_, by rw [e.1], ⟨_, hgv, hgn, e.2⟩⟩, rfl⟩
 refine qp (t := 32) rfl (vF h1) (cX (qM (.bool (false)) (vF h1) rfl (qf (jS rfl (jn (qA (qA (qV (qg (qd (qi (gv) rfl (qi (.bool (ok)) rfl (qj (gv) rfl (qj (.bool (ok)) rfl ?_))))))))))))))
 refine qf (qu (qt (L' := L) [gv, .bool (ok)] (.tuple #[gv, .bool (ok)]) (.tmp rfl (.tmp rfl .nil)) rfl (qc le4 leG1) rF (sD (sD sR)) ?_))
 have e := hga.is (by first | exact .inr (by assumption) | (refine .inl ?_; (try dsimp only); omega))
 exact ⟨⟨_, by rw [e.1], ⟨_, hgv, hgn, e.2⟩⟩, rfl⟩

/- spec.l27Step -/
set_option maxHeartbeats 2000000 in
set_option maxRecDepth 20000 in
theorem sstep_step {d : Nat} (ih : ∀ m : Nat, m < d → ∀ {F : FH} {L : List HP}  {arv : Value} {ar : List Int} (har : IntsF F arv ar) {crv : Value} {cr : List CRuleT} (hcr : CRulesF F crv cr) {tv : Value} {t : List Int} (ht : IntsF F tv t) (hc : csysOk ar cr = true) (ho : termOk ar t = true) (hd2 : m ≤ 2), Does prog 24 [.agg #[arv, crv], tv, ii ((m : Int))] F L (fun v F' L' => (∃ (a : Value), (.tuple #[a, .bool ((normC ar cr m t).isSome)] : Value) = v ∧ (IntsF F' a ((normC ar cr m t).getD []))) ∧ L = L')) {F : FH} {L : List HP}  {arv : Value} {ar : List Int} (har : IntsF F arv ar) {crv : Value} {cr : List CRuleT} (hcr : CRulesF F crv cr) {tv : Value} {t : List Int} (ht : IntsF F tv t) {p : Nat} {q : Nat} (hc : csysOk ar cr = true) (ho : termOk ar t = true) (hd2 : d ≤ 2) (hp : p < t.length) (hq : q < cr.length) :
    Does prog 47 [.agg #[arv, crv], tv, ii ((p : Int)), ii ((q : Int)), ii ((d : Int))] F (L) (fun v F' L' => (∃ (a : Value), (.tuple #[a, .bool ((stepD ar cr d (RD cr q) t p).isSome)] : Value) = v ∧ (IntsF F' a ((stepD ar cr d (RD cr q) t p).getD []))) ∧ L = L') := by
 refine qL func47 rfl rfl rfl ?_
 have hsl := sigOk_spec (termOk_sig ho)
 have htl := termOk_len ho
 have hcl := (csysOk_iff.1 hc).2.1
 have hR := csysOk_at hc hq
 have hRl : termOk ar (cr.getD q ([], [], [])).1 = true := hR.left
 have hRr : termOk ar (cr.getD q ([], [], [])).2.1 = true := hR.right
 have hrl := termOk_len hRr
 have hrg := fun k (hk : k < (cr.getD q ([], [], [])).2.1.length) => termOk_ge hRr hk
 have hst := sub_ok ho hp
 have hstl := termOk_len hst
 refine qg (qd (cX (je [arv, crv] rfl rfl ?_)))
 intro b1
 refine qj (sN) rfl (qj (.bool (false)) rfl (qf (qg ?_)))
 obtain ⟨a1, a2, a3, ha1, ha2, ha3, hrg1, hq1⟩ := hcr.rd (i := q) (by omega)
 refine jG [cellsH b1 [arv, crv] 29] L 17 [[], [], [], [], [], [], [], [], [], [], [], [], [], [12], [12], [], [12]] [[], [], [1], [], [], [2, 3, 4], [], [6], [], [7, 8], [9], [], [0, 5, 10, 11], [12], [12, 13], [12, 13], [12, 14]] [] (phiG [pe (.agg #[arv, crv]), pe (ptr b1 0), pe (.agg #[arv]), pe tv, pe (ii ((p : Int)) : Value), fun FF us v => ((v) : Value) = v ∧ (IntsF FF (v) (sub ar t p)), pe (ptr b1 1), pe crv, pe (ii ((q : Int)) : Value), pe (.pointer (some (elemA crv (q * 3)))), pe (.agg #[a1, a2, a3]), pe (ii ((d : Int)) : Value), fun FF us v => (.tuple #[((tupAt v 0)), .bool ((givenD ar cr d ((sub ar t p)) (((cr.getD q ([], [], [])).1), ((cr.getD q ([], [], [])).2.1), ((cr.getD q ([], [], [])).2.2))).isSome)] : Value) = v ∧ (SomeRowsF FF ((tupAt v 0)) (fun g2 => g2.length = 24 ∧ ∀ x, givenD ar cr d ((sub ar t p)) (((cr.getD q ([], [], [])).1), ((cr.getD q ([], [], [])).2.1), ((cr.getD q ([], [], [])).2.2)) = some x → g2 = x)), fun FF us v => v = (.tuple #[((tupAt (us.getD 0 undef) 0)), .bool ((givenD ar cr d ((sub ar t p)) (((cr.getD q ([], [], [])).1), ((cr.getD q ([], [], [])).2.1), ((cr.getD q ([], [], [])).2.2))).isSome)] : Value), fun FF us v => v = ((tupAt (us.getD 0 undef) 0)), pe (.bool ((givenD ar cr d ((sub ar t p)) (((cr.getD q ([], [], [])).1), ((cr.getD q ([], [], [])).2.1), ((cr.getD q ([], [], [])).2.2))).isSome)), fun FF us v => v = ((tupAt (us.getD 0 undef) 0))]) (ownL []) mixed rfl rfl (by kernel_rfl) (by kernel_rfl) (MonoG.get (m1 (m1 (m1 (m1 (m1 (mC (fun le h => ⟨h.1, h.2.mono le⟩) (m1 (m1 (m1 (m1 (m1 (m1 (mC (fun le h => ⟨h.1, h.2.mono le⟩) (mC (fun le h => h) (mC (fun le h => h) (m1 (mC (fun le h => h) MonoG.nil)))))))))))))))))) ?_ ?_
 ·refine gD (fun W Fs R lF z9 => ?_) ?_
  ·replace har := har.mono lF
   replace hcr := hcr.mono lF
   replace ht := ht.mono lF
   replace ha1 := ha1.mono lF
   replace ha2 := ha2.mono lF
   replace ha3 := ha3.mono lF
   replace hrg1 := fun L9 j9 u9 h9 => Rd.mono (hrg1 L9 j9 u9 h9) lF
   refine qk (qs [arv, crv] qY qK rfl rfl (Rd.ownN [] rfl rfl) ?_)
   exact ⟨rfl, rfl⟩
  refine gD (fun W Fs R lF z9 => ?_) ?_
  ·refine qk (qq (0) qF rfl qB (by decide) rfl rfl ?_)
   exact ⟨rfl, rfl⟩
  refine gD (fun W Fs R lF z9 => ?_) ?_
  ·replace har := har.mono lF
   replace hcr := hcr.mono lF
   replace ht := ht.mono lF
   replace ha1 := ha1.mono lF
   replace ha2 := ha2.mono lF
   replace ha3 := ha3.mono lF
   replace hrg1 := fun L9 j9 u9 h9 => Rd.mono (hrg1 L9 j9 u9 h9) lF
   rw [zA 1 (z9 1 rfl)]
   refine qk (qs [arv] qW qB rfl rfl (Rd.ownN [] rfl rfl) ?_)
   exact ⟨rfl, rfl⟩
  refine gD (fun W Fs R lF z9 => ?_) ?_
  ·refine qk (qo (tv) rfl ?_)
   exact ⟨rfl, rfl⟩
  refine gD (fun W Fs R lF z9 => ?_) ?_
  ·refine qk (qo (ii ((p : Int))) rfl ?_)
   exact ⟨rfl, rfl⟩
  refine gD (fun W Fs R lF z9 => ?_) ?_
  ·replace har := har.mono lF
   replace hcr := hcr.mono lF
   replace ht := ht.mono lF
   replace ha1 := ha1.mono lF
   replace ha2 := ha2.mono lF
   replace ha3 := ha3.mono lF
   replace hrg1 := fun L9 j9 u9 h9 => Rd.mono (hrg1 L9 j9 u9 h9) lF
   rw [eS (l := [(2, _), (3, _), (4, _)]) ⟨z9 2 rfl, z9 3 rfl, z9 4 rfl, ⟨⟩⟩]
   refine qk (jR <| qn (args := [.agg #[arv], tv, ii (p : Int)]) call65 rfl (l1Sub_spec (p := p) har ht (ho := (by first | assumption | rfl | omega | simp)) (hp := (by first | assumption | rfl | omega | simp))) ?_)
   rintro v2 _ _ _ ⟨rfl, hs2, rfl⟩
   refine ⟨_, _, rfl, fun F2 le2 hz1 => ?_⟩
   replace har := har.mono le2
   replace hcr := hcr.mono le2
   replace ht := ht.mono le2
   replace ha1 := ha1.mono le2
   replace ha2 := ha2.mono le2
   replace ha3 := ha3.mono le2
   replace hrg1 := fun L9 j9 u9 h9 => Rd.mono (hrg1 L9 j9 u9 h9) le2
   have hf1 : IntsF F2 v2 ((sub ar t p)) := intsH.fz (xs := (sub ar t p)) hz1.fz
   exact ⟨⟨rfl, hf1⟩, rfl⟩
  refine gD (fun W Fs R lF z9 => ?_) ?_
  ·refine qk (qq (1) qF rfl jp (by decide) rfl rfl ?_)
   exact ⟨rfl, rfl⟩
  refine gD (fun W Fs R lF z9 => ?_) ?_
  ·replace har := har.mono lF
   replace hcr := hcr.mono lF
   replace ht := ht.mono lF
   replace ha1 := ha1.mono lF
   replace ha2 := ha2.mono lF
   replace ha3 := ha3.mono lF
   replace hrg1 := fun L9 j9 u9 h9 => Rd.mono (hrg1 L9 j9 u9 h9) lF
   rw [zA 6 (z9 6 rfl)]
   refine qk (qm jz rfl (Rd.own [] rfl rfl) ?_)
   exact ⟨rfl, rfl⟩
  refine gD (fun W Fs R lF z9 => ?_) ?_
  ·refine qk (qo (ii ((q : Int))) rfl ?_)
   exact ⟨rfl, rfl⟩
  refine gD (fun W Fs R lF z9 => ?_) ?_
  ·replace har := har.mono lF
   replace hcr := hcr.mono lF
   replace ht := ht.mono lF
   replace ha1 := ha1.mono lF
   replace ha2 := ha2.mono lF
   replace ha3 := ha3.mono lF
   replace hrg1 := fun L9 j9 u9 h9 => Rd.mono (hrg1 L9 j9 u9 h9) lF
   rw [zB 7 8 (z9 7 rfl) (z9 8 rfl)]
   refine qk (qD q qU jv rfl rfl rfl hcr.slv (by omega) rfl ?_)
   exact ⟨rfl, rfl⟩
  refine gD (fun W Fs R lF z9 => ?_) ?_
  ·replace har := har.mono lF
   replace hcr := hcr.mono lF
   replace ht := ht.mono lF
   replace ha1 := ha1.mono lF
   replace ha2 := ha2.mono lF
   replace ha3 := ha3.mono lF
   replace hrg1 := fun L9 j9 u9 h9 => Rd.mono (hrg1 L9 j9 u9 h9) lF
   rw [zA 9 (z9 9 rfl)]
   refine qk (qs [a1, a2, a3] isAgg51 jv rfl rfl (Rd.all (hrg1 _)) ?_)
   exact ⟨rfl, rfl⟩
  refine gD (fun W Fs R lF z9 => ?_) ?_
  ·refine qk (qo (ii ((d : Int))) rfl ?_)
   exact ⟨rfl, rfl⟩
  refine gD (fun W Fs R lF z9 => ?_) ?_
  ·obtain ⟨e5, f5_1ha⟩ := z9 5 rfl
   replace har := har.mono lF
   replace hcr := hcr.mono lF
   replace ht := ht.mono lF
   replace ha1 := ha1.mono lF
   replace ha2 := ha2.mono lF
   replace ha3 := ha3.mono lF
   replace hrg1 := fun L9 j9 u9 h9 => Rd.mono (hrg1 L9 j9 u9 h9) lF
   rw [eS (l := [(0, _), (5, ((W 5))), (10, _), (11, _)]) ⟨z9 0 rfl, (e5).symm, z9 10 rfl, z9 11 rfl, ⟨⟩⟩]
   refine qk (qn (args := [.agg #[arv, crv], ((W 5)), .agg #[a1, a2, a3], ii (d : Int)]) call79 rfl (sgiven_step ih har hcr f5_1ha ha1 ha2 ha3 (hc := (by first | assumption | rfl | omega | simp)) (hou := (hst)) (hd2 := (by first | assumption | rfl | omega | simp)) (hR := (hR))) ?_)
   rintro _ F3 _ le3 ⟨⟨x2, rfl, hr2⟩, rfl⟩
   replace har := har.mono le3
   replace hcr := hcr.mono le3
   replace ht := ht.mono le3
   replace ha2 := ha2.mono le3
   replace f5_1ha := f5_1ha.mono le3
   replace hrg1 := fun L9 j9 u9 h9 => Rd.mono (hrg1 L9 j9 u9 h9) le3
   exact ⟨⟨rfl, hr2⟩, rfl⟩
  refine gD (fun W Fs R lF z9 => ?_) ?_
  ·obtain ⟨e12, f12_1hp_a⟩ := z9 12 rfl
   obtain ⟨t12X1_a, f12_1hp_a, q12_1_a0, q12_1_a1⟩ := f12_1hp_a
   rw [eS (l := [(12, (.tuple #[((tupAt (W 12) 0)), .bool ((givenD ar cr d ((sub ar t p)) (((cr.getD q ([], [], [])).1), ((cr.getD q ([], [], [])).2.1), ((cr.getD q ([], [], [])).2.2))).isSome)]))]) ⟨(e12).symm, ⟨⟩⟩]
   refine qk (qo (.tuple #[((tupAt (W 12) 0)), .bool ((givenD ar cr d ((sub ar t p)) (((cr.getD q ([], [], [])).1), ((cr.getD q ([], [], [])).2.1), ((cr.getD q ([], [], [])).2.2))).isSome)]) rfl ?_)
   exact ⟨rfl, rfl⟩
  refine gD (fun W Fs R lF z9 => ?_) ?_
  ·obtain ⟨e12, f12_1hp_a⟩ := z9 12 rfl
   obtain ⟨t12X1_a, f12_1hp_a, q12_1_a0, q12_1_a1⟩ := f12_1hp_a
   have e13 : W 13 = (.tuple #[((tupAt (W 12) 0)), .bool ((givenD ar cr d ((sub ar t p)) (((cr.getD q ([], [], [])).1), ((cr.getD q ([], [], [])).2.1), ((cr.getD q ([], [], [])).2.2))).isSome)] : Value) := z9 13 rfl
   rw [eS (l := [(12, (.tuple #[((tupAt (W 12) 0)), .bool ((givenD ar cr d ((sub ar t p)) (((cr.getD q ([], [], [])).1), ((cr.getD q ([], [], [])).2.1), ((cr.getD q ([], [], [])).2.2))).isSome)])), (13, (.tuple #[((tupAt (W 12) 0)), .bool ((givenD ar cr d ((sub ar t p)) (((cr.getD q ([], [], [])).1), ((cr.getD q ([], [], [])).2.1), ((cr.getD q ([], [], [])).2.2))).isSome)]))]) ⟨(e12).symm, e13, ⟨⟩⟩]
   refine qk (qG (((tupAt (W 12) 0))) rfl rfl ?_)
   exact ⟨rfl, rfl⟩
  refine gD (fun W Fs R lF z9 => ?_) ?_
  ·obtain ⟨e12, f12_1hp_a⟩ := z9 12 rfl
   obtain ⟨t12X1_a, f12_1hp_a, q12_1_a0, q12_1_a1⟩ := f12_1hp_a
   have e13 : W 13 = (.tuple #[((tupAt (W 12) 0)), .bool ((givenD ar cr d ((sub ar t p)) (((cr.getD q ([], [], [])).1), ((cr.getD q ([], [], [])).2.1), ((cr.getD q ([], [], [])).2.2))).isSome)] : Value) := z9 13 rfl
   rw [eS (l := [(12, (.tuple #[((tupAt (W 12) 0)), .bool ((givenD ar cr d ((sub ar t p)) (((cr.getD q ([], [], [])).1), ((cr.getD q ([], [], [])).2.1), ((cr.getD q ([], [], [])).2.2))).isSome)])), (13, (.tuple #[((tupAt (W 12) 0)), .bool ((givenD ar cr d ((sub ar t p)) (((cr.getD q ([], [], [])).1), ((cr.getD q ([], [], [])).2.1), ((cr.getD q ([], [], [])).2.2))).isSome)]))]) ⟨(e12).symm, e13, ⟨⟩⟩]
   refine qk (qG (.bool ((givenD ar cr d ((sub ar t p)) (((cr.getD q ([], [], [])).1), ((cr.getD q ([], [], [])).2.1), ((cr.getD q ([], [], [])).2.2))).isSome)) rfl rfl ?_)
   exact ⟨rfl, rfl⟩
  refine gD (fun W Fs R lF z9 => ?_) ?_
  ·obtain ⟨e12, f12_1hp_a⟩ := z9 12 rfl
   obtain ⟨t12X1_a, f12_1hp_a, q12_1_a0, q12_1_a1⟩ := f12_1hp_a
   have e14 : W 14 = ((tupAt (W 12) 0)) := z9 14 rfl
   rw [eS (l := [(12, (.tuple #[((tupAt (W 12) 0)), .bool ((givenD ar cr d ((sub ar t p)) (((cr.getD q ([], [], [])).1), ((cr.getD q ([], [], [])).2.1), ((cr.getD q ([], [], [])).2.2))).isSome)])), (14, ((tupAt (W 12) 0)))]) ⟨(e12).symm, e14, ⟨⟩⟩]
   refine qk (jo (((tupAt (W 12) 0))) rfl ?_)
   exact ⟨rfl, rfl⟩
  exact stepsG.nil
 intro W F4 le4 hphi
 obtain ⟨e5, f5_1ha⟩ := hphi 5 (by decide)
 obtain ⟨e12, f12_1hp_a⟩ := hphi 12 (by decide)
 obtain ⟨t12X1_a, f12_1hp_a, q12_1_a0, q12_1_a1⟩ := f12_1hp_a
 have e13 : W 13 = (.tuple #[((tupAt (W 12) 0)), .bool ((givenD ar cr d ((sub ar t p)) (((cr.getD q ([], [], [])).1), ((cr.getD q ([], [], [])).2.1), ((cr.getD q ([], [], [])).2.2))).isSome)] : Value) := hphi 13 (by decide)
 have e14 : W 14 = ((tupAt (W 12) 0)) := hphi 14 (by decide)
 have e16 : W 16 = ((tupAt (W 12) 0)) := hphi 16 (by decide)
 generalize hu1 : ((W 5)) = u1 at e5 f5_1ha e12 f12_1hp_a e13 e14 e16
 generalize hu2 : ((tupAt (W 12) 0)) = u2 at e5 f5_1ha e12 f12_1hp_a e13 e14 e16
 rw [eS (l := [(12, (.tuple #[u2, .bool ((givenD ar cr d ((sub ar t p)) (((cr.getD q ([], [], [])).1), ((cr.getD q ([], [], [])).2.1), ((cr.getD q ([], [], [])).2.2))).isSome)])), (15, _), (16, u2)]) ⟨(e12).symm, (hphi 15 (by decide)), e16, ⟨⟩⟩]
 replace har := har.mono le4
 replace hcr := hcr.mono le4
 replace ht := ht.mono le4
 replace ha2 := ha2.mono le4
 replace hrg1 := fun L9 j9 u9 h9 => Rd.mono (hrg1 L9 j9 u9 h9) le4
 show XL _ _ _ _ _ _ _ (cellsH b1 [arv, crv] 29 :: L)
 refine qj (.bool ((givenD ar cr d ((sub ar t p)) (((cr.getD q ([], [], [])).1), ((cr.getD q ([], [], [])).2.1), ((cr.getD q ([], [], [])).2.2))).isSome)) rfl (qf (qg (qg (qd (qi (.bool ((givenD ar cr d ((sub ar t p)) (((cr.getD q ([], [], [])).1), ((cr.getD q ([], [], [])).2.1), ((cr.getD q ([], [], [])).2.2))).isSome)) rfl (cX (jg rfl (qf ?_))))))))
 refine js (t := !((givenD ar cr d ((sub ar t p)) (((cr.getD q ([], [], [])).1), ((cr.getD q ([], [], [])).2.1), ((cr.getD q ([], [], [])).2.2))).isSome)) rfl (fun h1 => ?_) (fun h1 => ?_)
 ·have hg0 : (givenD ar cr d (sub ar t p) (RD cr q)).isSome = false := Bool.not_inj (y := false) h1
  have hgN : givenD ar cr d (sub ar t p) (RD cr q) = none := by revert hg0; cases givenD ar cr d (sub ar t p) (RD cr q) <;> simp
  refine qg (qd (cX (qx (s := 1) [] [ii (0)] [] qh qC qP rfl (by decide) rfl CellsAre.nil rfl ?_)))
  intro v3 hv1
  refine qj (v3) rfl (qj (.bool (false)) rfl (qf ?_))
  show X _ _ _ _ _ _ (intsH 2 v3 ([] : List Int) :: cellsH b1 [arv, crv] 29 :: L)
  refine ji [] _ _ rfl (fun F5 le5 hz2 => ?_)
  replace har := har.mono le5
  replace hcr := hcr.mono le5
  replace ht := ht.mono le5
  replace ha2 := ha2.mono le5
  replace f12_1hp_a := f12_1hp_a.mono le5
  replace hrg1 := fun L9 j9 u9 h9 => Rd.mono (hrg1 L9 j9 u9 h9) le5
  have hf2 : IntsF F5 v3 ([]) := intsH.fz (xs := []) hz2.fz
  refine qu (ql (qt (L' := L) [v3, .bool (false)] (.tuple #[v3, .bool (false)]) (.tmp rfl (.tmp rfl .nil)) rfl (qc le4 le5) rF (sD sR) ?_))
  have e : stepD ar cr d (RD cr q) t p = none := by first | exact stepD_none hgN | exact stepD_nofill hgS hf0
  exact ⟨⟨_, by rw [e]; rfl, by rw [e]; exact hf2⟩, rfl⟩
 have hgS : givenD ar cr d (sub ar t p) (RD cr q) = some t12X1_a := opt_is (Bool.not_inj (y := true) h1) q12_1_a1
 have hgo := given_ok hc hq hst hgS
 have hbl := hgo.len
 refine qz (qg (qd (qi (u2) rfl (cX (jk [u2] [sN] [(0, 1)] [(0, [u2])] jd jT rfl (.cons rfl jy PlacesAre.nil) rfl (.cons (cells_one (RowsF.isSl f12_1hp_a)) CellsAre.nil) (cX (qq (1) qF rfl jp (by decide) rfl rfl (cX (qm jz rfl (Rd.own [] rfl rfl) (qi (ii ((q : Int))) rfl (cX (qD q qU jv rfl rfl rfl hcr.slv (by omega) rfl (cX (jV (q * 3 + 1) qR rfl qy (by decide) rfl rfl (cX (qm qX rfl (hrg1 _ 1 _ rfl) (cX (qn (args := [.agg #[u2], a2]) call66 rfl (l2Filled_spec f12_1hp_a ha2 (hsl := (by omega)) (hsb := (fun i => by have := hbl i; omega)) (htl := (by omega)) (htg := (fun i hi => by have := hrg i hi; omega))) ?_))))))))))))))))))
 rintro _ F6 _ le6 ⟨x3, rfl, hr3, rfl⟩
 replace har := har.mono le6
 replace ht := ht.mono le6
 refine qi (.tuple #[x3, .bool ((fillL t12X1_a ((cr.getD q ([], [], [])).2.1)).isSome)]) rfl (cX (qG (x3) rfl rfl (cX (qG (.bool ((fillL t12X1_a ((cr.getD q ([], [], [])).2.1)).isSome)) rfl rfl (qj (x3) rfl (qj (.bool ((fillL t12X1_a ((cr.getD q ([], [], [])).2.1)).isSome)) rfl (qf (qg (qg (qd (qi (.bool ((fillL t12X1_a ((cr.getD q ([], [], [])).2.1)).isSome)) rfl (cX (jg rfl (qf ?_))))))))))))))
 refine js (t := !((fillL t12X1_a ((cr.getD q ([], [], [])).2.1)).isSome)) rfl (fun h2 => ?_) (fun h2 => ?_)
 ·have hf0 := Bool.not_inj (y := false) h2
  refine qg (qd (cX (qx (s := 1) [] [ii (0)] [] qh qC qP rfl (by decide) rfl CellsAre.nil rfl ?_)))
  intro v4 hv2
  refine qj (v4) rfl (qj (.bool (false)) rfl (qf ?_))
  show X _ _ _ _ _ _ (intsH 2 v4 ([] : List Int) :: cellsH b1 [arv, crv] 29 :: L)
  refine ji [] _ _ rfl (fun F7 le7 hz3 => ?_)
  replace har := har.mono le7
  replace ht := ht.mono le7
  replace hr3 := hr3.mono le7
  have hf3 : IntsF F7 v4 ([]) := intsH.fz (xs := []) hz3.fz
  refine qu (ql (qt (L' := L) [v4, .bool (false)] (.tuple #[v4, .bool (false)]) (.tmp rfl (.tmp rfl .nil)) rfl (qc (qc le4 le6) le7) rF (sD sR) ?_))
  have e : stepD ar cr d (RD cr q) t p = none := by first | exact stepD_none hgN | exact stepD_nofill hgS hf0
  exact ⟨⟨_, by rw [e]; rfl, by rw [e]; exact hf3⟩, rfl⟩
 have hf1 := Bool.not_inj (y := true) h2
 have hfo := fill_okS hgo hRr hf1
 have hfl := termOk_len hfo
 refine qz (qg (qd (cX (qq (0) qF rfl qB (by decide) rfl rfl (cX (qs [arv] qW qB rfl rfl (Rd.ownN [] rfl rfl) (qi (tv) rfl (qi (ii ((p : Int))) rfl (qi (x3) rfl (cX (qn (args := [.agg #[arv], tv, ii (p : Int), x3]) call67 rfl (l3PutH_spec (p := p) har ht hr3 (ho := (by first | assumption | rfl | omega | simp)) (hp := (by first | assumption | rfl | omega | simp)) (hul := (by first | assumption | rfl | omega | simp))) ?_)))))))))))
 rintro _ F8 _ le8 ⟨x4, rfl, hr4, hr5, rfl⟩
 refine cX (qG (x4) rfl rfl (cX (qG (.bool ((putL ar t p ((fillL t12X1_a ((cr.getD q ([], [], [])).2.1)).getD [])).isSome)) rfl rfl (qj (x4) rfl (qj (.bool ((putL ar t p ((fillL t12X1_a ((cr.getD q ([], [], [])).2.1)).getD [])).isSome)) rfl (qf (qu (qt (L' := L) [x4, .bool ((putL ar t p ((fillL t12X1_a ((cr.getD q ([], [], [])).2.1)).getD [])).isSome)] (.tuple #[x4, .bool ((putL ar t p ((fillL t12X1_a ((cr.getD q ([], [], [])).2.1)).getD [])).isSome)]) (.tmp rfl (.tmp rfl .nil)) rfl (qc (qc le4 le6) le8) rF (sD sR) ?_))))))))
 have e := stepD_put (x := RD cr q) hgS hf1
 exact ⟨⟨_, by rw [e]; rfl, by rw [e]; exact hr4⟩, rfl⟩

/- spec.l27Redexes -/
set_option maxHeartbeats 2000000 in
set_option maxRecDepth 20000 in
theorem sredexes_step {d : Nat} (ih : ∀ m : Nat, m < d → ∀ {F : FH} {L : List HP}  {arv : Value} {ar : List Int} (har : IntsF F arv ar) {crv : Value} {cr : List CRuleT} (hcr : CRulesF F crv cr) {tv : Value} {t : List Int} (ht : IntsF F tv t) (hc : csysOk ar cr = true) (ho : termOk ar t = true) (hd2 : m ≤ 2), Does prog 24 [.agg #[arv, crv], tv, ii ((m : Int))] F L (fun v F' L' => (∃ (a : Value), (.tuple #[a, .bool ((normC ar cr m t).isSome)] : Value) = v ∧ (IntsF F' a ((normC ar cr m t).getD []))) ∧ L = L')) {F : FH} {L : List HP}  {arv : Value} {ar : List Int} (har : IntsF F arv ar) {crv : Value} {cr : List CRuleT} (hcr : CRulesF F crv cr) {tv : Value} {t : List Int} (ht : IntsF F tv t) (hc : csysOk ar cr = true) (ho : termOk ar t = true) (hd2 : d ≤ 2) :
    Does prog 49 [.agg #[arv, crv], tv, ii ((d : Int))] F (L) (fun v F' L' => (∃ (a : Value), (a : Value) = v ∧ (IntsF F' a (redsD ar cr d t t.length))) ∧ L = L') := by
 refine qL func49 rfl rfl rfl ?_
 have hsl := sigOk_spec (termOk_sig ho)
 have htl := termOk_len ho
 have hcl := (csysOk_iff.1 hc).2.1
 refine qg (qd (cX (je [arv, crv] rfl rfl ?_)))
 intro b1
 refine qj (sN) rfl (qf (qg (qd (cX (qx (s := 1) [] [ii (0)] [] qh qC qP rfl (by decide) rfl CellsAre.nil rfl ?_)))))
 intro v1 hv1
 refine qj (v1) rfl (qf (qg (qg (qd (qj (ii (0)) rfl (qf (qQ ?_)))))))
 show X _ _ _ _ _ _ (intsH 2 v1 ([] : List Int) :: cellsH b1 [arv, crv] 29 :: L)
 refine jr (α := Nat × Value × List Int × FH) (fun xQ => [(1, tv), (2, ii ((d : Int))), (3, ptr b1 0), (7, xQ.2.1), (8, ii (((xQ.1 : Nat) : Int)))]) (fun xQ => intsH 2 xQ.2.1 xQ.2.2.1 :: cellsH b1 [arv, crv] 29 :: L) (fun xQ F' => xQ.2.2.2 = F' ∧ F ≤ xQ.2.2.2 ∧ (IsSl xQ.2.1) ∧ (xQ.1 ≤ t.length) ∧ (xQ.2.2.1 = redsD ar cr d t xQ.1)) (fun xQ => t.length - xQ.1) (0, v1, [], F) ⟨rfl, rfl, rfl, rfl, rfl, ⟨⟩⟩ (sC (sC sR)) ⟨rfl, FLe.refl _, ((jE hv1)), (Nat.zero_le _), (rfl)⟩ ?_
 rintro ⟨k, ov, os, G1⟩ rE _ _ ⟨rfl, leG, hov, hk, hos⟩
 show X _ _ _ _ (envs [(1, tv), (2, ii ((d : Int))), (3, ptr b1 0), (7, ov), (8, ii ((k : Int)))] rE) _ (intsH 2 ov os :: cellsH b1 [arv, crv] 29 :: L)
 replace leG : F ≤ G1 := leG
 dsimp only at hov hk hos
 have hol : os.length = k := by rw [hos, redsD_len]
 have leG1 := leG
 replace har := har.mono leG1
 replace hcr := hcr.mono leG1
 replace ht := ht.mono leG1
 refine qg (qg (qd (qi (ii ((k : Int))) rfl (qi (tv) rfl (cX (qE qh rfl ht.slv (cX (jb rfl rfl (qf ?_)))))))))
 refine qH (p := (k : Int) < (t.length : Int)) rfl (fun h1 => ?_) (fun h1 => ?_)
 ·refine qz (qg (qQ (qg (qd (qj (ii (-1)) rfl (qf (qg (qg (qd (qj (ii (0)) rfl (qf (qQ (jr (α := Nat × Int × FH) (fun xQ => [(1, tv), (2, ii ((d : Int))), (3, ptr b1 0), (7, ov), (8, ii ((k : Int))), (9, ii (xQ.2.1)), (10, ii (((xQ.1 : Nat) : Int)))]) (fun xQ => intsH 2 ov os :: cellsH b1 [arv, crv] 29 :: L) (fun xQ F' => xQ.2.2 = F' ∧ G1 ≤ xQ.2.2 ∧ (xQ.1 ≤ cr.length) ∧ ((xQ.2.1 = -1 ∧ ruleD ar cr d t k = ruleG ar cr d t k xQ.1) ∨ (0 ≤ xQ.2.1 ∧ ruleD ar cr d t k = xQ.2.1))) (fun xQ => cr.length - xQ.1) (0, (-1), G1) ⟨rfl, rfl, rfl, rfl, rfl, rfl, rfl, ⟨⟩⟩ (sC (sC sR)) ⟨rfl, FLe.refl _, (Nat.zero_le _), (.inl ⟨rfl, rfl⟩)⟩ ?_)))))))))))))
  rintro ⟨m, x, G2⟩ rE _ _ ⟨rfl, leG, hm, hx⟩
  show X _ _ _ _ (envs [(1, tv), (2, ii ((d : Int))), (3, ptr b1 0), (7, ov), (8, ii ((k : Int))), (9, ii (x)), (10, ii ((m : Int)))] rE) _ (intsH 2 ov os :: cellsH b1 [arv, crv] 29 :: L)
  replace leG : G1 ≤ G2 := leG
  dsimp only at hm hx
  have leG2 := leG
  replace har := har.mono leG2
  replace hcr := hcr.mono leG2
  replace ht := ht.mono leG2
  refine qg (qg (qd (qi (ii ((m : Int))) rfl (cX (qq (1) qF rfl jp (by decide) rfl rfl (cX (qm jz rfl (Rd.own [_] rfl rfl) (cX (qE qU rfl hcr.slv (cX (jb rfl rfl (qi (.bool (decide ((m : Int) < (cr.length : Int)))) rfl ?_))))))))))))
  by_cases h2 : (m : Int) < (cr.length : Int)
  ·refine qr (t := 25) rfl (vT h2) (qo (ii (x)) rfl (qr (t := 25) rfl (vT h2) (jb rfl rfl (cX (qN (.bool (decide ((x : Int) < 0))) (vT h2) rfl (qf ?_))))))
   refine qH (p := (x : Int) < 0) rfl (fun h3 => ?_) (fun h3 => ?_)
   ·have hx1 : x = -1 := by rcases hx with h9 | h9 <;> omega
    have hrk : ruleD ar cr d t k = ruleG ar cr d t k m := by rcases hx with h9 | h9; exact h9.2; omega
    have hm9 : m < cr.length := by omega
    refine qz (qg (qQ (qg (qd (cX (qs [arv, crv] qY qK rfl rfl (Rd.ownN [_] rfl rfl) (qi (tv) rfl (qi (ii ((k : Int))) rfl (qi (ii ((m : Int))) rfl (qi (ii ((d : Int))) rfl (cX (qn (args := [.agg #[arv, crv], tv, ii (k : Int), ii (m : Int), ii (d : Int)]) call47 rfl (sstep_step ih (p := k) (q := m) har hcr ht (hc := (by first | assumption | rfl | omega | simp)) (ho := (by first | assumption | rfl | omega | simp)) (hd2 := (by first | assumption | rfl | omega | simp)) (hp := (by first | assumption | rfl | omega | simp)) (hq := (by first | assumption | rfl | omega | simp))) ?_))))))))))))
    rintro _ F1 _ le1 ⟨⟨x1, rfl, hr1⟩, rfl⟩
    show XL _ _ _ _ _ _ _ (intsH 2 ov os :: cellsH b1 [arv, crv] 29 :: L)
    refine qi (.tuple #[x1, .bool ((stepD ar cr d (RD cr m) t k).isSome)]) rfl (cX (qG (x1) rfl rfl (cX (qG (.bool ((stepD ar cr d (RD cr m) t k).isSome)) rfl rfl (qj (x1) rfl (qj (.bool ((stepD ar cr d (RD cr m) t k).isSome)) rfl (qf (qg (qd (qi (.bool ((stepD ar cr d (RD cr m) t k).isSome)) rfl (qf ?_)))))))))))
    refine js (t := (stepD ar cr d (RD cr m) t k).isSome) rfl (fun h4 => ?_) (fun h4 => ?_)
    ·have hsr : (stepD ar cr d (RD cr m) t k).isSome = true := h4
     refine qd (qi (ii ((m : Int))) rfl (qj (ii ((m : Int))) rfl (qf (qd (qi (ii ((m : Int))) rfl (cX (qS (((m + 1 : Nat) : Int)) rfl rfl (by omega) (by omega) (qj (ii (((m + 1 : Nat) : Int))) rfl (qf ?_)))))))))
     exact ⟨(m + 1, (m : Int), F1), _, (qc leG2 le1), rF, ⟨rfl, rfl, rfl, rfl, rfl, rfl, rfl, ⟨⟩⟩, (sC (sC sR)), ⟨rfl, (qc leG2 le1), (by (try dsimp only) <;> omega), (.inr ⟨by (try dsimp only); omega, hrk.trans (ruleG_hit hm9 hsr)⟩)⟩, (by omega)⟩
    have hsn : (stepD ar cr d (RD cr m) t k).isSome = false := h4
    refine qz (qd (qi (ii ((m : Int))) rfl (cX (qS (((m + 1 : Nat) : Int)) rfl rfl (by omega) (by omega) (qj (ii (((m + 1 : Nat) : Int))) rfl (qf ?_))))))
    exact ⟨(m + 1, x, F1), _, (qc leG2 le1), rF, ⟨rfl, rfl, rfl, rfl, rfl, rfl, rfl, ⟨⟩⟩, (sC (sC sR)), ⟨rfl, (qc leG2 le1), (by (try dsimp only) <;> omega), (.inl ⟨hx1, hrk.trans (ruleG_miss hm9 hsn)⟩)⟩, (by omega)⟩
   refine jn (qA (qA (qV (qd (qi (ov) rfl (qi (ii (x)) rfl (cX (qx (s := 1) [ii (x)] [ii (0)] [(0, [ii (x)])] qh qC qP rfl (by decide) rfl (.cons rfl CellsAre.nil) rfl ?_))))))))
   intro v2 hv2
   refine cX (XOp.append1 (u := x) [_] _ qh typeInfo2 rfl rfl rfl rfl rfl rfl (SlV.own [] rfl) (Rd.sl [] rfl rfl) (by (try simp only [List.length_append, List.length_nil, List.length_cons, List.length_singleton, List.length_take, List.length_drop]); omega) ?_)
   intro v3 hs1 hn1
   refine qj (v3) rfl (qf (qd (qi (ii ((k : Int))) rfl (cX (qS (((k + 1 : Nat) : Int)) rfl rfl (by omega) (by omega) (qj (ii (((k + 1 : Nat) : Int))) rfl (qf ?_)))))))
   exact ⟨(k + 1, v3, os ++ [x], G2), _, (qc leG1 leG2), rF, ⟨rfl, rfl, rfl, rfl, rfl, ⟨⟩⟩, (sD (sC (sC sR))), ⟨rfl, (qc leG1 leG2), (hs1), (by (try dsimp only) <;> omega), (by (try dsimp only); rw [redsD_succ, ← hos, show ruleD ar cr d t k = x from by rcases hx with ⟨h9, h8⟩ | h9; (rw [h8, ruleG_end (by omega)]; exact h9.symm); exact h9.2])⟩, (by omega)⟩
  refine qp (t := 25) rfl (vF h2) (qp (t := 25) rfl (vF h2) (cX (qM (.bool (false)) (vF h2) rfl (qf (jS rfl (jn (qA (qA (qV (qd (qi (ov) rfl (qi (ii (x)) rfl (cX (qx (s := 1) [ii (x)] [ii (0)] [(0, [ii (x)])] qh qC qP rfl (by decide) rfl (.cons rfl CellsAre.nil) rfl ?_))))))))))))))
  intro v4 hv3
  refine cX (XOp.append1 (u := x) [_] _ qh typeInfo2 rfl rfl rfl rfl rfl rfl (SlV.own [] rfl) (Rd.sl [] rfl rfl) (by (try simp only [List.length_append, List.length_nil, List.length_cons, List.length_singleton, List.length_take, List.length_drop]); omega) ?_)
  intro v5 hs2 hn2
  refine qj (v5) rfl (qf (qd (qi (ii ((k : Int))) rfl (cX (qS (((k + 1 : Nat) : Int)) rfl rfl (by omega) (by omega) (qj (ii (((k + 1 : Nat) : Int))) rfl (qf ?_)))))))
  exact ⟨(k + 1, v5, os ++ [x], G2), _, (qc leG1 leG2), rF, ⟨rfl, rfl, rfl, rfl, rfl, ⟨⟩⟩, (sD (sC (sC sR))), ⟨rfl, (qc leG1 leG2), (hs2), (by (try dsimp only) <;> omega), (by (try dsimp only); rw [redsD_succ, ← hos, show ruleD ar cr d t k = x from by rcases hx with ⟨h9, h8⟩ | h9; (rw [h8, ruleG_end (by omega)]; exact h9.symm); exact h9.2])⟩, (by omega)⟩
 refine jn (qA (qA (qV (qg (qd (qi (ov) rfl (qj (ov) rfl (qf (ji [] _ _ rfl (fun F2 le2 hz1 => ?_))))))))))
 have hf1 : IntsF F2 ov os := intsH.fz (xs := os) hz1.fz
 refine qu (qt (L' := L) [ov] (ov) (.tmp rfl .nil) rfl (qc leG1 le2) rF (sD sR) ?_)
 have e9 : os = redsD ar cr d t t.length := by rw [hos, show k = t.length from by omega]
 rw [← e9]
 exact ⟨⟨_, rfl, hf1⟩, rfl⟩

/- spec.l27Pick -/
set_option maxHeartbeats 2000000 in
set_option maxRecDepth 20000 in
theorem spick_step {d : Nat} (ih : ∀ m : Nat, m < d → ∀ {F : FH} {L : List HP}  {arv : Value} {ar : List Int} (har : IntsF F arv ar) {crv : Value} {cr : List CRuleT} (hcr : CRulesF F crv cr) {tv : Value} {t : List Int} (ht : IntsF F tv t) (hc : csysOk ar cr = true) (ho : termOk ar t = true) (hd2 : m ≤ 2), Does prog 24 [.agg #[arv, crv], tv, ii ((m : Int))] F L (fun v F' L' => (∃ (a : Value), (.tuple #[a, .bool ((normC ar cr m t).isSome)] : Value) = v ∧ (IntsF F' a ((normC ar cr m t).getD []))) ∧ L = L')) {F : FH} {L : List HP}  {arv : Value} {ar : List Int} (har : IntsF F arv ar) {crv : Value} {cr : List CRuleT} (hcr : CRulesF F crv cr) {tv : Value} {t : List Int} (ht : IntsF F tv t) (hc : csysOk ar cr = true) (ho : termOk ar t = true) (hd2 : d ≤ 2) :
    Does prog 26 [.agg #[arv, crv], tv, ii ((d : Int))] F (L) (fun v F' L' => ((.tuple #[ii ((pickV ar cr d t).1), ii ((pickV ar cr d t).2.1), .bool ((pickV ar cr d t).2.2)] : Value) = v ∧ (pickD ar cr d t ≤ t.length)) ∧ L = L') := by
 refine qL func26 rfl rfl rfl ?_
 have hsl := sigOk_spec (termOk_sig ho)
 have htl := termOk_len ho
 have hcl := (csysOk_iff.1 hc).2.1
 refine qg (qd (cX (je [arv, crv] rfl rfl ?_)))
 intro b1
 refine qj (ii (0)) rfl (qj (ii (0)) rfl (qj (.bool (false)) rfl (qf (qg (qd (cX (qs [arv, crv] qY qK rfl rfl (Rd.ownN [] rfl rfl) (qi (tv) rfl (qi (ii ((d : Int))) rfl (cX (qn (args := [.agg #[arv, crv], tv, ii (d : Int)]) call49 rfl (sredexes_step ih har hcr ht (hc := (by first | assumption | rfl | omega | simp)) (ho := (by first | assumption | rfl | omega | simp)) (hd2 := (by first | assumption | rfl | omega | simp))) ?_)))))))))))
 rintro _ F1 _ le1 ⟨⟨x1, rfl, hr1⟩, rfl⟩
 replace har := har.mono le1
 replace ht := ht.mono le1
 show XL _ _ _ _ _ _ _ (cellsH b1 [arv, crv] 29 :: L)
 refine qj (x1) rfl (qf (qg (qg (qd (qj (ii (0)) rfl (qf (qQ (jr (α := Nat × FH) (fun xQ => [(1, tv), (3, ptr b1 0), (9, x1), (10, ii (((xQ.1 : Nat) : Int)))]) (fun xQ => cellsH b1 [arv, crv] 29 :: L) (fun xQ F' => xQ.2 = F' ∧ F1 ≤ xQ.2 ∧ (xQ.1 ≤ t.length) ∧ (∀ i, i < xQ.1 → ¬ Inm ar cr d t i)) (fun xQ => t.length - xQ.1) (0, F1) ⟨rfl, rfl, rfl, rfl, ⟨⟩⟩ (sC sR) ⟨rfl, FLe.refl _, (Nat.zero_le _), (fun i hi => absurd hi (by omega))⟩ ?_))))))))
 rintro ⟨k, G1⟩ rE _ _ ⟨rfl, leG, hk, hall⟩
 show X _ _ _ _ (envs [(1, tv), (3, ptr b1 0), (9, x1), (10, ii ((k : Int)))] rE) _ (cellsH b1 [arv, crv] 29 :: L)
 replace leG : F1 ≤ G1 := leG
 dsimp only at hk hall
 have hgk := fun (h : k < t.length) => redsD_get (ar := ar) (cr := cr) (d := d) (t := t) h
 have hee := fun (h : k < t.length) => endN_spec ho h
 have hrl9 : (redsD ar cr d t t.length).length = t.length := redsD_len
 have leG1 := leG
 replace har := har.mono leG1
 replace ht := ht.mono leG1
 replace hr1 := hr1.mono leG1
 refine qg (qg (qd (qi (ii ((k : Int))) rfl (qi (tv) rfl (cX (qE qh rfl ht.slv (cX (jb rfl rfl (qf ?_)))))))))
 refine qH (p := (k : Int) < (t.length : Int)) rfl (fun h1 => ?_) (fun h1 => ?_)
 ·refine qz (qg (qQ (qg (qg (qd (qi (x1) rfl (qi (ii ((k : Int))) rfl (cX (qD k qh qC rfl rfl rfl hr1.slv (by omega) (Nat.mul_one _) (cX (qm jj rfl (hr1.rd (by omega)) (cX (jb rfl rfl (qf ?_))))))))))))))
  refine qH (p := ((redsD ar cr d t t.length).getD k 0 : Int) < 0) rfl (fun h2 => ?_) (fun h2 => ?_)
  ·have hni : ¬ Inm ar cr d t k := Inm.no1 (by rw [← hgk (by omega)]; exact h2)
   refine jn (qA (qV (qd (qi (ii ((k : Int))) rfl (cX (qS (((k + 1 : Nat) : Int)) rfl rfl (by omega) (by omega) (qj (ii (((k + 1 : Nat) : Int))) rfl (qf ?_))))))))
   exact ⟨(k + 1, G1), _, leG1, rF, ⟨rfl, rfl, rfl, rfl, ⟨⟩⟩, (sC sR), ⟨rfl, leG1, (by (try dsimp only) <;> omega), (fun i hi => (Nat.lt_or_ge i k).elim (fun h => hall i h) (fun h => by obtain rfl : i = k := (by omega); exact hni))⟩, (by omega)⟩
  have hrn : ¬ ruleD ar cr d t k < 0 := by rw [← hgk (by omega)]; exact h2
  refine qz (qg (qd (qj (.bool (true)) rfl (qf (qg (qg (qd (qi (ii ((k : Int))) rfl (cX (qS (((k + 1 : Nat) : Int)) rfl rfl (by omega) (by omega) (qj (ii (((k + 1 : Nat) : Int))) rfl (qf (qQ (jr (α := Nat × Bool × FH) (fun xQ => [(1, tv), (3, ptr b1 0), (9, x1), (10, ii ((k : Int))), (11, .bool (xQ.2.1)), (12, ii (((xQ.1 : Nat) : Int)))]) (fun xQ => cellsH b1 [arv, crv] 29 :: L) (fun xQ F' => xQ.2.2 = F' ∧ G1 ≤ xQ.2.2 ∧ (k < xQ.1 ∧ xQ.1 ≤ endN ar t k) ∧ (AllNo ar cr d t k xQ.1 xQ.2.1)) (fun xQ => endN ar t k - xQ.1) (k + 1, true, G1) ⟨rfl, rfl, rfl, rfl, rfl, rfl, ⟨⟩⟩ (sC sR) ⟨rfl, FLe.refl _, (⟨Nat.lt_succ_self k, (hee (by omega)).1⟩), (AllNo.start)⟩ ?_))))))))))))))
  rintro ⟨j, ok, G2⟩ rE _ _ ⟨rfl, leG, hj, hno⟩
  show X _ _ _ _ (envs [(1, tv), (3, ptr b1 0), (9, x1), (10, ii ((k : Int))), (11, .bool (ok)), (12, ii ((j : Int)))] rE) _ (cellsH b1 [arv, crv] 29 :: L)
  replace leG : G1 ≤ G2 := leG
  dsimp only at hj hno
  have hgj := fun (h : j < t.length) => redsD_get (ar := ar) (cr := cr) (d := d) (t := t) h
  have leG2 := leG
  replace har := har.mono leG2
  replace ht := ht.mono leG2
  replace hr1 := hr1.mono leG2
  refine qg (qg (qd (qi (ii ((j : Int))) rfl (cX (qq (0) qF rfl qB (by decide) rfl rfl (cX (qs [arv] qW qB rfl rfl (Rd.ownN [] rfl rfl) (qi (tv) rfl (qi (ii ((k : Int))) rfl (cX (qn (args := [.agg #[arv], tv, ii (k : Int)]) call50 rfl (l1End_ok (p := k) har ht (ho := (by first | assumption | rfl | omega | (left; simp; done) | (right; simp; done))) (hp := (by first | assumption | rfl | omega | (left; simp; done) | (right; simp; done)))) ?_)))))))))))
  rintro _ _ _ _ ⟨rfl, rfl, rfl⟩
  refine cX (jb rfl rfl (qf ?_))
  refine qH (p := (j : Int) < ((endN ar t k : Nat) : Int)) rfl (fun h3 => ?_) (fun h3 => ?_)
  ·refine qz (qg (qQ (qd (qi (.bool (ok)) rfl (qi (.bool (ok)) rfl ?_)))))
   by_cases h4 : (ok) = true
   ·have hok : ok = true := h4
    refine qr (t := 40) rfl (vB h4) (qo (x1) rfl (qr (t := 40) rfl (vB h4) (qo (ii ((j : Int))) rfl (qr (t := 40) rfl (vB h4) (qD j qh qC rfl rfl rfl hr1.slv (by omega) (Nat.mul_one _) (qr (t := 40) rfl (vB h4) (qm jj rfl (hr1.rd (by omega)) (qr (t := 40) rfl (vB h4) (jb rfl rfl (cX (qN (.bool (decide (((redsD ar cr d t t.length).getD j 0 : Int) < 0))) (vB h4) rfl (qj (.bool (decide (((redsD ar cr d t t.length).getD j 0 : Int) < 0))) rfl (qf (qd (qi (ii ((j : Int))) rfl (cX (qS (((j + 1 : Nat) : Int)) rfl rfl (by omega) (by omega) ?_)))))))))))))))))
    refine qj (ii (((j + 1 : Nat) : Int))) rfl (qf ?_)
    exact ⟨(j + 1, decide (((redsD ar cr d t t.length).getD j 0 : Int) < 0), G2), _, leG2, rF, ⟨rfl, rfl, rfl, rfl, rfl, rfl, ⟨⟩⟩, (sC sR), ⟨rfl, leG2, (by (try dsimp only); omega), (hno.next hj.1 (by first | (rw [hok, hgj (by omega)]; simp; done) | (rw [hok]; simp; done)))⟩, (by omega)⟩
   rw [Bool.not_eq_true] at h4
   have hok : ok = false := h4
   have hni := hno.no hok hj.2
   refine qp (t := 40) rfl (vB h4) (qp (t := 40) rfl (vB h4) (qp (t := 40) rfl (vB h4) (qp (t := 40) rfl (vB h4) (qp (t := 40) rfl (vB h4) (cX (qM (.bool (false)) (vB h4) rfl (qj (.bool (false)) rfl (qf (qd (qi (ii ((j : Int))) rfl (cX (qS (((j + 1 : Nat) : Int)) rfl rfl (by omega) (by omega) ?_))))))))))))
   refine qj (ii (((j + 1 : Nat) : Int))) rfl (qf ?_)
   exact ⟨(j + 1, false, G2), _, leG2, rF, ⟨rfl, rfl, rfl, rfl, rfl, rfl, ⟨⟩⟩, (sC sR), ⟨rfl, leG2, (by (try dsimp only); omega), (hno.next hj.1 (by first | (rw [hok, hgj (by omega)]; simp; done) | (rw [hok]; simp; done)))⟩, (by omega)⟩
  refine jn (qA (qA (qV (qg (qd (qi (.bool (ok)) rfl (qf ?_)))))))
  refine js (t := ok) rfl (fun h5 => ?_) (fun h5 => ?_)
  ·have hok : ok = true := h5
   refine qg ?_
   refine X.draw [cellsH b1 [arv, crv] 29] L 6 [] [[], [], [], [1, 2], [3], [0]] (phiL [qe (ii ((k : Int)) : Value), qe x1, qe (ii ((k : Int)) : Value), qe (.pointer (some (elemA x1 (k)))), qe (ii ((redsD ar cr d t t.length).getD k 0)), qe (ii ((k : Int)) : Value)]) (ownL []) mixed rfl rfl (by kernel_rfl) ?_ ?_
   ·refine pD (fun W R z9 => ?_) ?_
    ·refine qk (qo (ii ((k : Int))) rfl ?_)
     exact ⟨rfl, rfl, rfl⟩
    refine pD (fun W R z9 => ?_) ?_
    ·refine qk (qo (x1) rfl ?_)
     exact ⟨rfl, rfl, rfl⟩
    refine pD (fun W R z9 => ?_) ?_
    ·refine qk (qo (ii ((k : Int))) rfl ?_)
     exact ⟨rfl, rfl, rfl⟩
    refine pD (fun W R z9 => ?_) ?_
    ·rw [zB 1 2 (z9 1 rfl) (z9 2 rfl)]
     refine qk (qD k qh qC rfl rfl rfl hr1.slv (by omega) (Nat.mul_one _) ?_)
     exact ⟨rfl, rfl, rfl⟩
    refine pD (fun W R z9 => ?_) ?_
    ·rw [zA 3 (z9 3 rfl)]
     refine qk (qm jj rfl (hr1.rd (by omega)) ?_)
     exact ⟨rfl, rfl, rfl⟩
    refine pD (fun W R z9 => ?_) ?_
    ·rw [zA 0 (z9 0 rfl)]
     refine qk (jo (ii ((k : Int))) rfl ?_)
     exact ⟨rfl, rfl, rfl⟩
    exact stepsP.nil
   intro W hphi
   rw [zB 4 5 (hphi 4 (by decide)) (hphi 5 (by decide))]
   show XL _ _ _ _ _ _ _ (cellsH b1 [arv, crv] 29 :: L)
   refine qj (ii ((redsD ar cr d t t.length).getD k 0)) rfl (qj (.bool (true)) rfl (qf (qu (qI (ql (ql (qI (ql (qt (L' := L) [ii ((k : Int)), ii ((redsD ar cr d t t.length).getD k 0), .bool (true)] (.tuple #[ii ((k : Int)), ii ((redsD ar cr d t t.length).getD k 0), .bool (true)]) (.tmp rfl (.tmp rfl (.tmp rfl .nil))) rfl (qc (qc le1 leG1) leG2) rF (sD sR) ?_)))))))))
   have hin := hno.yes hok hrn (by omega)
   have hpd := pickD_first hin (by omega) hall
   rw [pickV_at hpd (by omega), ← hgk (by omega)]
   exact ⟨⟨rfl, pickD_le⟩, rfl⟩
  have hok : ok = false := h5
  have hni := hno.no hok hj.2
  refine qz (qd (qi (ii ((k : Int))) rfl (cX (qS (((k + 1 : Nat) : Int)) rfl rfl (by omega) (by omega) (qj (ii (((k + 1 : Nat) : Int))) rfl (qf ?_))))))
  exact ⟨(k + 1, G2), _, (qc leG1 leG2), rF, ⟨rfl, rfl, rfl, rfl, ⟨⟩⟩, (sC sR), ⟨rfl, (qc leG1 leG2), (by (try dsimp only) <;> omega), (fun i hi => (Nat.lt_or_ge i k).elim (fun h => hall i h) (fun h => by obtain rfl : i = k := (by omega); exact hni))⟩, (by omega)⟩
 refine jn (qA (qA (qV (qg (qd (qj (ii (0)) rfl (qj (ii (0)) rfl (qj (.bool (false)) rfl (qf (qu (qt (L' := L) [ii (0), ii (0), .bool (false)] (.tuple #[ii (0), ii (0), .bool (false)]) (.tmp rfl (.tmp rfl (.tmp rfl .nil))) rfl (qc le1 leG1) rF (sD sR) ?_)))))))))))
 have hpd := pickD_none (ar := ar) (cr := cr) (d := d) (t := t) (fun i hi => hall i (by omega))
 rw [pickV_none hpd]
 exact ⟨⟨rfl, pickD_le⟩, rfl⟩

/- spec.l27Normal -/
set_option maxHeartbeats 2000000 in
set_option maxRecDepth 20000 in
theorem snormal_step {d : Nat} (ih : ∀ m : Nat, m < d → ∀ {F : FH} {L : List HP}  {arv : Value} {ar : List Int} (har : IntsF F arv ar) {crv : Value} {cr : List CRuleT} (hcr : CRulesF F crv cr) {tv : Value} {t : List Int} (ht : IntsF F tv t) (hc : csysOk ar cr = true) (ho : termOk ar t = true) (hd2 : m ≤ 2), Does prog 24 [.agg #[arv, crv], tv, ii ((m : Int))] F L (fun v F' L' => (∃ (a : Value), (.tuple #[a, .bool ((normC ar cr m t).isSome)] : Value) = v ∧ (IntsF F' a ((normC ar cr m t).getD []))) ∧ L = L')) {F : FH} {L : List HP}  {arv : Value} {ar : List Int} (har : IntsF F arv ar) {crv : Value} {cr : List CRuleT} (hcr : CRulesF F crv cr) {tv : Value} {t : List Int} (ht : IntsF F tv t) (hc : csysOk ar cr = true) (ho : termOk ar t = true) (hd2 : d ≤ 2) :
    Does prog 24 [.agg #[arv, crv], tv, ii ((d : Int))] F (L) (fun v F' L' => (∃ (a : Value), (.tuple #[a, .bool ((normC ar cr d t).isSome)] : Value) = v ∧ (IntsF F' a ((normC ar cr d t).getD []))) ∧ L = L') := by
 refine qL func24 rfl rfl rfl ?_
 have hsl := sigOk_spec (termOk_sig ho)
 have htl := termOk_len ho
 have hcl := (csysOk_iff.1 hc).2.1
 refine qg (qd (cX (je [arv, crv] rfl rfl ?_)))
 intro b1
 refine qj (sN) rfl (qj (.bool (false)) rfl (qf (qg (qd (qi (tv) rfl (cX (jR <| qn (args := [tv]) call31 rfl (l1Copy_spec ht (hlt := (by first | assumption | rfl | omega | simp))) ?_)))))))
 rintro v1 _ _ _ ⟨rfl, hs1, rfl⟩
 refine ⟨_, _, rfl, fun F1 le1 hz1 => ?_⟩
 replace har := har.mono le1
 replace hcr := hcr.mono le1
 have hf1 : IntsF F1 v1 ((t)) := intsH.fz (xs := (t)) hz1.fz
 refine qj (v1) rfl (qf (qg (qd (qj (ii (0)) rfl (qf (qQ (jr (α := Nat × Value × List Int × FH) (fun xQ => [(2, ii ((d : Int))), (3, ptr b1 0), (8, xQ.2.1), (9, ii (((xQ.1 : Nat) : Int)))]) (fun xQ => cellsH b1 [arv, crv] 29 :: L) (fun xQ F' => xQ.2.2.2 = F' ∧ F1 ≤ xQ.2.2.2 ∧ (IntsF xQ.2.2.2 xQ.2.1 xQ.2.2.1) ∧ (termOk ar xQ.2.2.1 = true) ∧ (xQ.1 ≤ 8) ∧ (normC ar cr d t = normD ar cr d (8 - xQ.1) xQ.2.2.1)) (fun xQ => 8 - xQ.1) (0, v1, (t), F1) ⟨rfl, rfl, rfl, rfl, ⟨⟩⟩ (sC sR) ⟨rfl, FLe.refl _, (hf1), (ho), (Nat.zero_le _), (normD_eq)⟩ ?_)))))))
 rintro ⟨k, cv, cur, G1⟩ rE _ _ ⟨rfl, leG, hcv, hoc, hk, hgo⟩
 show X _ _ _ _ (envs [(2, ii ((d : Int))), (3, ptr b1 0), (8, cv), (9, ii ((k : Int)))] rE) _ (cellsH b1 [arv, crv] 29 :: L)
 replace leG : F1 ≤ G1 := leG
 dsimp only at hcv hoc hk hgo
 have hcl9 := termOk_len hoc
 have leG1 := leG
 replace har := har.mono leG1
 replace hcr := hcr.mono leG1
 refine qg (qQ (qg (qd (cX (qs [arv, crv] qY qK rfl rfl (Rd.ownN [] rfl rfl) (qi (cv) rfl (qi (ii ((d : Int))) rfl (cX (qn (args := [.agg #[arv, crv], cv, ii (d : Int)]) call26 rfl (spick_step ih har hcr hcv (hc := (by first | assumption | rfl | omega | simp)) (ho := (by first | assumption | rfl | omega | simp)) (hd2 := (by first | assumption | rfl | omega | simp))) ?_)))))))))
 rintro _ F2 _ le2 ⟨⟨rfl, hr1⟩, rfl⟩
 replace har := har.mono le2
 replace hcr := hcr.mono le2
 replace hcv := hcv.mono le2
 show XL _ _ _ _ _ _ _ (cellsH b1 [arv, crv] 29 :: L)
 refine qi (.tuple #[ii ((pickV ar cr d cur).1), ii ((pickV ar cr d cur).2.1), .bool ((pickV ar cr d cur).2.2)]) rfl (cX (qG (ii ((pickV ar cr d cur).1)) rfl rfl (cX (qG (ii ((pickV ar cr d cur).2.1)) rfl rfl (cX (qG (.bool ((pickV ar cr d cur).2.2)) rfl rfl (qj (ii ((pickV ar cr d cur).1)) rfl (qj (ii ((pickV ar cr d cur).2.1)) rfl (qj (.bool ((pickV ar cr d cur).2.2)) rfl (qf (qg (qg (qd (qi (.bool ((pickV ar cr d cur).2.2)) rfl (cX (jg rfl ?_))))))))))))))))
 refine qf ?_
 refine js (t := !((pickV ar cr d cur).2.2)) rfl (fun h1 => ?_) (fun h1 => ?_)
 ·have hpn := pickV_false (Bool.not_inj (y := false) h1)
  refine qg (qd (qi (cv) rfl (qj (cv) rfl (qj (.bool (true)) rfl (qf (qu (ql (qI (ql (ql (qI (qt (L' := L) [cv, .bool (true)] (.tuple #[cv, .bool (true)]) (.tmp rfl (.tmp rfl .nil)) rfl (qc (qc le1 leG1) le2) rF (sD sR) ?_))))))))))))
  have e : normC ar cr d t = some cur := hgo.trans (normD_nil hpn)
  exact ⟨⟨_, by rw [e]; rfl, by rw [e]; exact hcv⟩, rfl⟩
 have hpt := pickV_true (Bool.not_inj (y := true) h1)
 have hpn := hpt.1
 have hps := pickD_step hpn
 have hp1 := hpt.2.1
 have hp2 := hpt.2.2
 have hto : toB ar cr d cur (pickD ar cr d cur) = (stepD ar cr d (RD cr ((pickV ar cr d cur).2.1).toNat) cur ((pickV ar cr d cur).1).toNat).getD [] := by unfold toB; rw [if_neg hpn, hp1, hp2]; rfl
 refine qz (qg (qg (qd (qi (ii ((k : Int))) rfl (cX (jD rfl rfl (qf ?_)))))))
 refine qH (p := (k : Int) = 8) rfl (fun h2 => ?_) (fun h2 => ?_)
 ·refine qg (qd (cX (qx (s := 1) [] [ii (0)] [] qh qC qP rfl (by decide) rfl CellsAre.nil rfl ?_)))
  intro v2 hv1
  refine qj (v2) rfl (qj (.bool (false)) rfl (qf ?_))
  show X _ _ _ _ _ _ (intsH 2 v2 ([] : List Int) :: cellsH b1 [arv, crv] 29 :: L)
  refine ji [] _ _ rfl (fun F3 le3 hz2 => ?_)
  replace har := har.mono le3
  replace hcr := hcr.mono le3
  replace hcv := hcv.mono le3
  have hf2 : IntsF F3 v2 ([]) := intsH.fz (xs := []) hz2.fz
  refine qu (ql (qI (ql (ql (qI (qt (L' := L) [v2, .bool (false)] (.tuple #[v2, .bool (false)]) (.tmp rfl (.tmp rfl .nil)) rfl (qc (qc (qc le1 leG1) le2) le3) rF (sD sR) ?_))))))
  have e : normC ar cr d t = none := by rw [hgo, show 8 - k = 0 from by omega]; exact normD_zero hpn
  exact ⟨⟨_, by rw [e]; rfl, by rw [e]; exact hf2⟩, rfl⟩
 refine qz (qd (cX (qs [arv, crv] qY qK rfl rfl (Rd.ownN [] rfl rfl) (qi (cv) rfl (qi (ii ((pickV ar cr d cur).1)) rfl (qi (ii ((pickV ar cr d cur).2.1)) rfl (qi (ii ((d : Int))) rfl (cX (qn (args := [.agg #[arv, crv], cv, ii ((((pickV ar cr d cur).1).toNat : Nat) : Int), ii ((((pickV ar cr d cur).2.1).toNat : Nat) : Int), ii (d : Int)]) call47 (by rw [show ((((pickV ar cr d cur).1).toNat : Nat) : Int) = (pickV ar cr d cur).1 from by omega, show ((((pickV ar cr d cur).2.1).toNat : Nat) : Int) = (pickV ar cr d cur).2.1 from by omega]; rfl) (sstep_step ih (p := ((pickV ar cr d cur).1).toNat) (q := ((pickV ar cr d cur).2.1).toNat) har hcr hcv (hc := (by first | assumption | rfl | omega | simp)) (ho := (by first | assumption | rfl | omega | simp)) (hd2 := (by first | assumption | rfl | omega | simp)) (hp := (by rw [hp1]; omega)) (hq := (by rw [hp2]; exact hps.2.2.1))) ?_)))))))))
 rintro _ F4 _ le4 ⟨⟨x1, rfl, hr2⟩, rfl⟩
 show XL _ _ _ _ _ _ _ (cellsH b1 [arv, crv] 29 :: L)
 refine qi (.tuple #[x1, .bool ((stepD ar cr d (RD cr (((pickV ar cr d cur).2.1).toNat)) cur (((pickV ar cr d cur).1).toNat)).isSome)]) rfl (cX (qG (x1) rfl rfl (cX (qG (.bool ((stepD ar cr d (RD cr (((pickV ar cr d cur).2.1).toNat)) cur (((pickV ar cr d cur).1).toNat)).isSome)) rfl rfl (qj (x1) rfl (qf (qd (qi (ii ((k : Int))) rfl (cX (qS (((k + 1 : Nat) : Int)) rfl rfl (by omega) (by omega) (qj (ii (((k + 1 : Nat) : Int))) rfl (qf ?_))))))))))))
 exact ⟨(k + 1, x1, (stepD ar cr d (RD cr (((pickV ar cr d cur).2.1).toNat)) cur (((pickV ar cr d cur).1).toNat)).getD [], F4), _, (qc (qc leG1 le2) le4), rF, ⟨rfl, rfl, rfl, rfl, ⟨⟩⟩, (sC sR), ⟨rfl, (qc (qc leG1 le2) le4), (hr2), (by (try dsimp only); rw [← hto]; exact toB_ok hc hoc hpn), (by (try dsimp only) <;> omega), (by (try dsimp only); rw [← hto, show 8 - (k + 1) = (8 - k) - 1 from by omega]; exact hgo.trans (normD_next hpn (by omega)))⟩, (by omega)⟩

theorem snormal (d : Nat) : ∀ {F : FH} {L : List HP}  {arv : Value} {ar : List Int} (har : IntsF F arv ar) {crv : Value} {cr : List CRuleT} (hcr : CRulesF F crv cr) {tv : Value} {t : List Int} (ht : IntsF F tv t) (hc : csysOk ar cr = true) (ho : termOk ar t = true) (hd2 : d ≤ 2), Does prog 24 [.agg #[arv, crv], tv, ii ((d : Int))] F L (fun v F' L' => (∃ (a : Value), (.tuple #[a, .bool ((normC ar cr d t).isSome)] : Value) = v ∧ (IntsF F' a ((normC ar cr d t).getD []))) ∧ L = L') := by
  induction d using Nat.strongRecOn with
  | _ d ih =>
    intros
    exact snormal_step ih (by assumption) (by assumption) (by assumption) (by assumption) (by assumption) (by assumption)

/- spec.CPickBy -/
theorem sCPickBy_spec {F : FH} {L : List HP} {arv : Value} {ar : List Int} (har : IntsF F arv ar) {crv : Value} {cr : List CRuleT} (hcr : CRulesF F crv cr) {tv : Value} {t : List Int} (ht : IntsF F tv t) {z : Int} (hla : ar.length ≤ 4000000) (hlr : cr.length ≤ 4000000) (hrb : ∀ i, i < cr.length → (cr.getD i ([], [], [])).1.length ≤ 4000000 ∧ (cr.getD i ([], [], [])).2.1.length ≤ 4000000 ∧ (cr.getD i ([], [], [])).2.2.length ≤ 4000000 ∧ ∀ q, q < (cr.getD i ([], [], [])).2.2.length → ((cr.getD i ([], [], [])).2.2.getD q ([], [])).1.length ≤ 4000000 ∧ ((cr.getD i ([], [], [])).2.2.getD q ([], [])).2.length ≤ 4000000) (hlt : t.length ≤ 4000000) :
    Does prog 9 [.agg #[arv, crv], tv, ii (z)] F (L) (fun v F' L' => (.tuple #[ii ((pickF ar cr t z).1), ii ((pickF ar cr t z).2.1), .bool ((pickF ar cr t z).2.2)] : Value) = v ∧ L = L') := by
 refine qL func9 rfl rfl rfl (qg (qd (cX (je [arv, crv] rfl rfl ?_))))
 intro b1
 refine qj (ii (0)) rfl (qj (ii (0)) rfl (qj (.bool (false)) rfl (qf (qg (qg (qd (cX (qs [arv, crv] qY qK rfl rfl (Rd.ownN [] rfl rfl) (qi (tv) rfl (qi (ii (z)) rfl (cX (qn (args := [.agg #[arv, crv], tv, ii (z)]) call23 rfl (l27Right_spec (z := z) har hcr ht (hla := (by first | assumption | rfl | omega | simp)) (hlr := (by first | assumption | rfl | omega | simp)) (hrb := (by first | assumption | rfl | omega | simp)) (hlt := (by first | assumption | rfl | omega | simp))) ?_))))))))))))
 rintro _ _ _ _ ⟨rfl, rfl, rfl⟩
 refine cX (jg rfl (qf ?_))
 refine js (t := !(depthB ar cr t z)) rfl (fun h1 => ?_) (fun h1 => ?_)
 ·have hdb := Bool.not_inj (y := false) h1
  refine qg (qd (qj (ii (0)) rfl (qj (ii (0)) rfl (qj (.bool (false)) rfl (qf (qu (ql (qt (L' := L) [ii (0), ii (0), .bool (false)] (.tuple #[ii (0), ii (0), .bool (false)]) (.tmp rfl (.tmp rfl (.tmp rfl .nil))) rfl rF rF (sD sR) ?_))))))))
  first | (rw [pickF_no hdb]; exact ⟨rfl, rfl⟩) | (rw [pickF_V hdb]; exact ⟨rfl, rfl⟩)
 have hdb := Bool.not_inj (y := true) h1
 have hdq := depth_iff.1 hdb
 have hc := hdq.1.1
 have ho := hdq.1.2
 have hz := hdq.2
 refine qz (qg (qd (cX (qs [arv, crv] qY qK rfl rfl (Rd.ownN [] rfl rfl) (qi (tv) rfl (qi (ii (z)) rfl (cX (qn (args := [.agg #[arv, crv], tv, ii (((z).toNat : Nat) : Int)]) call26 (by rw [show (((z).toNat : Nat) : Int) = z from by omega]; rfl) (spick_step (d := (z).toNat) (fun m9 _ => snormal m9) har hcr ht (hc := (by first | assumption | rfl | omega | simp)) (ho := (by first | assumption | rfl | omega | simp)) (hd2 := (by first | assumption | rfl | omega | simp))) ?_))))))))
 rintro _ F1 _ le1 ⟨⟨rfl, hr1⟩, rfl⟩
 show XL _ _ _ _ _ _ _ (cellsH b1 [arv, crv] 29 :: L)
 refine cX (qG (ii ((pickV ar cr ((z).toNat) t).1)) rfl rfl (cX (qG (ii ((pickV ar cr ((z).toNat) t).2.1)) rfl rfl (cX (qG (.bool ((pickV ar cr ((z).toNat) t).2.2)) rfl rfl (qj (ii ((pickV ar cr ((z).toNat) t).1)) rfl (qj (ii ((pickV ar cr ((z).toNat) t).2.1)) rfl (qj (.bool ((pickV ar cr ((z).toNat) t).2.2)) rfl (qf (qu (qt (L' := L) [ii ((pickV ar cr ((z).toNat) t).1), ii ((pickV ar cr ((z).toNat) t).2.1), .bool ((pickV ar cr ((z).toNat) t).2.2)] (.tuple #[ii ((pickV ar cr ((z).toNat) t).1), ii ((pickV ar cr ((z).toNat) t).2.1), .bool ((pickV ar cr ((z).toNat) t).2.2)]) (.tmp rfl (.tmp rfl (.tmp rfl .nil))) rfl le1 rF (sD sR) ?_)))))))))))
 first | (rw [pickF_no hdb]; exact ⟨rfl, rfl⟩) | (rw [pickF_V hdb]; exact ⟨rfl, rfl⟩)

/- impl.CStepAt -/
theorem CStepAt_spec {F : FH} {L : List HP} {arv : Value} {ar : List Int} (har : IntsF F arv ar) {crv : Value} {cr : List CRuleT} (hcr : CRulesF F crv cr) {tv : Value} {t : List Int} (ht : IntsF F tv t) {p : Int} {r : Int} {z : Int} :
    Does prog 14 [.agg #[arv, crv], tv, ii (p), ii (r), ii (z)] F (L) (fun v F' L' => ∃ (a : Value), (.tuple #[a, .bool ((cstepF ar cr t p r z).isSome)] : Value) = v ∧ (IntsF F' a ((cstepF ar cr t p r z).getD [])) ∧ (Fresh F F' (star [intsH 2 a ((cstepF ar cr t p r z).getD [])])) ∧ L = L') := by
 refine qL func14 rfl rfl rfl (qg (qd (cX (je [arv, crv] rfl rfl ?_))))
 intro b1
 refine qj (sN) rfl (qj (.bool (false)) rfl (qf (qg (qg (qd (cX (qs [arv, crv] qY qK rfl rfl (Rd.ownN [] rfl rfl) (qi (tv) rfl (qi (ii (z)) rfl (cX (qn (args := [.agg #[arv, crv], tv, ii (z)]) call20 rfl (depthOk_spec (z := z) har hcr ht) ?_)))))))))))
 rintro _ _ _ _ ⟨rfl, rfl, rfl⟩
 refine cX (jg rfl (qi (.bool (!(depthB ar cr t z))) rfl ?_))
 by_cases h1 : (!(depthB ar cr t z)) = true
 ·have hdb := Bool.not_inj (y := false) h1
  refine qp (t := 17) rfl (vB h1) (qp (t := 17) rfl (vB h1) (cX (qN (.bool (true)) (vB h1) rfl (qi (.bool (true)) rfl (qp (t := 21) rfl rfl (qp (t := 21) rfl rfl (qp (t := 21) rfl rfl (qp (t := 21) rfl rfl (cX (qN (.bool (true)) rfl rfl (qi (.bool (true)) rfl ?_)))))))))))
  refine qp (t := 27) rfl rfl (qp (t := 27) rfl rfl (cX (qN (.bool (true)) rfl rfl (qi (.bool (true)) rfl (qp (t := 31) rfl rfl (qp (t := 31) rfl rfl (qp (t := 31) rfl rfl (qp (t := 31) rfl rfl (qp (t := 31) rfl rfl (cX (qN (.bool (true)) rfl rfl ?_)))))))))))
  refine qf (jH rfl (qg (qd (qj (sN) rfl (qj (.bool (false)) rfl (qf (qu (ql (qt (L' := L) [sN, .bool (false)] (.tuple #[sN, .bool (false)]) (.tmp rfl (.tmp rfl .nil)) rfl rF rF (sD sR) ?_)))))))))
  have e : cstepF ar cr t p r z = none := by first | (rw [cstepF_yes hok]; exact hq0) | exact cstepF_no (fun hq => by have h9 := hq.1; have h8 := hq.2.1; have h7 := hq.2.2; first | omega | (rw [hdb] at h9; cases h9; done))
  exact ⟨_, by rw [e]; rfl, by rw [e]; exact IntsF.nilV, by rw [e]; exact Fresh.one (Fresh.ofNil _), rfl⟩
 rw [Bool.not_eq_true] at h1
 have hdb := Bool.not_inj (y := true) h1
 have hdq := depth_iff.1 hdb
 have hc := hdq.1.1
 have ho := hdq.1.2
 have hz := hdq.2
 have htl := termOk_len ho
 refine qr (t := 17) rfl (vB h1) (qo (ii (p)) rfl (qr (t := 17) rfl (vB h1) (jb rfl rfl (cX (qM (.bool (decide ((p : Int) < 0))) (vB h1) rfl (qi (.bool (decide ((p : Int) < 0))) rfl ?_))))))
 by_cases h2 : (p : Int) < 0
 ·refine qp (t := 21) rfl (vT h2) (qp (t := 21) rfl (vT h2) (qp (t := 21) rfl (vT h2) (qp (t := 21) rfl (vT h2) (cX (qN (.bool (true)) (vT h2) rfl (qi (.bool (true)) rfl (qp (t := 27) rfl rfl (qp (t := 27) rfl rfl (cX (qN (.bool (true)) rfl rfl (qi (.bool (true)) rfl ?_)))))))))))
  refine qp (t := 31) rfl rfl (qp (t := 31) rfl rfl (qp (t := 31) rfl rfl (qp (t := 31) rfl rfl (qp (t := 31) rfl rfl (cX (qN (.bool (true)) rfl rfl (qf (jH rfl (qg (qd (qj (sN) rfl ?_)))))))))))
  refine qj (.bool (false)) rfl (qf (qu (ql (qt (L' := L) [sN, .bool (false)] (.tuple #[sN, .bool (false)]) (.tmp rfl (.tmp rfl .nil)) rfl rF rF (sD sR) ?_))))
  have e : cstepF ar cr t p r z = none := by first | (rw [cstepF_yes hok]; exact hq0) | exact cstepF_no (fun hq => by have h9 := hq.1; have h8 := hq.2.1; have h7 := hq.2.2; first | omega | (rw [hdb] at h9; cases h9; done))
  exact ⟨_, by rw [e]; rfl, by rw [e]; exact IntsF.nilV, by rw [e]; exact Fresh.one (Fresh.ofNil _), rfl⟩
 refine qr (t := 21) rfl (vF h2) (qo (ii (p)) rfl (qr (t := 21) rfl (vF h2) (qo (tv) rfl (qr (t := 21) rfl (vF h2) (qE qh rfl ht.slv (qr (t := 21) rfl (vF h2) (jW rfl rfl (cX (qM (.bool (decide ((p : Int) ≥ (t.length : Int)))) (vF h2) rfl (qi (.bool (decide ((p : Int) ≥ (t.length : Int)))) rfl ?_))))))))))
 by_cases h3 : (p : Int) ≥ (t.length : Int)
 ·refine qp (t := 27) rfl (vT h3) (qp (t := 27) rfl (vT h3) (cX (qN (.bool (true)) (vT h3) rfl (qi (.bool (true)) rfl (qp (t := 31) rfl rfl (qp (t := 31) rfl rfl (qp (t := 31) rfl rfl (qp (t := 31) rfl rfl (qp (t := 31) rfl rfl (cX (qN (.bool (true)) rfl rfl ?_)))))))))))
  refine qf (jH rfl (qg (qd (qj (sN) rfl (qj (.bool (false)) rfl (qf (qu (ql (qt (L' := L) [sN, .bool (false)] (.tuple #[sN, .bool (false)]) (.tmp rfl (.tmp rfl .nil)) rfl rF rF (sD sR) ?_)))))))))
  have e : cstepF ar cr t p r z = none := by first | (rw [cstepF_yes hok]; exact hq0) | exact cstepF_no (fun hq => by have h9 := hq.1; have h8 := hq.2.1; have h7 := hq.2.2; first | omega | (rw [hdb] at h9; cases h9; done))
  exact ⟨_, by rw [e]; rfl, by rw [e]; exact IntsF.nilV, by rw [e]; exact Fresh.one (Fresh.ofNil _), rfl⟩
 refine qr (t := 27) rfl (vF h3) (qo (ii (r)) rfl (qr (t := 27) rfl (vF h3) (jb rfl rfl (cX (qM (.bool (decide ((r : Int) < 0))) (vF h3) rfl (qi (.bool (decide ((r : Int) < 0))) rfl ?_))))))
 by_cases h4 : (r : Int) < 0
 ·refine qp (t := 31) rfl (vT h4) (qp (t := 31) rfl (vT h4) (qp (t := 31) rfl (vT h4) (qp (t := 31) rfl (vT h4) (qp (t := 31) rfl (vT h4) (cX (qN (.bool (true)) (vT h4) rfl (qf (jH rfl (qg (qd (qj (sN) rfl ?_)))))))))))
  refine qj (.bool (false)) rfl (qf (qu (ql (qt (L' := L) [sN, .bool (false)] (.tuple #[sN, .bool (false)]) (.tmp rfl (.tmp rfl .nil)) rfl rF rF (sD sR) ?_))))
  have e : cstepF ar cr t p r z = none := by first | (rw [cstepF_yes hok]; exact hq0) | exact cstepF_no (fun hq => by have h9 := hq.1; have h8 := hq.2.1; have h7 := hq.2.2; first | omega | (rw [hdb] at h9; cases h9; done))
  exact ⟨_, by rw [e]; rfl, by rw [e]; exact IntsF.nilV, by rw [e]; exact Fresh.one (Fresh.ofNil _), rfl⟩
 refine qr (t := 31) rfl (vF h4) (qo (ii (r)) rfl (qr (t := 31) rfl (vF h4) (qq (1) qF rfl jp (by decide) rfl rfl (qr (t := 31) rfl (vF h4) (qm jz rfl (Rd.own [] rfl rfl) (qr (t := 31) rfl (vF h4) (qE qU rfl hcr.slv (qr (t := 31) rfl (vF h4) (jW rfl rfl (cX (qM (.bool (decide ((r : Int) ≥ (cr.length : Int)))) (vF h4) rfl (qf ?_))))))))))))
 refine qH (p := (r : Int) ≥ (cr.length : Int)) rfl (fun h5 => ?_) (fun h5 => ?_)
 ·refine qg (qd (qj (sN) rfl (qj (.bool (false)) rfl (qf (qu (ql (qt (L' := L) [sN, .bool (false)] (.tuple #[sN, .bool (false)]) (.tmp rfl (.tmp rfl .nil)) rfl rF rF (sD sR) ?_)))))))
  have e : cstepF ar cr t p r z = none := by first | (rw [cstepF_yes hok]; exact hq0) | exact cstepF_no (fun hq => by have h9 := hq.1; have h8 := hq.2.1; have h7 := hq.2.2; first | omega | (rw [hdb] at h9; cases h9; done))
  exact ⟨_, by rw [e]; rfl, by rw [e]; exact IntsF.nilV, by rw [e]; exact Fresh.one (Fresh.ofNil _), rfl⟩
 refine qz (qg ?_)
 obtain ⟨a1, a2, a3, ha1, ha2, ha3, hrg1, hq1⟩ := hcr.rd (i := (r).toNat) (by omega)
 refine jG [cellsH b1 [arv, crv] 29] L 12 [[], [], [], [], [], [], [], [], [], [], [9]] [[], [], [], [], [3], [], [4, 5], [6], [], [0, 1, 2, 7, 8], [9], [9]] [] (phiG [pe (.agg #[arv, crv]), pe tv, pe (ii (p)), pe (ptr b1 1), pe crv, pe (ii (r)), pe (.pointer (some (elemA crv (((r).toNat) * 3)))), pe (.agg #[a1, a2, a3]), pe (ii (z)), fun FF us v => (.tuple #[((tupAt v 0)), .bool ((stepD ar cr ((z).toNat) (((cr.getD ((r).toNat) ([], [], [])).1), ((cr.getD ((r).toNat) ([], [], [])).2.1), ((cr.getD ((r).toNat) ([], [], [])).2.2)) t ((p).toNat)).isSome)] : Value) = v ∧ (IntsF FF ((tupAt v 0)) ((stepD ar cr ((z).toNat) (((cr.getD ((r).toNat) ([], [], [])).1), ((cr.getD ((r).toNat) ([], [], [])).2.1), ((cr.getD ((r).toNat) ([], [], [])).2.2)) t ((p).toNat)).getD [])) ∧ (FreshsF F FF (intsH 2 ((tupAt v 0)) ((stepD ar cr ((z).toNat) (((cr.getD ((r).toNat) ([], [], [])).1), ((cr.getD ((r).toNat) ([], [], [])).2.1), ((cr.getD ((r).toNat) ([], [], [])).2.2)) t ((p).toNat)).getD []))), fun FF us v => v = ((tupAt (us.getD 0 undef) 0)), pe (.bool ((stepD ar cr ((z).toNat) (((cr.getD ((r).toNat) ([], [], [])).1), ((cr.getD ((r).toNat) ([], [], [])).2.1), ((cr.getD ((r).toNat) ([], [], [])).2.2)) t ((p).toNat)).isSome))]) (ownL []) mixed rfl rfl (by kernel_rfl) (by kernel_rfl) (MonoG.get (m1 (m1 (m1 (m1 (m1 (m1 (m1 (m1 (m1 (mC (fun le h => ⟨h.1, h.2.1.mono le, h.2.2.mono le⟩) (mC (fun le h => h) (m1 MonoG.nil))))))))))))) ?_ ?_
 ·refine gD (fun W Fs R lF z9 => ?_) ?_
  ·replace har := har.mono lF
   replace hcr := hcr.mono lF
   replace ht := ht.mono lF
   replace ha1 := ha1.mono lF
   replace ha2 := ha2.mono lF
   replace ha3 := ha3.mono lF
   replace hrg1 := fun L9 j9 u9 h9 => Rd.mono (hrg1 L9 j9 u9 h9) lF
   refine qk (qs [arv, crv] qY qK rfl rfl (Rd.ownN [] rfl rfl) ?_)
   exact ⟨rfl, rfl⟩
  refine gD (fun W Fs R lF z9 => ?_) ?_
  ·refine qk (qo (tv) rfl ?_)
   exact ⟨rfl, rfl⟩
  refine gD (fun W Fs R lF z9 => ?_) ?_
  ·refine qk (qo (ii (p)) rfl ?_)
   exact ⟨rfl, rfl⟩
  refine gD (fun W Fs R lF z9 => ?_) ?_
  ·refine qk (qq (1) qF rfl jp (by decide) rfl rfl ?_)
   exact ⟨rfl, rfl⟩
  refine gD (fun W Fs R lF z9 => ?_) ?_
  ·replace har := har.mono lF
   replace hcr := hcr.mono lF
   replace ht := ht.mono lF
   replace ha1 := ha1.mono lF
   replace ha2 := ha2.mono lF
   replace ha3 := ha3.mono lF
   replace hrg1 := fun L9 j9 u9 h9 => Rd.mono (hrg1 L9 j9 u9 h9) lF
   rw [zA 3 (z9 3 rfl)]
   refine qk (qm jz rfl (Rd.own [] rfl rfl) ?_)
   exact ⟨rfl, rfl⟩
  refine gD (fun W Fs R lF z9 => ?_) ?_
  ·refine qk (qo (ii (r)) rfl ?_)
   exact ⟨rfl, rfl⟩
  refine gD (fun W Fs R lF z9 => ?_) ?_
  ·replace har := har.mono lF
   replace hcr := hcr.mono lF
   replace ht := ht.mono lF
   replace ha1 := ha1.mono lF
   replace ha2 := ha2.mono lF
   replace ha3 := ha3.mono lF
   replace hrg1 := fun L9 j9 u9 h9 => Rd.mono (hrg1 L9 j9 u9 h9) lF
   rw [zB 4 5 (z9 4 rfl) (z9 5 rfl)]
   refine qk (qD ((r).toNat) qU jv rfl rfl (by omega) hcr.slv (by omega) rfl ?_)
   exact ⟨rfl, rfl⟩
  refine gD (fun W Fs R lF z9 => ?_) ?_
  ·replace har := har.mono lF
   replace hcr := hcr.mono lF
   replace ht := ht.mono lF
   replace ha1 := ha1.mono lF
   replace ha2 := ha2.mono lF
   replace ha3 := ha3.mono lF
   replace hrg1 := fun L9 j9 u9 h9 => Rd.mono (hrg1 L9 j9 u9 h9) lF
   rw [zA 6 (z9 6 rfl)]
   refine qk (qs [a1, a2, a3] isAgg51 jv rfl rfl (Rd.all (hrg1 _)) ?_)
   exact ⟨rfl, rfl⟩
  refine gD (fun W Fs R lF z9 => ?_) ?_
  ·refine qk (qo (ii (z)) rfl ?_)
   exact ⟨rfl, rfl⟩
  refine gD (fun W Fs R lF z9 => ?_) ?_
  ·replace har := har.mono lF
   replace hcr := hcr.mono lF
   replace ht := ht.mono lF
   replace ha1 := ha1.mono lF
   replace ha2 := ha2.mono lF
   replace ha3 := ha3.mono lF
   rw [eS (l := [(0, _), (1, _), (2, _), (7, _), (8, _)]) ⟨z9 0 rfl, z9 1 rfl, z9 2 rfl, z9 7 rfl, z9 8 rfl, ⟨⟩⟩]
   refine qk (qn (args := [.agg #[arv, crv], tv, ii (((p).toNat : Nat) : Int), .agg #[a1, a2, a3], ii (((z).toNat : Nat) : Int)]) call32 (by rw [show (((p).toNat : Nat) : Int) = p from by omega, show (((z).toNat : Nat) : Int) = z from by omega]; rfl) (cstep_step (d := (z).toNat) (fun m9 _ => cnormal m9) (p := (p).toNat) har hcr ht ha1 ha2 ha3 (hc := (by first | assumption | rfl | omega | simp)) (ho := (by first | assumption | rfl | omega | simp)) (hd2 := (by first | assumption | rfl | omega | simp)) (hp := (by first | assumption | rfl | omega | simp)) (hR := (csysOk_at hc (by omega)))) ?_)
   rintro _ F2 _ le2 ⟨⟨x2, rfl, hr3, hr4⟩, rfl⟩
   exact ⟨⟨rfl, hr3, (hr4.base lF)⟩, rfl⟩
  refine gD (fun W Fs R lF z9 => ?_) ?_
  ·obtain ⟨e9, f9_1hr, f9_1hz⟩ := z9 9 rfl
   rw [eS (l := [(9, (.tuple #[((tupAt (W 9) 0)), .bool ((stepD ar cr ((z).toNat) (((cr.getD ((r).toNat) ([], [], [])).1), ((cr.getD ((r).toNat) ([], [], [])).2.1), ((cr.getD ((r).toNat) ([], [], [])).2.2)) t ((p).toNat)).isSome)]))]) ⟨(e9).symm, ⟨⟩⟩]
   refine qk (qG (((tupAt (W 9) 0))) rfl rfl ?_)
   exact ⟨rfl, rfl⟩
  refine gD (fun W Fs R lF z9 => ?_) ?_
  ·obtain ⟨e9, f9_1hr, f9_1hz⟩ := z9 9 rfl
   rw [eS (l := [(9, (.tuple #[((tupAt (W 9) 0)), .bool ((stepD ar cr ((z).toNat) (((cr.getD ((r).toNat) ([], [], [])).1), ((cr.getD ((r).toNat) ([], [], [])).2.1), ((cr.getD ((r).toNat) ([], [], [])).2.2)) t ((p).toNat)).isSome)]))]) ⟨(e9).symm, ⟨⟩⟩]
   refine qk (qG (.bool ((stepD ar cr ((z).toNat) (((cr.getD ((r).toNat) ([], [], [])).1), ((cr.getD ((r).toNat) ([], [], [])).2.1), ((cr.getD ((r).toNat) ([], [], [])).2.2)) t ((p).toNat)).isSome)) rfl rfl ?_)
   exact ⟨rfl, rfl⟩
  exact stepsG.nil
 intro W F3 le3 hphi
 obtain ⟨e9, f9_1hr, f9_1hz⟩ := hphi 9 (by decide)
 have e10 : W 10 = ((tupAt (W 9) 0)) := hphi 10 (by decide)
 generalize hu1 : ((tupAt (W 9) 0)) = u1 at e9 f9_1hr f9_1hz e10
 rw [eS (l := [(9, (.tuple #[u1, .bool ((stepD ar cr ((z).toNat) (((cr.getD ((r).toNat) ([], [], [])).1), ((cr.getD ((r).toNat) ([], [], [])).2.1), ((cr.getD ((r).toNat) ([], [], [])).2.2)) t ((p).toNat)).isSome)])), (10, u1), (11, _)]) ⟨(e9).symm, e10, (hphi 11 (by decide)), ⟨⟩⟩]
 show XL _ _ _ _ _ _ _ (cellsH b1 [arv, crv] 29 :: L)
 refine qj (u1) rfl (qj (.bool ((stepD ar cr ((z).toNat) (((cr.getD ((r).toNat) ([], [], [])).1), ((cr.getD ((r).toNat) ([], [], [])).2.1), ((cr.getD ((r).toNat) ([], [], [])).2.2)) t ((p).toNat)).isSome)) rfl (qf (qu (qt (L' := L) [u1, .bool ((stepD ar cr ((z).toNat) (((cr.getD ((r).toNat) ([], [], [])).1), ((cr.getD ((r).toNat) ([], [], [])).2.1), ((cr.getD ((r).toNat) ([], [], [])).2.2)) t ((p).toNat)).isSome)] (.tuple #[u1, .bool ((stepD ar cr ((z).toNat) (((cr.getD ((r).toNat) ([], [], [])).1), ((cr.getD ((r).toNat) ([], [], [])).2.1), ((cr.getD ((r).toNat) ([], [], [])).2.2)) t ((p).toNat)).isSome)]) (.tmp rfl (.tmp rfl .nil)) rfl le3 rF (sD sR) ?_))))
 have hok : cstepOk ar cr t p r z := ⟨hdb, by omega, by omega⟩
 have e : cstepF ar cr t p r z = stepD ar cr z.toNat (RD cr r.toNat) t p.toNat := cstepF_yes hok
 exact ⟨_, by first | (rw [e]; done) | (rw [e]; rfl) | rw [e, hq1], by rw [e]; exact f9_1hr, by rw [e]; exact Fresh.one f9_1hz, rfl⟩

/- impl.CNormalBy -/
theorem CNormalBy_spec {F : FH} {L : List HP} {arv : Value} {ar : List Int} (har : IntsF F arv ar) {crv : Value} {cr : List CRuleT} (hcr : CRulesF F crv cr) {tv : Value} {t : List Int} (ht : IntsF F tv t) {z : Int} :
    Does prog 6 [.agg #[arv, crv], tv, ii (z)] F (L) (fun v F' L' => ∃ (a : Value), (.tuple #[a, .bool ((cnormF ar cr t z).isSome)] : Value) = v ∧ (IntsF F' a ((cnormF ar cr t z).getD [])) ∧ (Fresh F F' (star [intsH 2 a ((cnormF ar cr t z).getD [])])) ∧ L = L') := by
 refine qL func6 rfl rfl rfl (qg (qd (cX (je [arv, crv] rfl rfl ?_))))
 intro b1
 refine qj (sN) rfl (qj (.bool (false)) rfl (qf (qg (qg (qd (cX (qs [arv, crv] qY qK rfl rfl (Rd.ownN [] rfl rfl) (qi (tv) rfl (qi (ii (z)) rfl (cX (qn (args := [.agg #[arv, crv], tv, ii (z)]) call20 rfl (depthOk_spec (z := z) har hcr ht) ?_)))))))))))
 rintro _ _ _ _ ⟨rfl, rfl, rfl⟩
 refine cX (jg rfl (qf ?_))
 refine js (t := !(depthB ar cr t z)) rfl (fun h1 => ?_) (fun h1 => ?_)
 ·have hdb := Bool.not_inj (y := false) h1
  refine qg (qd (qj (sN) rfl (qj (.bool (false)) rfl (qf (qu (ql (qt (L' := L) [sN, .bool (false)] (.tuple #[sN, .bool (false)]) (.tmp rfl (.tmp rfl .nil)) rfl rF rF (sD sR) ?_)))))))
  have e : cnormF ar cr t z = none := by first | exact cnormF_no hdb | exact (cnormF_yes hdb).trans hq0
  exact ⟨_, by rw [e]; rfl, by rw [e]; exact IntsF.nilV, by rw [e]; exact Fresh.one (Fresh.ofNil _), rfl⟩
 have hdb := Bool.not_inj (y := true) h1
 have hdq := depth_iff.1 hdb
 have hc := hdq.1.1
 have ho := hdq.1.2
 have hz := hdq.2
 have htl := termOk_len ho
 refine qz (qg (qd (cX (qs [arv, crv] qY qK rfl rfl (Rd.ownN [] rfl rfl) (qi (tv) rfl (qi (ii (z)) rfl (cX (qn (args := [.agg #[arv, crv], tv, ii (((z).toNat : Nat) : Int)]) call21 (by rw [show (((z).toNat : Nat) : Int) = z from by omega]; rfl) (cnormal ((z).toNat) har hcr ht (hc := (by first | assumption | rfl | omega | simp)) (ho := (by first | assumption | rfl | omega | simp)) (hd2 := (by first | assumption | rfl | omega | simp))) ?_))))))))
 rintro _ F1 _ le1 ⟨⟨x1, rfl, hr1⟩, rfl⟩
 show XL _ _ _ _ _ _ _ (cellsH b1 [arv, crv] 29 :: L)
 refine qi (.tuple #[x1, .bool ((normC ar cr ((z).toNat) t).isSome)]) rfl (cX (qG (x1) rfl rfl (cX (qG (.bool ((normC ar cr ((z).toNat) t).isSome)) rfl rfl (qj (x1) rfl (qj (.bool ((normC ar cr ((z).toNat) t).isSome)) rfl (qf (qg (qg (qd (qi (.bool ((normC ar cr ((z).toNat) t).isSome)) rfl (cX (jg rfl (qf ?_))))))))))))))
 refine js (t := !((normC ar cr ((z).toNat) t).isSome)) rfl (fun h2 => ?_) (fun h2 => ?_)
 ·have hq9 := Bool.not_inj (y := false) h2
  have hq0 : normC ar cr z.toNat t = none := by cases hx : normC ar cr z.toNat t with | none => rfl | some v => rw [hx] at hq9; cases hq9
  refine qg (qd (qj (sN) rfl (qj (.bool (false)) rfl (qf (qu (ql (qt (L' := L) [sN, .bool (false)] (.tuple #[sN, .bool (false)]) (.tmp rfl (.tmp rfl .nil)) rfl le1 rF (sD sR) ?_)))))))
  have e : cnormF ar cr t z = none := by first | exact cnormF_no hdb | exact (cnormF_yes hdb).trans hq0
  exact ⟨_, by rw [e]; rfl, by rw [e]; exact IntsF.nilV, by rw [e]; exact Fresh.one (Fresh.ofNil _), rfl⟩
 have hq1 : (normC ar cr z.toNat t).isSome = true := Bool.not_inj (y := true) h2
 have hnl := termOk_len (norm_okS hc ho hq1)
 refine qz (qg (qd (qi (x1) rfl (cX (jR <| qn (args := [x1]) call22 rfl (Clone_spec hr1 (hlt := (by first | assumption | rfl | omega | simp))) ?_)))))
 rintro v1 _ _ _ ⟨rfl, hs1, rfl⟩
 refine ⟨_, _, rfl, fun F2 le2 hz1 => ?_⟩
 have hf1 : IntsF F2 v1 ((((normC ar cr ((z).toNat) t).getD []))) := intsH.fz (xs := (((normC ar cr ((z).toNat) t).getD []))) hz1.fz
 refine qj (v1) rfl (qj (.bool (true)) rfl (qf (qu (qt (L' := L) [v1, .bool (true)] (.tuple #[v1, .bool (true)]) (.tmp rfl (.tmp rfl .nil)) rfl (qc le1 le2) rF (sD sR) ?_))))
 have e : cnormF ar cr t z = normC ar cr z.toNat t := cnormF_yes hdb
 exact ⟨_, by first | (rw [e]; done) | (rw [e]; rfl) | rw [e, hq1], by rw [e]; exact hf1, by rw [e]; exact Fresh.one (hz1.base le1), rfl⟩

/- spec.CNormalBy -/
theorem sCNormalBy_spec {F : FH} {L : List HP} {arv : Value} {ar : List Int} (har : IntsF F arv ar) {crv : Value} {cr : List CRuleT} (hcr : CRulesF F crv cr) {tv : Value} {t : List Int} (ht : IntsF F tv t) {z : Int} (hla : ar.length ≤ 4000000) (hlr : cr.length ≤ 4000000) (hrb : ∀ i, i < cr.length → (cr.getD i ([], [], [])).1.length ≤ 4000000 ∧ (cr.getD i ([], [], [])).2.1.length ≤ 4000000 ∧ (cr.getD i ([], [], [])).2.2.length ≤ 4000000 ∧ ∀ q, q < (cr.getD i ([], [], [])).2.2.length → ((cr.getD i ([], [], [])).2.2.getD q ([], [])).1.length ≤ 4000000 ∧ ((cr.getD i ([], [], [])).2.2.getD q ([], [])).2.length ≤ 4000000) (hlt : t.length ≤ 4000000) :
    Does prog 7 [.agg #[arv, crv], tv, ii (z)] F (L) (fun v F' L' => ∃ (a : Value), (.tuple #[a, .bool ((cnormF ar cr t z).isSome)] : Value) = v ∧ (IntsF F' a ((cnormF ar cr t z).getD [])) ∧ L = L') := by
 refine qL func7 rfl rfl rfl (qg (qd (cX (je [arv, crv] rfl rfl ?_))))
 intro b1
 refine qj (sN) rfl (qj (.bool (false)) rfl (qf (qg (qg (qd (cX (qs [arv, crv] qY qK rfl rfl (Rd.ownN [] rfl rfl) (qi (tv) rfl (qi (ii (z)) rfl (cX (qn (args := [.agg #[arv, crv], tv, ii (z)]) call23 rfl (l27Right_spec (z := z) har hcr ht (hla := (by first | assumption | rfl | omega | simp)) (hlr := (by first | assumption | rfl | omega | simp)) (hrb := (by first | assumption | rfl | omega | simp)) (hlt := (by first | assumption | rfl | omega | simp))) ?_)))))))))))
 rintro _ _ _ _ ⟨rfl, rfl, rfl⟩
 refine cX (jg rfl (qf ?_))
 refine js (t := !(depthB ar cr t z)) rfl (fun h1 => ?_) (fun h1 => ?_)
 ·have hdb := Bool.not_inj (y := false) h1
  refine qg (qd (cX (qx (s := 1) [] [ii (0)] [] qh qC qP rfl (by decide) rfl CellsAre.nil rfl ?_)))
  intro v1 hv1
  refine qj (v1) rfl (qj (.bool (false)) rfl (qf ?_))
  show X _ _ _ _ _ _ (intsH 2 v1 ([] : List Int) :: cellsH b1 [arv, crv] 29 :: L)
  refine ji [] _ _ rfl (fun F1 le1 hz1 => ?_)
  replace har := har.mono le1
  replace hcr := hcr.mono le1
  replace ht := ht.mono le1
  have hf1 : IntsF F1 v1 ([]) := intsH.fz (xs := []) hz1.fz
  refine qu (ql (qt (L' := L) [v1, .bool (false)] (.tuple #[v1, .bool (false)]) (.tmp rfl (.tmp rfl .nil)) rfl le1 rF (sD sR) ?_))
  have e : cnormF ar cr t z = none := by first | exact cnormF_no hdb | exact (cnormF_yes hdb).trans hq0
  exact ⟨_, by rw [e]; rfl, by rw [e]; exact hf1, rfl⟩
 have hdb := Bool.not_inj (y := true) h1
 have hdq := depth_iff.1 hdb
 have hc := hdq.1.1
 have ho := hdq.1.2
 have hz := hdq.2
 have htl := termOk_len ho
 refine qz (qg (qd (cX (qs [arv, crv] qY qK rfl rfl (Rd.ownN [] rfl rfl) (qi (tv) rfl (qi (ii (z)) rfl (cX (qn (args := [.agg #[arv, crv], tv, ii (((z).toNat : Nat) : Int)]) call24 (by rw [show (((z).toNat : Nat) : Int) = z from by omega]; rfl) (snormal ((z).toNat) har hcr ht (hc := (by first | assumption | rfl | omega | simp)) (ho := (by first | assumption | rfl | omega | simp)) (hd2 := (by first | assumption | rfl | omega | simp))) ?_))))))))
 rintro _ F2 _ le2 ⟨⟨x1, rfl, hr1⟩, rfl⟩
 show XL _ _ _ _ _ _ _ (cellsH b1 [arv, crv] 29 :: L)
 refine cX (qG (x1) rfl rfl (cX (qG (.bool ((normC ar cr ((z).toNat) t).isSome)) rfl rfl (qj (x1) rfl (qj (.bool ((normC ar cr ((z).toNat) t).isSome)) rfl (qf (qu (qt (L' := L) [x1, .bool ((normC ar cr ((z).toNat) t).isSome)] (.tuple #[x1, .bool ((normC ar cr ((z).toNat) t).isSome)]) (.tmp rfl (.tmp rfl .nil)) rfl le2 rF (sD sR) ?_))))))))
 have e : cnormF ar cr t z = normC ar cr z.toNat t := cnormF_yes hdb
 exact ⟨_, by first | (rw [e]; done) | (rw [e]; rfl) | rw [e, hq1], by rw [e]; exact hr1, rfl⟩

/- spec.l6DrawRule -/
set_option maxHeartbeats 2000000 in
set_option maxRecDepth 20000 in
theorem l6DrawRuleF_spec {F : FH} {L : List HP} {cb : Nat} {bsv : Value} {bs : List Int} (hbs : BytesF F bsv bs) (hbl : bs.length ≤ 4000000) {arv : Value} {ar : List Int} (har : IntsF F arv ar) (hso : sigOk ar = true) :
    Does prog 99 [ptr cb 0, .agg #[arv]] F (curH .i64 75 cb bsv bs.length :: L) (fun v F' L' => (∃ (a : Value), ∃ (b : Value), ∃ (u : List Int), ∃ (w : List Int), (.agg #[a, b] : Value) = v ∧ (IntsF F' a u) ∧ (IntsF F' b w) ∧ (u.length ≤ 2000) ∧ (w.length ≤ 2000) ∧ (Fresh F F' (star [intsH 2 a u, intsH 2 b w]))) ∧ curH .i64 75 cb bsv bs.length :: L = L') := by
 refine qL func99 rfl rfl rfl ?_
 have hsl := sigOk_spec hso
 refine qg (qd (cX (je [arv] rfl rfl ?_)))
 intro b1
 refine cX (jm [sN, sN] zeroValue44 rfl ?_)
 intro b2
 refine qf (qg ?_)
 refine jG [cellsH b2 [sN, sN] 44, cellsH b1 [arv] 26, curH .i64 75 cb bsv bs.length] L 5 [[], [], [], [], [3]] [[], [], [], [2], [3]] [] (phiG [pe (ptr cb 0), pe (.agg #[arv]), pe (ptr cb 0), fun FF us v => (ii (((intAt v))) : Value) = v ∧ (0 ≤ ((intAt v)) ∧ (((intAt v)) < 2 ∨ ((intAt v)) = 0)), fun FF us v => v = (ii (2 + (((intAt (us.getD 0 undef))))) : Value)]) (ownL []) mixed rfl rfl (by kernel_rfl) (by kernel_rfl) (MonoG.get (m1 (m1 (m1 (mC (fun le h => ⟨h.1, h.2⟩) (mC (fun le h => h) MonoG.nil)))))) ?_ ?_
 ·refine gD (fun W Fs R lF z9 => ?_) ?_
  ·refine qk (qo (ptr cb 0) rfl ?_)
   exact ⟨rfl, rfl⟩
  refine gD (fun W Fs R lF z9 => ?_) ?_
  ·replace hbs := hbs.mono lF
   replace har := har.mono lF
   refine qk (qs [arv] qW qB rfl rfl (Rd.ownN [_] rfl rfl) ?_)
   exact ⟨rfl, rfl⟩
  refine gD (fun W Fs R lF z9 => ?_) ?_
  ·refine qk (qo (ptr cb 0) rfl ?_)
   exact ⟨rfl, rfl⟩
  refine gD (fun W Fs R lF z9 => ?_) ?_
  ·replace hbs := hbs.mono lF
   replace har := har.mono lF
   rw [zA 2 (z9 2 rfl)]
   refine qk (qn (args := [ptr cb 0, ii (2)]) jO rfl (qZ [_, _] (l1Below_spec (n := 2) hbs (by omega) (hn := (by first | assumption | rfl | omega | simp)))) ?_)
   rintro _ _ _ _ ⟨⟨rfl, x2, rfl, hr2⟩, rfl⟩
   exact ⟨⟨rfl, hr2⟩, rfl⟩
  refine gD (fun W Fs R lF z9 => ?_) ?_
  ·obtain ⟨e3, f3_1hx⟩ := z9 3 rfl
   rw [eS (l := [(3, (ii (((intAt (W 3))))))]) ⟨(e3).symm, ⟨⟩⟩]
   refine qk (qS (2 + (((intAt (W 3))))) rfl rfl (by omega) (by omega) ?_)
   exact ⟨rfl, rfl⟩
  exact stepsG.nil
 intro W F3 le3 hphi
 obtain ⟨e3, f3_1hx⟩ := hphi 3 (by decide)
 have e4 : W 4 = (ii (2 + (((intAt (W 3))))) : Value) := hphi 4 (by decide)
 generalize hu1 : (intAt (W 3)) = u1 at e3 f3_1hx e4
 rw [eS (l := [(0, _), (1, _), (3, (ii ((u1)))), (4, (ii (2 + ((u1)))))]) ⟨(hphi 0 (by decide)), (hphi 1 (by decide)), (e3).symm, e4, ⟨⟩⟩]
 replace hbs := hbs.mono le3
 replace har := har.mono le3
 show XL _ _ _ _ _ _ _ (cellsH b2 [sN, sN] 44 :: cellsH b1 [arv] 26 :: curH .i64 75 cb bsv bs.length :: L)
 refine cX (qn (args := [ptr cb 0, .agg #[arv], ii (((2 + ((u1))).toNat : Nat) : Int), ii (2)]) call75 (by rw [show (((2 + ((u1))).toNat : Nat) : Int) = 2 + ((u1)) from by omega]; rfl) (Does.atO [_, _] (l1DrawTerm_spec ((2 + ((u1))).toNat) (vs := 2) hbs (by omega) har (hso := (by first | assumption | rfl | omega | simp)) (hdp := (by first | assumption | rfl | omega | simp)) (hvs := (by first | assumption | rfl | omega | simp)))) ?_)
 rintro _ F4 _ le4 ⟨x4, ⟨rfl, hsl1⟩, rfl⟩
 replace hbs := hbs.mono le4
 replace har := har.mono le4
 show XL _ _ _ _ _ _ _ (drawnH 2 x4 (fun t => goodT ar t ∧ 1 ≤ t.length ∧ t.length ≤ szT ((2 + ((u1))).toNat)) :: cellsH b2 [sN, sN] 44 :: cellsH b1 [arv] 26 :: curH .i64 75 cb bsv bs.length :: L)
 refine XL.undraw [] rfl (fun t1 hq9 => ?_)
 obtain ⟨q1, q2, q3⟩ := hq9
 show XL _ _ _ _ _ _ _ (intsH 2 x4 t1 :: cellsH b2 [sN, sN] 44 :: cellsH b1 [arv] 26 :: curH .i64 75 cb bsv bs.length :: L)
 have hz9 := szT_le (d := (2 + ((u1))).toNat) (e := 3) (by omega)
 have hz8 : szT 3 = 40 := rfl
 have hz7 : szT 1 = 4 := rfl
 refine qj (x4) rfl (qf (qg (qg (qd (qi (x4) rfl (cX (qD 0 qh qC rfl rfl rfl (intsH.slv [] rfl) (by omega) (Nat.mul_one _) (cX (qm jj rfl (intsH.rd [] rfl (by omega)) (cX (jb rfl rfl (qf ?_))))))))))))
 refine qH (p := (t1.getD 0 0 : Int) < 0) rfl (fun h1 => ?_) (fun h1 => ?_)
 ·refine qg (qd (qi (ptr cb 0) rfl (cX (qq (0) jc rfl qy (by decide) rfl rfl (cX (qm qX rfl (Rd.own [_, _] rfl rfl) (cX (qE qh rfl har.slv (cX (qn (args := [ptr cb 0, ii ((ar.length : Int))]) jO rfl (qZ [_, _, _] (l1Below_spec (n := (ar.length : Int)) hbs (by omega) (hn := (by first | assumption | rfl | omega | simp)))) ?_))))))))))
  rintro _ _ _ _ ⟨⟨rfl, x5, rfl, hr3⟩, rfl⟩
  show XL _ _ _ _ _ _ _ (intsH 2 x4 t1 :: cellsH b2 [sN, sN] 44 :: cellsH b1 [arv] 26 :: curH .i64 75 cb bsv bs.length :: L)
  refine qj (ii (x5)) rfl (qf (qg (qd (qi (ii (x5)) rfl (cX (qx (s := 1) [ii (x5)] [ii (0)] [(0, [ii (x5)])] qh qC qP rfl (by decide) rfl (.cons rfl CellsAre.nil) rfl ?_))))))
  intro v1 hv1
  refine qj (v1) rfl (qf (qg (qd ?_)))
  show XL _ _ _ _ _ _ _ (intsH 2 v1 ([x5] : List Int) :: intsH 2 x4 t1 :: cellsH b2 [sN, sN] 44 :: cellsH b1 [arv] 26 :: curH .i64 75 cb bsv bs.length :: L)
  skip
  refine cX (qq (0) jc rfl qy (by decide) rfl rfl (cX (qm qX rfl (Rd.own [_, _, _] rfl rfl) (qi (ii (x5)) rfl (cX (qD ((x5).toNat) qh qC rfl rfl (by omega) har.slv (by omega) (Nat.mul_one _) (cX (qm jj rfl (har.rd (by omega)) (qj (ii (ar.getD ((x5).toNat) 0)) rfl ?_)))))))))
  have hfr : 0 ≤ x5 ∧ x5 < (ar.length : Int) := by omega
  have hsp := (sigOk_spec hso).2.2 (x5).toNat (by omega)
  obtain ⟨haK, hKe⟩ : ∃ q : Nat, q = (ar.getD ((x5).toNat) 0).toNat := ⟨_, rfl⟩
  have hK3 : haK ≤ 3 := by omega
  have hKa : arity ar x5 = (haK : Int) := by rw [arity, if_neg (by omega)]; omega
  refine qf (qQ (jr (α := Nat × Value × List Int × List Int × FH) (fun xQ => [(0, ptr cb 0), (3, ptr b1 0), (4, ptr b2 0), (5, xQ.2.1), (7, ii (((xQ.1 : Nat) : Int)))]) (fun xQ => intsH 2 xQ.2.1 xQ.2.2.1 :: intsH 2 x4 t1 :: cellsH b2 [sN, sN] 44 :: cellsH b1 [arv] 26 :: curH .i64 75 cb bsv bs.length :: L) (fun xQ F' => xQ.2.2.2.2 = F' ∧ F4 ≤ xQ.2.2.2.2 ∧ (IsSl xQ.2.1) ∧ (xQ.2.2.1 = x5 :: xQ.2.2.2.1) ∧ (xQ.1 + (haK - xQ.1) = haK ∧ xQ.1 ≤ haK) ∧ (goodN ar xQ.2.2.2.1 (haK - xQ.1)) ∧ (xQ.2.2.2.1.length ≤ (haK - xQ.1) * (szT 1))) (fun xQ => xQ.1) ((ar.getD ((x5).toNat) 0).toNat, v1, [x5], [], F4) ⟨rfl, rfl, rfl, rfl, (vI (by omega)), ⟨⟩⟩ (sC (sC (sC (sC (sC sR))))) ⟨rfl, FLe.refl _, ((jE hv1)), (rfl), (by (try dsimp only); omega), (by (try dsimp only); rw [show haK - (ar.getD ((x5).toNat) 0).toNat = 0 from by omega]; exact goodN.nil), (by (try dsimp only); simp)⟩ ?_))
  rintro ⟨n, ov, os, ot, G1⟩ rE _ _ ⟨rfl, leG, hov, hoe, hn3, hgo, hol⟩
  show X _ _ _ _ (envs [(0, ptr cb 0), (3, ptr b1 0), (4, ptr b2 0), (5, ov), (7, ii ((n : Int)))] rE) _ (intsH 2 ov os :: intsH 2 x4 t1 :: cellsH b2 [sN, sN] 44 :: cellsH b1 [arv] 26 :: curH .i64 75 cb bsv bs.length :: L)
  replace leG : F4 ≤ G1 := leG
  dsimp only at hov hoe hn3 hgo hol
  have hm9 : (haK - n) * (szT 1) ≤ 3 * (szT 1) := Nat.mul_le_mul_right _ (by omega)
  have hool : os.length = ot.length + 1 := by rw [hoe]; rfl
  have leG1 := leG
  replace hbs := hbs.mono leG1
  replace har := har.mono leG1
  refine qg (qg (qd (qi (ii ((n : Int))) rfl (cX (jF rfl rfl (qf ?_))))))
  refine qH (p := (n : Int) > 0) rfl (fun h2 => ?_) (fun h2 => ?_)
  ·refine qz (qg (qQ (qd (qi (ov) rfl (qi (ptr cb 0) rfl (cX (qs [arv] qW qB rfl rfl (Rd.ownN [_, _, _] rfl rfl) (cX (qn (args := [ptr cb 0, .agg #[arv], ii ((1 : Nat) : Int), ii (2)]) call75 rfl (Does.atO [_, _, _, _] (l1DrawTerm_spec 1 (vs := 2) hbs (by omega) har (hso := (by first | assumption | rfl | omega | simp)) (hdp := (by first | assumption | rfl | omega | simp)) (hvs := (by first | assumption | rfl | omega | simp)))) ?_)))))))))
   rintro _ F6 _ le6 ⟨x7, ⟨rfl, hsl2⟩, rfl⟩
   replace hbs := hbs.mono le6
   replace har := har.mono le6
   show XL _ _ _ _ _ _ _ (drawnH 2 x7 (fun t => goodT ar t ∧ 1 ≤ t.length ∧ t.length ≤ szT 1) :: intsH 2 ov os :: intsH 2 x4 t1 :: cellsH b2 [sN, sN] 44 :: cellsH b1 [arv] 26 :: curH .i64 75 cb bsv bs.length :: L)
   refine XL.undraw [] rfl (fun t2 hq9 => ?_)
   obtain ⟨q4, q5, q6⟩ := hq9
   show XL _ _ _ _ _ _ _ (intsH 2 x7 t2 :: intsH 2 ov os :: intsH 2 x4 t1 :: cellsH b2 [sN, sN] 44 :: cellsH b1 [arv] 26 :: curH .i64 75 cb bsv bs.length :: L)
   refine jf [] _ _ rfl (fun F7 le7 hz1 => ?_)
   replace hbs := hbs.mono le7
   replace har := har.mono le7
   have hf1 : IntsF F7 x7 t2 := intsH.fz (xs := t2) hz1.fz
   refine cX (yd [] _ qh typeInfo2 rfl rfl rfl rfl rfl rfl hf1 (by (try simp only [List.length_append, List.length_nil, List.length_cons, List.length_singleton, List.length_take, List.length_drop]); omega) ?_)
   intro v2 hs1 hn1 hm1
   refine qj (v2) rfl (qf (qd (qi (ii ((n : Int))) rfl (cX (jl (((n - 1 : Nat) : Int)) rfl rfl (by omega) (by omega) (qj (ii (((n - 1 : Nat) : Int))) rfl (qf ?_)))))))
   exact ⟨(n - 1, v2, os ++ t2, (ot ++ t2), F7), _, (qc (qc leG1 le6) le7), rF, ⟨rfl, rfl, rfl, rfl, rfl, ⟨⟩⟩, (sC (sC (sC (sC (sC sR))))), ⟨rfl, (qc (qc leG1 le6) le7), (hs1), (by (try dsimp only); rw [hoe] <;> rfl), (by (try dsimp only); omega), (by (try dsimp only); rw [show haK - (n - 1) = haK - n + 1 from by omega]; exact hgo.snoc q4), (by (try dsimp only); rw [show haK - (n - 1) = haK - n + 1 from by omega, Nat.succ_mul, List.length_append]; omega)⟩, (by (try dsimp only); omega)⟩
  refine jn (qA (qA (qV (qg ?_))))
  refine jG [intsH 2 ov os, intsH 2 x4 t1, cellsH b2 [sN, sN] 44, cellsH b1 [arv] 26, curH .i64 75 cb bsv bs.length] L 5 [[], [], [], [], [3]] [[], [], [], [2], [3]] [] (phiG [pe (ptr cb 0), pe (.agg #[arv]), pe (ptr cb 0), fun FF us v => (ii (((intAt v))) : Value) = v ∧ (0 ≤ ((intAt v)) ∧ (((intAt v)) < 3 ∨ ((intAt v)) = 0)), fun FF us v => v = (ii (1 + (((intAt (us.getD 0 undef))))) : Value)]) (ownL []) mixed rfl rfl (by kernel_rfl) (by kernel_rfl) (MonoG.get (m1 (m1 (m1 (mC (fun le h => ⟨h.1, h.2⟩) (mC (fun le h => h) MonoG.nil)))))) ?_ ?_
  ·refine gD (fun W Fs R lF z9 => ?_) ?_
   ·refine qk (qo (ptr cb 0) rfl ?_)
    exact ⟨rfl, rfl⟩
   refine gD (fun W Fs R lF z9 => ?_) ?_
   ·replace hbs := hbs.mono lF
    replace har := har.mono lF
    refine qk (qs [arv] qW qB rfl rfl (Rd.ownN [_, _, _] rfl rfl) ?_)
    exact ⟨rfl, rfl⟩
   refine gD (fun W Fs R lF z9 => ?_) ?_
   ·refine qk (qo (ptr cb 0) rfl ?_)
    exact ⟨rfl, rfl⟩
   refine gD (fun W Fs R lF z9 => ?_) ?_
   ·replace hbs := hbs.mono lF
    replace har := har.mono lF
    rw [zA 2 (z9 2 rfl)]
    refine qk (qn (args := [ptr cb 0, ii (3)]) jO rfl (qZ [_, _, _, _] (l1Below_spec (n := 3) hbs (by omega) (hn := (by first | assumption | rfl | omega | simp)))) ?_)
    rintro _ _ _ _ ⟨⟨rfl, x9, rfl, hr5⟩, rfl⟩
    exact ⟨⟨rfl, hr5⟩, rfl⟩
   refine gD (fun W Fs R lF z9 => ?_) ?_
   ·obtain ⟨e3, f3_2hx⟩ := z9 3 rfl
    rw [eS (l := [(3, (ii (((intAt (W 3))))))]) ⟨(e3).symm, ⟨⟩⟩]
    refine qk (qS (1 + (((intAt (W 3))))) rfl rfl (by omega) (by omega) ?_)
    exact ⟨rfl, rfl⟩
   exact stepsG.nil
  intro W F10 le10 hphi
  obtain ⟨e3, f3_2hx⟩ := hphi 3 (by decide)
  have e4 : W 4 = (ii (1 + (((intAt (W 3))))) : Value) := hphi 4 (by decide)
  generalize hu2 : (intAt (W 3)) = u2 at e3 f3_2hx e4
  rw [eS (l := [(0, _), (1, _), (3, (ii ((u2)))), (4, (ii (1 + ((u2)))))]) ⟨(hphi 0 (by decide)), (hphi 1 (by decide)), (e3).symm, e4, ⟨⟩⟩]
  replace hbs := hbs.mono le10
  replace har := har.mono le10
  show XL _ _ _ _ _ _ _ (intsH 2 ov os :: intsH 2 x4 t1 :: cellsH b2 [sN, sN] 44 :: cellsH b1 [arv] 26 :: curH .i64 75 cb bsv bs.length :: L)
  refine cX (qn (args := [ptr cb 0, .agg #[arv], ii (((1 + ((u2))).toNat : Nat) : Int), ii (2)]) call75 (by rw [show (((1 + ((u2))).toNat : Nat) : Int) = 1 + ((u2)) from by omega]; rfl) (Does.atO [_, _, _, _] (l1DrawTerm_spec ((1 + ((u2))).toNat) (vs := 2) hbs (by omega) har (hso := (by first | assumption | rfl | omega | simp)) (hdp := (by first | assumption | rfl | omega | simp)) (hvs := (by first | assumption | rfl | omega | simp)))) ?_)
  rintro _ F11 _ le11 ⟨x11, ⟨rfl, hsl3⟩, rfl⟩
  replace hbs := hbs.mono le11
  replace har := har.mono le11
  show XL _ _ _ _ _ _ _ (drawnH 2 x11 (fun t => goodT ar t ∧ 1 ≤ t.length ∧ t.length ≤ szT ((1 + ((u2))).toNat)) :: intsH 2 ov os :: intsH 2 x4 t1 :: cellsH b2 [sN, sN] 44 :: cellsH b1 [arv] 26 :: curH .i64 75 cb bsv bs.length :: L)
  refine XL.undraw [] rfl (fun t3 hq9 => ?_)
  obtain ⟨q7, q8, q9⟩ := hq9
  show XL _ _ _ _ _ _ _ (intsH 2 x11 t3 :: intsH 2 ov os :: intsH 2 x4 t1 :: cellsH b2 [sN, sN] 44 :: cellsH b1 [arv] 26 :: curH .i64 75 cb bsv bs.length :: L)
  have hoT : goodT ar os := by rw [hoe]; exact goodT.node hfr.1 (by omega) hKa (by have h9 := hgo; rwa [show haK - n = haK from by omega] at h9)
  have hol : termOk ar os = true := goodT.ok hso (by omega) hoT
  refine jf [_] _ _ rfl (fun F12 le12 hz2 => ?_)
  replace hbs := hbs.mono le12
  replace har := har.mono le12
  have hf2 : IntsF F12 ov os := intsH.fz (xs := os) hz2.fz
  have hy9 := szT_le (d := (1 + ((u2))).toNat) (e := 3) (by omega)
  refine qj (x11) rfl (qf (qg (qg (qd (qj (ii (0)) rfl (qf (qQ (jr (α := Nat × List Int × FH) (fun xQ => [(3, ptr b1 0), (4, ptr b2 0), (5, ov), (8, x11), (9, ii (((xQ.1 : Nat) : Int)))]) (fun xQ => intsH 2 x11 xQ.2.1 :: intsH 2 x4 t1 :: cellsH b2 [sN, sN] 44 :: cellsH b1 [arv] 26 :: curH .i64 75 cb bsv bs.length :: L) (fun xQ F' => xQ.2.2 = F' ∧ F12 ≤ xQ.2.2 ∧ (xQ.1 ≤ xQ.2.1.length) ∧ (xQ.2.1.length = t3.length)) (fun xQ => xQ.2.1.length - xQ.1) (0, t3, F12) ⟨rfl, rfl, rfl, rfl, rfl, ⟨⟩⟩ (sC (sC (sC (sC (sC sR))))) ⟨rfl, FLe.refl _, (Nat.zero_le _), (rfl)⟩ ?_))))))))
  rintro ⟨k, rr, G2⟩ rE _ _ ⟨rfl, leG, hk, hrl⟩
  show X _ _ _ _ (envs [(3, ptr b1 0), (4, ptr b2 0), (5, ov), (8, x11), (9, ii ((k : Int)))] rE) _ (intsH 2 x11 rr :: intsH 2 x4 t1 :: cellsH b2 [sN, sN] 44 :: cellsH b1 [arv] 26 :: curH .i64 75 cb bsv bs.length :: L)
  replace leG : F12 ≤ G2 := leG
  dsimp only at hk hrl
  have leG2 := leG
  replace hbs := hbs.mono leG2
  replace har := har.mono leG2
  replace hf2 := hf2.mono leG2
  refine qg (qg (qd (qi (ii ((k : Int))) rfl (qi (x11) rfl (cX (qE qh rfl (intsH.slv [] rfl) (cX (jb rfl rfl (qf ?_)))))))))
  refine qH (p := (k : Int) < (rr.length : Int)) rfl (fun h3 => ?_) (fun h3 => ?_)
  ·refine qz (qg (qQ (qg (qd (qi (x11) rfl (qi (ii ((k : Int))) rfl (cX (qD k qh qC rfl rfl rfl (intsH.slv [] rfl) (by omega) (Nat.mul_one _) (cX (qm jj rfl (intsH.rd [] rfl (by omega)) (cX (jb rfl rfl (qi (.bool (decide ((rr.getD k 0 : Int) < 0))) rfl ?_)))))))))))))
   by_cases h4 : (rr.getD k 0 : Int) < 0
   ·refine qr (t := 59) rfl (vT h4) (qo (ov) rfl (qr (t := 59) rfl (vT h4) (qo (x11) rfl (qr (t := 59) rfl (vT h4) (qo (ii ((k : Int))) rfl (qr (t := 59) rfl (vT h4) (qD k qh qC rfl rfl rfl (intsH.slv [] rfl) (by omega) (Nat.mul_one _) (qr (t := 59) rfl (vT h4) (qm jj rfl (intsH.rd [] rfl (by omega)) (qr (t := 59) rfl (vT h4) (qn (args := [ov, ii (rr.getD k 0)]) call102 rfl (l1Has_spec (n := rr.getD k 0) hf2 (hbd := (by first | assumption | rfl | omega | simp))) ?_)))))))))))
    rintro _ _ _ _ ⟨rfl, rfl, rfl⟩
    refine qr (t := 59) rfl (vT h4) (XOp.notD rfl (cX (qN (.bool (decide (¬((rr.getD k 0) ∈ os)))) (vT h4) rfl (qf ?_))))
    refine qH (p := ¬((rr.getD k 0) ∈ os)) rfl (fun h5 => ?_) (fun h5 => ?_)
    ·refine qg (qd (qi (ov) rfl (cX (qn (args := [ov]) call100 rfl (l2Order_spec hf2 (hlt := (by first | assumption | rfl | omega | simp))) ?_))))
     rintro _ F13 _ le13 ⟨⟨x12, x13, rfl, hr6, hr7⟩, rfl⟩
     replace hbs := hbs.mono le13
     replace har := har.mono le13
     replace hf2 := hf2.mono le13
     show XL _ _ _ _ _ _ _ (intsH 2 x11 rr :: intsH 2 x4 t1 :: cellsH b2 [sN, sN] 44 :: cellsH b1 [arv] 26 :: curH .i64 75 cb bsv bs.length :: L)
     refine qj (x12) rfl (qf (qg (qg (qd (qi (x12) rfl (cX (qE qh rfl hr6.slv (cX (jD rfl rfl (qf ?_))))))))))
     refine qH (p := ((x13.length : Int) : Int) = 0) rfl (fun h6 => ?_) (fun h6 => ?_)
     ·refine qg (qd (qi (ov) rfl (cX (qs [arv] qW qB rfl rfl (Rd.ownN [_, _, _] rfl rfl) (qi (ov) rfl (qi (ov) rfl (cX (qE qh rfl hf2.slv (cX (jl (((((os).length) - 1 : Nat) : Int)) rfl rfl (by omega) (by omega) (cX (jR <| qn (args := [.agg #[arv], ov, ii ((((os).length) - 1 : Nat) : Int)]) call65 rfl (l1Sub_spec (p := ((os).length) - 1) har hf2 (ho := (hol)) (hp := (by first | assumption | rfl | omega | simp))) ?_))))))))))))
      rintro v3 _ _ _ ⟨rfl, hs2, rfl⟩
      refine ⟨_, _, rfl, fun F14 le14 hz3 => ?_⟩
      replace hbs := hbs.mono le14
      replace har := har.mono le14
      replace hf2 := hf2.mono le14
      replace hr6 := hr6.mono le14
      have hf3 : IntsF F14 v3 ((sub ar os (((os).length) - 1))) := intsH.fz (xs := (sub ar os (((os).length) - 1))) hz3.fz
      refine cX (jk [ov, v3] [sN, sN] [(0, 1), (1, 1)] [(0, [ov]), (1, [v3])] jB zeroValue44 rfl (.cons rfl qy (.cons rfl qy PlacesAre.nil)) rfl (.cons (cells_one (qv hf2)) (.cons (cells_one (qv hf3)) CellsAre.nil)) (cX (qO [_, _] _ [ov, v3] sizeOf44 rfl rfl rfl (qw (qJ (qv hf2)) (qw (qJ (qv hf3)) qT)) rfl rfl rfl (qf (qu (ql (qI (ql (ql (qI (ql (qt (L' := curH .i64 75 cb bsv bs.length :: L) [.agg #[ov, v3]] (.agg #[ov, v3]) (.cell rfl (jt [ov, v3] isAgg44 sizeOf44 rfl (Rd.ownN [_, _] rfl rfl)) .nil) rfl (qc (qc (qc (qc (qc (qc (qc (qc le3 le4) leG1) le10) le11) le12) leG2) le13) le14) rF (sD (sD (sD (sD (sC sR))))) ?_))))))))))))
      exact ⟨⟨_, _, _, _, rfl, hf2, hf3, by omega, by have h9 := sub_le (ar := ar) (t := os) (p := os.length - 1); omega, (Fresh.app (((Fresh.one hz2).base (qc (qc (qc (qc le3 le4) leG1) le10) le11)).mono (qc leG2 le13)) (qc (qc (qc (qc (qc (qc (qc le3 le4) leG1) le10) le11) le12) leG2) le13) (Fresh.one hz3) le14)⟩, rfl⟩
     refine qz (qd (qi (x11) rfl (qi (ii ((k : Int))) rfl (qi (x12) rfl (cX (qD 0 qh qC rfl rfl rfl hr6.slv (by omega) (Nat.mul_one _) (cX (qm jj rfl (hr6.rd (by omega)) (cX (qD k qh qC rfl rfl rfl (intsH.slv [] rfl) (by omega) (Nat.mul_one _) (cX (intsH.storeX (i := k) (v := x11) [] _ (rr.set k (x13.getD 0 0)) qC rfl rfl rfl (by omega) rfl (qf (qd (qi (ii ((k : Int))) rfl ?_)))))))))))))))
     refine cX (qS (((k + 1 : Nat) : Int)) rfl rfl (by omega) (by omega) (qj (ii (((k + 1 : Nat) : Int))) rfl (qf ?_)))
     exact ⟨(k + 1, (rr.set k (x13.getD 0 0)), F13), _, (qc leG2 le13), rF, ⟨rfl, rfl, rfl, rfl, rfl, ⟨⟩⟩, (sC (sC (sC (sC (sC sR))))), ⟨rfl, (qc leG2 le13), (by (try dsimp only); (try rw [List.length_set]); omega), (by (try dsimp only); (try rw [List.length_set]); omega)⟩, (by (try dsimp only); (try rw [List.length_set]); omega)⟩
    refine qz (qd (qi (ii ((k : Int))) rfl (cX (qS (((k + 1 : Nat) : Int)) rfl rfl (by omega) (by omega) (qj (ii (((k + 1 : Nat) : Int))) rfl (qf ?_))))))
    exact ⟨(k + 1, rr, G2), _, leG2, rF, ⟨rfl, rfl, rfl, rfl, rfl, ⟨⟩⟩, (sC (sC (sC (sC (sC sR))))), ⟨rfl, leG2, (by (try dsimp only); (try rw [List.length_set]); omega), (by (try dsimp only); (try rw [List.length_set]); omega)⟩, (by (try dsimp only); (try rw [List.length_set]); omega)⟩
   refine qp (t := 59) rfl (vF h4) (qp (t := 59) rfl (vF h4) (qp (t := 59) rfl (vF h4) (qp (t := 59) rfl (vF h4) (qp (t := 59) rfl (vF h4) (qp (t := 59) rfl (vF h4) (qp (t := 59) rfl (vF h4) (cX (qM (.bool (false)) (vF h4) rfl (qf (jS rfl ?_))))))))))
   refine qz (qd (qi (ii ((k : Int))) rfl (cX (qS (((k + 1 : Nat) : Int)) rfl rfl (by omega) (by omega) (qj (ii (((k + 1 : Nat) : Int))) rfl (qf ?_))))))
   exact ⟨(k + 1, rr, G2), _, leG2, rF, ⟨rfl, rfl, rfl, rfl, rfl, ⟨⟩⟩, (sC (sC (sC (sC (sC sR))))), ⟨rfl, leG2, (by (try dsimp only); (try rw [List.length_set]); omega), (by (try dsimp only); (try rw [List.length_set]); omega)⟩, (by (try dsimp only); (try rw [List.length_set]); omega)⟩
  refine jn (qA (qA (qV (qg (qd (qi (ov) rfl (qi (x11) rfl (cX (jk [ov, x11] [sN, sN] [(0, 1), (1, 1)] [(0, [ov]), (1, [x11])] jB zeroValue44 rfl (.cons rfl qy (.cons rfl qy PlacesAre.nil)) rfl (.cons (cells_one (qv hf2)) (.cons (cells_one hsl3) CellsAre.nil)) (cX (qO [_, _] _ [ov, x11] sizeOf44 rfl rfl rfl (qw (qJ (qv hf2)) (qw (qJ hsl3) qT)) rfl rfl rfl (qf (ji [] _ _ rfl (fun F15 le15 hz4 => ?_))))))))))))))
  replace hbs := hbs.mono le15
  replace har := har.mono le15
  replace hf2 := hf2.mono le15
  have hf4 : IntsF F15 x11 rr := intsH.fz (xs := rr) hz4.fz
  refine qu (qt (L' := curH .i64 75 cb bsv bs.length :: L) [.agg #[ov, x11]] (.agg #[ov, x11]) (.cell rfl (jt [ov, x11] isAgg44 sizeOf44 rfl (Rd.ownN [_] rfl rfl)) .nil) rfl (qc (qc (qc (qc (qc (qc (qc le3 le4) leG1) le10) le11) le12) leG2) le15) rF (sD (sD (sD (sC sR)))) ?_)
  exact ⟨⟨_, _, _, _, rfl, hf2, hf4, by omega, by omega, (Fresh.app (((Fresh.one hz2).base (qc (qc (qc (qc le3 le4) leG1) le10) le11)).mono leG2) (qc (qc (qc (qc (qc (qc le3 le4) leG1) le10) le11) le12) leG2) (Fresh.one hz4) le15)⟩, rfl⟩
 refine qz (qg ?_)
 refine jG [intsH 2 x4 t1, cellsH b2 [sN, sN] 44, cellsH b1 [arv] 26, curH .i64 75 cb bsv bs.length] L 5 [[], [], [], [], [3]] [[], [], [], [2], [3]] [] (phiG [pe (ptr cb 0), pe (.agg #[arv]), pe (ptr cb 0), fun FF us v => (ii (((intAt v))) : Value) = v ∧ (0 ≤ ((intAt v)) ∧ (((intAt v)) < 3 ∨ ((intAt v)) = 0)), fun FF us v => v = (ii (1 + (((intAt (us.getD 0 undef))))) : Value)]) (ownL []) mixed rfl rfl (by kernel_rfl) (by kernel_rfl) (MonoG.get (m1 (m1 (m1 (mC (fun le h => ⟨h.1, h.2⟩) (mC (fun le h => h) MonoG.nil)))))) ?_ ?_
 ·refine gD (fun W Fs R lF z9 => ?_) ?_
  ·refine qk (qo (ptr cb 0) rfl ?_)
   exact ⟨rfl, rfl⟩
  refine gD (fun W Fs R lF z9 => ?_) ?_
  ·replace hbs := hbs.mono lF
   replace har := har.mono lF
   refine qk (qs [arv] qW qB rfl rfl (Rd.ownN [_, _] rfl rfl) ?_)
   exact ⟨rfl, rfl⟩
  refine gD (fun W Fs R lF z9 => ?_) ?_
  ·refine qk (qo (ptr cb 0) rfl ?_)
   exact ⟨rfl, rfl⟩
  refine gD (fun W Fs R lF z9 => ?_) ?_
  ·replace hbs := hbs.mono lF
   replace har := har.mono lF
   rw [zA 2 (z9 2 rfl)]
   refine qk (qn (args := [ptr cb 0, ii (3)]) jO rfl (qZ [_, _, _] (l1Below_spec (n := 3) hbs (by omega) (hn := (by first | assumption | rfl | omega | simp)))) ?_)
   rintro _ _ _ _ ⟨⟨rfl, x15, rfl, hr9⟩, rfl⟩
   exact ⟨⟨rfl, hr9⟩, rfl⟩
  refine gD (fun W Fs R lF z9 => ?_) ?_
  ·obtain ⟨e3, f3_3hx⟩ := z9 3 rfl
   rw [eS (l := [(3, (ii (((intAt (W 3))))))]) ⟨(e3).symm, ⟨⟩⟩]
   refine qk (qS (1 + (((intAt (W 3))))) rfl rfl (by omega) (by omega) ?_)
   exact ⟨rfl, rfl⟩
  exact stepsG.nil
 intro W F18 le18 hphi
 obtain ⟨e3, f3_3hx⟩ := hphi 3 (by decide)
 have e4 : W 4 = (ii (1 + (((intAt (W 3))))) : Value) := hphi 4 (by decide)
 generalize hu3 : (intAt (W 3)) = u3 at e3 f3_3hx e4
 rw [eS (l := [(0, _), (1, _), (3, (ii ((u3)))), (4, (ii (1 + ((u3)))))]) ⟨(hphi 0 (by decide)), (hphi 1 (by decide)), (e3).symm, e4, ⟨⟩⟩]
 replace hbs := hbs.mono le18
 replace har := har.mono le18
 show XL _ _ _ _ _ _ _ (intsH 2 x4 t1 :: cellsH b2 [sN, sN] 44 :: cellsH b1 [arv] 26 :: curH .i64 75 cb bsv bs.length :: L)
 refine cX (qn (args := [ptr cb 0, .agg #[arv], ii (((1 + ((u3))).toNat : Nat) : Int), ii (2)]) call75 (by rw [show (((1 + ((u3))).toNat : Nat) : Int) = 1 + ((u3)) from by omega]; rfl) (Does.atO [_, _, _] (l1DrawTerm_spec ((1 + ((u3))).toNat) (vs := 2) hbs (by omega) har (hso := (by first | assumption | rfl | omega | simp)) (hdp := (by first | assumption | rfl | omega | simp)) (hvs := (by first | assumption | rfl | omega | simp)))) ?_)
 rintro _ F19 _ le19 ⟨x17, ⟨rfl, hsl4⟩, rfl⟩
 replace har := har.mono le19
 show XL _ _ _ _ _ _ _ (drawnH 2 x17 (fun t => goodT ar t ∧ 1 ≤ t.length ∧ t.length ≤ szT ((1 + ((u3))).toNat)) :: intsH 2 x4 t1 :: cellsH b2 [sN, sN] 44 :: cellsH b1 [arv] 26 :: curH .i64 75 cb bsv bs.length :: L)
 refine XL.undraw [] rfl (fun t4 hq9 => ?_)
 obtain ⟨q10, q11, q12⟩ := hq9
 show XL _ _ _ _ _ _ _ (intsH 2 x17 t4 :: intsH 2 x4 t1 :: cellsH b2 [sN, sN] 44 :: cellsH b1 [arv] 26 :: curH .i64 75 cb bsv bs.length :: L)
 have hol : termOk ar t1 = true := goodT.ok hso (by omega) q1
 refine jf [_] _ _ rfl (fun F20 le20 hz5 => ?_)
 replace har := har.mono le20
 have hf5 : IntsF F20 x4 t1 := intsH.fz (xs := t1) hz5.fz
 have hy9 := szT_le (d := (1 + ((u3))).toNat) (e := 3) (by omega)
 refine qj (x17) rfl (qf (qg (qg (qd (qj (ii (0)) rfl (qf (qQ (jr (α := Nat × List Int × FH) (fun xQ => [(3, ptr b1 0), (4, ptr b2 0), (5, x4), (8, x17), (9, ii (((xQ.1 : Nat) : Int)))]) (fun xQ => intsH 2 x17 xQ.2.1 :: cellsH b2 [sN, sN] 44 :: cellsH b1 [arv] 26 :: curH .i64 75 cb bsv bs.length :: L) (fun xQ F' => xQ.2.2 = F' ∧ F20 ≤ xQ.2.2 ∧ (xQ.1 ≤ xQ.2.1.length) ∧ (xQ.2.1.length = t4.length)) (fun xQ => xQ.2.1.length - xQ.1) (0, t4, F20) ⟨rfl, rfl, rfl, rfl, rfl, ⟨⟩⟩ (sC (sC (sC (sC sR)))) ⟨rfl, FLe.refl _, (Nat.zero_le _), (rfl)⟩ ?_))))))))
 rintro ⟨k, rr, G3⟩ rE _ _ ⟨rfl, leG, hk, hrl⟩
 show X _ _ _ _ (envs [(3, ptr b1 0), (4, ptr b2 0), (5, x4), (8, x17), (9, ii ((k : Int)))] rE) _ (intsH 2 x17 rr :: cellsH b2 [sN, sN] 44 :: cellsH b1 [arv] 26 :: curH .i64 75 cb bsv bs.length :: L)
 replace leG : F20 ≤ G3 := leG
 dsimp only at hk hrl
 have leG3 := leG
 replace har := har.mono leG3
 replace hf5 := hf5.mono leG3
 refine qg (qg (qd (qi (ii ((k : Int))) rfl (qi (x17) rfl (cX (qE qh rfl (intsH.slv [] rfl) (cX (jb rfl rfl (qf ?_)))))))))
 refine qH (p := (k : Int) < (rr.length : Int)) rfl (fun h7 => ?_) (fun h7 => ?_)
 ·refine qz (qg (qQ (qg (qd (qi (x17) rfl (qi (ii ((k : Int))) rfl (cX (qD k qh qC rfl rfl rfl (intsH.slv [] rfl) (by omega) (Nat.mul_one _) (cX (qm jj rfl (intsH.rd [] rfl (by omega)) (cX (jb rfl rfl (qi (.bool (decide ((rr.getD k 0 : Int) < 0))) rfl ?_)))))))))))))
  by_cases h8 : (rr.getD k 0 : Int) < 0
  ·refine qr (t := 59) rfl (vT h8) (qo (x4) rfl (qr (t := 59) rfl (vT h8) (qo (x17) rfl (qr (t := 59) rfl (vT h8) (qo (ii ((k : Int))) rfl (qr (t := 59) rfl (vT h8) (qD k qh qC rfl rfl rfl (intsH.slv [] rfl) (by omega) (Nat.mul_one _) (qr (t := 59) rfl (vT h8) (qm jj rfl (intsH.rd [] rfl (by omega)) (qr (t := 59) rfl (vT h8) (qn (args := [x4, ii (rr.getD k 0)]) call102 rfl (l1Has_spec (n := rr.getD k 0) hf5 (hbd := (by first | assumption | rfl | omega | simp))) ?_)))))))))))
   rintro _ _ _ _ ⟨rfl, rfl, rfl⟩
   refine qr (t := 59) rfl (vT h8) (XOp.notD rfl (cX (qN (.bool (decide (¬((rr.getD k 0) ∈ t1)))) (vT h8) rfl (qf ?_))))
   refine qH (p := ¬((rr.getD k 0) ∈ t1)) rfl (fun h9 => ?_) (fun h9 => ?_)
   ·refine qg (qd (qi (x4) rfl (cX (qn (args := [x4]) call100 rfl (l2Order_spec hf5 (hlt := (by first | assumption | rfl | omega | simp))) ?_))))
    rintro _ F21 _ le21 ⟨⟨x18, x19, rfl, hr10, hr11⟩, rfl⟩
    replace har := har.mono le21
    replace hf5 := hf5.mono le21
    show XL _ _ _ _ _ _ _ (intsH 2 x17 rr :: cellsH b2 [sN, sN] 44 :: cellsH b1 [arv] 26 :: curH .i64 75 cb bsv bs.length :: L)
    refine qj (x18) rfl (qf (qg (qg (qd (qi (x18) rfl (cX (qE qh rfl hr10.slv (cX (jD rfl rfl (qf ?_))))))))))
    refine qH (p := ((x19.length : Int) : Int) = 0) rfl (fun h10 => ?_) (fun h10 => ?_)
    ·refine qg (qd (qi (x4) rfl (cX (qs [arv] qW qB rfl rfl (Rd.ownN [_, _] rfl rfl) (qi (x4) rfl (qi (x4) rfl (cX (qE qh rfl hf5.slv (cX (jl (((((t1).length) - 1 : Nat) : Int)) rfl rfl (by omega) (by omega) (cX (jR <| qn (args := [.agg #[arv], x4, ii ((((t1).length) - 1 : Nat) : Int)]) call65 rfl (l1Sub_spec (p := ((t1).length) - 1) har hf5 (ho := (hol)) (hp := (by first | assumption | rfl | omega | simp))) ?_))))))))))))
     rintro v4 _ _ _ ⟨rfl, hs3, rfl⟩
     refine ⟨_, _, rfl, fun F22 le22 hz6 => ?_⟩
     replace hf5 := hf5.mono le22
     replace hr10 := hr10.mono le22
     have hf6 : IntsF F22 v4 ((sub ar t1 (((t1).length) - 1))) := intsH.fz (xs := (sub ar t1 (((t1).length) - 1))) hz6.fz
     refine cX (jk [x4, v4] [sN, sN] [(0, 1), (1, 1)] [(0, [x4]), (1, [v4])] jB zeroValue44 rfl (.cons rfl qy (.cons rfl qy PlacesAre.nil)) rfl (.cons (cells_one (qv hf5)) (.cons (cells_one (qv hf6)) CellsAre.nil)) (cX (qO [_] _ [x4, v4] sizeOf44 rfl rfl rfl (qw (qJ (qv hf5)) (qw (qJ (qv hf6)) qT)) rfl rfl rfl (qf (qu (ql (qI (ql (ql (qI (ql (qt (L' := curH .i64 75 cb bsv bs.length :: L) [.agg #[x4, v4]] (.agg #[x4, v4]) (.cell rfl (jt [x4, v4] isAgg44 sizeOf44 rfl (Rd.ownN [_] rfl rfl)) .nil) rfl (qc (qc (qc (qc (qc (qc (qc le3 le4) le18) le19) le20) leG3) le21) le22) rF (sD (sD (sD (sC sR)))) ?_))))))))))))
     exact ⟨⟨_, _, _, _, rfl, hf5, hf6, by omega, by have h9 := sub_le (ar := ar) (t := t1) (p := t1.length - 1); omega, (Fresh.app (((Fresh.one hz5).base (qc (qc (qc le3 le4) le18) le19)).mono (qc leG3 le21)) (qc (qc (qc (qc (qc (qc le3 le4) le18) le19) le20) leG3) le21) (Fresh.one hz6) le22)⟩, rfl⟩
    refine qz (qd (qi (x17) rfl (qi (ii ((k : Int))) rfl (qi (x18) rfl (cX (qD 0 qh qC rfl rfl rfl hr10.slv (by omega) (Nat.mul_one _) (cX (qm jj rfl (hr10.rd (by omega)) (cX (qD k qh qC rfl rfl rfl (intsH.slv [] rfl) (by omega) (Nat.mul_one _) (cX (intsH.storeX (i := k) (v := x17) [] _ (rr.set k (x19.getD 0 0)) qC rfl rfl rfl (by omega) rfl (qf (qd (qi (ii ((k : Int))) rfl ?_)))))))))))))))
    refine cX (qS (((k + 1 : Nat) : Int)) rfl rfl (by omega) (by omega) (qj (ii (((k + 1 : Nat) : Int))) rfl (qf ?_)))
    exact ⟨(k + 1, (rr.set k (x19.getD 0 0)), F21), _, (qc leG3 le21), rF, ⟨rfl, rfl, rfl, rfl, rfl, ⟨⟩⟩, (sC (sC (sC (sC sR)))), ⟨rfl, (qc leG3 le21), (by (try dsimp only); (try rw [List.length_set]); omega), (by (try dsimp only); (try rw [List.length_set]); omega)⟩, (by (try dsimp only); (try rw [List.length_set]); omega)⟩
   refine qz (qd (qi (ii ((k : Int))) rfl (cX (qS (((k + 1 : Nat) : Int)) rfl rfl (by omega) (by omega) (qj (ii (((k + 1 : Nat) : Int))) rfl (qf ?_))))))
   exact ⟨(k + 1, rr, G3), _, leG3, rF, ⟨rfl, rfl, rfl, rfl, rfl, ⟨⟩⟩, (sC (sC (sC (sC sR)))), ⟨rfl, leG3, (by (try dsimp only); (try rw [List.length_set]); omega), (by (try dsimp only); (try rw [List.length_set]); omega)⟩, (by (try dsimp only); (try rw [List.length_set]); omega)⟩
  refine qp (t := 59) rfl (vF h8) (qp (t := 59) rfl (vF h8) (qp (t := 59) rfl (vF h8) (qp (t := 59) rfl (vF h8) (qp (t := 59) rfl (vF h8) (qp (t := 59) rfl (vF h8) (qp (t := 59) rfl (vF h8) (cX (qM (.bool (false)) (vF h8) rfl (qf (jS rfl ?_))))))))))
  refine qz (qd (qi (ii ((k : Int))) rfl (cX (qS (((k + 1 : Nat) : Int)) rfl rfl (by omega) (by omega) (qj (ii (((k + 1 : Nat) : Int))) rfl (qf ?_))))))
  exact ⟨(k + 1, rr, G3), _, leG3, rF, ⟨rfl, rfl, rfl, rfl, rfl, ⟨⟩⟩, (sC (sC (sC (sC sR)))), ⟨rfl, leG3, (by (try dsimp only); (try rw [List.length_set]); omega), (by (try dsimp only); (try rw [List.length_set]); omega)⟩, (by (try dsimp only); (try rw [List.length_set]); omega)⟩
 refine jn (qA (qA (qV (qg (qd (qi (x4) rfl (qi (x17) rfl (cX (jk [x4, x17] [sN, sN] [(0, 1), (1, 1)] [(0, [x4]), (1, [x17])] jB zeroValue44 rfl (.cons rfl qy (.cons rfl qy PlacesAre.nil)) rfl (.cons (cells_one (qv hf5)) (.cons (cells_one hsl4) CellsAre.nil)) (cX (qO [_] _ [x4, x17] sizeOf44 rfl rfl rfl (qw (qJ (qv hf5)) (qw (qJ hsl4) qT)) rfl rfl rfl (qf (ji [] _ _ rfl (fun F23 le23 hz7 => ?_))))))))))))))
 replace hf5 := hf5.mono le23
 have hf7 : IntsF F23 x17 rr := intsH.fz (xs := rr) hz7.fz
 refine qu (qt (L' := curH .i64 75 cb bsv bs.length :: L) [.agg #[x4, x17]] (.agg #[x4, x17]) (.cell rfl (jt [x4, x17] isAgg44 sizeOf44 rfl (Rd.ownN [] rfl rfl)) .nil) rfl (qc (qc (qc (qc (qc (qc le3 le4) le18) le19) le20) leG3) le23) rF (sD (sD (sC sR))) ?_)
 exact ⟨⟨_, _, _, _, rfl, hf5, hf7, by omega, by omega, (Fresh.app (((Fresh.one hz5).base (qc (qc (qc le3 le4) le18) le19)).mono leG3) (qc (qc (qc (qc (qc le3 le4) le18) le19) le20) leG3) (Fresh.one hz7) le23)⟩, rfl⟩
theorem l1DrawTermF_spec (dp : Nat) {F : FH} {L : List HP} {cb : Nat} {bsv : Value} {bs : List Int} (hbs : BytesF F bsv bs) (hbl : bs.length ≤ 4000000) {arv : Value} {ar : List Int} (har : IntsF F arv ar) {vs : Int} (hso : sigOk ar = true) (hdp : dp ≤ 5) (hvs : 0 ≤ vs ∧ vs ≤ 24) :
    Does prog 75 [ptr cb 0, .agg #[arv], ii ((dp : Nat) : Int), .int .i64 vs] F (curH .i64 75 cb bsv bs.length :: L) (fun v F' L' => (∃ (a : Value), (a : Value) = v ∧ (SomeFrsF 2 F F' a (fun t => goodT ar t ∧ 1 ≤ t.length ∧ t.length ≤ szT dp))) ∧ curH .i64 75 cb bsv bs.length :: L = L') :=
  Does.drawnF (l1DrawTerm_spec dp hbs hbl har hso hdp hvs)

/- spec.l27DrawRule -/
set_option maxHeartbeats 1000000 in
set_option maxRecDepth 20000 in
theorem l27DrawRule_spec {F : FH} {L : List HP} {cb : Nat} {bsv : Value} {bs : List Int} (hbs : BytesF F bsv bs) (hbl : bs.length ≤ 4000000) {arv : Value} {ar : List Int} (har : IntsF F arv ar) (hso : sigOk ar = true) :
    Does prog 84 [ptr cb 0, .agg #[arv]] F (curH .i64 75 cb bsv bs.length :: L) (fun v F' L' => (∃ (a : Value), ∃ (b : Value), ∃ (c : Value), (.agg #[a, b, c] : Value) = v ∧ (SomeCRulesF 2 71 F F' a b c)) ∧ curH .i64 75 cb bsv bs.length :: L = L') := by
 refine qL func84 rfl rfl rfl ?_
 have hz2 : szT 2 = 13 := rfl
 refine qg (qd (cX (je [arv] rfl rfl ?_)))
 intro b1
 refine cX (jm [sN, sN, sN] jP rfl ?_)
 intro b2
 refine qf (qg (qd (qi (ptr cb 0) rfl (cX (qs [arv] qW qB rfl rfl (Rd.ownN [_] rfl rfl) (cX (qn (args := [ptr cb 0, .agg #[arv]]) call99 rfl (qZ [_, _] (l6DrawRuleF_spec hbs (by omega) har (hso := (by first | assumption | rfl | omega | simp)))) ?_)))))))
 rintro _ F1 _ le1 ⟨⟨x1, x2, x3, x4, rfl, hr1, hr2, hr3, hr4, hr5⟩, rfl⟩
 replace hbs := hbs.mono le1
 replace har := har.mono le1
 show XL _ _ _ _ _ _ _ (cellsH b2 [sN, sN, sN] 51 :: cellsH b1 [arv] 26 :: curH .i64 75 cb bsv bs.length :: L)
 skip
 refine cX (jm [sN, sN] zeroValue44 rfl ?_)
 intro b3
 refine cX (qO [] _ [x1, x2] sizeOf44 rfl rfl rfl (qw (qJ (qv hr1)) (qw (qJ (qv hr2)) qT)) rfl rfl rfl (qf (qg (qd (cX (qq (0) jB rfl qy (by decide) rfl rfl (cX (qm qX rfl (Rd.own [] rfl rfl) (cX (qq (1) jB rfl qy (by decide) rfl rfl (cX (qm qX rfl (Rd.own [] rfl rfl) (cX (jk [x1, x2, sN] [sN, sN, sN] [(0, 1), (1, 1), (2, 1)] [(0, [x1]), (1, [x2])] qR jP rfl (.cons rfl qy (.cons rfl qy (.cons rfl jx PlacesAre.nil))) rfl (.cons (cells_one (qv hr1)) (.cons (cells_one (qv hr2)) CellsAre.nil)) (cX (jm [sN, sN, sN] jP rfl ?_))))))))))))))))
 intro b4
 refine cX (qO [] _ [x1, x2, sN] jv rfl rfl rfl (qw (qJ (qv hr1)) (qw (qJ (qv hr2)) (qw rfl qT))) rfl rfl rfl (qf (qg (qd (cX (qq (0) jB rfl qy (by decide) rfl rfl (cX (qm qX rfl (Rd.own [_] rfl rfl) (cX (qn (args := [x1]) call100 rfl (l2Order_spec hr1 (hlt := (by first | assumption | rfl | omega | simp))) ?_))))))))))
 rintro _ F2 _ le2 ⟨⟨x5, x6, rfl, hr6, hr7⟩, rfl⟩
 replace hbs := hbs.mono le2
 replace har := har.mono le2
 replace hr1 := hr1.mono le2
 replace hr2 := hr2.mono le2
 show XL _ _ _ _ _ _ _ (cellsH b4 [x1, x2, sN] 51 :: cellsH b3 [x1, x2] 44 :: cellsH b2 [sN, sN, sN] 51 :: cellsH b1 [arv] 26 :: curH .i64 75 cb bsv bs.length :: L)
 refine qj (x5) rfl (qf (qg (qg (qd (qi (ptr cb 0) rfl (cX (qn (args := [ptr cb 0, ii (3)]) jO rfl (qZ [_, _, _, _] (l1Below_spec (n := 3) hbs (by omega) (hn := (by first | assumption | rfl | omega | simp)))) ?_)))))))
 rintro _ _ _ _ ⟨⟨rfl, x7, rfl, hr8⟩, rfl⟩
 show XL _ _ _ _ _ _ _ (cellsH b4 [x1, x2, sN] 51 :: cellsH b3 [x1, x2] 44 :: cellsH b2 [sN, sN, sN] 51 :: cellsH b1 [arv] 26 :: curH .i64 75 cb bsv bs.length :: L)
 refine qj (ii (x7)) rfl (qf (qQ (jr (α := Nat × Value × List (List Int × List Int) × List Value × List HP × Nat × FH) (fun xQ => [(0, ptr cb 0), (3, ptr b1 0), (4, ptr b2 0), (6, ptr b4 0), (7, x5), (8, ii (((xQ.1 : Nat) : Int)))]) (fun xQ => slH 71 2 xQ.2.1 xQ.2.2.2.2.2.1 xQ.2.2.2.1 :: cellsH b4 [x1, x2, xQ.2.1] 51 :: cellsH b3 [x1, x2] 44 :: cellsH b2 [sN, sN, sN] 51 :: cellsH b1 [arv] 26 :: curH .i64 75 cb bsv bs.length :: L) (fun xQ F' => xQ.2.2.2.2.2.2 = F' ∧ F2 ≤ xQ.2.2.2.2.2.2 ∧ (IsSl xQ.2.1) ∧ (PairsC xQ.2.2.2.2.2.2 xQ.2.2.2.1 xQ.2.2.1) ∧ (xQ.2.2.2.2.2.1 = xQ.2.2.1.length) ∧ (xQ.2.2.1.length + xQ.1 ≤ 2) ∧ (condsS xQ.2.2.1.length xQ.2.2.1) ∧ (DeepL 2 (PairO 2) xQ.2.2.2.1 xQ.2.2.1 xQ.2.2.2.2.1) ∧ (Fresh F2 xQ.2.2.2.2.2.2 (star xQ.2.2.2.2.1))) (fun xQ => xQ.1) (x7.toNat, sN, [], [], [], 0, F2) ⟨rfl, rfl, rfl, rfl, rfl, (vI (by omega)), ⟨⟩⟩ (jN (Sub.addNil 71 2 _ _) (sC (sC (sC (sC (sC (sC sR))))))) ⟨rfl, FLe.refl _, (⟨_, _, _, rfl⟩), (CO.nil), (rfl), (by (try dsimp only); simp only [List.length_nil]; omega), (condsS_nil), (DeepL.nil), (Fresh.nilL)⟩ ?_)))
 rintro ⟨n, ov, os, cs, Ls, m, G1⟩ rE _ _ ⟨rfl, leG, hov, hC, hm, hon, hos, hD, hZ⟩
 show X _ _ _ _ (envs [(0, ptr cb 0), (3, ptr b1 0), (4, ptr b2 0), (6, ptr b4 0), (7, x5), (8, ii ((n : Int)))] rE) _ (slH 71 2 ov m cs :: cellsH b4 [x1, x2, ov] 51 :: cellsH b3 [x1, x2] 44 :: cellsH b2 [sN, sN, sN] 51 :: cellsH b1 [arv] 26 :: curH .i64 75 cb bsv bs.length :: L)
 replace leG : F2 ≤ G1 := leG
 dsimp only at hov hC hm hon hos hD hZ
 have leG1 := leG
 replace hbs := hbs.mono leG1
 replace har := har.mono leG1
 replace hr1 := hr1.mono leG1
 replace hr2 := hr2.mono leG1
 replace hr6 := hr6.mono leG1
 refine qg (qg (qd (qi (ii ((n : Int))) rfl (cX (jF rfl rfl (qi (.bool (decide ((n : Int) > 0))) rfl ?_))))))
 by_cases h1 : (n : Int) > 0
 ·refine qr (t := 25) rfl (vT h1) (qo (x5) rfl (qr (t := 25) rfl (vT h1) (qE qh rfl hr6.slv (qr (t := 25) rfl (vT h1) (jF rfl rfl (cX (qN (.bool (decide (((x6.length : Int) : Int) > 0))) (vT h1) rfl (qf ?_))))))))
  refine qH (p := ((x6.length : Int) : Int) > 0) rfl (fun h2 => ?_) (fun h2 => ?_)
  ·refine qz (qg (qQ (qg (qd (qi (ptr cb 0) rfl (cX (qs [arv] qW qB rfl rfl (Rd.ownN [_, _, _, _] rfl rfl) (cX (qn (args := [ptr cb 0, .agg #[arv], ii ((2 : Nat) : Int), ii (0)]) call75 rfl (Does.atO [_, _, _, _, _] (l1DrawTerm_spec 2 (vs := 0) hbs (by omega) har (hso := (by first | assumption | rfl | omega | simp)) (hdp := (by first | assumption | rfl | omega | simp)) (hvs := (by first | assumption | rfl | omega | simp)))) ?_)))))))))
   rintro _ F4 _ le4 ⟨x9, ⟨rfl, hsl1⟩, rfl⟩
   replace hbs := hbs.mono le4
   replace har := har.mono le4
   replace hr1 := hr1.mono le4
   replace hr2 := hr2.mono le4
   replace hr6 := hr6.mono le4
   replace hC := hC.mono le4
   show XL _ _ _ _ _ _ _ (drawnH 2 x9 (fun t => goodT ar t ∧ 1 ≤ t.length ∧ t.length ≤ szT 2) :: slH 71 2 ov m cs :: cellsH b4 [x1, x2, ov] 51 :: cellsH b3 [x1, x2] 44 :: cellsH b2 [sN, sN, sN] 51 :: cellsH b1 [arv] 26 :: curH .i64 75 cb bsv bs.length :: L)
   refine XL.undraw [] rfl (fun t1 hq9 => ?_)
   obtain ⟨q1, q2, q3⟩ := hq9
   show XL _ _ _ _ _ _ _ (intsH 2 x9 t1 :: slH 71 2 ov m cs :: cellsH b4 [x1, x2, ov] 51 :: cellsH b3 [x1, x2] 44 :: cellsH b2 [sN, sN, sN] 51 :: cellsH b1 [arv] 26 :: curH .i64 75 cb bsv bs.length :: L)
   refine qj (x9) rfl (qf (qg (qg (qd (qi (ptr cb 0) rfl (cX (qn (args := [ptr cb 0, ii (2)]) call28 rfl (qZ [_, _, _, _, _, _] (l1Once_spec (n := 2) hbs (by omega) (hn := (by first | assumption | rfl | omega | simp)))) ?_)))))))
   rintro _ _ _ _ ⟨⟨rfl, x10, rfl⟩, rfl⟩
   show XL _ _ _ _ _ _ _ (intsH 2 x9 t1 :: slH 71 2 ov m cs :: cellsH b4 [x1, x2, ov] 51 :: cellsH b3 [x1, x2] 44 :: cellsH b2 [sN, sN, sN] 51 :: cellsH b1 [arv] 26 :: curH .i64 75 cb bsv bs.length :: L)
   refine qf ?_
   refine js (t := x10) rfl (fun h3 => ?_) (fun h3 => ?_)
   ·refine qd (qi (x5) rfl (cX (qD 0 qh qC rfl rfl rfl hr6.slv (by omega) (Nat.mul_one _) (cX (qm jj rfl (hr6.rd (by omega)) (cX (qx (s := 1) [ii (x6.getD 0 0)] [ii (0)] [(0, [ii (x6.getD 0 0)])] qh qC qP rfl (by decide) rfl (.cons rfl CellsAre.nil) rfl ?_)))))))
    intro v1 hv1
    refine qj (v1) rfl (qf ?_)
    show X _ _ _ _ _ _ (intsH 2 v1 ([x6.getD 0 0] : List Int) :: intsH 2 x9 t1 :: slH 71 2 ov m cs :: cellsH b4 [x1, x2, ov] 51 :: cellsH b3 [x1, x2] 44 :: cellsH b2 [sN, sN, sN] 51 :: cellsH b1 [arv] 26 :: curH .i64 75 cb bsv bs.length :: L)
    refine ji [] _ _ rfl (fun F6 le6 hz1 => ?_)
    replace hbs := hbs.mono le6
    replace har := har.mono le6
    replace hr1 := hr1.mono le6
    replace hr2 := hr2.mono le6
    replace hC := hC.mono le6
    have hf1 : IntsF F6 v1 ([x6.getD 0 0]) := intsH.fz (xs := [x6.getD 0 0]) hz1.fz
    refine jG [intsH 2 x9 t1, slH 71 2 ov m cs, cellsH b4 [x1, x2, ov] 51, cellsH b3 [x1, x2] 44, cellsH b2 [sN, sN, sN] 51, cellsH b1 [arv] 26, curH .i64 75 cb bsv bs.length] L 8 [[], [], [], [], [], [], [5], [5]] [[], [0], [], [], [], [3, 4], [2, 5], [5, 6]] [] (phiG [pe (ptr b4 2), pe ov, pe v1, pe (ptr cb 0), pe (.agg #[arv]), fun FF us v => ((v) : Value) = v ∧ (SomeFrsF 2 F6 FF (v) (fun t => goodT ar t ∧ 1 ≤ t.length ∧ t.length ≤ szT 2)), fun FF us v => v = (.agg #[v1, ((us.getD 0 undef))] : Value), fun FF us v => ∃ b, v = .slice (some ⟨b, 0, none⟩) 1 1]) (ownL [o0, o0, o0, o0, o0, o0, o0, fun us v => [slH 71 2 v 1 [v1, ((us.getD 0 undef))]]]) mixed rfl rfl (by kernel_rfl) (by kernel_rfl) (MonoG.get (m1 (m1 (m1 (m1 (m1 (mC (fun le h => ⟨h.1, h.2.mono le⟩) (mC (fun le h => h) (mC (fun le h => h) MonoG.nil))))))))) ?_ ?_
    ·refine gD (fun W Fs R lF z9 => ?_) ?_
     ·refine qk (qq (2) qR rfl jx (by decide) rfl rfl ?_)
      exact ⟨rfl, rfl⟩
     refine gD (fun W Fs R lF z9 => ?_) ?_
     ·replace hbs := hbs.mono lF
      replace har := har.mono lF
      replace hr1 := hr1.mono lF
      replace hr2 := hr2.mono lF
      replace hC := hC.mono lF
      replace hf1 := hf1.mono lF
      rw [zA 0 (z9 0 rfl)]
      refine qk (qm isAgg49 rfl (Rd.own [_, _] rfl rfl) ?_)
      exact ⟨rfl, rfl⟩
     refine gD (fun W Fs R lF z9 => ?_) ?_
     ·refine qk (qo (v1) rfl ?_)
      exact ⟨rfl, rfl⟩
     refine gD (fun W Fs R lF z9 => ?_) ?_
     ·refine qk (qo (ptr cb 0) rfl ?_)
      exact ⟨rfl, rfl⟩
     refine gD (fun W Fs R lF z9 => ?_) ?_
     ·replace hbs := hbs.mono lF
      replace har := har.mono lF
      replace hr1 := hr1.mono lF
      replace hr2 := hr2.mono lF
      replace hC := hC.mono lF
      replace hf1 := hf1.mono lF
      refine qk (qs [arv] qW qB rfl rfl (Rd.ownN [_, _, _, _, _] rfl rfl) ?_)
      exact ⟨rfl, rfl⟩
     refine gD (fun W Fs R lF z9 => ?_) ?_
     ·replace hbs := hbs.mono lF
      replace har := har.mono lF
      replace hr1 := hr1.mono lF
      replace hr2 := hr2.mono lF
      replace hC := hC.mono lF
      replace hf1 := hf1.mono lF
      rw [zB 3 4 (z9 3 rfl) (z9 4 rfl)]
      refine qk (qn (args := [ptr cb 0, .agg #[arv], ii ((2 : Nat) : Int), ii (3)]) call75 rfl (qZ [_, _, _, _, _, _] (l1DrawTermF_spec (dp := 2) (vs := 3) hbs (by omega) har (hso := (by first | assumption | rfl | omega | simp)) (hdp := (by first | assumption | rfl | omega | simp)) (hvs := (by first | assumption | rfl | omega | simp)))) ?_)
      rintro _ F8 _ le8 ⟨⟨x12, rfl, hr10⟩, rfl⟩
      replace hbs := hbs.mono le8
      replace har := har.mono le8
      replace hr1 := hr1.mono le8
      replace hr2 := hr2.mono le8
      replace hC := hC.mono le8
      replace hf1 := hf1.mono le8
      exact ⟨⟨rfl, (hr10.base lF)⟩, rfl⟩
     refine gD (fun W Fs R lF z9 => ?_) ?_
     ·obtain ⟨e5, f5_1hp⟩ := z9 5 rfl
      obtain ⟨t5_1, hf5_1, hq5_1, hz5_1⟩ := id f5_1hp
      replace hbs := hbs.mono lF
      replace har := har.mono lF
      replace hr1 := hr1.mono lF
      replace hr2 := hr2.mono lF
      replace hC := hC.mono lF
      replace hf1 := hf1.mono lF
      rw [eS (l := [(2, _), (5, ((W 5)))]) ⟨z9 2 rfl, (e5).symm, ⟨⟩⟩]
      refine qk (jk [v1, ((W 5))] [sN, sN] [(0, 1), (1, 1)] [(0, [v1]), (1, [((W 5))])] jw jM rfl (.cons rfl qy (.cons rfl qy PlacesAre.nil)) rfl (.cons (cells_one (qv hf1)) (.cons (cells_one (qv hf5_1)) CellsAre.nil)) ?_)
      exact ⟨rfl, rfl⟩
     refine gD (fun W Fs R lF z9 => ?_) ?_
     ·obtain ⟨e5, f5_1hp⟩ := z9 5 rfl
      obtain ⟨t5_1, hf5_1, hq5_1, hz5_1⟩ := id f5_1hp
      have e6 : W 6 = (.agg #[v1, ((W 5))] : Value) := z9 6 rfl
      replace hbs := hbs.mono lF
      replace har := har.mono lF
      replace hr1 := hr1.mono lF
      replace hr2 := hr2.mono lF
      replace hC := hC.mono lF
      replace hf1 := hf1.mono lF
      rw [eS (l := [(5, ((W 5))), (6, (.agg #[v1, ((W 5))]))]) ⟨(e5).symm, e6, ⟨⟩⟩]
      refine qk (qx (s := 2) [v1, ((W 5))] [sN, sN] [(0, [v1, ((W 5))])] jh jK jM rfl (by decide) rfl (.cons rfl CellsAre.nil) rfl ?_)
      intro v3 hv3
      exact ⟨hv3, rfl⟩
     exact stepsG.nil
    intro W F9 le9 hphi
    obtain ⟨e5, f5_1hp⟩ := hphi 5 (by decide)
    obtain ⟨t5_1, hf5_1, hq5_1, hz5_1⟩ := id f5_1hp
    have e6 : W 6 = (.agg #[v1, ((W 5))] : Value) := hphi 6 (by decide)
    have f7 : ∃ b, (W 7) = .slice (some ⟨b, 0, none⟩) 1 1 := hphi 7 (by decide)
    generalize hu1 : ((W 5)) = u1 at e5 f5_1hp hf5_1 hq5_1 hz5_1 e6 f7
    generalize huu7 : W 7 = u2 at e5 f5_1hp hf5_1 hq5_1 hz5_1 e6 f7
    rw [eS (l := [(1, _), (5, u1), (7, u2)]) ⟨(hphi 1 (by decide)), hu1, huu7, ⟨⟩⟩]
    replace hbs := hbs.mono le9
    replace har := har.mono le9
    replace hr1 := hr1.mono le9
    replace hr2 := hr2.mono le9
    replace hC := hC.mono le9
    replace hf1 := hf1.mono le9
    show XL _ _ _ _ _ _ _ (slH 71 2 u2 1 [v1, u1] :: intsH 2 x9 t1 :: slH 71 2 ov m cs :: cellsH b4 [x1, x2, ov] 51 :: cellsH b3 [x1, x2] 44 :: cellsH b2 [sN, sN, sN] 51 :: cellsH b1 [arv] 26 :: curH .i64 75 cb bsv bs.length :: L)
    refine cX (XOp.append (m := 1) (bytes := 48) (cs := cs) [_, _] _ [v1, u1] jh typeInfo71 rfl rfl rfl rfl rfl rfl rfl (SlV.own [] rfl) rfl (Rd.lit [] rfl) (qw (qJ (qv hf1)) (qw (qJ (qv hf5_1)) qT)) (by (try simp only [List.length_append, List.length_nil, List.length_cons, List.length_singleton]); omega) (by (try simp only [List.length_append, List.length_nil, List.length_cons, List.length_singleton]); omega) ?_)
    intro v4 hs1 hn1 hm1
    have hc1 := PairsC.snoc hC hf1 hf5_1
    refine cX (qq (2) qR rfl jx (by decide) rfl rfl (cX (jL [_, _, _] _ [x1, x2, v4] jx rfl rfl (qJ hs1) rfl rfl rfl (qf (qd (qi (ii ((n : Int))) rfl (cX (jl (((n : Int)) - 1) rfl rfl (by omega) (by omega) (qj (ii (((n : Int)) - 1)) rfl (qf ?_))))))))))
    have hj9 := cond_moreF hD (Fresh.app (Fresh.app (hZ.mono le4) (qc leG1 le4) (Fresh.one hz1) le6) (qc (qc leG1 le4) le6) (Fresh.one hz5_1) le9)
    obtain ⟨L9, hd9, hf9⟩ := hj9
    exact ⟨(n - 1, v4, os ++ [([x6.getD 0 0], t5_1)], cs ++ [v1, u1], L9, (m) + 1, F9), _, (qc (qc (qc leG1 le4) le6) le9), rF, ⟨rfl, rfl, rfl, rfl, rfl, (vI (by (try dsimp only); omega)), ⟨⟩⟩, (sD (sD (sC (sC (sC (sC (sC (sC sR)))))))), ⟨rfl, (qc (qc (qc leG1 le4) le6) le9), (hs1), (hc1), (by (try dsimp only); rw [List.length_append]; simp only [List.length_singleton]; omega), (by (try dsimp only); rw [List.length_append]; simp only [List.length_singleton]; omega), (by (try dsimp only); rw [List.length_append]; exact condsS_snoc hos (by first | (simp; done) | omega) (by have h9 := hq5_1; omega)), (hd9), (hf9)⟩, (by (try dsimp only); omega)⟩
   refine qz (ji [] _ _ rfl (fun F10 le10 hz2 => ?_))
   replace hbs := hbs.mono le10
   replace har := har.mono le10
   replace hr1 := hr1.mono le10
   replace hr2 := hr2.mono le10
   replace hC := hC.mono le10
   have hf2 : IntsF F10 x9 t1 := intsH.fz (xs := t1) hz2.fz
   refine jG [slH 71 2 ov m cs, cellsH b4 [x1, x2, ov] 51, cellsH b3 [x1, x2] 44, cellsH b2 [sN, sN, sN] 51, cellsH b1 [arv] 26, curH .i64 75 cb bsv bs.length] L 8 [[], [], [], [], [], [], [5], [5]] [[], [0], [], [], [], [3, 4], [2, 5], [5, 6]] [] (phiG [pe (ptr b4 2), pe ov, pe x9, pe (ptr cb 0), pe (.agg #[arv]), fun FF us v => ((v) : Value) = v ∧ (SomeFrsF 2 F10 FF (v) (fun t => goodT ar t ∧ 1 ≤ t.length ∧ t.length ≤ szT 2)), fun FF us v => v = (.agg #[x9, ((us.getD 0 undef))] : Value), fun FF us v => ∃ b, v = .slice (some ⟨b, 0, none⟩) 1 1]) (ownL [o0, o0, o0, o0, o0, o0, o0, fun us v => [slH 71 2 v 1 [x9, ((us.getD 0 undef))]]]) mixed rfl rfl (by kernel_rfl) (by kernel_rfl) (MonoG.get (m1 (m1 (m1 (m1 (m1 (mC (fun le h => ⟨h.1, h.2.mono le⟩) (mC (fun le h => h) (mC (fun le h => h) MonoG.nil))))))))) ?_ ?_
   ·refine gD (fun W Fs R lF z9 => ?_) ?_
    ·refine qk (qq (2) qR rfl jx (by decide) rfl rfl ?_)
     exact ⟨rfl, rfl⟩
    refine gD (fun W Fs R lF z9 => ?_) ?_
    ·replace hbs := hbs.mono lF
     replace har := har.mono lF
     replace hr1 := hr1.mono lF
     replace hr2 := hr2.mono lF
     replace hC := hC.mono lF
     replace hf2 := hf2.mono lF
     rw [zA 0 (z9 0 rfl)]
     refine qk (qm isAgg49 rfl (Rd.own [_] rfl rfl) ?_)
     exact ⟨rfl, rfl⟩
    refine gD (fun W Fs R lF z9 => ?_) ?_
    ·refine qk (qo (x9) rfl ?_)
     exact ⟨rfl, rfl⟩
    refine gD (fun W Fs R lF z9 => ?_) ?_
    ·refine qk (qo (ptr cb 0) rfl ?_)
     exact ⟨rfl, rfl⟩
    refine gD (fun W Fs R lF z9 => ?_) ?_
    ·replace hbs := hbs.mono lF
     replace har := har.mono lF
     replace hr1 := hr1.mono lF
     replace hr2 := hr2.mono lF
     replace hC := hC.mono lF
     replace hf2 := hf2.mono lF
     refine qk (qs [arv] qW qB rfl rfl (Rd.ownN [_, _, _, _] rfl rfl) ?_)
     exact ⟨rfl, rfl⟩
    refine gD (fun W Fs R lF z9 => ?_) ?_
    ·replace hbs := hbs.mono lF
     replace har := har.mono lF
     replace hr1 := hr1.mono lF
     replace hr2 := hr2.mono lF
     replace hC := hC.mono lF
     replace hf2 := hf2.mono lF
     rw [zB 3 4 (z9 3 rfl) (z9 4 rfl)]
     refine qk (qn (args := [ptr cb 0, .agg #[arv], ii ((2 : Nat) : Int), ii (3)]) call75 rfl (qZ [_, _, _, _, _] (l1DrawTermF_spec (dp := 2) (vs := 3) hbs (by omega) har (hso := (by first | assumption | rfl | omega | simp)) (hdp := (by first | assumption | rfl | omega | simp)) (hvs := (by first | assumption | rfl | omega | simp)))) ?_)
     rintro _ F12 _ le12 ⟨⟨x14, rfl, hr12⟩, rfl⟩
     replace hr1 := hr1.mono le12
     replace hr2 := hr2.mono le12
     replace hC := hC.mono le12
     replace hf2 := hf2.mono le12
     exact ⟨⟨rfl, (hr12.base lF)⟩, rfl⟩
    refine gD (fun W Fs R lF z9 => ?_) ?_
    ·obtain ⟨e5, f5_2hp⟩ := z9 5 rfl
     obtain ⟨t5_2, hf5_2, hq5_2, hz5_2⟩ := id f5_2hp
     replace hr1 := hr1.mono lF
     replace hr2 := hr2.mono lF
     replace hC := hC.mono lF
     replace hf2 := hf2.mono lF
     rw [eS (l := [(2, _), (5, ((W 5)))]) ⟨z9 2 rfl, (e5).symm, ⟨⟩⟩]
     refine qk (jk [x9, ((W 5))] [sN, sN] [(0, 1), (1, 1)] [(0, [x9]), (1, [((W 5))])] jw jM rfl (.cons rfl qy (.cons rfl qy PlacesAre.nil)) rfl (.cons (cells_one (qv hf2)) (.cons (cells_one (qv hf5_2)) CellsAre.nil)) ?_)
     exact ⟨rfl, rfl⟩
    refine gD (fun W Fs R lF z9 => ?_) ?_
    ·obtain ⟨e5, f5_2hp⟩ := z9 5 rfl
     obtain ⟨t5_2, hf5_2, hq5_2, hz5_2⟩ := id f5_2hp
     have e6 : W 6 = (.agg #[x9, ((W 5))] : Value) := z9 6 rfl
     replace hr1 := hr1.mono lF
     replace hr2 := hr2.mono lF
     replace hC := hC.mono lF
     replace hf2 := hf2.mono lF
     rw [eS (l := [(5, ((W 5))), (6, (.agg #[x9, ((W 5))]))]) ⟨(e5).symm, e6, ⟨⟩⟩]
     refine qk (qx (s := 2) [x9, ((W 5))] [sN, sN] [(0, [x9, ((W 5))])] jh jK jM rfl (by decide) rfl (.cons rfl CellsAre.nil) rfl ?_)
     intro v6 hv5
     exact ⟨hv5, rfl⟩
    exact stepsG.nil
   intro W F13 le13 hphi
   obtain ⟨e5, f5_2hp⟩ := hphi 5 (by decide)
   obtain ⟨t5_2, hf5_2, hq5_2, hz5_2⟩ := id f5_2hp
   have e6 : W 6 = (.agg #[x9, ((W 5))] : Value) := hphi 6 (by decide)
   have f7 : ∃ b, (W 7) = .slice (some ⟨b, 0, none⟩) 1 1 := hphi 7 (by decide)
   generalize hu2 : ((W 5)) = u3 at e5 f5_2hp hf5_2 hq5_2 hz5_2 e6 f7
   generalize huu7 : W 7 = u4 at e5 f5_2hp hf5_2 hq5_2 hz5_2 e6 f7
   rw [eS (l := [(1, _), (5, u3), (7, u4)]) ⟨(hphi 1 (by decide)), hu2, huu7, ⟨⟩⟩]
   replace hr1 := hr1.mono le13
   replace hr2 := hr2.mono le13
   replace hC := hC.mono le13
   replace hf2 := hf2.mono le13
   show XL _ _ _ _ _ _ _ (slH 71 2 u4 1 [x9, u3] :: slH 71 2 ov m cs :: cellsH b4 [x1, x2, ov] 51 :: cellsH b3 [x1, x2] 44 :: cellsH b2 [sN, sN, sN] 51 :: cellsH b1 [arv] 26 :: curH .i64 75 cb bsv bs.length :: L)
   refine cX (XOp.append (m := 1) (bytes := 48) (cs := cs) [_] _ [x9, u3] jh typeInfo71 rfl rfl rfl rfl rfl rfl rfl (SlV.own [] rfl) rfl (Rd.lit [] rfl) (qw (qJ (qv hf2)) (qw (qJ (qv hf5_2)) qT)) (by (try simp only [List.length_append, List.length_nil, List.length_cons, List.length_singleton]); omega) (by (try simp only [List.length_append, List.length_nil, List.length_cons, List.length_singleton]); omega) ?_)
   intro v7 hs2 hn2 hm2
   have hc2 := PairsC.snoc hC hf2 hf5_2
   refine cX (qq (2) qR rfl jx (by decide) rfl rfl (cX (jL [_, _] _ [x1, x2, v7] jx rfl rfl (qJ hs2) rfl rfl rfl (qf (qd (qi (ii ((n : Int))) rfl (cX (jl (((n : Int)) - 1) rfl rfl (by omega) (by omega) (qj (ii (((n : Int)) - 1)) rfl (qf ?_))))))))))
   have hj9 := cond_moreF hD (Fresh.app (Fresh.app (hZ.mono le4) (qc leG1 le4) (Fresh.one hz2) le10) (qc (qc leG1 le4) le10) (Fresh.one hz5_2) le13)
   obtain ⟨L9, hd9, hf9⟩ := hj9
   exact ⟨(n - 1, v7, os ++ [(t1, t5_2)], cs ++ [x9, u3], L9, (m) + 1, F13), _, (qc (qc (qc leG1 le4) le10) le13), rF, ⟨rfl, rfl, rfl, rfl, rfl, (vI (by (try dsimp only); omega)), ⟨⟩⟩, (sD (sC (sC (sC (sC (sC (sC sR))))))), ⟨rfl, (qc (qc (qc leG1 le4) le10) le13), (hs2), (hc2), (by (try dsimp only); rw [List.length_append]; simp only [List.length_singleton]; omega), (by (try dsimp only); rw [List.length_append]; simp only [List.length_singleton]; omega), (by (try dsimp only); rw [List.length_append]; exact condsS_snoc hos (by first | (simp; done) | omega) (by have h9 := hq5_2; omega)), (hd9), (hf9)⟩, (by (try dsimp only); omega)⟩
  refine jn (qA (qA (qV (qg (qd (cX (qs [x1, x2, ov] isAgg51 jv rfl rfl (Rd.ownN [_] rfl rfl) (cX (qO [_, _, _] _ [x1, x2, ov] jv rfl rfl rfl (qw (qJ (qv hr1)) (qw (qJ (qv hr2)) (qw (qJ hov) qT))) rfl rfl rfl (qf (ji [] _ _ rfl (fun F14 le14 hz3 => ?_))))))))))))
  replace hr1 := hr1.mono le14
  replace hr2 := hr2.mono le14
  replace hC := hC.mono le14
  have hf3 : PairsF F14 ov os := CO.fz hC (by first | rfl | omega | (rw [List.length_set]; omega) | (simp; done)) hz3.fz
  refine qu (qt (L' := curH .i64 75 cb bsv bs.length :: L) [.agg #[x1, x2, ov]] (.agg #[x1, x2, ov]) (.cell rfl (jt [x1, x2, ov] isAgg51 jv rfl (Rd.ownN [_, _] rfl rfl)) .nil) rfl (qc (qc (qc le1 le2) leG1) le14) rF (sD (sD (sD (sD (sC sR))))) ?_)
  exact ⟨⟨_, _, _, rfl, ⟨_, _, _, hr1, hr2, hf3, hos.rule (by omega) hr3 hr4, (Fresh.app (hr5.mono le2) (qc le1 le2) (Fresh.one (Fresh.deep hD hZ leG1 hz3 (by omega) le14)) (qc leG1 le14))⟩⟩, rfl⟩
 refine qp (t := 25) rfl (vF h1) (qp (t := 25) rfl (vF h1) (qp (t := 25) rfl (vF h1) (cX (qM (.bool (false)) (vF h1) rfl (qf (jS rfl (jn (qA (qA (qV (qg (qd (cX (qs [x1, x2, ov] isAgg51 jv rfl rfl (Rd.ownN [_] rfl rfl) (cX (qO [_, _, _] _ [x1, x2, ov] jv rfl rfl rfl (qw (qJ (qv hr1)) (qw (qJ (qv hr2)) (qw (qJ hov) qT))) rfl rfl rfl ?_))))))))))))))))
 refine qf (ji [] _ _ rfl (fun F15 le15 hz4 => ?_))
 replace hr1 := hr1.mono le15
 replace hr2 := hr2.mono le15
 replace hC := hC.mono le15
 have hf4 : PairsF F15 ov os := CO.fz hC (by first | rfl | omega | (rw [List.length_set]; omega) | (simp; done)) hz4.fz
 refine qu (qt (L' := curH .i64 75 cb bsv bs.length :: L) [.agg #[x1, x2, ov]] (.agg #[x1, x2, ov]) (.cell rfl (jt [x1, x2, ov] isAgg51 jv rfl (Rd.ownN [_, _] rfl rfl)) .nil) rfl (qc (qc (qc le1 le2) leG1) le15) rF (sD (sD (sD (sD (sC sR))))) ?_)
 exact ⟨⟨_, _, _, rfl, ⟨_, _, _, hr1, hr2, hf4, hos.rule (by omega) hr3 hr4, (Fresh.app (hr5.mono le2) (qc le1 le2) (Fresh.one (Fresh.deep hD hZ leG1 hz4 (by omega) le15)) (qc leG1 le15))⟩⟩, rfl⟩
end Go.Proofs.YteodlimhopibkaaGreat
