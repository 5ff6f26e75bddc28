/-
  Walks, one after the other (part 3).
-/
import Derived.Test.YtenomejgjcpbdaaQNL1
import Derived.Test.YtenomejgjcpbdaaQNB1
import Derived.Test.YtenomejgjcpbdaaQNB0
set_option linter.unusedSimpArgs false
set_option linter.unusedVariables false
namespace Go.Proofs.Ytenomejgjcpbdaa
open Go X M Try

/- spec.l1Into -/
theorem l1IntoS_spec {F : FH} {L : List HP} {xsv : Value} {xs : List Int} (hxs : IntsF F xsv xs) {n : Int} (hlx : xs.length ≤ 1000) :
    Does prog 140 [xsv, ii (n)] F (L) (fun v F' L' => ∃ (a : Value), ∃ (os : List Int), (a : Value) = v ∧ (IntsF F' a os) ∧ (IntoS xs os n) ∧ (os.length ≤ xs.length + 1) ∧ L = L') := by
 refine qz func140 rfl rfl rfl (qf (qc (qh (sN) rfl (qd (qf (qc (qh (ii (0)) rfl (qd (qf (qE (qY (α := Nat) (fun k => [(0, xsv), (1, ii (n)), (5, ii ((k : Int)))]) (fun k => L) (fun k F' => F = F' ∧ (k ≤ xs.length)) (fun k => xs.length - k) 0 ⟨rfl, rfl, rfl, ⟨⟩⟩ sR ⟨rfl, (Nat.zero_le _)⟩ ?_)))))))))))
 rintro k rE _ _ ⟨rfl, hk⟩
 show X _ _ _ _ (envs [(0, xsv), (1, ii (n)), (5, ii ((k : Int)))] rE) _ (L)
 refine qf (qf (qc (qg (ii ((k : Int))) rfl (qg (xsv) rfl (cX (qC qi rfl hxs.slv (cX (qI rfl rfl (qg (.bool (decide ((k : Int) < (xs.length : Int)))) rfl ?_)))))))))
 by_cases h1 : (k : Int) < (xs.length : Int)
 ·refine qr (t := 11) rfl (vT h1) (qu (xsv) rfl (qr (t := 11) rfl (vT h1) (qu (ii ((k : Int))) rfl (qr (t := 11) rfl (vT h1) (qA k qi qG rfl rfl rfl hxs.slv (by omega) (Nat.mul_one _) (qr (t := 11) rfl (vT h1) (qk ja rfl (hxs.rd (by omega)) (qr (t := 11) rfl (vT h1) (qu (ii (n)) rfl (qr (t := 11) rfl (vT h1) (qI rfl rfl (cX (qQ (.bool (decide ((xs.getD k 0 : Int) < n))) (vT h1) rfl (qd ?_))))))))))))))
  refine qx (p := (xs.getD k 0 : Int) < n) rfl (fun h2 => ?_) (fun h2 => ?_)
  ·refine qw (qE (qc (qg (ii ((k : Int))) rfl (cX (qM (((k + 1 : Nat) : Int)) rfl rfl (by omega) (by omega) (qh (ii (((k + 1 : Nat) : Int))) rfl (qd ?_)))))))
   exact ⟨k + 1, _, FLe.refl _, rF, ⟨rfl, rfl, rfl, ⟨⟩⟩, sR, ⟨rfl, (by (try dsimp only) <;> omega)⟩, (by omega)⟩
  refine qX (qv (qv (qJ (qf (qf (qc (qg (ii ((k : Int))) rfl (qg (xsv) rfl (cX (qC qi rfl hxs.slv (cX (qI rfl rfl (qg (.bool (decide ((k : Int) < (xs.length : Int)))) rfl (qr (t := 25) rfl (vT h1) (qu (xsv) rfl (qr (t := 25) rfl (vT h1) (qu (ii ((k : Int))) rfl (qr (t := 25) rfl (vT h1) (qA k qi qG rfl rfl rfl hxs.slv (by omega) (Nat.mul_one _) ?_)))))))))))))))))))
  refine qr (t := 25) rfl (vT h1) (qk ja rfl (hxs.rd (by omega)) (qr (t := 25) rfl (vT h1) (qu (ii (n)) rfl (qr (t := 25) rfl (vT h1) (XOp.eql rfl rfl (cX (qQ (.bool (decide ((xs.getD k 0 : Int) = n))) (vT h1) rfl (qd ?_))))))))
  refine qx (p := (xs.getD k 0 : Int) = n) rfl (fun h3 => ?_) (fun h3 => ?_)
  ·refine qf (qc (qg (xsv) rfl (qh (xsv) rfl (qd (qs (qj (qm (L' := L) [xsv] (xsv) (.tmp rfl .nil) rfl rF rF sR ?_)))))))
   exact ⟨_, _, rfl, hxs, IntoS.has (mem_of_getD (k := k) (by omega) (by omega)), by omega, rfl⟩
  refine qw (qf (qc (qg (xsv) rfl (qg (ii ((k : Int))) rfl (cX (XOp.sliceI 0 k qi qG rfl hxs rfl ⟨_, rfl⟩ (by omega) (by omega) ?_))))))
  intro v1 hv1 hn1
  refine cX (ql (args := [v1]) call32 rfl (l1Copy_spec hv1 (hlt := (by simp; omega))) ?_)
  rintro v2 _ _ _ ⟨rfl, hs1, rfl⟩
  refine qg (ii (n)) rfl (cX (qS (s := 1) [ii (n)] [ii (0)] [(0, [ii (n)])] qi qG jb rfl (by decide) rfl (.cons rfl CellsAre.nil) rfl ?_))
  intro v3 hv2
  refine cX (XOp.append1 (u := n) [_] _ qi typeInfo2 rfl rfl rfl rfl rfl rfl (SlV.own [] rfl) (Rd.sl [] rfl rfl) (by (try simp only [List.length_append, List.length_nil, List.length_cons, List.length_singleton, List.length_take, List.length_drop]); omega) ?_)
  intro v4 hs2 hn2
  refine qh (v4) rfl (qd (qf (qc (qg (v4) rfl (qg (xsv) rfl (qg (ii ((k : Int))) rfl (cX (XOp.sliceI k ((xs).length) qi qG rfl hxs ⟨_, rfl⟩ rfl (by omega) (by omega) ?_))))))))
  intro v5 hv3 hn3
  refine cX (XOp.appendI [_] _ qi typeInfo2 rfl rfl rfl rfl rfl rfl hv3 (by (try simp only [List.length_append, List.length_nil, List.length_cons, List.length_singleton, List.length_take, List.length_drop]); omega) ?_)
  intro v6 hs3 hn4 hm1
  refine qh (v6) rfl (qd (jn [_] _ _ rfl (fun F1 le1 hz1 => ?_)))
  replace hxs := hxs.mono le1
  have hf1 : IntsF F1 v6 (((((((xs.drop 0).take (k - 0))))) ++ [n]) ++ (((xs.drop k).take (((xs).length) - k)))) := intsH.fz (xs := ((((((xs.drop 0).take (k - 0))))) ++ [n]) ++ (((xs.drop k).take (((xs).length) - k)))) hz1.fz
  refine qs (qm (L' := L) [v6] (v6) (.tmp rfl .nil) rfl le1 rF (sD sR) ?_)
  exact ⟨_, _, rfl, hf1, by have h9 := IntoS.ins (xs := xs) (n := n) k; have h8 : List.take (xs.length - k) (List.drop k xs) = List.drop k xs := List.take_of_length_le (by simp); simpa [h8] using h9, by simp only [List.length_append, List.length_take, List.length_drop, List.length_singleton]; omega, rfl⟩
 refine qq (t := 11) rfl (vF h1) (qq (t := 11) rfl (vF h1) (qq (t := 11) rfl (vF h1) (qq (t := 11) rfl (vF h1) (qq (t := 11) rfl (vF h1) (qq (t := 11) rfl (vF h1) (cX (qL (.bool (false)) (vF h1) rfl (qd (X.condF rfl (qX (qv (qv (qJ ?_)))))))))))))
 refine qf (qf (qc (qg (ii ((k : Int))) rfl (qg (xsv) rfl (cX (qC qi rfl hxs.slv (cX (qI rfl rfl (qg (.bool (decide ((k : Int) < (xs.length : Int)))) rfl (qq (t := 25) rfl (vF h1) (qq (t := 25) rfl (vF h1) (qq (t := 25) rfl (vF h1) (qq (t := 25) rfl (vF h1) ?_)))))))))))))
 refine qq (t := 25) rfl (vF h1) (qq (t := 25) rfl (vF h1) (cX (qL (.bool (false)) (vF h1) rfl (qd (X.condF rfl (qw (qf (qc (qg (xsv) rfl (qg (ii ((k : Int))) rfl (cX (XOp.sliceI 0 k qi qG rfl hxs rfl ⟨_, rfl⟩ (by omega) (by omega) ?_))))))))))))
 intro v7 hv4 hn5
 refine cX (ql (args := [v7]) call32 rfl (l1Copy_spec hv4 (hlt := (by simp; omega))) ?_)
 rintro v8 _ _ _ ⟨rfl, hs4, rfl⟩
 refine qg (ii (n)) rfl (cX (qS (s := 1) [ii (n)] [ii (0)] [(0, [ii (n)])] qi qG jb rfl (by decide) rfl (.cons rfl CellsAre.nil) rfl ?_))
 intro v9 hv5
 refine cX (XOp.append1 (u := n) [_] _ qi typeInfo2 rfl rfl rfl rfl rfl rfl (SlV.own [] rfl) (Rd.sl [] rfl rfl) (by (try simp only [List.length_append, List.length_nil, List.length_cons, List.length_singleton, List.length_take, List.length_drop]); omega) ?_)
 intro v10 hs5 hn6
 refine qh (v10) rfl (qd (qf (qc (qg (v10) rfl (qg (xsv) rfl (qg (ii ((k : Int))) rfl (cX (XOp.sliceI k ((xs).length) qi qG rfl hxs ⟨_, rfl⟩ rfl (by omega) (by omega) ?_))))))))
 intro v11 hv6 hn7
 refine cX (XOp.appendI [_] _ qi typeInfo2 rfl rfl rfl rfl rfl rfl hv6 (by (try simp only [List.length_append, List.length_nil, List.length_cons, List.length_singleton, List.length_take, List.length_drop]); omega) ?_)
 intro v12 hs6 hn8 hm2
 refine qh (v12) rfl (qd (jn [_] _ _ rfl (fun F2 le2 hz2 => ?_)))
 have hf2 : IntsF F2 v12 (((((((xs.drop 0).take (k - 0))))) ++ [n]) ++ (((xs.drop k).take (((xs).length) - k)))) := intsH.fz (xs := ((((((xs.drop 0).take (k - 0))))) ++ [n]) ++ (((xs.drop k).take (((xs).length) - k)))) hz2.fz
 refine qs (qm (L' := L) [v12] (v12) (.tmp rfl .nil) rfl le2 rF (sD sR) ?_)
 exact ⟨_, _, rfl, hf2, by have h9 := IntoS.ins (xs := xs) (n := n) k; have h8 : List.take (xs.length - k) (List.drop k xs) = List.drop k xs := List.take_of_length_le (by simp); simpa [h8] using h9, by simp only [List.length_append, List.length_take, List.length_drop, List.length_singleton]; omega, rfl⟩

/- spec.l27With -/
theorem l27With_spec {F : FH} {L : List HP} {vsv : Value} {vs : List Int} (hvs : IntsF F vsv vs) {tv : Value} {t : List Int} (ht : IntsF F tv t) (hlv : vs.length ≤ 500) (hlt : t.length ≤ 60) (htg : ∀ i, i < t.length → -24 ≤ t.getD i 0) :
    Does prog 121 [vsv, tv] F (L) (fun v F' L' => ∃ (a : Value), ∃ (ws : List Int), (a : Value) = v ∧ (IntsF F' a ws) ∧ (WithS vs ws t) ∧ (ws.length ≤ vs.length + t.length) ∧ L = L') := by
 refine qz func121 rfl rfl rfl ?_
 have htk := htg
 refine qf (qc (qh (sN) rfl (qd (qf (qf (qc (qh (ii (0)) rfl (qd (qE (qY (α := Nat × Value × List Int × FH) (fun xQ => [(0, xQ.2.1), (1, tv), (5, ii (((xQ.1 : Nat) : Int)))]) (fun xQ => L) (fun xQ F' => xQ.2.2.2 = F' ∧ F ≤ xQ.2.2.2 ∧ (IntsF xQ.2.2.2 xQ.2.1 xQ.2.2.1) ∧ (xQ.1 ≤ t.length) ∧ (WithS vs xQ.2.2.1 (t.take xQ.1)) ∧ (xQ.2.2.1.length ≤ vs.length + xQ.1)) (fun xQ => t.length - xQ.1) (0, vsv, vs, F) ⟨rfl, rfl, rfl, ⟨⟩⟩ sR ⟨rfl, FLe.refl _, (hvs), (Nat.zero_le _), (WithS.start), (by (try dsimp only) <;> omega)⟩ ?_))))))))))
 rintro ⟨k, wv, ws, G1⟩ rE _ _ ⟨rfl, leG, hwv, hk, hws, hwl⟩
 show X _ _ _ _ (envs [(0, wv), (1, tv), (5, ii ((k : Int)))] rE) _ (L)
 replace leG : F ≤ G1 := leG
 dsimp only at hwv hk hws hwl
 have leG1 := leG
 replace ht := ht.mono leG1
 refine qf (qf (qc (qg (ii ((k : Int))) rfl (qg (tv) rfl (cX (qC qi rfl ht.slv (cX (qI rfl rfl (qd ?_)))))))))
 refine qx (p := (k : Int) < (t.length : Int)) rfl (fun h1 => ?_) (fun h1 => ?_)
 ·have htk9 := htg k (by omega)
  refine qw (qf (qE (qf (qc (qg (tv) rfl (qg (ii ((k : Int))) rfl (cX (qA k qi qG rfl rfl rfl ht.slv (by omega) (Nat.mul_one _) (cX (qk ja rfl (ht.rd (by omega)) (cX (qI rfl rfl (qd ?_)))))))))))))
  refine qx (p := (t.getD k 0 : Int) < 0) rfl (fun h2 => ?_) (fun h2 => ?_)
  ·refine qc (qg (wv) rfl (qg (tv) rfl (qg (ii ((k : Int))) rfl (cX (qA k qi qG rfl rfl rfl ht.slv (by omega) (Nat.mul_one _) (cX (qk ja rfl (ht.rd (by omega)) (cX (je ((-1) - (t.getD k 0)) rfl rfl (by omega) (by omega) (cX (ql (args := [wv, ii ((-1) - (t.getD k 0))]) call140 rfl (l1IntoS_spec (n := (-1) - (t.getD k 0)) hwv (hlx := (by first | assumption | rfl | omega | simp))) ?_)))))))))))
   rintro _ F1 _ le1 ⟨x1, x2, rfl, hr1, hr2, hr3, rfl⟩
   replace hwv := hwv.mono le1
   refine qh (x1) rfl (qd (qc (qg (ii ((k : Int))) rfl (cX (qM (((k + 1 : Nat) : Int)) rfl rfl (by omega) (by omega) (qh (ii (((k + 1 : Nat) : Int))) rfl (qd ?_)))))))
   exact ⟨(k + 1, x1, x2, F1), _, (qp leG1 le1), rF, ⟨rfl, rfl, rfl, ⟨⟩⟩, sR, ⟨rfl, (qp leG1 le1), (hr1), (by (try dsimp only) <;> omega), (hws.next (by omega) (by assumption) hr2), (by have h9 := hr3; (try dsimp only); omega)⟩, (by omega)⟩
  refine qw (qc (qg (ii ((k : Int))) rfl (cX (qM (((k + 1 : Nat) : Int)) rfl rfl (by omega) (by omega) (qh (ii (((k + 1 : Nat) : Int))) rfl (qd ?_))))))
  exact ⟨(k + 1, wv, ws, G1), _, leG1, rF, ⟨rfl, rfl, rfl, ⟨⟩⟩, sR, ⟨rfl, leG1, (hwv), (by (try dsimp only) <;> omega), (hws.skip (by omega) (by assumption)), (by (try dsimp only) <;> omega)⟩, (by omega)⟩
 refine qX (qv (qv (qJ (qf (qc (qg (wv) rfl (qh (wv) rfl (qd (qs (qm (L' := L) [wv] (wv) (.tmp rfl .nil) rfl leG1 rF sR ?_))))))))))
 exact ⟨_, _, rfl, hwv, by rw [List.take_of_length_le (by omega)] at hws; exact hws, by omega, rfl⟩

/- spec.l27Within -/
theorem l27Within_spec {F : FH} {L : List HP} {tv : Value} {t : List Int} (ht : IntsF F tv t) {vsv : Value} {vs : List Int} (hvs : IntsF F vsv vs) (hlt : t.length ≤ 4000000) (hlv : vs.length ≤ 4000000) (htg : ∀ i, i < t.length → -24 ≤ t.getD i 0) :
    Does prog 123 [tv, vsv] F (L) (fun v F' L' => (.bool (withinL t vs) : Value) = v ∧ F = F' ∧ L = L') := by
 refine qz func123 rfl rfl rfl (qf (qc (qh (.bool (false)) rfl (qd (qf (qf (qc (qh (ii (0)) rfl (qd (qE (qY (α := Nat) (fun k => [(0, tv), (1, vsv), (5, ii ((k : Int)))]) (fun k => L) (fun k F' => F = F' ∧ (k ≤ t.length) ∧ (∀ i, i < k → (decide (0 ≤ t.getD i 0) || decide ((-1 - t.getD i 0) ∈ vs)) = true)) (fun k => t.length - k) 0 ⟨rfl, rfl, rfl, ⟨⟩⟩ sR ⟨rfl, (by (try dsimp only) <;> omega), (fun i hi => absurd hi (by omega))⟩ ?_)))))))))))
 rintro k rE _ _ ⟨rfl, hk, hall⟩
 show X _ _ _ _ (envs [(0, tv), (1, vsv), (5, ii ((k : Int)))] rE) _ (L)
 have htk := htg k
 refine qf (qf (qc (qg (ii ((k : Int))) rfl (qg (tv) rfl (cX (qC qi rfl ht.slv (cX (qI rfl rfl (qd ?_)))))))))
 refine qx (p := (k : Int) < (t.length : Int)) rfl (fun h1 => ?_) (fun h1 => ?_)
 ·refine qw (qf (qE (qf (qc (qg (tv) rfl (qg (ii ((k : Int))) rfl (cX (qA k qi qG rfl rfl rfl ht.slv (by omega) (Nat.mul_one _) (cX (qk ja rfl (ht.rd (by omega)) (cX (qI rfl rfl (qg (.bool (decide ((t.getD k 0 : Int) < 0))) rfl ?_)))))))))))))
  by_cases h2 : (t.getD k 0 : Int) < 0
  ·refine qr (t := 17) rfl (vT h2) (qu (vsv) rfl (qr (t := 17) rfl (vT h2) (qu (tv) rfl (qr (t := 17) rfl (vT h2) (qu (ii ((k : Int))) rfl (qr (t := 17) rfl (vT h2) (qA k qi qG rfl rfl rfl ht.slv (by omega) (Nat.mul_one _) (qr (t := 17) rfl (vT h2) (qk ja rfl (ht.rd (by omega)) (qr (t := 17) rfl (vT h2) (je ((-1) - (t.getD k 0)) rfl rfl (by omega) (by omega) (qr (t := 17) rfl (vT h2) (ql (args := [vsv, ii ((-1) - (t.getD k 0))]) call135 rfl (l1Has_spec (n := (-1) - (t.getD k 0)) hvs (hbd := (by first | assumption | rfl | omega | simp))) ?_)))))))))))))
   rintro _ _ _ _ ⟨rfl, rfl, rfl⟩
   refine qr (t := 17) rfl (vT h2) (jk rfl (cX (qQ (.bool (decide (¬(((-1) - (t.getD k 0)) ∈ vs)))) (vT h2) rfl (qd ?_))))
   refine qx (p := ¬(((-1) - (t.getD k 0)) ∈ vs)) rfl (fun h3 => ?_) (fun h3 => ?_)
   ·refine qf (qc (qh (.bool (false)) rfl (qd (qs (qy (qj (qj (qy (qj (qm (L' := L) [.bool (false)] (.bool (false)) (.tmp rfl .nil) rfl rF rF sR ?_))))))))))
    exact ⟨(vB (by rw [withinL, all_fail 0 (k := k) (by omega) (by rw [decide_eq_false (show ¬ 0 ≤ t.getD k 0 by omega)]; simp_all)])), rfl, rfl⟩
   refine qw (qc (qg (ii ((k : Int))) rfl (cX (qM (((k + 1 : Nat) : Int)) rfl rfl (by omega) (by omega) (qh (ii (((k + 1 : Nat) : Int))) rfl (qd ?_))))))
   exact ⟨k + 1, _, FLe.refl _, rF, ⟨rfl, rfl, rfl, ⟨⟩⟩, sR, ⟨rfl, (by (try dsimp only) <;> omega), (fun i hi => (Nat.lt_or_ge i k).elim (fun h => hall i h) (fun h => by obtain rfl : i = k := (by omega); first | (rw [decide_eq_true (show 0 ≤ t.getD i 0 by omega)]; rfl) | simp_all))⟩, (by omega)⟩
  refine qq (t := 17) rfl (vF h2) (qq (t := 17) rfl (vF h2) (qq (t := 17) rfl (vF h2) (qq (t := 17) rfl (vF h2) (qq (t := 17) rfl (vF h2) (qq (t := 17) rfl (vF h2) (qq (t := 17) rfl (vF h2) (qq (t := 17) rfl (vF h2) (cX (qL (.bool (false)) (vF h2) rfl (qd ?_))))))))))
  refine X.condF rfl (qw (qc (qg (ii ((k : Int))) rfl (cX (qM (((k + 1 : Nat) : Int)) rfl rfl (by omega) (by omega) (qh (ii (((k + 1 : Nat) : Int))) rfl (qd ?_)))))))
  exact ⟨k + 1, _, FLe.refl _, rF, ⟨rfl, rfl, rfl, ⟨⟩⟩, sR, ⟨rfl, (by (try dsimp only) <;> omega), (fun i hi => (Nat.lt_or_ge i k).elim (fun h => hall i h) (fun h => by obtain rfl : i = k := (by omega); first | (rw [decide_eq_true (show 0 ≤ t.getD i 0 by omega)]; rfl) | simp_all))⟩, (by omega)⟩
 refine qX (qv (qv (qJ (qf (qc (qh (.bool (true)) rfl (qd (qs (qm (L' := L) [.bool (true)] (.bool (true)) (.tmp rfl .nil) rfl rF rF sR ?_)))))))))
 exact ⟨(vB (by rw [withinL, all_getD_iff 0]; exact fun i hi => hall i (by omega))), rfl, rfl⟩

/- spec.CRuleOk -/
set_option maxRecDepth 20000 in
theorem sCRuleOk_spec {F : FH} {L : List HP} {arv : Value} {ar : List Int} (har : IntsF F arv ar) {lv : Value} {l : List Int} (hl : IntsF F lv l) {rv : Value} {r : List Int} (hr : IntsF F rv r) {csv : Value} {cs : List (List Int × List Int)} (hcs : PairsF F csv cs) (hla : ar.length ≤ 4000000) (hlb : l.length ≤ 4000000) (hlc : r.length ≤ 4000000) (hln : cs.length ≤ 4000000) (hcb : ∀ i, i < cs.length → (cs.getD i ([], [])).1.length ≤ 4000000 ∧ (cs.getD i ([], [])).2.length ≤ 4000000) :
    Does prog 100 [.agg #[arv], .agg #[lv, rv, csv]] F (L) (fun v F' L' => (.bool (cruleOk ar (l, r, cs)) : Value) = v ∧ F = F' ∧ L = L') := by
 refine qz func100 rfl rfl rfl (qf (qc (cX (qO [arv] rfl rfl ?_))))
 intro b1
 refine cX (qO [lv, rv, csv] rfl rfl ?_)
 intro b2
 refine qh (.bool (false)) rfl (qd (qf (qf (qc (cX (qt [arv] qP qD rfl rfl (Rd.ownN [_] rfl rfl) (cX (qn (0) qH rfl qB (by decide) rfl rfl (cX (qk qK rfl (Rd.own [] rfl rfl) (cX (ql (args := [.agg #[arv], lv]) call70 rfl (sTermOk_spec har hl (hla := (by first | assumption | rfl | omega | simp)) (hlt := (by first | assumption | rfl | omega | simp))) ?_))))))))))))
 rintro _ _ _ _ ⟨rfl, rfl, rfl⟩
 refine cX (qZ rfl (qg (.bool (!(termOk ar l))) rfl ?_))
 by_cases h1 : (!(termOk ar l)) = true
 ·refine qq (t := 12) rfl (vB h1) (qq (t := 12) rfl (vB h1) (qq (t := 12) rfl (vB h1) (qq (t := 12) rfl (vB h1) (qq (t := 12) rfl (vB h1) (cX (qQ (.bool (true)) (vB h1) rfl (qg (.bool (true)) rfl (qq (t := 19) rfl rfl (qq (t := 19) rfl rfl (qq (t := 19) rfl rfl ?_))))))))))
  refine qq (t := 19) rfl rfl (qq (t := 19) rfl rfl (cX (qQ (.bool (true)) rfl rfl (qg (.bool (true)) rfl (qq (t := 26) rfl rfl (qq (t := 26) rfl rfl (qq (t := 26) rfl rfl (qq (t := 26) rfl rfl (cX (qQ (.bool (true)) rfl rfl (qd ?_)))))))))))
  refine X.condT rfl (qf (qc (qh (.bool (false)) rfl (qd (qs (qj (qm (L' := L) [.bool (false)] (.bool (false)) (.tmp rfl .nil) rfl rF rF (sD (sD sR)) ?_)))))))
  exact ⟨(vB (cruleOk_no1 (by intro h1 h2 h3 h4; simp_all <;> omega))), rfl, rfl⟩
 rw [Bool.not_eq_true] at h1
 have hlo : termOk ar l = true := Bool.not_inj (y := true) h1
 have hll := termOk_len hlo
 have hlg := fun i (hi : i < l.length) => termOk_ge hlo hi
 refine qr (t := 12) rfl (vB h1) (qt [arv] qP qD rfl rfl (Rd.ownN [_] rfl rfl) (qr (t := 12) rfl (vB h1) (qn (1) qH rfl qB (by decide) rfl rfl (qr (t := 12) rfl (vB h1) (qk qK rfl (Rd.own [] rfl rfl) (qr (t := 12) rfl (vB h1) (ql (args := [.agg #[arv], rv]) call70 rfl (sTermOk_spec har hr (hla := (by first | assumption | rfl | omega | simp)) (hlt := (by first | assumption | rfl | omega | simp))) ?_)))))))
 rintro _ _ _ _ ⟨rfl, rfl, rfl⟩
 refine qr (t := 12) rfl (vB h1) (qZ rfl (cX (qL (.bool (!(termOk ar r))) (vB h1) rfl (qg (.bool (!(termOk ar r))) rfl ?_))))
 by_cases h2 : (!(termOk ar r)) = true
 ·refine qq (t := 19) rfl (vB h2) (qq (t := 19) rfl (vB h2) (qq (t := 19) rfl (vB h2) (qq (t := 19) rfl (vB h2) (qq (t := 19) rfl (vB h2) (cX (qQ (.bool (true)) (vB h2) rfl (qg (.bool (true)) rfl (qq (t := 26) rfl rfl (qq (t := 26) rfl rfl (qq (t := 26) rfl rfl ?_))))))))))
  refine qq (t := 26) rfl rfl (cX (qQ (.bool (true)) rfl rfl (qd (X.condT rfl (qf (qc (qh (.bool (false)) rfl (qd (qs (qj (qm (L' := L) [.bool (false)] (.bool (false)) (.tmp rfl .nil) rfl rF rF (sD (sD sR)) ?_)))))))))))
  exact ⟨(vB (cruleOk_no1 (by intro h1 h2 h3 h4; simp_all <;> omega))), rfl, rfl⟩
 rw [Bool.not_eq_true] at h2
 have hro : termOk ar r = true := Bool.not_inj (y := true) h2
 have hrl := termOk_len hro
 have hrg := fun i (hi : i < r.length) => termOk_ge hro hi
 refine qr (t := 19) rfl (vB h2) (qn (0) qH rfl qB (by decide) rfl rfl (qr (t := 19) rfl (vB h2) (qk qK rfl (Rd.own [] rfl rfl) (qr (t := 19) rfl (vB h2) (qA 0 qi qG rfl rfl rfl hl.slv (by omega) (Nat.mul_one _) (qr (t := 19) rfl (vB h2) (qk ja rfl (hl.rd (by omega)) (qr (t := 19) rfl (vB h2) (qI rfl rfl (cX (qL (.bool (decide ((l.getD 0 0 : Int) < 0))) (vB h2) rfl (qg (.bool (decide ((l.getD 0 0 : Int) < 0))) rfl ?_))))))))))))
 by_cases h3 : (l.getD 0 0 : Int) < 0
 ·refine qq (t := 26) rfl (vT h3) (qq (t := 26) rfl (vT h3) (qq (t := 26) rfl (vT h3) (qq (t := 26) rfl (vT h3) (cX (qQ (.bool (true)) (vT h3) rfl (qd (X.condT rfl (qf (qc (qh (.bool (false)) rfl (qd ?_)))))))))))
  refine qs (qj (qm (L' := L) [.bool (false)] (.bool (false)) (.tmp rfl .nil) rfl rF rF (sD (sD sR)) ?_))
  exact ⟨(vB (cruleOk_no1 (by intro h1 h2 h3 h4; simp_all <;> omega))), rfl, rfl⟩
 refine qr (t := 26) rfl (vF h3) (qn (2) qH rfl jt (by decide) rfl rfl (qr (t := 26) rfl (vF h3) (qk isAgg77 rfl (Rd.own [] rfl rfl) (qr (t := 26) rfl (vF h3) (qC qT rfl hcs.slv (qr (t := 26) rfl (vF h3) (js rfl rfl (cX (qL (.bool (decide (((cs.length : Int) : Int) > 2))) (vF h3) rfl (qd ?_))))))))))
 refine qx (p := ((cs.length : Int) : Int) > 2) rfl (fun h4 => ?_) (fun h4 => ?_)
 ·refine qf (qc (qh (.bool (false)) rfl (qd (qs (qj (qm (L' := L) [.bool (false)] (.bool (false)) (.tmp rfl .nil) rfl rF rF (sD (sD sR)) ?_))))))
  exact ⟨(vB (cruleOk_no1 (by intro h1 h2 h3 h4; simp_all <;> omega))), rfl, rfl⟩
 refine qw (qf (qc (cX (qS (s := 1) [] [ii (0)] [] qi qG jb rfl (by decide) rfl CellsAre.nil rfl ?_))))
 intro v1 hv1
 refine cX (qn (0) qH rfl qB (by decide) rfl rfl (cX (qk qK rfl (Rd.own [_] rfl rfl) ?_)))
 show XL _ _ _ _ _ _ _ (intsH 2 v1 ([] : List Int) :: cellsH b2 [lv, rv, csv] 79 :: cellsH b1 [arv] 30 :: L)
 refine XL.freezeF [] _ _ rfl (fun F1 le1 hz1 => ?_)
 replace har := har.mono le1
 replace hl := hl.mono le1
 replace hr := hr.mono le1
 replace hcs := hcs.mono le1
 have hf1 : IntsF F1 v1 ([]) := intsH.fz (xs := []) hz1.fz
 refine cX (ql (args := [v1, lv]) call121 rfl (l27With_spec hf1 hl (hlv := (by first | (simp; done) | omega)) (hlt := (by first | assumption | rfl | omega | simp)) (htg := (by first | exact hlg | exact heg2))) ?_)
 rintro _ F2 _ le2 ⟨x1, x2, rfl, hr1, hr2, hr3, rfl⟩
 replace har := har.mono le2
 replace hr := hr.mono le2
 replace hcs := hcs.mono le2
 refine qh (x1) rfl (qd (qf (qf (qc (qh (ii (0)) rfl (qd (qE (qY (α := Nat × Value × List Int × RowL × FH) (fun xQ => [(2, ptr b1 0), (3, ptr b2 0), (5, xQ.2.1), (6, ii (((xQ.1 : Nat) : Int)))]) (fun xQ => cellsH b2 [lv, rv, csv] 79 :: cellsH b1 [arv] 30 :: L) (fun xQ F' => xQ.2.2.2.2 = F' ∧ F2 ≤ xQ.2.2.2.2 ∧ (IntsF xQ.2.2.2.2 xQ.2.1 xQ.2.2.1) ∧ (xQ.1 ≤ cs.length) ∧ (VSet xQ.2.2.2.1 xQ.2.2.1) ∧ (cOkGo ar [l] cs = cOkGo ar xQ.2.2.2.1 (cs.drop xQ.1)) ∧ (xQ.2.2.1.length ≤ 60 * (xQ.1 + 1))) (fun xQ => cs.length - xQ.1) (0, x1, x2, [l], F2) ⟨rfl, rfl, rfl, rfl, ⟨⟩⟩ (sC (sC sR)) ⟨rfl, FLe.refl _, (hr1), (Nat.zero_le _), (VSet.one hr2), (rfl), (by have h9 := hr3; (try simp only [List.length_nil] at h9); (try dsimp only); omega)⟩ ?_))))))))
 rintro ⟨k, vv, vs, us, G1⟩ rE _ _ ⟨rfl, leG, hvv, hk, hvs, hos, hvl⟩
 show X _ _ _ _ (envs [(2, ptr b1 0), (3, ptr b2 0), (5, vv), (6, ii ((k : Int)))] rE) _ (cellsH b2 [lv, rv, csv] 79 :: cellsH b1 [arv] 30 :: L)
 replace leG : F2 ≤ G1 := leG
 dsimp only at hvv hk hvs hos hvl
 have hcbk := hcb k
 have leG1 := leG
 replace har := har.mono leG1
 replace hr := hr.mono leG1
 replace hcs := hcs.mono leG1
 refine qf (qf (qc (qg (ii ((k : Int))) rfl (cX (qn (2) qH rfl jt (by decide) rfl rfl (cX (qk isAgg77 rfl (Rd.own [] rfl rfl) (cX (qC qT rfl hcs.slv (cX (qI rfl rfl (qd ?_))))))))))))
 refine qx (p := (k : Int) < (cs.length : Int)) rfl (fun h5 => ?_) (fun h5 => ?_)
 ·refine qw (qf (qE (qf (qf ?_))))
  obtain ⟨a1, a2, ha1, ha2, hr4, hr5⟩ := hcs.rd (i := k) (by omega)
  by_cases h6 : (!(eqOkL ar (((cs.getD k ([], [])).1), ((cs.getD k ([], [])).2)))) = true
  ·have hek : eqOkL ar (cs.getD k ([], [])) = false := Bool.not_inj (y := false) h6
   refine X.draw [cellsH b2 [lv, rv, csv] 79, cellsH b1 [arv] 30] L 16 [] [[], [], [1], [], [2, 3], [4], [0, 5], [6], [7], [8], [8, 9], [8], [8, 10, 11], [8, 12], [8, 13], [8]] (phiL [qe (.agg #[arv]), qe (ptr b2 2), qe csv, qe (ii ((k : Int)) : Value), qe (.pointer (some (elemA csv (k * 2)))), qe (.agg #[a1, a2]), qe (.bool (eqOkL ar (((cs.getD k ([], [])).1), ((cs.getD k ([], [])).2)))), qe (.bool (!(eqOkL ar (((cs.getD k ([], [])).1), ((cs.getD k ([], [])).2))))), qe (.bool (!(eqOkL ar (((cs.getD k ([], [])).1), ((cs.getD k ([], [])).2))))), qe undef, qe undef, qe undef, qe undef, qe undef, qe undef, qe undef]) (ownL []) mixed rfl rfl (by kernel_rfl) ?_ ?_
   ·refine pD (fun W R z9 => ?_) ?_
    ·refine qo (qt [arv] qP qD rfl rfl (Rd.ownN [_] rfl rfl) ?_)
     exact ⟨rfl, rfl, rfl⟩
    refine pD (fun W R z9 => ?_) ?_
    ·refine qo (qn (2) qH rfl jt (by decide) rfl rfl ?_)
     exact ⟨rfl, rfl, rfl⟩
    refine pD (fun W R z9 => ?_) ?_
    ·rw [eS (l := [(1, _)]) ⟨z9 1 rfl, ⟨⟩⟩]
     refine qo (qk isAgg77 rfl (Rd.own [] rfl rfl) ?_)
     exact ⟨rfl, rfl, rfl⟩
    refine pD (fun W R z9 => ?_) ?_
    ·refine qo (qu (ii ((k : Int))) rfl ?_)
     exact ⟨rfl, rfl, rfl⟩
    refine pD (fun W R z9 => ?_) ?_
    ·rw [eS (l := [(2, _), (3, _)]) ⟨z9 2 rfl, z9 3 rfl, ⟨⟩⟩]
     refine qo (qA k qT jd rfl rfl rfl hcs.slv (by omega) rfl ?_)
     exact ⟨rfl, rfl, rfl⟩
    refine pD (fun W R z9 => ?_) ?_
    ·rw [eS (l := [(4, _)]) ⟨z9 4 rfl, ⟨⟩⟩]
     refine qo (qt [a1, a2] isAgg123 jd rfl rfl (Rd.two (hr4 _) (hr5 _)) ?_)
     exact ⟨rfl, rfl, rfl⟩
    refine pD (fun W R z9 => ?_) ?_
    ·rw [eS (l := [(0, _), (5, _)]) ⟨z9 0 rfl, z9 5 rfl, ⟨⟩⟩]
     refine qo (ql (args := [.agg #[arv], .agg #[a1, a2]]) call122 rfl (sEqOkC_spec har ha1 ha2 (hla := (by first | assumption | rfl | omega | simp)) (hll := (by first | assumption | rfl | omega | simp)) (hlr := (by first | assumption | rfl | omega | simp))) ?_)
     rintro _ _ _ _ ⟨rfl, rfl, rfl⟩
     exact ⟨rfl, rfl, rfl⟩
    refine pD (fun W R z9 => ?_) ?_
    ·rw [eS (l := [(6, _)]) ⟨z9 6 rfl, ⟨⟩⟩]
     refine qo (qZ rfl ?_)
     exact ⟨rfl, rfl, rfl⟩
    refine pD (fun W R z9 => ?_) ?_
    ·rw [eS (l := [(7, _)]) ⟨z9 7 rfl, ⟨⟩⟩]
     refine qo (qu (.bool (!(eqOkL ar (((cs.getD k ([], [])).1), ((cs.getD k ([], [])).2))))) rfl ?_)
     exact ⟨rfl, rfl, rfl⟩
    refine pD (fun W R z9 => ?_) ?_
    ·rw [eS (l := [(8, _)]) ⟨z9 8 rfl, ⟨⟩⟩]
     exact XG.no (t := 51) rfl (vB h6) ⟨rfl, rfl, rfl⟩
    refine pD (fun W R z9 => ?_) ?_
    ·rw [eS (l := [(8, _), (9, undef)]) ⟨z9 8 rfl, z9 9 rfl, ⟨⟩⟩]
     exact XG.no (t := 51) rfl (vB h6) ⟨rfl, rfl, rfl⟩
    refine pD (fun W R z9 => ?_) ?_
    ·rw [eS (l := [(8, _)]) ⟨z9 8 rfl, ⟨⟩⟩]
     exact XG.no (t := 51) rfl (vB h6) ⟨rfl, rfl, rfl⟩
    refine pD (fun W R z9 => ?_) ?_
    ·rw [eS (l := [(8, _), (10, undef), (11, undef)]) ⟨z9 8 rfl, z9 10 rfl, z9 11 rfl, ⟨⟩⟩]
     exact XG.no (t := 51) rfl (vB h6) ⟨rfl, rfl, rfl⟩
    refine pD (fun W R z9 => ?_) ?_
    ·rw [eS (l := [(8, _), (12, undef)]) ⟨z9 8 rfl, z9 12 rfl, ⟨⟩⟩]
     exact XG.no (t := 51) rfl (vB h6) ⟨rfl, rfl, rfl⟩
    refine pD (fun W R z9 => ?_) ?_
    ·rw [eS (l := [(8, _), (13, undef)]) ⟨z9 8 rfl, z9 13 rfl, ⟨⟩⟩]
     exact XG.no (t := 51) rfl (vB h6) ⟨rfl, rfl, rfl⟩
    refine pD (fun W R z9 => ?_) ?_
    ·rw [eS (l := [(8, _)]) ⟨z9 8 rfl, ⟨⟩⟩]
     exact XG.no (t := 51) rfl (vB h6) ⟨rfl, rfl, rfl⟩
    exact stepsP.nil
   intro W hphi
   rw [eS (l := [(8, _), (14, undef), (15, undef)]) ⟨(hphi 8 (by decide)), (hphi 14 (by decide)), (hphi 15 (by decide)), ⟨⟩⟩]
   show XL _ _ _ _ _ _ _ (cellsH b2 [lv, rv, csv] 79 :: cellsH b1 [arv] 30 :: L)
   refine qq (t := 51) rfl (vB h6) (qq (t := 51) rfl (vB h6) (cX (qQ (.bool (true)) (vB h6) rfl (qd (X.condT rfl (qf (qc (qh (.bool (false)) rfl (qd (qs (qj (qy (qj (qj (qy (qj (qm (L' := L) [.bool (false)] (.bool (false)) (.tmp rfl .nil) rfl rF (qp (qp le1 le2) leG1) (sD (sD sR)) ?_)))))))))))))))))
   exact ⟨(vB (cruleOk_no2 (hos.trans (cOk_fail (by omega) (by first | exact .inl hek | exact .inr hkn))))), rfl, rfl⟩
  rw [Bool.not_eq_true] at h6
  have hek : eqOkL ar (cs.getD k ([], [])) = true := Bool.not_inj (y := true) h6
  have hek2 := eqOk_both hek
  have hel1 : (cs.getD k ([], [])).1.length ≤ 60 := (termOk_len hek2.1).2
  have hel2 : (cs.getD k ([], [])).2.length ≤ 60 := (termOk_len hek2.2).2
  have heg1 := fun i (hi : i < (cs.getD k ([], [])).1.length) => termOk_ge hek2.1 hi
  have heg2 := fun i (hi : i < (cs.getD k ([], [])).2.length) => termOk_ge hek2.2 hi
  refine X.draw [cellsH b2 [lv, rv, csv] 79, cellsH b1 [arv] 30] L 16 [] [[], [], [1], [], [2, 3], [4], [0, 5], [6], [7], [8], [8, 9], [8], [8, 10, 11], [8, 12], [8, 13], [8]] (phiL [qe (.agg #[arv]), qe (ptr b2 2), qe csv, qe (ii ((k : Int)) : Value), qe (.pointer (some (elemA csv (k * 2)))), qe (.agg #[a1, a2]), qe (.bool (eqOkL ar (((cs.getD k ([], [])).1), ((cs.getD k ([], [])).2)))), qe (.bool (!(eqOkL ar (((cs.getD k ([], [])).1), ((cs.getD k ([], [])).2))))), qe (.bool (!(eqOkL ar (((cs.getD k ([], [])).1), ((cs.getD k ([], [])).2))))), qe (ptr b2 2), qe csv, qe (ii ((k : Int)) : Value), qe (.pointer (some (elemA csv (k * 2)))), qe (.pointer (some (elemA csv (k * 2)))), qe a1, qe vv]) (ownL []) mixed rfl rfl (by kernel_rfl) ?_ ?_
  ·refine pD (fun W R z9 => ?_) ?_
   ·refine qo (qt [arv] qP qD rfl rfl (Rd.ownN [_] rfl rfl) ?_)
    exact ⟨rfl, rfl, rfl⟩
   refine pD (fun W R z9 => ?_) ?_
   ·refine qo (qn (2) qH rfl jt (by decide) rfl rfl ?_)
    exact ⟨rfl, rfl, rfl⟩
   refine pD (fun W R z9 => ?_) ?_
   ·rw [eS (l := [(1, _)]) ⟨z9 1 rfl, ⟨⟩⟩]
    refine qo (qk isAgg77 rfl (Rd.own [] rfl rfl) ?_)
    exact ⟨rfl, rfl, rfl⟩
   refine pD (fun W R z9 => ?_) ?_
   ·refine qo (qu (ii ((k : Int))) rfl ?_)
    exact ⟨rfl, rfl, rfl⟩
   refine pD (fun W R z9 => ?_) ?_
   ·rw [eS (l := [(2, _), (3, _)]) ⟨z9 2 rfl, z9 3 rfl, ⟨⟩⟩]
    refine qo (qA k qT jd rfl rfl rfl hcs.slv (by omega) rfl ?_)
    exact ⟨rfl, rfl, rfl⟩
   refine pD (fun W R z9 => ?_) ?_
   ·rw [eS (l := [(4, _)]) ⟨z9 4 rfl, ⟨⟩⟩]
    refine qo (qt [a1, a2] isAgg123 jd rfl rfl (Rd.two (hr4 _) (hr5 _)) ?_)
    exact ⟨rfl, rfl, rfl⟩
   refine pD (fun W R z9 => ?_) ?_
   ·rw [eS (l := [(0, _), (5, _)]) ⟨z9 0 rfl, z9 5 rfl, ⟨⟩⟩]
    refine qo (ql (args := [.agg #[arv], .agg #[a1, a2]]) call122 rfl (sEqOkC_spec har ha1 ha2 (hla := (by first | assumption | rfl | omega | simp)) (hll := (by first | assumption | rfl | omega | simp)) (hlr := (by first | assumption | rfl | omega | simp))) ?_)
    rintro _ _ _ _ ⟨rfl, rfl, rfl⟩
    exact ⟨rfl, rfl, rfl⟩
   refine pD (fun W R z9 => ?_) ?_
   ·rw [eS (l := [(6, _)]) ⟨z9 6 rfl, ⟨⟩⟩]
    refine qo (qZ rfl ?_)
    exact ⟨rfl, rfl, rfl⟩
   refine pD (fun W R z9 => ?_) ?_
   ·rw [eS (l := [(7, _)]) ⟨z9 7 rfl, ⟨⟩⟩]
    refine qo (qu (.bool (!(eqOkL ar (((cs.getD k ([], [])).1), ((cs.getD k ([], [])).2))))) rfl ?_)
    exact ⟨rfl, rfl, rfl⟩
   refine pD (fun W R z9 => ?_) ?_
   ·rw [eS (l := [(8, _)]) ⟨z9 8 rfl, ⟨⟩⟩]
    refine XG.yes (t := 51) rfl (vB h6) (qn (2) qH rfl jt (by decide) rfl rfl ?_)
    exact ⟨rfl, rfl, rfl⟩
   refine pD (fun W R z9 => ?_) ?_
   ·rw [eS (l := [(8, _), (9, _)]) ⟨z9 8 rfl, z9 9 rfl, ⟨⟩⟩]
    refine XG.yes (t := 51) rfl (vB h6) (qk isAgg77 rfl (Rd.own [] rfl rfl) ?_)
    exact ⟨rfl, rfl, rfl⟩
   refine pD (fun W R z9 => ?_) ?_
   ·rw [eS (l := [(8, _)]) ⟨z9 8 rfl, ⟨⟩⟩]
    refine XG.yes (t := 51) rfl (vB h6) (qu (ii ((k : Int))) rfl ?_)
    exact ⟨rfl, rfl, rfl⟩
   refine pD (fun W R z9 => ?_) ?_
   ·rw [eS (l := [(8, _), (10, _), (11, _)]) ⟨z9 8 rfl, z9 10 rfl, z9 11 rfl, ⟨⟩⟩]
    refine XG.yes (t := 51) rfl (vB h6) (qA k qT jd rfl rfl rfl hcs.slv (by omega) rfl ?_)
    exact ⟨rfl, rfl, rfl⟩
   refine pD (fun W R z9 => ?_) ?_
   ·rw [eS (l := [(8, _), (12, _)]) ⟨z9 8 rfl, z9 12 rfl, ⟨⟩⟩]
    refine XG.yes (t := 51) rfl (vB h6) (XOp.fieldE (k * 2) qR rfl qB (by decide) rfl rfl ?_)
    exact ⟨rfl, rfl, rfl⟩
   refine pD (fun W R z9 => ?_) ?_
   ·rw [eS (l := [(8, _), (13, _)]) ⟨z9 8 rfl, z9 13 rfl, ⟨⟩⟩]
    refine XG.yes (t := 51) rfl (vB h6) (qk qK rfl (hr4 _) ?_)
    exact ⟨rfl, rfl, rfl⟩
   refine pD (fun W R z9 => ?_) ?_
   ·rw [eS (l := [(8, _)]) ⟨z9 8 rfl, ⟨⟩⟩]
    refine XG.yes (t := 51) rfl (vB h6) (qu (vv) rfl ?_)
    exact ⟨rfl, rfl, rfl⟩
   exact stepsP.nil
  intro W hphi
  rw [eS (l := [(8, _), (14, _), (15, _)]) ⟨(hphi 8 (by decide)), (hphi 14 (by decide)), (hphi 15 (by decide)), ⟨⟩⟩]
  show XL _ _ _ _ _ _ _ (cellsH b2 [lv, rv, csv] 79 :: cellsH b1 [arv] 30 :: L)
  refine qr (t := 51) rfl (vB h6) (ql (args := [a1, vv]) call123 rfl (l27Within_spec ha1 hvv (hlt := (by first | assumption | rfl | omega | simp)) (hlv := (by first | assumption | rfl | omega | simp)) (htg := (by first | exact heg1 | exact hrg))) ?_)
  rintro _ _ _ _ ⟨rfl, rfl, rfl⟩
  refine qr (t := 51) rfl (vB h6) (qZ rfl (cX (qL (.bool (!(withinL ((cs.getD k ([], [])).1) vs))) (vB h6) rfl (qd ?_))))
  refine jq (t := !(withinL ((cs.getD k ([], [])).1) vs)) rfl (fun h7 => ?_) (fun h7 => ?_)
  ·have hkn : knownL (cs.getD k ([], [])).1 us = false := by rw [← hvs.known]; exact Bool.not_inj (y := false) h7
   refine qf (qc (qh (.bool (false)) rfl (qd (qs (qj (qy (qj (qj (qy (qj (qm (L' := L) [.bool (false)] (.bool (false)) (.tmp rfl .nil) rfl rF (qp (qp le1 le2) leG1) (sD (sD sR)) ?_)))))))))))
   exact ⟨(vB (cruleOk_no2 (hos.trans (cOk_fail (by omega) (by first | exact .inl hek | exact .inr hkn))))), rfl, rfl⟩
  have hkn : knownL (cs.getD k ([], [])).1 us = true := by rw [← hvs.known]; exact Bool.not_inj (y := true) h7
  refine qw (qc (qg (vv) rfl (cX (qn (2) qH rfl jt (by decide) rfl rfl (cX (qk isAgg77 rfl (Rd.own [] rfl rfl) (qg (ii ((k : Int))) rfl (cX (qA k qT jd rfl rfl rfl hcs.slv (by omega) rfl (cX (XOp.fieldE (k * 2 + 1) qR rfl qB (by decide) rfl rfl (cX (qk qK rfl (hr5 _) (cX (ql (args := [vv, a2]) call121 rfl (l27With_spec hvv ha2 (hlv := (by first | (simp; done) | omega)) (hlt := (by first | assumption | rfl | omega | simp)) (htg := (by first | exact hlg | exact heg2))) ?_)))))))))))))))
  rintro _ F3 _ le3 ⟨x3, x4, rfl, hr6, hr7, hr8, rfl⟩
  replace hr := hr.mono le3
  replace hvv := hvv.mono le3
  refine qh (x3) rfl (qd (qc (qg (ii ((k : Int))) rfl (cX (qM (((k + 1 : Nat) : Int)) rfl rfl (by omega) (by omega) (qh (ii (((k + 1 : Nat) : Int))) rfl (qd ?_)))))))
  exact ⟨(k + 1, x3, x4, us ++ [(cs.getD k ([], [])).2], F3), _, (qp leG1 le3), rF, ⟨rfl, rfl, rfl, rfl, ⟨⟩⟩, (sC (sC sR)), ⟨rfl, (qp leG1 le3), (hr6), (by (try dsimp only) <;> omega), (hvs.snoc hr7), (hos.trans (cOk_next (by omega) hek hkn)), (by have h9 := hr8; (try dsimp only); omega)⟩, (by omega)⟩
 refine qX (qv (qv (qJ (qf (qc (cX (qn (1) qH rfl qB (by decide) rfl rfl (cX (qk qK rfl (Rd.own [] rfl rfl) (qg (vv) rfl (cX (ql (args := [rv, vv]) call123 rfl (l27Within_spec hr hvv (hlt := (by first | assumption | rfl | omega | simp)) (hlv := (by first | assumption | rfl | omega | simp)) (htg := (by first | exact heg1 | exact hrg))) ?_))))))))))))
 rintro _ _ _ _ ⟨rfl, rfl, rfl⟩
 refine qh (.bool (withinL r vs)) rfl (qd (qs (qm (L' := L) [.bool (withinL r vs)] (.bool (withinL r vs)) (.tmp rfl .nil) rfl rF (qp (qp le1 le2) leG1) (sD (sD sR)) ?_)))
 exact ⟨(vB ((cruleOk_yes hlo hro (by omega) (by omega) (hos.trans (cOk_end (by omega)))).trans hvs.known.symm)), rfl, rfl⟩

/- spec.CSystemOk -/
theorem sCSystemOk_spec {F : FH} {L : List HP} {arv : Value} {ar : List Int} (har : IntsF F arv ar) {crv : Value} {cr : List CRuleT} (hcr : CRulesF F crv cr) (hla : ar.length ≤ 4000000) (hlr : cr.length ≤ 4000000) (hrb : ∀ i, i < cr.length → (cr.getD i ([], [], [])).1.length ≤ 4000000 ∧ (cr.getD i ([], [], [])).2.1.length ≤ 4000000 ∧ (cr.getD i ([], [], [])).2.2.length ≤ 4000000 ∧ ∀ q, q < (cr.getD i ([], [], [])).2.2.length → ((cr.getD i ([], [], [])).2.2.getD q ([], [])).1.length ≤ 4000000 ∧ ((cr.getD i ([], [], [])).2.2.getD q ([], [])).2.length ≤ 4000000) :
    Does prog 69 [.agg #[arv, crv]] F (L) (fun v F' L' => (.bool (csysOk ar cr) : Value) = v ∧ F = F' ∧ L = L') := by
 refine qz func69 rfl rfl rfl (qf (qc (cX (qO [arv, crv] rfl rfl ?_))))
 intro b1
 refine qh (.bool (false)) rfl (qd (qf (qf (qc (cX (qn (0) qN rfl qD (by decide) rfl rfl (cX (qt [arv] qP qD rfl rfl (Rd.ownN [] rfl rfl) (cX (ql (args := [.agg #[arv]]) call99 rfl (sSigOk_spec har (hla := (by first | assumption | rfl | omega | simp))) ?_))))))))))
 rintro _ _ _ _ ⟨rfl, rfl, rfl⟩
 refine cX (qZ rfl (qg (.bool (!(sigOk ar))) rfl ?_))
 by_cases h1 : (!(sigOk ar)) = true
 ·refine qq (t := 8) rfl (vB h1) (qq (t := 8) rfl (vB h1) (qq (t := 8) rfl (vB h1) (qq (t := 8) rfl (vB h1) (cX (qQ (.bool (true)) (vB h1) rfl (qd (X.condT rfl (qf (qc (qh (.bool (false)) rfl (qd ?_)))))))))))
  refine qs (qj (qm (L' := L) [.bool (false)] (.bool (false)) (.tmp rfl .nil) rfl rF rF (sD sR) ?_))
  exact ⟨(vB (by unfold csysOk; simp_all <;> omega)), rfl, rfl⟩
 rw [Bool.not_eq_true] at h1
 refine qr (t := 8) rfl (vB h1) (qn (1) qN rfl sizeOf46 (by decide) rfl rfl (qr (t := 8) rfl (vB h1) (qk isAgg46 rfl (Rd.own [] rfl rfl) (qr (t := 8) rfl (vB h1) (qC qW rfl hcr.slv (qr (t := 8) rfl (vB h1) (js rfl rfl (cX (qL (.bool (decide (((cr.length : Int) : Int) > 12))) (vB h1) rfl (qd ?_))))))))))
 refine qx (p := ((cr.length : Int) : Int) > 12) rfl (fun h2 => ?_) (fun h2 => ?_)
 ·refine qf (qc (qh (.bool (false)) rfl (qd (qs (qj (qm (L' := L) [.bool (false)] (.bool (false)) (.tmp rfl .nil) rfl rF rF (sD sR) ?_))))))
  exact ⟨(vB (by unfold csysOk; simp_all <;> omega)), rfl, rfl⟩
 refine qw (qf (qf (qc (qh (ii (0)) rfl (qd (qE (qY (α := Nat) (fun k => [(1, ptr b1 0), (3, ii ((k : Int)))]) (fun k => cellsH b1 [arv, crv] 48 :: L) (fun k F' => F = F' ∧ (k ≤ cr.length) ∧ (∀ i, i < k → cruleOk ar (cr.getD i ([], [], [])) = true)) (fun k => cr.length - k) 0 ⟨rfl, rfl, ⟨⟩⟩ (sC sR) ⟨rfl, (by (try dsimp only) <;> omega), (fun i hi => absurd hi (by omega))⟩ ?_)))))))
 rintro k rE _ _ ⟨rfl, hk, hall⟩
 show X _ _ _ _ (envs [(1, ptr b1 0), (3, ii ((k : Int)))] rE) _ (cellsH b1 [arv, crv] 48 :: L)
 refine qf (qf (qc (qg (ii ((k : Int))) rfl (cX (qn (1) qN rfl sizeOf46 (by decide) rfl rfl (cX (qk isAgg46 rfl (Rd.own [] rfl rfl) (cX (qC qW rfl hcr.slv (cX (qI rfl rfl (qd ?_))))))))))))
 refine qx (p := (k : Int) < (cr.length : Int)) rfl (fun h3 => ?_) (fun h3 => ?_)
 ·refine qw (qf (qE (qf ?_)))
  obtain ⟨a1, a2, a3, ha1, ha2, ha3, hrg1, hq1⟩ := hcr.rd (i := k) (by omega)
  refine X.draw [cellsH b1 [arv, crv] 48] L 7 [] [[], [0], [], [2], [], [3, 4], [5]] (phiL [qe (ptr b1 0), qe (.agg #[arv]), qe (ptr b1 1), qe crv, qe (ii ((k : Int)) : Value), qe (.pointer (some (elemA crv (k * 3)))), qe (.agg #[a1, a2, a3])]) (ownL []) mixed rfl rfl (by kernel_rfl) ?_ ?_
  ·refine pD (fun W R z9 => ?_) ?_
   ·refine qo (qn (0) qN rfl qD (by decide) rfl rfl ?_)
    exact ⟨rfl, rfl, rfl⟩
   refine pD (fun W R z9 => ?_) ?_
   ·rw [eS (l := [(0, _)]) ⟨z9 0 rfl, ⟨⟩⟩]
    refine qo (qt [arv] qP qD rfl rfl (Rd.ownN [] rfl rfl) ?_)
    exact ⟨rfl, rfl, rfl⟩
   refine pD (fun W R z9 => ?_) ?_
   ·refine qo (qn (1) qN rfl sizeOf46 (by decide) rfl rfl ?_)
    exact ⟨rfl, rfl, rfl⟩
   refine pD (fun W R z9 => ?_) ?_
   ·rw [eS (l := [(2, _)]) ⟨z9 2 rfl, ⟨⟩⟩]
    refine qo (qk isAgg46 rfl (Rd.own [] rfl rfl) ?_)
    exact ⟨rfl, rfl, rfl⟩
   refine pD (fun W R z9 => ?_) ?_
   ·refine qo (qu (ii ((k : Int))) rfl ?_)
    exact ⟨rfl, rfl, rfl⟩
   refine pD (fun W R z9 => ?_) ?_
   ·rw [eS (l := [(3, _), (4, _)]) ⟨z9 3 rfl, z9 4 rfl, ⟨⟩⟩]
    refine qo (qA k qW jj rfl rfl rfl hcr.slv (by omega) rfl ?_)
    exact ⟨rfl, rfl, rfl⟩
   refine pD (fun W R z9 => ?_) ?_
   ·rw [eS (l := [(5, _)]) ⟨z9 5 rfl, ⟨⟩⟩]
    refine qo (qt [a1, a2, a3] isAgg79 jj rfl rfl (Rd.all (hrg1 _)) ?_)
    exact ⟨rfl, rfl, rfl⟩
   exact stepsP.nil
  intro W hphi
  rw [eS (l := [(1, _), (6, _)]) ⟨(hphi 1 (by decide)), (hphi 6 (by decide)), ⟨⟩⟩]
  show XL _ _ _ _ _ _ _ (cellsH b1 [arv, crv] 48 :: L)
  refine cX (ql (args := [.agg #[arv], .agg #[a1, a2, a3]]) call100 rfl (sCRuleOk_spec har ha1 ha2 ha3 (hla := (by first | assumption | rfl | omega | simp)) (hlb := ((hrb k (by omega)).1)) (hlc := ((hrb k (by omega)).2.1)) (hln := ((hrb k (by omega)).2.2.1)) (hcb := ((hrb k (by omega)).2.2.2))) ?_)
  rintro _ _ _ _ ⟨rfl, rfl, rfl⟩
  refine cX (qZ rfl (qd ?_))
  refine jq (t := !(cruleOk ar (((cr.getD k ([], [], [])).1), ((cr.getD k ([], [], [])).2.1), ((cr.getD k ([], [], [])).2.2)))) rfl (fun h4 => ?_) (fun h4 => ?_)
  ·have hrk : cruleOk ar (cr.getD k ([], [], [])) = false := Bool.not_inj (y := false) h4
   refine qf (qc (qh (.bool (false)) rfl (qd (qs (qy (qj (qj (qy (qj (qm (L' := L) [.bool (false)] (.bool (false)) (.tmp rfl .nil) rfl rF rF (sD sR) ?_))))))))))
   exact ⟨(vB (by unfold csysOk; rw [all_fail (([], [], []) : CR) (k := k) (by omega) hrk, Bool.and_false])), rfl, rfl⟩
  have hrk : cruleOk ar (cr.getD k ([], [], [])) = true := Bool.not_inj (y := true) h4
  refine qw (qc (qg (ii ((k : Int))) rfl (cX (qM (((k + 1 : Nat) : Int)) rfl rfl (by omega) (by omega) (qh (ii (((k + 1 : Nat) : Int))) rfl (qd ?_))))))
  exact ⟨k + 1, _, FLe.refl _, rF, ⟨rfl, rfl, ⟨⟩⟩, (sC sR), ⟨rfl, (by (try dsimp only) <;> omega), (fun i hi => (Nat.lt_or_ge i k).elim (fun h => hall i h) (fun h => by obtain rfl : i = k := (by omega); exact hrk))⟩, (by omega)⟩
 refine qX (qv (qv (qJ (qf (qc (qh (.bool (true)) rfl (qd (qs (qm (L' := L) [.bool (true)] (.bool (true)) (.tmp rfl .nil) rfl rF rF (sD sR) ?_)))))))))
 exact ⟨(vB (by rw [csysOk_iff.2 ⟨by simp_all, by omega, fun i hi => hall i (by omega)⟩])), rfl, rfl⟩

/- spec.l27Right -/
theorem l27Right_spec {F : FH} {L : List HP} {arv : Value} {ar : List Int} (har : IntsF F arv ar) {crv : Value} {cr : List CRuleT} (hcr : CRulesF F crv cr) {tv : Value} {t : List Int} (ht : IntsF F tv t) {z : Int} (hla : ar.length ≤ 4000000) (hlr : cr.length ≤ 4000000) (hrb : ∀ i, i < cr.length → (cr.getD i ([], [], [])).1.length ≤ 4000000 ∧ (cr.getD i ([], [], [])).2.1.length ≤ 4000000 ∧ (cr.getD i ([], [], [])).2.2.length ≤ 4000000 ∧ ∀ q, q < (cr.getD i ([], [], [])).2.2.length → ((cr.getD i ([], [], [])).2.2.getD q ([], [])).1.length ≤ 4000000 ∧ ((cr.getD i ([], [], [])).2.2.getD q ([], [])).2.length ≤ 4000000) (hlt : t.length ≤ 4000000) :
    Does prog 41 [.agg #[arv, crv], tv, ii (z)] F (L) (fun v F' L' => (.bool (depthB ar cr t z) : Value) = v ∧ F = F' ∧ L = L') := by
 refine qz func41 rfl rfl rfl (qf (qc (cX (qO [arv, crv] rfl rfl ?_))))
 intro b1
 refine qh (.bool (false)) rfl (qd (qf (qc (cX (qt [arv, crv] ju jo rfl rfl (Rd.ownN [] rfl rfl) (cX (ql (args := [.agg #[arv, crv]]) call69 rfl (sCSystemOk_spec har hcr (hla := (by first | assumption | rfl | omega | simp)) (hlr := (by first | assumption | rfl | omega | simp)) (hrb := (by first | assumption | rfl | omega | simp))) ?_)))))))
 rintro _ _ _ _ ⟨rfl, rfl, rfl⟩
 refine qg (.bool (csysOk ar cr)) rfl ?_
 by_cases h1 : (csysOk ar cr) = true
 ·refine qr (t := 9) rfl (vB h1) (qn (0) qN rfl qD (by decide) rfl rfl (qr (t := 9) rfl (vB h1) (qt [arv] qP qD rfl rfl (Rd.ownN [] rfl rfl) (qr (t := 9) rfl (vB h1) (qu (tv) rfl (qr (t := 9) rfl (vB h1) (ql (args := [.agg #[arv], tv]) call70 rfl (sTermOk_spec har ht (hla := (by first | assumption | rfl | omega | simp)) (hlt := (by first | assumption | rfl | omega | simp))) ?_)))))))
  rintro _ _ _ _ ⟨rfl, rfl, rfl⟩
  refine cX (qQ (.bool (termOk ar t)) (vB h1) rfl (qg (.bool (termOk ar t)) rfl ?_))
  by_cases h2 : (termOk ar t) = true
  ·refine qr (t := 15) rfl (vB h2) (qu (ii (z)) rfl (qr (t := 15) rfl (vB h2) (ql (args := [ii (z), ii (0), ii (2)]) call48 rfl (l1In_spec (n := z) (a := 0) (b := 2)) ?_)))
   rintro _ _ _ _ ⟨rfl, rfl, rfl⟩
   refine cX (qQ (.bool (decide (0 ≤ z ∧ z ≤ 2))) (vB h2) rfl (qh (.bool (decide (0 ≤ z ∧ z ≤ 2))) rfl (qd (qs (qm (L' := L) [.bool (decide (0 ≤ z ∧ z ≤ 2))] (.bool (decide (0 ≤ z ∧ z ≤ 2))) (.tmp rfl .nil) rfl rF rF (sD sR) ?_)))))
   exact ⟨(vB (by unfold depthB; simp_all <;> omega)), rfl, rfl⟩
  rw [Bool.not_eq_true] at h2
  refine qq (t := 15) rfl (vB h2) (qq (t := 15) rfl (vB h2) (cX (qL (.bool (false)) (vB h2) rfl (qh (.bool (false)) rfl (qd (qs (qm (L' := L) [.bool (false)] (.bool (false)) (.tmp rfl .nil) rfl rF rF (sD sR) ?_)))))))
  exact ⟨(vB (by unfold depthB; simp_all <;> omega)), rfl, rfl⟩
 rw [Bool.not_eq_true] at h1
 refine qq (t := 9) rfl (vB h1) (qq (t := 9) rfl (vB h1) (qq (t := 9) rfl (vB h1) (qq (t := 9) rfl (vB h1) (cX (qL (.bool (false)) (vB h1) rfl (qg (.bool (false)) rfl (qq (t := 15) rfl rfl (qq (t := 15) rfl rfl (cX (qL (.bool (false)) rfl rfl (qh (.bool (false)) rfl ?_)))))))))))
 refine qd (qs (qm (L' := L) [.bool (false)] (.bool (false)) (.tmp rfl .nil) rfl rF rF (sD sR) ?_))
 exact ⟨(vB (by unfold depthB; simp_all <;> omega)), rfl, rfl⟩

/- spec.l27Given -/
set_option maxHeartbeats 2000000 in
set_option maxRecDepth 20000 in
theorem sgiven_step {d : Nat} (ih : ∀ m : Nat, m < d → ∀ {F : FH} {L : List HP}  {arv : Value} {ar : List Int} (har : IntsF F arv ar) {crv : Value} {cr : List CRuleT} (hcr : CRulesF F crv cr) {tv : Value} {t : List Int} (ht : IntsF F tv t) (hc : csysOk ar cr = true) (ho : termOk ar t = true) (hd2 : m ≤ 2), Does prog 53 [.agg #[arv, crv], tv, ii ((m : Int))] F L (fun v F' L' => (∃ (a : Value), (.tuple #[a, .bool ((normC ar cr m t).isSome)] : Value) = v ∧ (IntsF F' a ((normC ar cr m t).getD []))) ∧ L = L')) {F : FH} {L : List HP}  {arv : Value} {ar : List Int} (har : IntsF F arv ar) {crv : Value} {cr : List CRuleT} (hcr : CRulesF F crv cr) {uv : Value} {u : List Int} (hu : IntsF F uv u) {lv : Value} {l : List Int} (hl : IntsF F lv l) {rv : Value} {r : List Int} (hr : IntsF F rv r) {csv : Value} {cs : List (List Int × List Int)} (hcs : PairsF F csv cs) (hc : csysOk ar cr = true) (hou : termOk ar u = true) (hd2 : d ≤ 2) (hR : CRuleOk ar (l, r, cs)) :
    Does prog 77 [.agg #[arv, crv], uv, .agg #[lv, rv, csv], ii ((d : Int))] F (L) (fun v F' L' => (∃ (a : Value), (.tuple #[a, .bool ((givenD ar cr d u (l, r, cs)).isSome)] : Value) = v ∧ (SomeRowsF F' a (fun g2 => g2.length = 24 ∧ ∀ x, givenD ar cr d u (l, r, cs) = some x → g2 = x))) ∧ L = L') := by
 refine qz func77 rfl rfl rfl ?_
 have hRl : termOk ar l = true := hR.left
 have hRr : termOk ar r = true := hR.right
 have hRn : cs.length ≤ 2 := hR.len
 have hRc : ∀ i, i < cs.length → termOk ar (cs.getD i ([], [])).1 = true ∧ termOk ar (cs.getD i ([], [])).2 = true := hR.conds
 have hul := termOk_len hou
 have hsl := sigOk_spec (termOk_sig hou)
 have hcl := (csysOk_iff.1 hc).2.1
 refine qf (qc (cX (qO [arv, crv] rfl rfl ?_)))
 intro b1
 refine cX (qO [lv, rv, csv] rfl rfl ?_)
 intro b2
 refine qh (sN) rfl (qh (.bool (false)) rfl (qd (qf ?_)))
 refine X.drawG [cellsH b2 [lv, rv, csv] 79, cellsH b1 [arv, crv] 48] L 11 [[], [], [], [], [], [], [], [6], [6], [], [6]] [[], [0], [], [], [3], [], [1, 2, 4, 5], [6], [6, 7], [6, 7], [6, 8]] [] (phiG [pe (ptr b1 0), pe (.agg #[arv]), fun FF us v => (v : Value) = v ∧ (RowsF FF v (List.replicate 24 [] : List (List Int))), pe (ptr b2 0), pe lv, pe uv, fun FF us v => (.tuple #[((tupAt v 0)), .bool ((mGo ar u l 0 ((List.replicate 24 [] : List (List Int)))).isSome)] : Value) = v ∧ (SomeRowsF FF ((tupAt v 0)) (fun g2 => g2.length = 24 ∧ ∀ x, mGo ar u l 0 ((List.replicate 24 [] : List (List Int))) = some x → g2 = x)), fun FF us v => v = (.tuple #[((tupAt (us.getD 0 undef) 0)), .bool ((mGo ar u l 0 ((List.replicate 24 [] : List (List Int)))).isSome)] : Value), fun FF us v => v = ((tupAt (us.getD 0 undef) 0)), pe (.bool ((mGo ar u l 0 ((List.replicate 24 [] : List (List Int)))).isSome) : Value), fun FF us v => v = ((tupAt (us.getD 0 undef) 0))]) (ownL []) mixed rfl rfl (by kernel_rfl) (by kernel_rfl) (MonoG.get (m1 (m1 (mC (fun le h => ⟨h.1, h.2.mono le⟩) (m1 (m1 (m1 (mC (fun le h => ⟨h.1, h.2.mono le⟩) (mC (fun le h => h) (mC (fun le h => h) (m1 (mC (fun le h => h) MonoG.nil)))))))))))) ?_ ?_
 ·refine gD (fun W Fs R lF z9 => ?_) ?_
  ·refine qo (qn (0) qN rfl qD (by decide) rfl rfl ?_)
   exact ⟨rfl, rfl⟩
  refine gD (fun W Fs R lF z9 => ?_) ?_
  ·replace har := har.mono lF
   replace hcr := hcr.mono lF
   replace hu := hu.mono lF
   replace hl := hl.mono lF
   replace hcs := hcs.mono lF
   rw [eS (l := [(0, _)]) ⟨z9 0 rfl, ⟨⟩⟩]
   refine qo (qt [arv] qP qD rfl rfl (Rd.ownN [_] rfl rfl) ?_)
   exact ⟨rfl, rfl⟩
  refine gD (fun W Fs R lF z9 => ?_) ?_
  ·replace har := har.mono lF
   replace hcr := hcr.mono lF
   replace hu := hu.mono lF
   replace hl := hl.mono lF
   replace hcs := hcs.mono lF
   refine qo (XOp.frzF <| XOp.makeSlice (n := 24) (bytes := 24) [sN] qV qB typeInfo22 rfl zeroValue22 rfl rfl rfl rfl (by omega) (by omega) ?_)
   intro v1 hv1
   rw [nils]
   refine ⟨_, _, rfl, fun F2 le2 hz1 => ?_⟩
   replace har := har.mono le2
   replace hcr := hcr.mono le2
   replace hu := hu.mono le2
   replace hl := hl.mono le2
   replace hcs := hcs.mono le2
   have hf1 : RowsF F2 v1 (List.replicate 24 [] : List (List Int)) := CO.fz (RowsC.nils 24) (by simp) hz1.fz
   exact ⟨⟨rfl, hf1⟩, rfl⟩
  refine gD (fun W Fs R lF z9 => ?_) ?_
  ·refine qo (qn (0) qH rfl qB (by decide) rfl rfl ?_)
   exact ⟨rfl, rfl⟩
  refine gD (fun W Fs R lF z9 => ?_) ?_
  ·replace har := har.mono lF
   replace hcr := hcr.mono lF
   replace hu := hu.mono lF
   replace hl := hl.mono lF
   replace hcs := hcs.mono lF
   rw [eS (l := [(3, _)]) ⟨z9 3 rfl, ⟨⟩⟩]
   refine qo (qk qK rfl (Rd.own [] rfl rfl) ?_)
   exact ⟨rfl, rfl⟩
  refine gD (fun W Fs R lF z9 => ?_) ?_
  ·refine qo (qu (uv) rfl ?_)
   exact ⟨rfl, rfl⟩
  refine gD (fun W Fs R lF z9 => ?_) ?_
  ·obtain ⟨e2, f2_1mk⟩ := z9 2 rfl
   replace har := har.mono lF
   replace hcr := hcr.mono lF
   replace hu := hu.mono lF
   replace hl := hl.mono lF
   replace hcs := hcs.mono lF
   rw [eS (l := [(1, _), (2, (W 2)), (4, _), (5, _)]) ⟨z9 1 rfl, (e2).symm, z9 4 rfl, z9 5 rfl, ⟨⟩⟩]
   refine qo (ql (args := [.agg #[arv], (W 2), lv, uv]) call108 rfl (l20Match_spec ((l).length) har f2_1mk hl hu (hn := (Nat.le_refl _)) (hop := (by first | assumption | rfl | omega | simp)) (hot := (by first | assumption | rfl | omega | simp)) (hgl := (by first | assumption | rfl | omega | simp))) ?_)
   rintro _ F3 _ le3 ⟨⟨x2, rfl, hr2⟩, rfl⟩
   replace har := har.mono le3
   replace hcr := hcr.mono le3
   replace hcs := hcs.mono le3
   replace f2_1mk := f2_1mk.mono le3
   exact ⟨⟨rfl, hr2⟩, rfl⟩
  refine gD (fun W Fs R lF z9 => ?_) ?_
  ·obtain ⟨e6, f6_1hp_a⟩ := z9 6 rfl
   obtain ⟨t6X1_a, f6_1hp_a, q6_1_a0, q6_1_a1⟩ := f6_1hp_a
   rw [eS (l := [(6, (.tuple #[((tupAt (W 6) 0)), .bool ((mGo ar u l 0 ((List.replicate 24 [] : List (List Int)))).isSome)]))]) ⟨(e6).symm, ⟨⟩⟩]
   refine qo (qu (.tuple #[((tupAt (W 6) 0)), .bool ((mGo ar u l 0 ((List.replicate 24 [] : List (List Int)))).isSome)]) rfl ?_)
   exact ⟨rfl, rfl⟩
  refine gD (fun W Fs R lF z9 => ?_) ?_
  ·obtain ⟨e6, f6_1hp_a⟩ := z9 6 rfl
   obtain ⟨t6X1_a, f6_1hp_a, q6_1_a0, q6_1_a1⟩ := f6_1hp_a
   have e7 : W 7 = (.tuple #[((tupAt (W 6) 0)), .bool ((mGo ar u l 0 ((List.replicate 24 [] : List (List Int)))).isSome)] : Value) := z9 7 rfl
   rw [eS (l := [(6, (.tuple #[((tupAt (W 6) 0)), .bool ((mGo ar u l 0 ((List.replicate 24 [] : List (List Int)))).isSome)])), (7, (.tuple #[((tupAt (W 6) 0)), .bool ((mGo ar u l 0 ((List.replicate 24 [] : List (List Int)))).isSome)]))]) ⟨(e6).symm, e7, ⟨⟩⟩]
   refine qo (qF (((tupAt (W 6) 0))) rfl rfl ?_)
   exact ⟨rfl, rfl⟩
  refine gD (fun W Fs R lF z9 => ?_) ?_
  ·obtain ⟨e6, f6_1hp_a⟩ := z9 6 rfl
   obtain ⟨t6X1_a, f6_1hp_a, q6_1_a0, q6_1_a1⟩ := f6_1hp_a
   have e7 : W 7 = (.tuple #[((tupAt (W 6) 0)), .bool ((mGo ar u l 0 ((List.replicate 24 [] : List (List Int)))).isSome)] : Value) := z9 7 rfl
   rw [eS (l := [(6, (.tuple #[((tupAt (W 6) 0)), .bool ((mGo ar u l 0 ((List.replicate 24 [] : List (List Int)))).isSome)])), (7, (.tuple #[((tupAt (W 6) 0)), .bool ((mGo ar u l 0 ((List.replicate 24 [] : List (List Int)))).isSome)]))]) ⟨(e6).symm, e7, ⟨⟩⟩]
   refine qo (qF (.bool ((mGo ar u l 0 ((List.replicate 24 [] : List (List Int)))).isSome)) rfl rfl ?_)
   exact ⟨rfl, rfl⟩
  refine gD (fun W Fs R lF z9 => ?_) ?_
  ·obtain ⟨e6, f6_1hp_a⟩ := z9 6 rfl
   obtain ⟨t6X1_a, f6_1hp_a, q6_1_a0, q6_1_a1⟩ := f6_1hp_a
   have e8 : W 8 = ((tupAt (W 6) 0)) := z9 8 rfl
   rw [eS (l := [(6, (.tuple #[((tupAt (W 6) 0)), .bool ((mGo ar u l 0 ((List.replicate 24 [] : List (List Int)))).isSome)])), (8, ((tupAt (W 6) 0)))]) ⟨(e6).symm, e8, ⟨⟩⟩]
   refine qo (XOp.assign (((tupAt (W 6) 0))) rfl ?_)
   exact ⟨rfl, rfl⟩
  exact stepsG.nil
 intro W F4 le4 hphi
 obtain ⟨e2, f2_1mk⟩ := hphi 2 (by decide)
 obtain ⟨e6, f6_1hp_a⟩ := hphi 6 (by decide)
 obtain ⟨t6X1_a, f6_1hp_a, q6_1_a0, q6_1_a1⟩ := f6_1hp_a
 have e7 : W 7 = (.tuple #[((tupAt (W 6) 0)), .bool ((mGo ar u l 0 ((List.replicate 24 [] : List (List Int)))).isSome)] : Value) := hphi 7 (by decide)
 have e8 : W 8 = ((tupAt (W 6) 0)) := hphi 8 (by decide)
 have e10 : W 10 = ((tupAt (W 6) 0)) := hphi 10 (by decide)
 generalize hu1 : (W 2) = u1 at e2 f2_1mk e6 f6_1hp_a e7 e8 e10
 generalize hu2 : ((tupAt (W 6) 0)) = u2 at e2 f2_1mk e6 f6_1hp_a e7 e8 e10
 rw [eS (l := [(6, (.tuple #[u2, .bool ((mGo ar u l 0 ((List.replicate 24 [] : List (List Int)))).isSome)])), (9, _), (10, u2)]) ⟨(e6).symm, (hphi 9 (by decide)), e10, ⟨⟩⟩]
 replace har := har.mono le4
 replace hcr := hcr.mono le4
 replace hcs := hcs.mono le4
 show XL _ _ _ _ _ _ _ (cellsH b2 [lv, rv, csv] 79 :: cellsH b1 [arv, crv] 48 :: L)
 refine qh (.bool ((mGo ar u l 0 ((List.replicate 24 [] : List (List Int)))).isSome)) rfl (qd (qf (qf (qc (qh (ii (0)) rfl (qd (qE (qY (α := Nat × Value × RowL × Bool × FH) (fun xQ => [(3, ii ((d : Int))), (4, ptr b1 0), (6, ptr b2 0), (10, xQ.2.1), (11, .bool (xQ.2.2.2.1)), (12, ii (((xQ.1 : Nat) : Int)))]) (fun xQ => cellsH b2 [lv, rv, csv] 79 :: cellsH b1 [arv, crv] 48 :: L) (fun xQ F' => xQ.2.2.2.2 = F' ∧ F4 ≤ xQ.2.2.2.2 ∧ (RowsF xQ.2.2.2.2 xQ.2.1 xQ.2.2.1) ∧ (xQ.2.2.1.length = 24) ∧ (xQ.1 ≤ cs.length) ∧ (GivenAt ar cr d u (l, r, cs) xQ.1 xQ.2.2.1 xQ.2.2.2.1)) (fun xQ => cs.length - xQ.1) (0, u2, t6X1_a, (mGo ar u l 0 ((List.replicate 24 [] : List (List Int)))).isSome, F4) ⟨rfl, rfl, rfl, rfl, rfl, rfl, ⟨⟩⟩ (sC (sC sR)) ⟨rfl, FLe.refl _, (f6_1hp_a), (q6_1_a0), (Nat.zero_le _), (GivenAt.start hou (by exact q6_1_a1))⟩ ?_))))))))
 rintro ⟨k, gv, gs, ok, G1⟩ rE _ _ ⟨rfl, leG, hgv, hgn, hk, hga⟩
 show X _ _ _ _ (envs [(3, ii ((d : Int))), (4, ptr b1 0), (6, ptr b2 0), (10, gv), (11, .bool (ok)), (12, ii ((k : Int)))] rE) _ (cellsH b2 [lv, rv, csv] 79 :: cellsH b1 [arv, crv] 48 :: L)
 replace leG : F4 ≤ G1 := leG
 dsimp only at hgv hgn hk hga
 have hcd := fun (h : k < cs.length) => hRc k h
 have leG1 := leG
 replace har := har.mono leG1
 replace hcr := hcr.mono leG1
 replace hcs := hcs.mono leG1
 refine qf (qf (qc (qg (ii ((k : Int))) rfl (cX (qn (2) qH rfl jt (by decide) rfl rfl (cX (qk isAgg77 rfl (Rd.own [] rfl rfl) (cX (qC qT rfl hcs.slv (cX (qI rfl rfl (qg (.bool (decide ((k : Int) < (cs.length : Int)))) rfl ?_))))))))))))
 by_cases h1 : (k : Int) < (cs.length : Int)
 ·have hk9 : k < cs.length := by omega
  have hc1 := (hcd hk9).1
  have hc2 := (hcd hk9).2
  have hcl1 := termOk_len hc1
  have hcl2 := termOk_len hc2
  have hcg1 := fun i (hi : i < (cs.getD k ([], [])).1.length) => termOk_ge hc1 hi
  refine qr (t := 32) rfl (vT h1) (qu (.bool (ok)) rfl (cX (qQ (.bool (ok)) (vT h1) rfl (qd ?_))))
  refine jq (t := ok) rfl (fun h2 => ?_) (fun h2 => ?_)
  ·have hok9 : ok = true := h2
   refine qw (qf (qE (qf (qf (qc (qg (ii ((d : Int))) rfl (cX (XOp.eql rfl rfl (qd ?_)))))))))
   refine qx (p := (d : Int) = 0) rfl (fun h3 => ?_) (fun h3 => ?_)
   ·have hd0 : d = 0 := by omega
    refine qf (qc (qg (gv) rfl (qh (gv) rfl (qh (.bool (false)) rfl (qd (qs (qj (qy (qj (qj (qy (qj (qm (L' := L) [gv, .bool (false)] (.tuple #[gv, .bool (false)]) (.tmp rfl (.tmp rfl .nil)) rfl (qp le4 leG1) rF (sD (sD sR)) ?_)))))))))))))
    have e : givenD ar cr d u (l, r, cs) = none := by first | exact hgd.2.trans (condD_nofill hk9 hf0) | exact hgd.2.trans (condD_nonorm hd9 hk9 hf1 hn0) | exact hga.zero hok9 hd0 hk9
    exact ⟨⟨_, by rw [e]; rfl, ⟨_, hgv, hgn, fun x hx => (by rw [e] at hx; cases hx)⟩⟩, rfl⟩
   have hd9 : d ≠ 0 := by omega
   have hgd := hga.go hok9 hd9
   have hbl := hgd.1.len
   refine qw (qf (qc (qg (gv) rfl (cX (XOp.build [gv] [sN] [(0, 1)] [(0, [gv])] jv zeroValue116 rfl (.cons rfl sizeOf60 PlacesAre.nil) rfl (.cons (cells_one (RowsF.isSl hgv)) CellsAre.nil) (cX (qn (2) qH rfl jt (by decide) rfl rfl (cX (qk isAgg77 rfl (Rd.own [] rfl rfl) (qg (ii ((k : Int))) rfl (cX (qA k qT jd rfl rfl rfl hcs.slv (by omega) rfl (cX (XOp.fieldE (k * 2) qR rfl qB (by decide) rfl rfl ?_))))))))))))))
   obtain ⟨a1, a2, ha1, ha2, hr3, hr4⟩ := hcs.rd (i := k) (by omega)
   refine cX (qk qK rfl (hr3 _) (cX (ql (args := [.agg #[gv], a1]) call79 rfl (l2Filled_spec hgv ha1 (hsl := (by omega)) (hsb := (fun i => by have := hbl i; omega)) (htl := (by omega)) (htg := (fun i hi => by have := hcg1 i hi; omega))) ?_)))
   rintro _ F5 _ le5 ⟨x3, rfl, hr5, rfl⟩
   replace har := har.mono le5
   replace hcr := hcr.mono le5
   replace hcs := hcs.mono le5
   replace hgv := hgv.mono le5
   replace ha2 := ha2.mono le5
   replace hr4 := Rd.monoA hr4 le5
   refine qg (.tuple #[x3, .bool ((fillL gs ((cs.getD k ([], [])).1)).isSome)]) rfl (cX (qF (x3) rfl rfl (cX (qF (.bool ((fillL gs ((cs.getD k ([], [])).1)).isSome)) rfl rfl (qh (x3) rfl (qh (.bool ((fillL gs ((cs.getD k ([], [])).1)).isSome)) rfl (qd (qf (qf (qc (qg (.bool ((fillL gs ((cs.getD k ([], [])).1)).isSome)) rfl (cX (qZ rfl (qd ?_))))))))))))))
   refine jq (t := !((fillL gs ((cs.getD k ([], [])).1)).isSome)) rfl (fun h4 => ?_) (fun h4 => ?_)
   ·have hf0 := Bool.not_inj (y := false) h4
    refine qf (qc (qg (gv) rfl (qh (gv) rfl (qh (.bool (false)) rfl (qd (qs (qj (qy (qj (qj (qy (qj (qm (L' := L) [gv, .bool (false)] (.tuple #[gv, .bool (false)]) (.tmp rfl (.tmp rfl .nil)) rfl (qp (qp le4 leG1) le5) rF (sD (sD sR)) ?_)))))))))))))
    have e : givenD ar cr d u (l, r, cs) = none := by first | exact hgd.2.trans (condD_nofill hk9 hf0) | exact hgd.2.trans (condD_nonorm hd9 hk9 hf1 hn0) | exact hga.zero hok9 hd0 hk9
    exact ⟨⟨_, by rw [e]; rfl, ⟨_, hgv, hgn, fun x hx => (by rw [e] at hx; cases hx)⟩⟩, rfl⟩
   have hf1 := Bool.not_inj (y := true) h4
   have hfo := fill_okS hgd.1 hc1 hf1
   have hfl := termOk_len hfo
   refine qw (qf (qc (cX (qt [arv, crv] ju jo rfl rfl (Rd.ownN [_] rfl rfl) (qg (x3) rfl (qg (ii ((d : Int))) rfl (cX (je (((d - 1 : Nat) : Int)) rfl rfl (by omega) (by omega) (cX (ql (args := [.agg #[arv, crv], x3, ii ((d - 1 : Nat) : Int)]) call53 rfl (ih (d - 1) (by omega) har hcr hr5 (hc := (by first | assumption | rfl | omega | simp)) (ho := (hfo)) (hd2 := (by first | assumption | rfl | omega | simp))) ?_))))))))))
   rintro _ F6 _ le6 ⟨⟨x4, rfl, hr6⟩, rfl⟩
   replace har := har.mono le6
   replace hcs := hcs.mono le6
   replace hgv := hgv.mono le6
   replace ha2 := ha2.mono le6
   replace hr4 := Rd.monoA hr4 le6
   show XL _ _ _ _ _ _ _ (cellsH b2 [lv, rv, csv] 79 :: cellsH b1 [arv, crv] 48 :: L)
   refine qg (.tuple #[x4, .bool ((normC ar cr (d - 1) ((fillL gs ((cs.getD k ([], [])).1)).getD [])).isSome)]) rfl (cX (qF (x4) rfl rfl (cX (qF (.bool ((normC ar cr (d - 1) ((fillL gs ((cs.getD k ([], [])).1)).getD [])).isSome)) rfl rfl (qh (x4) rfl (qh (.bool ((normC ar cr (d - 1) ((fillL gs ((cs.getD k ([], [])).1)).getD [])).isSome)) rfl (qd (qf (qf (qc (qg (.bool ((normC ar cr (d - 1) ((fillL gs ((cs.getD k ([], [])).1)).getD [])).isSome)) rfl (cX (qZ rfl (qd ?_))))))))))))))
   refine jq (t := !((normC ar cr (d - 1) ((fillL gs ((cs.getD k ([], [])).1)).getD [])).isSome)) rfl (fun h5 => ?_) (fun h5 => ?_)
   ·have hn0 := Bool.not_inj (y := false) h5
    refine qf (qc (qg (gv) rfl (qh (gv) rfl (qh (.bool (false)) rfl (qd (qs (qj (qy (qj (qj (qy (qj (qm (L' := L) [gv, .bool (false)] (.tuple #[gv, .bool (false)]) (.tmp rfl (.tmp rfl .nil)) rfl (qp (qp (qp le4 leG1) le5) le6) rF (sD (sD sR)) ?_)))))))))))))
    have e : givenD ar cr d u (l, r, cs) = none := by first | exact hgd.2.trans (condD_nofill hk9 hf0) | exact hgd.2.trans (condD_nonorm hd9 hk9 hf1 hn0) | exact hga.zero hok9 hd0 hk9
    exact ⟨⟨_, by rw [e]; rfl, ⟨_, hgv, hgn, fun x hx => (by rw [e] at hx; cases hx)⟩⟩, rfl⟩
   have hn1 := Bool.not_inj (y := true) h5
   have hwo := norm_okS hc hfo hn1
   have hwl := termOk_len hwo
   refine qw ?_
   refine X.drawG [cellsH b2 [lv, rv, csv] 79, cellsH b1 [arv, crv] 48] L 15 [[], [], [], [], [], [], [], [], [], [], [], [10], [10], [], [10]] [[], [0], [], [], [3], [], [4, 5], [6], [7], [], [1, 2, 8, 9], [10], [10, 11], [10, 11], [10, 12]] [] (phiG [pe (ptr b1 0), pe (.agg #[arv]), pe gv, pe (ptr b2 2), pe csv, pe (ii ((k : Int)) : Value), pe (.pointer (some (elemA csv (k * 2)))), pe (.pointer (some (elemA csv (k * 2 + 1)))), pe a2, pe x4, fun FF us v => (.tuple #[((tupAt v 0)), .bool ((mGo ar ((normC ar cr (d - 1) ((fillL gs ((cs.getD k ([], [])).1)).getD [])).getD []) ((cs.getD k ([], [])).2) 0 gs).isSome)] : Value) = v ∧ (SomeRowsF FF ((tupAt v 0)) (fun g2 => g2.length = 24 ∧ ∀ x, mGo ar ((normC ar cr (d - 1) ((fillL gs ((cs.getD k ([], [])).1)).getD [])).getD []) ((cs.getD k ([], [])).2) 0 gs = some x → g2 = x)), fun FF us v => v = (.tuple #[((tupAt (us.getD 0 undef) 0)), .bool ((mGo ar ((normC ar cr (d - 1) ((fillL gs ((cs.getD k ([], [])).1)).getD [])).getD []) ((cs.getD k ([], [])).2) 0 gs).isSome)] : Value), fun FF us v => v = ((tupAt (us.getD 0 undef) 0)), pe (.bool ((mGo ar ((normC ar cr (d - 1) ((fillL gs ((cs.getD k ([], [])).1)).getD [])).getD []) ((cs.getD k ([], [])).2) 0 gs).isSome)), fun FF us v => v = ((tupAt (us.getD 0 undef) 0))]) (ownL []) mixed rfl rfl (by kernel_rfl) (by kernel_rfl) (MonoG.get (m1 (m1 (m1 (m1 (m1 (m1 (m1 (m1 (m1 (m1 (mC (fun le h => ⟨h.1, h.2.mono le⟩) (mC (fun le h => h) (mC (fun le h => h) (m1 (mC (fun le h => h) MonoG.nil)))))))))))))))) ?_ ?_
   ·refine gD (fun W Fs R lF z9 => ?_) ?_
    ·refine qo (qn (0) qN rfl qD (by decide) rfl rfl ?_)
     exact ⟨rfl, rfl⟩
    refine gD (fun W Fs R lF z9 => ?_) ?_
    ·replace har := har.mono lF
     replace hcs := hcs.mono lF
     replace hgv := hgv.mono lF
     replace ha2 := ha2.mono lF
     replace hr6 := hr6.mono lF
     replace hr4 := Rd.monoA hr4 lF
     rw [eS (l := [(0, _)]) ⟨z9 0 rfl, ⟨⟩⟩]
     refine qo (qt [arv] qP qD rfl rfl (Rd.ownN [_] rfl rfl) ?_)
     exact ⟨rfl, rfl⟩
    refine gD (fun W Fs R lF z9 => ?_) ?_
    ·refine qo (qu (gv) rfl ?_)
     exact ⟨rfl, rfl⟩
    refine gD (fun W Fs R lF z9 => ?_) ?_
    ·refine qo (qn (2) qH rfl jt (by decide) rfl rfl ?_)
     exact ⟨rfl, rfl⟩
    refine gD (fun W Fs R lF z9 => ?_) ?_
    ·replace har := har.mono lF
     replace hcs := hcs.mono lF
     replace hgv := hgv.mono lF
     replace ha2 := ha2.mono lF
     replace hr6 := hr6.mono lF
     replace hr4 := Rd.monoA hr4 lF
     rw [eS (l := [(3, _)]) ⟨z9 3 rfl, ⟨⟩⟩]
     refine qo (qk isAgg77 rfl (Rd.own [] rfl rfl) ?_)
     exact ⟨rfl, rfl⟩
    refine gD (fun W Fs R lF z9 => ?_) ?_
    ·refine qo (qu (ii ((k : Int))) rfl ?_)
     exact ⟨rfl, rfl⟩
    refine gD (fun W Fs R lF z9 => ?_) ?_
    ·replace har := har.mono lF
     replace hcs := hcs.mono lF
     replace hgv := hgv.mono lF
     replace ha2 := ha2.mono lF
     replace hr6 := hr6.mono lF
     replace hr4 := Rd.monoA hr4 lF
     rw [eS (l := [(4, _), (5, _)]) ⟨z9 4 rfl, z9 5 rfl, ⟨⟩⟩]
     refine qo (qA k qT jd rfl rfl rfl hcs.slv (by omega) rfl ?_)
     exact ⟨rfl, rfl⟩
    refine gD (fun W Fs R lF z9 => ?_) ?_
    ·rw [eS (l := [(6, _)]) ⟨z9 6 rfl, ⟨⟩⟩]
     refine qo (XOp.fieldE (k * 2 + 1) qR rfl qB (by decide) rfl rfl ?_)
     exact ⟨rfl, rfl⟩
    refine gD (fun W Fs R lF z9 => ?_) ?_
    ·replace har := har.mono lF
     replace hgv := hgv.mono lF
     replace ha2 := ha2.mono lF
     replace hr6 := hr6.mono lF
     replace hr4 := Rd.monoA hr4 lF
     rw [eS (l := [(7, _)]) ⟨z9 7 rfl, ⟨⟩⟩]
     refine qo (qk qK rfl (hr4 _) ?_)
     exact ⟨rfl, rfl⟩
    refine gD (fun W Fs R lF z9 => ?_) ?_
    ·refine qo (qu (x4) rfl ?_)
     exact ⟨rfl, rfl⟩
    refine gD (fun W Fs R lF z9 => ?_) ?_
    ·replace har := har.mono lF
     replace hgv := hgv.mono lF
     replace ha2 := ha2.mono lF
     replace hr6 := hr6.mono lF
     rw [eS (l := [(1, _), (2, _), (8, _), (9, _)]) ⟨z9 1 rfl, z9 2 rfl, z9 8 rfl, z9 9 rfl, ⟨⟩⟩]
     refine qo (ql (args := [.agg #[arv], gv, a2, x4]) call108 rfl (l20Match_spec ((((cs.getD k ([], [])).2)).length) har hgv ha2 hr6 (hn := (Nat.le_refl _)) (hop := (by first | assumption | rfl | omega | simp)) (hot := (by first | assumption | rfl | omega | simp)) (hgl := (by first | assumption | rfl | omega | simp))) ?_)
     rintro _ F8 _ le8 ⟨⟨x6, rfl, hr8⟩, rfl⟩
     replace hgv := hgv.mono le8
     exact ⟨⟨rfl, hr8⟩, rfl⟩
    refine gD (fun W Fs R lF z9 => ?_) ?_
    ·obtain ⟨e10, f10_2hp_a⟩ := z9 10 rfl
     obtain ⟨t10X2_a, f10_2hp_a, q10_2_a0, q10_2_a1⟩ := f10_2hp_a
     rw [eS (l := [(10, (.tuple #[((tupAt (W 10) 0)), .bool ((mGo ar ((normC ar cr (d - 1) ((fillL gs ((cs.getD k ([], [])).1)).getD [])).getD []) ((cs.getD k ([], [])).2) 0 gs).isSome)]))]) ⟨(e10).symm, ⟨⟩⟩]
     refine qo (qu (.tuple #[((tupAt (W 10) 0)), .bool ((mGo ar ((normC ar cr (d - 1) ((fillL gs ((cs.getD k ([], [])).1)).getD [])).getD []) ((cs.getD k ([], [])).2) 0 gs).isSome)]) rfl ?_)
     exact ⟨rfl, rfl⟩
    refine gD (fun W Fs R lF z9 => ?_) ?_
    ·obtain ⟨e10, f10_2hp_a⟩ := z9 10 rfl
     obtain ⟨t10X2_a, f10_2hp_a, q10_2_a0, q10_2_a1⟩ := f10_2hp_a
     have e11 : W 11 = (.tuple #[((tupAt (W 10) 0)), .bool ((mGo ar ((normC ar cr (d - 1) ((fillL gs ((cs.getD k ([], [])).1)).getD [])).getD []) ((cs.getD k ([], [])).2) 0 gs).isSome)] : Value) := z9 11 rfl
     rw [eS (l := [(10, (.tuple #[((tupAt (W 10) 0)), .bool ((mGo ar ((normC ar cr (d - 1) ((fillL gs ((cs.getD k ([], [])).1)).getD [])).getD []) ((cs.getD k ([], [])).2) 0 gs).isSome)])), (11, (.tuple #[((tupAt (W 10) 0)), .bool ((mGo ar ((normC ar cr (d - 1) ((fillL gs ((cs.getD k ([], [])).1)).getD [])).getD []) ((cs.getD k ([], [])).2) 0 gs).isSome)]))]) ⟨(e10).symm, e11, ⟨⟩⟩]
     refine qo (qF (((tupAt (W 10) 0))) rfl rfl ?_)
     exact ⟨rfl, rfl⟩
    refine gD (fun W Fs R lF z9 => ?_) ?_
    ·obtain ⟨e10, f10_2hp_a⟩ := z9 10 rfl
     obtain ⟨t10X2_a, f10_2hp_a, q10_2_a0, q10_2_a1⟩ := f10_2hp_a
     have e11 : W 11 = (.tuple #[((tupAt (W 10) 0)), .bool ((mGo ar ((normC ar cr (d - 1) ((fillL gs ((cs.getD k ([], [])).1)).getD [])).getD []) ((cs.getD k ([], [])).2) 0 gs).isSome)] : Value) := z9 11 rfl
     rw [eS (l := [(10, (.tuple #[((tupAt (W 10) 0)), .bool ((mGo ar ((normC ar cr (d - 1) ((fillL gs ((cs.getD k ([], [])).1)).getD [])).getD []) ((cs.getD k ([], [])).2) 0 gs).isSome)])), (11, (.tuple #[((tupAt (W 10) 0)), .bool ((mGo ar ((normC ar cr (d - 1) ((fillL gs ((cs.getD k ([], [])).1)).getD [])).getD []) ((cs.getD k ([], [])).2) 0 gs).isSome)]))]) ⟨(e10).symm, e11, ⟨⟩⟩]
     refine qo (qF (.bool ((mGo ar ((normC ar cr (d - 1) ((fillL gs ((cs.getD k ([], [])).1)).getD [])).getD []) ((cs.getD k ([], [])).2) 0 gs).isSome)) rfl rfl ?_)
     exact ⟨rfl, rfl⟩
    refine gD (fun W Fs R lF z9 => ?_) ?_
    ·obtain ⟨e10, f10_2hp_a⟩ := z9 10 rfl
     obtain ⟨t10X2_a, f10_2hp_a, q10_2_a0, q10_2_a1⟩ := f10_2hp_a
     have e12 : W 12 = ((tupAt (W 10) 0)) := z9 12 rfl
     rw [eS (l := [(10, (.tuple #[((tupAt (W 10) 0)), .bool ((mGo ar ((normC ar cr (d - 1) ((fillL gs ((cs.getD k ([], [])).1)).getD [])).getD []) ((cs.getD k ([], [])).2) 0 gs).isSome)])), (12, ((tupAt (W 10) 0)))]) ⟨(e10).symm, e12, ⟨⟩⟩]
     refine qo (XOp.assign (((tupAt (W 10) 0))) rfl ?_)
     exact ⟨rfl, rfl⟩
    exact stepsG.nil
   intro W F9 le9 hphi
   obtain ⟨e10, f10_2hp_a⟩ := hphi 10 (by decide)
   obtain ⟨t10X2_a, f10_2hp_a, q10_2_a0, q10_2_a1⟩ := f10_2hp_a
   have e11 : W 11 = (.tuple #[((tupAt (W 10) 0)), .bool ((mGo ar ((normC ar cr (d - 1) ((fillL gs ((cs.getD k ([], [])).1)).getD [])).getD []) ((cs.getD k ([], [])).2) 0 gs).isSome)] : Value) := hphi 11 (by decide)
   have e12 : W 12 = ((tupAt (W 10) 0)) := hphi 12 (by decide)
   have e14 : W 14 = ((tupAt (W 10) 0)) := hphi 14 (by decide)
   generalize hu3 : ((tupAt (W 10) 0)) = u3 at e10 f10_2hp_a e11 e12 e14
   rw [eS (l := [(10, (.tuple #[u3, .bool ((mGo ar ((normC ar cr (d - 1) ((fillL gs ((cs.getD k ([], [])).1)).getD [])).getD []) ((cs.getD k ([], [])).2) 0 gs).isSome)])), (13, _), (14, u3)]) ⟨(e10).symm, (hphi 13 (by decide)), e14, ⟨⟩⟩]
   replace hgv := hgv.mono le9
   show XL _ _ _ _ _ _ _ (cellsH b2 [lv, rv, csv] 79 :: cellsH b1 [arv, crv] 48 :: L)
   refine qh (.bool ((mGo ar ((normC ar cr (d - 1) ((fillL gs ((cs.getD k ([], [])).1)).getD [])).getD []) ((cs.getD k ([], [])).2) 0 gs).isSome)) rfl (qd (qc (qg (ii ((k : Int))) rfl (cX (qM (((k + 1 : Nat) : Int)) rfl rfl (by omega) (by omega) (qh (ii (((k + 1 : Nat) : Int))) rfl (qd ?_)))))))
   exact ⟨(k + 1, u3, t10X2_a, (mGo ar ((normC ar cr (d - 1) ((fillL gs ((cs.getD k ([], [])).1)).getD [])).getD []) ((cs.getD k ([], [])).2) 0 gs).isSome, F9), _, (qp (qp (qp leG1 le5) le6) le9), rF, ⟨rfl, rfl, rfl, rfl, rfl, rfl, ⟨⟩⟩, (sC (sC sR)), ⟨rfl, (qp (qp (qp leG1 le5) le6) le9), (f10_2hp_a), (q10_2_a0), (by (try dsimp only) <;> omega), (GivenAt.next (x := (l, r, cs)) hgd.2 hgd.1 hd9 hk9 hf1 hn1 hwo (by exact q10_2_a1))⟩, (by omega)⟩
  have hok9 : ok = false := h2
  refine qX (qv (qv (qJ (qf (qc (qg (gv) rfl (qg (.bool (ok)) rfl (qh (gv) rfl (qh (.bool (ok)) rfl (qd (qs (qm (L' := L) [gv, .bool (ok)] (.tuple #[gv, .bool (ok)]) (.tmp rfl (.tmp rfl .nil)) rfl (qp le4 leG1) rF (sD (sD sR)) ?_))))))))))))
  have e := hga.is (by first | exact .inr (by assumption) | (refine .inl ?_; (try dsimp only); omega))
  exact ⟨⟨_, by rw [e.1], ⟨_, hgv, hgn, e.2⟩⟩, rfl⟩
 refine qq (t := 32) rfl (vF h1) (cX (qL (.bool (false)) (vF h1) rfl (qd (X.condF rfl (qX (qv (qv (qJ (qf (qc (qg (gv) rfl (qg (.bool (ok)) rfl (qh (gv) rfl (qh (.bool (ok)) rfl ?_))))))))))))))
 refine qd (qs (qm (L' := L) [gv, .bool (ok)] (.tuple #[gv, .bool (ok)]) (.tmp rfl (.tmp rfl .nil)) rfl (qp le4 leG1) rF (sD (sD sR)) ?_))
 have e := hga.is (by first | exact .inr (by assumption) | (refine .inl ?_; (try dsimp only); omega))
 exact ⟨⟨_, by rw [e.1], ⟨_, hgv, hgn, e.2⟩⟩, rfl⟩

/- spec.l27Step -/
set_option maxHeartbeats 2000000 in
set_option maxRecDepth 20000 in
theorem sstep_step {d : Nat} (ih : ∀ m : Nat, m < d → ∀ {F : FH} {L : List HP}  {arv : Value} {ar : List Int} (har : IntsF F arv ar) {crv : Value} {cr : List CRuleT} (hcr : CRulesF F crv cr) {tv : Value} {t : List Int} (ht : IntsF F tv t) (hc : csysOk ar cr = true) (ho : termOk ar t = true) (hd2 : m ≤ 2), Does prog 53 [.agg #[arv, crv], tv, ii ((m : Int))] F L (fun v F' L' => (∃ (a : Value), (.tuple #[a, .bool ((normC ar cr m t).isSome)] : Value) = v ∧ (IntsF F' a ((normC ar cr m t).getD []))) ∧ L = L')) {F : FH} {L : List HP}  {arv : Value} {ar : List Int} (har : IntsF F arv ar) {crv : Value} {cr : List CRuleT} (hcr : CRulesF F crv cr) {tv : Value} {t : List Int} (ht : IntsF F tv t) {p : Nat} {q : Nat} (hc : csysOk ar cr = true) (ho : termOk ar t = true) (hd2 : d ≤ 2) (hp : p < t.length) (hq : q < cr.length) :
    Does prog 49 [.agg #[arv, crv], tv, ii ((p : Int)), ii ((q : Int)), ii ((d : Int))] F (L) (fun v F' L' => (∃ (a : Value), (.tuple #[a, .bool ((stepD ar cr d (RD cr q) t p).isSome)] : Value) = v ∧ (IntsF F' a ((stepD ar cr d (RD cr q) t p).getD []))) ∧ L = L') := by
 refine qz func49 rfl rfl rfl ?_
 have hsl := sigOk_spec (termOk_sig ho)
 have htl := termOk_len ho
 have hcl := (csysOk_iff.1 hc).2.1
 have hR := csysOk_at hc hq
 have hRl : termOk ar (cr.getD q ([], [], [])).1 = true := hR.left
 have hRr : termOk ar (cr.getD q ([], [], [])).2.1 = true := hR.right
 have hrl := termOk_len hRr
 have hrg := fun k (hk : k < (cr.getD q ([], [], [])).2.1.length) => termOk_ge hRr hk
 have hst := sub_ok ho hp
 have hstl := termOk_len hst
 refine qf (qc (cX (qO [arv, crv] rfl rfl ?_)))
 intro b1
 refine qh (sN) rfl (qh (.bool (false)) rfl (qd (qf ?_)))
 obtain ⟨a1, a2, a3, ha1, ha2, ha3, hrg1, hq1⟩ := hcr.rd (i := q) (by omega)
 refine X.drawG [cellsH b1 [arv, crv] 48] L 17 [[], [], [], [], [], [], [], [], [], [], [], [], [], [12], [12], [], [12]] [[], [], [1], [], [], [2, 3, 4], [], [6], [], [7, 8], [9], [], [0, 5, 10, 11], [12], [12, 13], [12, 13], [12, 14]] [] (phiG [pe (.agg #[arv, crv]), pe (ptr b1 0), pe (.agg #[arv]), pe tv, pe (ii ((p : Int)) : Value), fun FF us v => ((v) : Value) = v ∧ (IntsF FF (v) (sub ar t p)), pe (ptr b1 1), pe crv, pe (ii ((q : Int)) : Value), pe (.pointer (some (elemA crv (q * 3)))), pe (.agg #[a1, a2, a3]), pe (ii ((d : Int)) : Value), fun FF us v => (.tuple #[((tupAt v 0)), .bool ((givenD ar cr d ((sub ar t p)) (((cr.getD q ([], [], [])).1), ((cr.getD q ([], [], [])).2.1), ((cr.getD q ([], [], [])).2.2))).isSome)] : Value) = v ∧ (SomeRowsF FF ((tupAt v 0)) (fun g2 => g2.length = 24 ∧ ∀ x, givenD ar cr d ((sub ar t p)) (((cr.getD q ([], [], [])).1), ((cr.getD q ([], [], [])).2.1), ((cr.getD q ([], [], [])).2.2)) = some x → g2 = x)), fun FF us v => v = (.tuple #[((tupAt (us.getD 0 undef) 0)), .bool ((givenD ar cr d ((sub ar t p)) (((cr.getD q ([], [], [])).1), ((cr.getD q ([], [], [])).2.1), ((cr.getD q ([], [], [])).2.2))).isSome)] : Value), fun FF us v => v = ((tupAt (us.getD 0 undef) 0)), pe (.bool ((givenD ar cr d ((sub ar t p)) (((cr.getD q ([], [], [])).1), ((cr.getD q ([], [], [])).2.1), ((cr.getD q ([], [], [])).2.2))).isSome)), fun FF us v => v = ((tupAt (us.getD 0 undef) 0))]) (ownL []) mixed rfl rfl (by kernel_rfl) (by kernel_rfl) (MonoG.get (m1 (m1 (m1 (m1 (m1 (mC (fun le h => ⟨h.1, h.2.mono le⟩) (m1 (m1 (m1 (m1 (m1 (m1 (mC (fun le h => ⟨h.1, h.2.mono le⟩) (mC (fun le h => h) (mC (fun le h => h) (m1 (mC (fun le h => h) MonoG.nil)))))))))))))))))) ?_ ?_
 ·refine gD (fun W Fs R lF z9 => ?_) ?_
  ·replace har := har.mono lF
   replace hcr := hcr.mono lF
   replace ht := ht.mono lF
   replace ha1 := ha1.mono lF
   replace ha2 := ha2.mono lF
   replace ha3 := ha3.mono lF
   replace hrg1 := fun L9 j9 u9 h9 => Rd.mono (hrg1 L9 j9 u9 h9) lF
   refine qo (qt [arv, crv] ju jo rfl rfl (Rd.ownN [] rfl rfl) ?_)
   exact ⟨rfl, rfl⟩
  refine gD (fun W Fs R lF z9 => ?_) ?_
  ·refine qo (qn (0) qN rfl qD (by decide) rfl rfl ?_)
   exact ⟨rfl, rfl⟩
  refine gD (fun W Fs R lF z9 => ?_) ?_
  ·replace har := har.mono lF
   replace hcr := hcr.mono lF
   replace ht := ht.mono lF
   replace ha1 := ha1.mono lF
   replace ha2 := ha2.mono lF
   replace ha3 := ha3.mono lF
   replace hrg1 := fun L9 j9 u9 h9 => Rd.mono (hrg1 L9 j9 u9 h9) lF
   rw [eS (l := [(1, _)]) ⟨z9 1 rfl, ⟨⟩⟩]
   refine qo (qt [arv] qP qD rfl rfl (Rd.ownN [] rfl rfl) ?_)
   exact ⟨rfl, rfl⟩
  refine gD (fun W Fs R lF z9 => ?_) ?_
  ·refine qo (qu (tv) rfl ?_)
   exact ⟨rfl, rfl⟩
  refine gD (fun W Fs R lF z9 => ?_) ?_
  ·refine qo (qu (ii ((p : Int))) rfl ?_)
   exact ⟨rfl, rfl⟩
  refine gD (fun W Fs R lF z9 => ?_) ?_
  ·replace har := har.mono lF
   replace hcr := hcr.mono lF
   replace ht := ht.mono lF
   replace ha1 := ha1.mono lF
   replace ha2 := ha2.mono lF
   replace ha3 := ha3.mono lF
   replace hrg1 := fun L9 j9 u9 h9 => Rd.mono (hrg1 L9 j9 u9 h9) lF
   rw [eS (l := [(2, _), (3, _), (4, _)]) ⟨z9 2 rfl, z9 3 rfl, z9 4 rfl, ⟨⟩⟩]
   refine qo (XOp.frzF <| ql (args := [.agg #[arv], tv, ii (p : Int)]) call78 rfl (l1Sub_spec (p := p) har ht (ho := (by first | assumption | rfl | omega | simp)) (hp := (by first | assumption | rfl | omega | simp))) ?_)
   rintro v2 _ _ _ ⟨rfl, hs2, rfl⟩
   refine ⟨_, _, rfl, fun F2 le2 hz1 => ?_⟩
   replace har := har.mono le2
   replace hcr := hcr.mono le2
   replace ht := ht.mono le2
   replace ha1 := ha1.mono le2
   replace ha2 := ha2.mono le2
   replace ha3 := ha3.mono le2
   replace hrg1 := fun L9 j9 u9 h9 => Rd.mono (hrg1 L9 j9 u9 h9) le2
   have hf1 : IntsF F2 v2 ((sub ar t p)) := intsH.fz (xs := (sub ar t p)) hz1.fz
   exact ⟨⟨rfl, hf1⟩, rfl⟩
  refine gD (fun W Fs R lF z9 => ?_) ?_
  ·refine qo (qn (1) qN rfl sizeOf46 (by decide) rfl rfl ?_)
   exact ⟨rfl, rfl⟩
  refine gD (fun W Fs R lF z9 => ?_) ?_
  ·replace har := har.mono lF
   replace hcr := hcr.mono lF
   replace ht := ht.mono lF
   replace ha1 := ha1.mono lF
   replace ha2 := ha2.mono lF
   replace ha3 := ha3.mono lF
   replace hrg1 := fun L9 j9 u9 h9 => Rd.mono (hrg1 L9 j9 u9 h9) lF
   rw [eS (l := [(6, _)]) ⟨z9 6 rfl, ⟨⟩⟩]
   refine qo (qk isAgg46 rfl (Rd.own [] rfl rfl) ?_)
   exact ⟨rfl, rfl⟩
  refine gD (fun W Fs R lF z9 => ?_) ?_
  ·refine qo (qu (ii ((q : Int))) rfl ?_)
   exact ⟨rfl, rfl⟩
  refine gD (fun W Fs R lF z9 => ?_) ?_
  ·replace har := har.mono lF
   replace hcr := hcr.mono lF
   replace ht := ht.mono lF
   replace ha1 := ha1.mono lF
   replace ha2 := ha2.mono lF
   replace ha3 := ha3.mono lF
   replace hrg1 := fun L9 j9 u9 h9 => Rd.mono (hrg1 L9 j9 u9 h9) lF
   rw [eS (l := [(7, _), (8, _)]) ⟨z9 7 rfl, z9 8 rfl, ⟨⟩⟩]
   refine qo (qA q qW jj rfl rfl rfl hcr.slv (by omega) rfl ?_)
   exact ⟨rfl, rfl⟩
  refine gD (fun W Fs R lF z9 => ?_) ?_
  ·replace har := har.mono lF
   replace hcr := hcr.mono lF
   replace ht := ht.mono lF
   replace ha1 := ha1.mono lF
   replace ha2 := ha2.mono lF
   replace ha3 := ha3.mono lF
   replace hrg1 := fun L9 j9 u9 h9 => Rd.mono (hrg1 L9 j9 u9 h9) lF
   rw [eS (l := [(9, _)]) ⟨z9 9 rfl, ⟨⟩⟩]
   refine qo (qt [a1, a2, a3] isAgg79 jj rfl rfl (Rd.all (hrg1 _)) ?_)
   exact ⟨rfl, rfl⟩
  refine gD (fun W Fs R lF z9 => ?_) ?_
  ·refine qo (qu (ii ((d : Int))) rfl ?_)
   exact ⟨rfl, rfl⟩
  refine gD (fun W Fs R lF z9 => ?_) ?_
  ·obtain ⟨e5, f5_1ha⟩ := z9 5 rfl
   replace har := har.mono lF
   replace hcr := hcr.mono lF
   replace ht := ht.mono lF
   replace ha1 := ha1.mono lF
   replace ha2 := ha2.mono lF
   replace ha3 := ha3.mono lF
   replace hrg1 := fun L9 j9 u9 h9 => Rd.mono (hrg1 L9 j9 u9 h9) lF
   rw [eS (l := [(0, _), (5, ((W 5))), (10, _), (11, _)]) ⟨z9 0 rfl, (e5).symm, z9 10 rfl, z9 11 rfl, ⟨⟩⟩]
   refine qo (ql (args := [.agg #[arv, crv], ((W 5)), .agg #[a1, a2, a3], ii (d : Int)]) call77 rfl (sgiven_step ih har hcr f5_1ha ha1 ha2 ha3 (hc := (by first | assumption | rfl | omega | simp)) (hou := (hst)) (hd2 := (by first | assumption | rfl | omega | simp)) (hR := (hR))) ?_)
   rintro _ F3 _ le3 ⟨⟨x2, rfl, hr2⟩, rfl⟩
   replace har := har.mono le3
   replace hcr := hcr.mono le3
   replace ht := ht.mono le3
   replace ha2 := ha2.mono le3
   replace f5_1ha := f5_1ha.mono le3
   replace hrg1 := fun L9 j9 u9 h9 => Rd.mono (hrg1 L9 j9 u9 h9) le3
   exact ⟨⟨rfl, hr2⟩, rfl⟩
  refine gD (fun W Fs R lF z9 => ?_) ?_
  ·obtain ⟨e12, f12_1hp_a⟩ := z9 12 rfl
   obtain ⟨t12X1_a, f12_1hp_a, q12_1_a0, q12_1_a1⟩ := f12_1hp_a
   rw [eS (l := [(12, (.tuple #[((tupAt (W 12) 0)), .bool ((givenD ar cr d ((sub ar t p)) (((cr.getD q ([], [], [])).1), ((cr.getD q ([], [], [])).2.1), ((cr.getD q ([], [], [])).2.2))).isSome)]))]) ⟨(e12).symm, ⟨⟩⟩]
   refine qo (qu (.tuple #[((tupAt (W 12) 0)), .bool ((givenD ar cr d ((sub ar t p)) (((cr.getD q ([], [], [])).1), ((cr.getD q ([], [], [])).2.1), ((cr.getD q ([], [], [])).2.2))).isSome)]) rfl ?_)
   exact ⟨rfl, rfl⟩
  refine gD (fun W Fs R lF z9 => ?_) ?_
  ·obtain ⟨e12, f12_1hp_a⟩ := z9 12 rfl
   obtain ⟨t12X1_a, f12_1hp_a, q12_1_a0, q12_1_a1⟩ := f12_1hp_a
   have e13 : W 13 = (.tuple #[((tupAt (W 12) 0)), .bool ((givenD ar cr d ((sub ar t p)) (((cr.getD q ([], [], [])).1), ((cr.getD q ([], [], [])).2.1), ((cr.getD q ([], [], [])).2.2))).isSome)] : Value) := z9 13 rfl
   rw [eS (l := [(12, (.tuple #[((tupAt (W 12) 0)), .bool ((givenD ar cr d ((sub ar t p)) (((cr.getD q ([], [], [])).1), ((cr.getD q ([], [], [])).2.1), ((cr.getD q ([], [], [])).2.2))).isSome)])), (13, (.tuple #[((tupAt (W 12) 0)), .bool ((givenD ar cr d ((sub ar t p)) (((cr.getD q ([], [], [])).1), ((cr.getD q ([], [], [])).2.1), ((cr.getD q ([], [], [])).2.2))).isSome)]))]) ⟨(e12).symm, e13, ⟨⟩⟩]
   refine qo (qF (((tupAt (W 12) 0))) rfl rfl ?_)
   exact ⟨rfl, rfl⟩
  refine gD (fun W Fs R lF z9 => ?_) ?_
  ·obtain ⟨e12, f12_1hp_a⟩ := z9 12 rfl
   obtain ⟨t12X1_a, f12_1hp_a, q12_1_a0, q12_1_a1⟩ := f12_1hp_a
   have e13 : W 13 = (.tuple #[((tupAt (W 12) 0)), .bool ((givenD ar cr d ((sub ar t p)) (((cr.getD q ([], [], [])).1), ((cr.getD q ([], [], [])).2.1), ((cr.getD q ([], [], [])).2.2))).isSome)] : Value) := z9 13 rfl
   rw [eS (l := [(12, (.tuple #[((tupAt (W 12) 0)), .bool ((givenD ar cr d ((sub ar t p)) (((cr.getD q ([], [], [])).1), ((cr.getD q ([], [], [])).2.1), ((cr.getD q ([], [], [])).2.2))).isSome)])), (13, (.tuple #[((tupAt (W 12) 0)), .bool ((givenD ar cr d ((sub ar t p)) (((cr.getD q ([], [], [])).1), ((cr.getD q ([], [], [])).2.1), ((cr.getD q ([], [], [])).2.2))).isSome)]))]) ⟨(e12).symm, e13, ⟨⟩⟩]
   refine qo (qF (.bool ((givenD ar cr d ((sub ar t p)) (((cr.getD q ([], [], [])).1), ((cr.getD q ([], [], [])).2.1), ((cr.getD q ([], [], [])).2.2))).isSome)) rfl rfl ?_)
   exact ⟨rfl, rfl⟩
  refine gD (fun W Fs R lF z9 => ?_) ?_
  ·obtain ⟨e12, f12_1hp_a⟩ := z9 12 rfl
   obtain ⟨t12X1_a, f12_1hp_a, q12_1_a0, q12_1_a1⟩ := f12_1hp_a
   have e14 : W 14 = ((tupAt (W 12) 0)) := z9 14 rfl
   rw [eS (l := [(12, (.tuple #[((tupAt (W 12) 0)), .bool ((givenD ar cr d ((sub ar t p)) (((cr.getD q ([], [], [])).1), ((cr.getD q ([], [], [])).2.1), ((cr.getD q ([], [], [])).2.2))).isSome)])), (14, ((tupAt (W 12) 0)))]) ⟨(e12).symm, e14, ⟨⟩⟩]
   refine qo (XOp.assign (((tupAt (W 12) 0))) rfl ?_)
   exact ⟨rfl, rfl⟩
  exact stepsG.nil
 intro W F4 le4 hphi
 obtain ⟨e5, f5_1ha⟩ := hphi 5 (by decide)
 obtain ⟨e12, f12_1hp_a⟩ := hphi 12 (by decide)
 obtain ⟨t12X1_a, f12_1hp_a, q12_1_a0, q12_1_a1⟩ := f12_1hp_a
 have e13 : W 13 = (.tuple #[((tupAt (W 12) 0)), .bool ((givenD ar cr d ((sub ar t p)) (((cr.getD q ([], [], [])).1), ((cr.getD q ([], [], [])).2.1), ((cr.getD q ([], [], [])).2.2))).isSome)] : Value) := hphi 13 (by decide)
 have e14 : W 14 = ((tupAt (W 12) 0)) := hphi 14 (by decide)
 have e16 : W 16 = ((tupAt (W 12) 0)) := hphi 16 (by decide)
 generalize hu1 : ((W 5)) = u1 at e5 f5_1ha e12 f12_1hp_a e13 e14 e16
 generalize hu2 : ((tupAt (W 12) 0)) = u2 at e5 f5_1ha e12 f12_1hp_a e13 e14 e16
 rw [eS (l := [(12, (.tuple #[u2, .bool ((givenD ar cr d ((sub ar t p)) (((cr.getD q ([], [], [])).1), ((cr.getD q ([], [], [])).2.1), ((cr.getD q ([], [], [])).2.2))).isSome)])), (15, _), (16, u2)]) ⟨(e12).symm, (hphi 15 (by decide)), e16, ⟨⟩⟩]
 replace har := har.mono le4
 replace hcr := hcr.mono le4
 replace ht := ht.mono le4
 replace ha2 := ha2.mono le4
 replace hrg1 := fun L9 j9 u9 h9 => Rd.mono (hrg1 L9 j9 u9 h9) le4
 show XL _ _ _ _ _ _ _ (cellsH b1 [arv, crv] 48 :: L)
 refine qh (.bool ((givenD ar cr d ((sub ar t p)) (((cr.getD q ([], [], [])).1), ((cr.getD q ([], [], [])).2.1), ((cr.getD q ([], [], [])).2.2))).isSome)) rfl (qd (qf (qf (qc (qg (.bool ((givenD ar cr d ((sub ar t p)) (((cr.getD q ([], [], [])).1), ((cr.getD q ([], [], [])).2.1), ((cr.getD q ([], [], [])).2.2))).isSome)) rfl (cX (qZ rfl (qd ?_))))))))
 refine jq (t := !((givenD ar cr d ((sub ar t p)) (((cr.getD q ([], [], [])).1), ((cr.getD q ([], [], [])).2.1), ((cr.getD q ([], [], [])).2.2))).isSome)) rfl (fun h1 => ?_) (fun h1 => ?_)
 ·have hg0 : (givenD ar cr d (sub ar t p) (RD cr q)).isSome = false := Bool.not_inj (y := false) h1
  have hgN : givenD ar cr d (sub ar t p) (RD cr q) = none := by revert hg0; cases givenD ar cr d (sub ar t p) (RD cr q) <;> simp
  refine qf (qc (cX (qS (s := 1) [] [ii (0)] [] qi qG jb rfl (by decide) rfl CellsAre.nil rfl ?_)))
  intro v3 hv1
  refine qh (v3) rfl (qh (.bool (false)) rfl (qd ?_))
  show X _ _ _ _ _ _ (intsH 2 v3 ([] : List Int) :: cellsH b1 [arv, crv] 48 :: L)
  refine jn [] _ _ rfl (fun F5 le5 hz2 => ?_)
  replace har := har.mono le5
  replace hcr := hcr.mono le5
  replace ht := ht.mono le5
  replace ha2 := ha2.mono le5
  replace f12_1hp_a := f12_1hp_a.mono le5
  replace hrg1 := fun L9 j9 u9 h9 => Rd.mono (hrg1 L9 j9 u9 h9) le5
  have hf2 : IntsF F5 v3 ([]) := intsH.fz (xs := []) hz2.fz
  refine qs (qj (qm (L' := L) [v3, .bool (false)] (.tuple #[v3, .bool (false)]) (.tmp rfl (.tmp rfl .nil)) rfl (qp le4 le5) rF (sD sR) ?_))
  have e : stepD ar cr d (RD cr q) t p = none := by first | exact stepD_none hgN | exact stepD_nofill hgS hf0
  exact ⟨⟨_, by rw [e]; rfl, by rw [e]; exact hf2⟩, rfl⟩
 have hgS : givenD ar cr d (sub ar t p) (RD cr q) = some t12X1_a := opt_is (Bool.not_inj (y := true) h1) q12_1_a1
 have hgo := given_ok hc hq hst hgS
 have hbl := hgo.len
 refine qw (qf (qc (qg (u2) rfl (cX (XOp.build [u2] [sN] [(0, 1)] [(0, [u2])] jv zeroValue116 rfl (.cons rfl sizeOf60 PlacesAre.nil) rfl (.cons (cells_one (RowsF.isSl f12_1hp_a)) CellsAre.nil) (cX (qn (1) qN rfl sizeOf46 (by decide) rfl rfl (cX (qk isAgg46 rfl (Rd.own [] rfl rfl) (qg (ii ((q : Int))) rfl (cX (qA q qW jj rfl rfl rfl hcr.slv (by omega) rfl (cX (XOp.fieldE (q * 3 + 1) qH rfl qB (by decide) rfl rfl (cX (qk qK rfl (hrg1 _ 1 _ rfl) (cX (ql (args := [.agg #[u2], a2]) call79 rfl (l2Filled_spec f12_1hp_a ha2 (hsl := (by omega)) (hsb := (fun i => by have := hbl i; omega)) (htl := (by omega)) (htg := (fun i hi => by have := hrg i hi; omega))) ?_))))))))))))))))))
 rintro _ F6 _ le6 ⟨x3, rfl, hr3, rfl⟩
 replace har := har.mono le6
 replace ht := ht.mono le6
 refine qg (.tuple #[x3, .bool ((fillL t12X1_a ((cr.getD q ([], [], [])).2.1)).isSome)]) rfl (cX (qF (x3) rfl rfl (cX (qF (.bool ((fillL t12X1_a ((cr.getD q ([], [], [])).2.1)).isSome)) rfl rfl (qh (x3) rfl (qh (.bool ((fillL t12X1_a ((cr.getD q ([], [], [])).2.1)).isSome)) rfl (qd (qf (qf (qc (qg (.bool ((fillL t12X1_a ((cr.getD q ([], [], [])).2.1)).isSome)) rfl (cX (qZ rfl (qd ?_))))))))))))))
 refine jq (t := !((fillL t12X1_a ((cr.getD q ([], [], [])).2.1)).isSome)) rfl (fun h2 => ?_) (fun h2 => ?_)
 ·have hf0 := Bool.not_inj (y := false) h2
  refine qf (qc (cX (qS (s := 1) [] [ii (0)] [] qi qG jb rfl (by decide) rfl CellsAre.nil rfl ?_)))
  intro v4 hv2
  refine qh (v4) rfl (qh (.bool (false)) rfl (qd ?_))
  show X _ _ _ _ _ _ (intsH 2 v4 ([] : List Int) :: cellsH b1 [arv, crv] 48 :: L)
  refine jn [] _ _ rfl (fun F7 le7 hz3 => ?_)
  replace har := har.mono le7
  replace ht := ht.mono le7
  replace hr3 := hr3.mono le7
  have hf3 : IntsF F7 v4 ([]) := intsH.fz (xs := []) hz3.fz
  refine qs (qj (qm (L' := L) [v4, .bool (false)] (.tuple #[v4, .bool (false)]) (.tmp rfl (.tmp rfl .nil)) rfl (qp (qp le4 le6) le7) rF (sD sR) ?_))
  have e : stepD ar cr d (RD cr q) t p = none := by first | exact stepD_none hgN | exact stepD_nofill hgS hf0
  exact ⟨⟨_, by rw [e]; rfl, by rw [e]; exact hf3⟩, rfl⟩
 have hf1 := Bool.not_inj (y := true) h2
 have hfo := fill_okS hgo hRr hf1
 have hfl := termOk_len hfo
 refine qw (qf (qc (cX (qn (0) qN rfl qD (by decide) rfl rfl (cX (qt [arv] qP qD rfl rfl (Rd.ownN [] rfl rfl) (qg (tv) rfl (qg (ii ((p : Int))) rfl (qg (x3) rfl (cX (ql (args := [.agg #[arv], tv, ii (p : Int), x3]) call80 rfl (l3PutH_spec (p := p) har ht hr3 (ho := (by first | assumption | rfl | omega | simp)) (hp := (by first | assumption | rfl | omega | simp)) (hul := (by first | assumption | rfl | omega | simp))) ?_)))))))))))
 rintro _ F8 _ le8 ⟨x4, rfl, hr4, hr5, rfl⟩
 refine cX (qF (x4) rfl rfl (cX (qF (.bool ((putL ar t p ((fillL t12X1_a ((cr.getD q ([], [], [])).2.1)).getD [])).isSome)) rfl rfl (qh (x4) rfl (qh (.bool ((putL ar t p ((fillL t12X1_a ((cr.getD q ([], [], [])).2.1)).getD [])).isSome)) rfl (qd (qs (qm (L' := L) [x4, .bool ((putL ar t p ((fillL t12X1_a ((cr.getD q ([], [], [])).2.1)).getD [])).isSome)] (.tuple #[x4, .bool ((putL ar t p ((fillL t12X1_a ((cr.getD q ([], [], [])).2.1)).getD [])).isSome)]) (.tmp rfl (.tmp rfl .nil)) rfl (qp (qp le4 le6) le8) rF (sD sR) ?_))))))))
 have e := stepD_put (x := RD cr q) hgS hf1
 exact ⟨⟨_, by rw [e]; rfl, by rw [e]; exact hr4⟩, rfl⟩

/- spec.l27Redexes -/
set_option maxHeartbeats 2000000 in
set_option maxRecDepth 20000 in
theorem sredexes_step {d : Nat} (ih : ∀ m : Nat, m < d → ∀ {F : FH} {L : List HP}  {arv : Value} {ar : List Int} (har : IntsF F arv ar) {crv : Value} {cr : List CRuleT} (hcr : CRulesF F crv cr) {tv : Value} {t : List Int} (ht : IntsF F tv t) (hc : csysOk ar cr = true) (ho : termOk ar t = true) (hd2 : m ≤ 2), Does prog 53 [.agg #[arv, crv], tv, ii ((m : Int))] F L (fun v F' L' => (∃ (a : Value), (.tuple #[a, .bool ((normC ar cr m t).isSome)] : Value) = v ∧ (IntsF F' a ((normC ar cr m t).getD []))) ∧ L = L')) {F : FH} {L : List HP}  {arv : Value} {ar : List Int} (har : IntsF F arv ar) {crv : Value} {cr : List CRuleT} (hcr : CRulesF F crv cr) {tv : Value} {t : List Int} (ht : IntsF F tv t) (hc : csysOk ar cr = true) (ho : termOk ar t = true) (hd2 : d ≤ 2) :
    Does prog 71 [.agg #[arv, crv], tv, ii ((d : Int))] F (L) (fun v F' L' => (∃ (a : Value), (a : Value) = v ∧ (IntsF F' a (redsD ar cr d t t.length))) ∧ L = L') := by
 refine qz func71 rfl rfl rfl ?_
 have hsl := sigOk_spec (termOk_sig ho)
 have htl := termOk_len ho
 have hcl := (csysOk_iff.1 hc).2.1
 refine qf (qc (cX (qO [arv, crv] rfl rfl ?_)))
 intro b1
 refine qh (sN) rfl (qd (qf (qc (cX (qS (s := 1) [] [ii (0)] [] qi qG jb rfl (by decide) rfl CellsAre.nil rfl ?_)))))
 intro v1 hv1
 refine qh (v1) rfl (qd (qf (qf (qc (qh (ii (0)) rfl (qd (qE ?_)))))))
 show X _ _ _ _ _ _ (intsH 2 v1 ([] : List Int) :: cellsH b1 [arv, crv] 48 :: L)
 refine qY (α := Nat × Value × List Int × FH) (fun xQ => [(1, tv), (2, ii ((d : Int))), (3, ptr b1 0), (7, xQ.2.1), (8, ii (((xQ.1 : Nat) : Int)))]) (fun xQ => intsH 2 xQ.2.1 xQ.2.2.1 :: cellsH b1 [arv, crv] 48 :: L) (fun xQ F' => xQ.2.2.2 = F' ∧ F ≤ xQ.2.2.2 ∧ (IsSl xQ.2.1) ∧ (xQ.1 ≤ t.length) ∧ (xQ.2.2.1 = redsD ar cr d t xQ.1)) (fun xQ => t.length - xQ.1) (0, v1, [], F) ⟨rfl, rfl, rfl, rfl, rfl, ⟨⟩⟩ (sC (sC sR)) ⟨rfl, FLe.refl _, ((isSl_lit hv1)), (Nat.zero_le _), (rfl)⟩ ?_
 rintro ⟨k, ov, os, G1⟩ rE _ _ ⟨rfl, leG, hov, hk, hos⟩
 show X _ _ _ _ (envs [(1, tv), (2, ii ((d : Int))), (3, ptr b1 0), (7, ov), (8, ii ((k : Int)))] rE) _ (intsH 2 ov os :: cellsH b1 [arv, crv] 48 :: L)
 replace leG : F ≤ G1 := leG
 dsimp only at hov hk hos
 have hol : os.length = k := by rw [hos, redsD_len]
 have leG1 := leG
 replace har := har.mono leG1
 replace hcr := hcr.mono leG1
 replace ht := ht.mono leG1
 refine qf (qf (qc (qg (ii ((k : Int))) rfl (qg (tv) rfl (cX (qC qi rfl ht.slv (cX (qI rfl rfl (qd ?_)))))))))
 refine qx (p := (k : Int) < (t.length : Int)) rfl (fun h1 => ?_) (fun h1 => ?_)
 ·refine qw (qf (qE (qf (qc (qh (ii (-1)) rfl (qd (qf (qf (qc (qh (ii (0)) rfl (qd (qE (qY (α := Nat × Int × FH) (fun xQ => [(1, tv), (2, ii ((d : Int))), (3, ptr b1 0), (7, ov), (8, ii ((k : Int))), (9, ii (xQ.2.1)), (10, ii (((xQ.1 : Nat) : Int)))]) (fun xQ => intsH 2 ov os :: cellsH b1 [arv, crv] 48 :: L) (fun xQ F' => xQ.2.2 = F' ∧ G1 ≤ xQ.2.2 ∧ (xQ.1 ≤ cr.length) ∧ ((xQ.2.1 = -1 ∧ ruleD ar cr d t k = ruleG ar cr d t k xQ.1) ∨ (0 ≤ xQ.2.1 ∧ ruleD ar cr d t k = xQ.2.1))) (fun xQ => cr.length - xQ.1) (0, (-1), G1) ⟨rfl, rfl, rfl, rfl, rfl, rfl, rfl, ⟨⟩⟩ (sC (sC sR)) ⟨rfl, FLe.refl _, (Nat.zero_le _), (.inl ⟨rfl, rfl⟩)⟩ ?_)))))))))))))
  rintro ⟨m, x, G2⟩ rE _ _ ⟨rfl, leG, hm, hx⟩
  show X _ _ _ _ (envs [(1, tv), (2, ii ((d : Int))), (3, ptr b1 0), (7, ov), (8, ii ((k : Int))), (9, ii (x)), (10, ii ((m : Int)))] rE) _ (intsH 2 ov os :: cellsH b1 [arv, crv] 48 :: L)
  replace leG : G1 ≤ G2 := leG
  dsimp only at hm hx
  have leG2 := leG
  replace har := har.mono leG2
  replace hcr := hcr.mono leG2
  replace ht := ht.mono leG2
  refine qf (qf (qc (qg (ii ((m : Int))) rfl (cX (qn (1) qN rfl sizeOf46 (by decide) rfl rfl (cX (qk isAgg46 rfl (Rd.own [_] rfl rfl) (cX (qC qW rfl hcr.slv (cX (qI rfl rfl (qg (.bool (decide ((m : Int) < (cr.length : Int)))) rfl ?_))))))))))))
  by_cases h2 : (m : Int) < (cr.length : Int)
  ·refine qr (t := 25) rfl (vT h2) (qu (ii (x)) rfl (qr (t := 25) rfl (vT h2) (qI rfl rfl (cX (qQ (.bool (decide ((x : Int) < 0))) (vT h2) rfl (qd ?_))))))
   refine qx (p := (x : Int) < 0) rfl (fun h3 => ?_) (fun h3 => ?_)
   ·have hx1 : x = -1 := by rcases hx with h9 | h9 <;> omega
    have hrk : ruleD ar cr d t k = ruleG ar cr d t k m := by rcases hx with h9 | h9; exact h9.2; omega
    have hm9 : m < cr.length := by omega
    refine qw (qf (qE (qf (qc (cX (qt [arv, crv] ju jo rfl rfl (Rd.ownN [_] rfl rfl) (qg (tv) rfl (qg (ii ((k : Int))) rfl (qg (ii ((m : Int))) rfl (qg (ii ((d : Int))) rfl (cX (ql (args := [.agg #[arv, crv], tv, ii (k : Int), ii (m : Int), ii (d : Int)]) call49 rfl (sstep_step ih (p := k) (q := m) har hcr ht (hc := (by first | assumption | rfl | omega | simp)) (ho := (by first | assumption | rfl | omega | simp)) (hd2 := (by first | assumption | rfl | omega | simp)) (hp := (by first | assumption | rfl | omega | simp)) (hq := (by first | assumption | rfl | omega | simp))) ?_))))))))))))
    rintro _ F1 _ le1 ⟨⟨x1, rfl, hr1⟩, rfl⟩
    show XL _ _ _ _ _ _ _ (intsH 2 ov os :: cellsH b1 [arv, crv] 48 :: L)
    refine qg (.tuple #[x1, .bool ((stepD ar cr d (RD cr m) t k).isSome)]) rfl (cX (qF (x1) rfl rfl (cX (qF (.bool ((stepD ar cr d (RD cr m) t k).isSome)) rfl rfl (qh (x1) rfl (qh (.bool ((stepD ar cr d (RD cr m) t k).isSome)) rfl (qd (qf (qc (qg (.bool ((stepD ar cr d (RD cr m) t k).isSome)) rfl (qd ?_)))))))))))
    refine jq (t := (stepD ar cr d (RD cr m) t k).isSome) rfl (fun h4 => ?_) (fun h4 => ?_)
    ·have hsr : (stepD ar cr d (RD cr m) t k).isSome = true := h4
     refine qc (qg (ii ((m : Int))) rfl (qh (ii ((m : Int))) rfl (qd (qc (qg (ii ((m : Int))) rfl (cX (qM (((m + 1 : Nat) : Int)) rfl rfl (by omega) (by omega) (qh (ii (((m + 1 : Nat) : Int))) rfl (qd ?_)))))))))
     exact ⟨(m + 1, (m : Int), F1), _, (qp leG2 le1), rF, ⟨rfl, rfl, rfl, rfl, rfl, rfl, rfl, ⟨⟩⟩, (sC (sC sR)), ⟨rfl, (qp leG2 le1), (by (try dsimp only) <;> omega), (.inr ⟨by (try dsimp only); omega, hrk.trans (ruleG_hit hm9 hsr)⟩)⟩, (by omega)⟩
    have hsn : (stepD ar cr d (RD cr m) t k).isSome = false := h4
    refine qw (qc (qg (ii ((m : Int))) rfl (cX (qM (((m + 1 : Nat) : Int)) rfl rfl (by omega) (by omega) (qh (ii (((m + 1 : Nat) : Int))) rfl (qd ?_))))))
    exact ⟨(m + 1, x, F1), _, (qp leG2 le1), rF, ⟨rfl, rfl, rfl, rfl, rfl, rfl, rfl, ⟨⟩⟩, (sC (sC sR)), ⟨rfl, (qp leG2 le1), (by (try dsimp only) <;> omega), (.inl ⟨hx1, hrk.trans (ruleG_miss hm9 hsn)⟩)⟩, (by omega)⟩
   refine qX (qv (qv (qJ (qc (qg (ov) rfl (qg (ii (x)) rfl (cX (qS (s := 1) [ii (x)] [ii (0)] [(0, [ii (x)])] qi qG jb rfl (by decide) rfl (.cons rfl CellsAre.nil) rfl ?_))))))))
   intro v2 hv2
   refine cX (XOp.append1 (u := x) [_] _ qi typeInfo2 rfl rfl rfl rfl rfl rfl (SlV.own [] rfl) (Rd.sl [] rfl rfl) (by (try simp only [List.length_append, List.length_nil, List.length_cons, List.length_singleton, List.length_take, List.length_drop]); omega) ?_)
   intro v3 hs1 hn1
   refine qh (v3) rfl (qd (qc (qg (ii ((k : Int))) rfl (cX (qM (((k + 1 : Nat) : Int)) rfl rfl (by omega) (by omega) (qh (ii (((k + 1 : Nat) : Int))) rfl (qd ?_)))))))
   exact ⟨(k + 1, v3, os ++ [x], G2), _, (qp leG1 leG2), rF, ⟨rfl, rfl, rfl, rfl, rfl, ⟨⟩⟩, (sD (sC (sC sR))), ⟨rfl, (qp leG1 leG2), (hs1), (by (try dsimp only) <;> omega), (by (try dsimp only); rw [redsD_succ, ← hos, show ruleD ar cr d t k = x from by rcases hx with ⟨h9, h8⟩ | h9; (rw [h8, ruleG_end (by omega)]; exact h9.symm); exact h9.2])⟩, (by omega)⟩
  refine qq (t := 25) rfl (vF h2) (qq (t := 25) rfl (vF h2) (cX (qL (.bool (false)) (vF h2) rfl (qd (X.condF rfl (qX (qv (qv (qJ (qc (qg (ov) rfl (qg (ii (x)) rfl (cX (qS (s := 1) [ii (x)] [ii (0)] [(0, [ii (x)])] qi qG jb rfl (by decide) rfl (.cons rfl CellsAre.nil) rfl ?_))))))))))))))
  intro v4 hv3
  refine cX (XOp.append1 (u := x) [_] _ qi typeInfo2 rfl rfl rfl rfl rfl rfl (SlV.own [] rfl) (Rd.sl [] rfl rfl) (by (try simp only [List.length_append, List.length_nil, List.length_cons, List.length_singleton, List.length_take, List.length_drop]); omega) ?_)
  intro v5 hs2 hn2
  refine qh (v5) rfl (qd (qc (qg (ii ((k : Int))) rfl (cX (qM (((k + 1 : Nat) : Int)) rfl rfl (by omega) (by omega) (qh (ii (((k + 1 : Nat) : Int))) rfl (qd ?_)))))))
  exact ⟨(k + 1, v5, os ++ [x], G2), _, (qp leG1 leG2), rF, ⟨rfl, rfl, rfl, rfl, rfl, ⟨⟩⟩, (sD (sC (sC sR))), ⟨rfl, (qp leG1 leG2), (hs2), (by (try dsimp only) <;> omega), (by (try dsimp only); rw [redsD_succ, ← hos, show ruleD ar cr d t k = x from by rcases hx with ⟨h9, h8⟩ | h9; (rw [h8, ruleG_end (by omega)]; exact h9.symm); exact h9.2])⟩, (by omega)⟩
 refine qX (qv (qv (qJ (qf (qc (qg (ov) rfl (qh (ov) rfl (qd (jn [] _ _ rfl (fun F2 le2 hz1 => ?_))))))))))
 have hf1 : IntsF F2 ov os := intsH.fz (xs := os) hz1.fz
 refine qs (qm (L' := L) [ov] (ov) (.tmp rfl .nil) rfl (qp leG1 le2) rF (sD sR) ?_)
 have e9 : os = redsD ar cr d t t.length := by rw [hos, show k = t.length from by omega]
 rw [← e9]
 exact ⟨⟨_, rfl, hf1⟩, rfl⟩

/- spec.l27Pick -/
set_option maxHeartbeats 2000000 in
set_option maxRecDepth 20000 in
theorem spick_step {d : Nat} (ih : ∀ m : Nat, m < d → ∀ {F : FH} {L : List HP}  {arv : Value} {ar : List Int} (har : IntsF F arv ar) {crv : Value} {cr : List CRuleT} (hcr : CRulesF F crv cr) {tv : Value} {t : List Int} (ht : IntsF F tv t) (hc : csysOk ar cr = true) (ho : termOk ar t = true) (hd2 : m ≤ 2), Does prog 53 [.agg #[arv, crv], tv, ii ((m : Int))] F L (fun v F' L' => (∃ (a : Value), (.tuple #[a, .bool ((normC ar cr m t).isSome)] : Value) = v ∧ (IntsF F' a ((normC ar cr m t).getD []))) ∧ L = L')) {F : FH} {L : List HP}  {arv : Value} {ar : List Int} (har : IntsF F arv ar) {crv : Value} {cr : List CRuleT} (hcr : CRulesF F crv cr) {tv : Value} {t : List Int} (ht : IntsF F tv t) (hc : csysOk ar cr = true) (ho : termOk ar t = true) (hd2 : d ≤ 2) :
    Does prog 42 [.agg #[arv, crv], tv, ii ((d : Int))] F (L) (fun v F' L' => ((.tuple #[ii ((pickV ar cr d t).1), ii ((pickV ar cr d t).2.1), .bool ((pickV ar cr d t).2.2)] : Value) = v ∧ (pickD ar cr d t ≤ t.length)) ∧ L = L') := by
 refine qz func42 rfl rfl rfl ?_
 have hsl := sigOk_spec (termOk_sig ho)
 have htl := termOk_len ho
 have hcl := (csysOk_iff.1 hc).2.1
 refine qf (qc (cX (qO [arv, crv] rfl rfl ?_)))
 intro b1
 refine qh (ii (0)) rfl (qh (ii (0)) rfl (qh (.bool (false)) rfl (qd (qf (qc (cX (qt [arv, crv] ju jo rfl rfl (Rd.ownN [] rfl rfl) (qg (tv) rfl (qg (ii ((d : Int))) rfl (cX (ql (args := [.agg #[arv, crv], tv, ii (d : Int)]) call71 rfl (sredexes_step ih har hcr ht (hc := (by first | assumption | rfl | omega | simp)) (ho := (by first | assumption | rfl | omega | simp)) (hd2 := (by first | assumption | rfl | omega | simp))) ?_)))))))))))
 rintro _ F1 _ le1 ⟨⟨x1, rfl, hr1⟩, rfl⟩
 replace har := har.mono le1
 replace ht := ht.mono le1
 show XL _ _ _ _ _ _ _ (cellsH b1 [arv, crv] 48 :: L)
 refine qh (x1) rfl (qd (qf (qf (qc (qh (ii (0)) rfl (qd (qE (qY (α := Nat × FH) (fun xQ => [(1, tv), (3, ptr b1 0), (9, x1), (10, ii (((xQ.1 : Nat) : Int)))]) (fun xQ => cellsH b1 [arv, crv] 48 :: L) (fun xQ F' => xQ.2 = F' ∧ F1 ≤ xQ.2 ∧ (xQ.1 ≤ t.length) ∧ (∀ i, i < xQ.1 → ¬ Inm ar cr d t i)) (fun xQ => t.length - xQ.1) (0, F1) ⟨rfl, rfl, rfl, rfl, ⟨⟩⟩ (sC sR) ⟨rfl, FLe.refl _, (Nat.zero_le _), (fun i hi => absurd hi (by omega))⟩ ?_))))))))
 rintro ⟨k, G1⟩ rE _ _ ⟨rfl, leG, hk, hall⟩
 show X _ _ _ _ (envs [(1, tv), (3, ptr b1 0), (9, x1), (10, ii ((k : Int)))] rE) _ (cellsH b1 [arv, crv] 48 :: L)
 replace leG : F1 ≤ G1 := leG
 dsimp only at hk hall
 have hgk := fun (h : k < t.length) => redsD_get (ar := ar) (cr := cr) (d := d) (t := t) h
 have hee := fun (h : k < t.length) => endN_spec ho h
 have hrl9 : (redsD ar cr d t t.length).length = t.length := redsD_len
 have leG1 := leG
 replace har := har.mono leG1
 replace ht := ht.mono leG1
 replace hr1 := hr1.mono leG1
 refine qf (qf (qc (qg (ii ((k : Int))) rfl (qg (tv) rfl (cX (qC qi rfl ht.slv (cX (qI rfl rfl (qd ?_)))))))))
 refine qx (p := (k : Int) < (t.length : Int)) rfl (fun h1 => ?_) (fun h1 => ?_)
 ·refine qw (qf (qE (qf (qf (qc (qg (x1) rfl (qg (ii ((k : Int))) rfl (cX (qA k qi qG rfl rfl rfl hr1.slv (by omega) (Nat.mul_one _) (cX (qk ja rfl (hr1.rd (by omega)) (cX (qI rfl rfl (qd ?_))))))))))))))
  refine qx (p := ((redsD ar cr d t t.length).getD k 0 : Int) < 0) rfl (fun h2 => ?_) (fun h2 => ?_)
  ·have hni : ¬ Inm ar cr d t k := Inm.no1 (by rw [← hgk (by omega)]; exact h2)
   refine qX (qv (qJ (qc (qg (ii ((k : Int))) rfl (cX (qM (((k + 1 : Nat) : Int)) rfl rfl (by omega) (by omega) (qh (ii (((k + 1 : Nat) : Int))) rfl (qd ?_))))))))
   exact ⟨(k + 1, G1), _, leG1, rF, ⟨rfl, rfl, rfl, rfl, ⟨⟩⟩, (sC sR), ⟨rfl, leG1, (by (try dsimp only) <;> omega), (fun i hi => (Nat.lt_or_ge i k).elim (fun h => hall i h) (fun h => by obtain rfl : i = k := (by omega); exact hni))⟩, (by omega)⟩
  have hrn : ¬ ruleD ar cr d t k < 0 := by rw [← hgk (by omega)]; exact h2
  refine qw (qf (qc (qh (.bool (true)) rfl (qd (qf (qf (qc (qg (ii ((k : Int))) rfl (cX (qM (((k + 1 : Nat) : Int)) rfl rfl (by omega) (by omega) (qh (ii (((k + 1 : Nat) : Int))) rfl (qd (qE (qY (α := Nat × Bool × FH) (fun xQ => [(1, tv), (3, ptr b1 0), (9, x1), (10, ii ((k : Int))), (11, .bool (xQ.2.1)), (12, ii (((xQ.1 : Nat) : Int)))]) (fun xQ => cellsH b1 [arv, crv] 48 :: L) (fun xQ F' => xQ.2.2 = F' ∧ G1 ≤ xQ.2.2 ∧ (k < xQ.1 ∧ xQ.1 ≤ endN ar t k) ∧ (AllNo ar cr d t k xQ.1 xQ.2.1)) (fun xQ => endN ar t k - xQ.1) (k + 1, true, G1) ⟨rfl, rfl, rfl, rfl, rfl, rfl, ⟨⟩⟩ (sC sR) ⟨rfl, FLe.refl _, (⟨Nat.lt_succ_self k, (hee (by omega)).1⟩), (AllNo.start)⟩ ?_))))))))))))))
  rintro ⟨j, ok, G2⟩ rE _ _ ⟨rfl, leG, hj, hno⟩
  show X _ _ _ _ (envs [(1, tv), (3, ptr b1 0), (9, x1), (10, ii ((k : Int))), (11, .bool (ok)), (12, ii ((j : Int)))] rE) _ (cellsH b1 [arv, crv] 48 :: L)
  replace leG : G1 ≤ G2 := leG
  dsimp only at hj hno
  have hgj := fun (h : j < t.length) => redsD_get (ar := ar) (cr := cr) (d := d) (t := t) h
  have leG2 := leG
  replace har := har.mono leG2
  replace ht := ht.mono leG2
  replace hr1 := hr1.mono leG2
  refine qf (qf (qc (qg (ii ((j : Int))) rfl (cX (qn (0) qN rfl qD (by decide) rfl rfl (cX (qt [arv] qP qD rfl rfl (Rd.ownN [] rfl rfl) (qg (tv) rfl (qg (ii ((k : Int))) rfl (cX (ql (args := [.agg #[arv], tv, ii (k : Int)]) call72 rfl (l1End_ok (p := k) har ht (ho := (by first | assumption | rfl | omega | (left; simp; done) | (right; simp; done))) (hp := (by first | assumption | rfl | omega | (left; simp; done) | (right; simp; done)))) ?_)))))))))))
  rintro _ _ _ _ ⟨rfl, rfl, rfl⟩
  refine cX (qI rfl rfl (qd ?_))
  refine qx (p := (j : Int) < ((endN ar t k : Nat) : Int)) rfl (fun h3 => ?_) (fun h3 => ?_)
  ·refine qw (qf (qE (qc (qg (.bool (ok)) rfl (qg (.bool (ok)) rfl ?_)))))
   by_cases h4 : (ok) = true
   ·have hok : ok = true := h4
    refine qr (t := 40) rfl (vB h4) (qu (x1) rfl (qr (t := 40) rfl (vB h4) (qu (ii ((j : Int))) rfl (qr (t := 40) rfl (vB h4) (qA j qi qG rfl rfl rfl hr1.slv (by omega) (Nat.mul_one _) (qr (t := 40) rfl (vB h4) (qk ja rfl (hr1.rd (by omega)) (qr (t := 40) rfl (vB h4) (qI rfl rfl (cX (qQ (.bool (decide (((redsD ar cr d t t.length).getD j 0 : Int) < 0))) (vB h4) rfl (qh (.bool (decide (((redsD ar cr d t t.length).getD j 0 : Int) < 0))) rfl (qd (qc (qg (ii ((j : Int))) rfl (cX (qM (((j + 1 : Nat) : Int)) rfl rfl (by omega) (by omega) ?_)))))))))))))))))
    refine qh (ii (((j + 1 : Nat) : Int))) rfl (qd ?_)
    exact ⟨(j + 1, decide (((redsD ar cr d t t.length).getD j 0 : Int) < 0), G2), _, leG2, rF, ⟨rfl, rfl, rfl, rfl, rfl, rfl, ⟨⟩⟩, (sC sR), ⟨rfl, leG2, (by (try dsimp only); omega), (hno.next hj.1 (by first | (rw [hok, hgj (by omega)]; simp; done) | (rw [hok]; simp; done)))⟩, (by omega)⟩
   rw [Bool.not_eq_true] at h4
   have hok : ok = false := h4
   have hni := hno.no hok hj.2
   refine qq (t := 40) rfl (vB h4) (qq (t := 40) rfl (vB h4) (qq (t := 40) rfl (vB h4) (qq (t := 40) rfl (vB h4) (qq (t := 40) rfl (vB h4) (cX (qL (.bool (false)) (vB h4) rfl (qh (.bool (false)) rfl (qd (qc (qg (ii ((j : Int))) rfl (cX (qM (((j + 1 : Nat) : Int)) rfl rfl (by omega) (by omega) ?_))))))))))))
   refine qh (ii (((j + 1 : Nat) : Int))) rfl (qd ?_)
   exact ⟨(j + 1, false, G2), _, leG2, rF, ⟨rfl, rfl, rfl, rfl, rfl, rfl, ⟨⟩⟩, (sC sR), ⟨rfl, leG2, (by (try dsimp only); omega), (hno.next hj.1 (by first | (rw [hok, hgj (by omega)]; simp; done) | (rw [hok]; simp; done)))⟩, (by omega)⟩
  refine qX (qv (qv (qJ (qf (qc (qg (.bool (ok)) rfl (qd ?_)))))))
  refine jq (t := ok) rfl (fun h5 => ?_) (fun h5 => ?_)
  ·have hok : ok = true := h5
   refine qf ?_
   refine X.draw [cellsH b1 [arv, crv] 48] L 6 [] [[], [], [], [1, 2], [3], [0]] (phiL [qe (ii ((k : Int)) : Value), qe x1, qe (ii ((k : Int)) : Value), qe (.pointer (some (elemA x1 (k)))), qe (ii ((redsD ar cr d t t.length).getD k 0)), qe (ii ((k : Int)) : Value)]) (ownL []) mixed rfl rfl (by kernel_rfl) ?_ ?_
   ·refine pD (fun W R z9 => ?_) ?_
    ·refine qo (qu (ii ((k : Int))) rfl ?_)
     exact ⟨rfl, rfl, rfl⟩
    refine pD (fun W R z9 => ?_) ?_
    ·refine qo (qu (x1) rfl ?_)
     exact ⟨rfl, rfl, rfl⟩
    refine pD (fun W R z9 => ?_) ?_
    ·refine qo (qu (ii ((k : Int))) rfl ?_)
     exact ⟨rfl, rfl, rfl⟩
    refine pD (fun W R z9 => ?_) ?_
    ·rw [eS (l := [(1, _), (2, _)]) ⟨z9 1 rfl, z9 2 rfl, ⟨⟩⟩]
     refine qo (qA k qi qG rfl rfl rfl hr1.slv (by omega) (Nat.mul_one _) ?_)
     exact ⟨rfl, rfl, rfl⟩
    refine pD (fun W R z9 => ?_) ?_
    ·rw [eS (l := [(3, _)]) ⟨z9 3 rfl, ⟨⟩⟩]
     refine qo (qk ja rfl (hr1.rd (by omega)) ?_)
     exact ⟨rfl, rfl, rfl⟩
    refine pD (fun W R z9 => ?_) ?_
    ·rw [eS (l := [(0, _)]) ⟨z9 0 rfl, ⟨⟩⟩]
     refine qo (XOp.assign (ii ((k : Int))) rfl ?_)
     exact ⟨rfl, rfl, rfl⟩
    exact stepsP.nil
   intro W hphi
   rw [eS (l := [(4, _), (5, _)]) ⟨(hphi 4 (by decide)), (hphi 5 (by decide)), ⟨⟩⟩]
   show XL _ _ _ _ _ _ _ (cellsH b1 [arv, crv] 48 :: L)
   refine qh (ii ((redsD ar cr d t t.length).getD k 0)) rfl (qh (.bool (true)) rfl (qd (qs (qy (qj (qj (qy (qj (qm (L' := L) [ii ((k : Int)), ii ((redsD ar cr d t t.length).getD k 0), .bool (true)] (.tuple #[ii ((k : Int)), ii ((redsD ar cr d t t.length).getD k 0), .bool (true)]) (.tmp rfl (.tmp rfl (.tmp rfl .nil))) rfl (qp (qp le1 leG1) leG2) rF (sD sR) ?_)))))))))
   have hin := hno.yes hok hrn (by omega)
   have hpd := pickD_first hin (by omega) hall
   rw [pickV_at hpd (by omega), ← hgk (by omega)]
   exact ⟨⟨rfl, pickD_le⟩, rfl⟩
  have hok : ok = false := h5
  have hni := hno.no hok hj.2
  refine qw (qc (qg (ii ((k : Int))) rfl (cX (qM (((k + 1 : Nat) : Int)) rfl rfl (by omega) (by omega) (qh (ii (((k + 1 : Nat) : Int))) rfl (qd ?_))))))
  exact ⟨(k + 1, G2), _, (qp leG1 leG2), rF, ⟨rfl, rfl, rfl, rfl, ⟨⟩⟩, (sC sR), ⟨rfl, (qp leG1 leG2), (by (try dsimp only) <;> omega), (fun i hi => (Nat.lt_or_ge i k).elim (fun h => hall i h) (fun h => by obtain rfl : i = k := (by omega); exact hni))⟩, (by omega)⟩
 refine qX (qv (qv (qJ (qf (qc (qh (ii (0)) rfl (qh (ii (0)) rfl (qh (.bool (false)) rfl (qd (qs (qm (L' := L) [ii (0), ii (0), .bool (false)] (.tuple #[ii (0), ii (0), .bool (false)]) (.tmp rfl (.tmp rfl (.tmp rfl .nil))) rfl (qp le1 leG1) rF (sD sR) ?_)))))))))))
 have hpd := pickD_none (ar := ar) (cr := cr) (d := d) (t := t) (fun i hi => hall i (by omega))
 rw [pickV_none hpd]
 exact ⟨⟨rfl, pickD_le⟩, rfl⟩

/- spec.l27Normal -/
set_option maxHeartbeats 2000000 in
set_option maxRecDepth 20000 in
theorem snormal_step {d : Nat} (ih : ∀ m : Nat, m < d → ∀ {F : FH} {L : List HP}  {arv : Value} {ar : List Int} (har : IntsF F arv ar) {crv : Value} {cr : List CRuleT} (hcr : CRulesF F crv cr) {tv : Value} {t : List Int} (ht : IntsF F tv t) (hc : csysOk ar cr = true) (ho : termOk ar t = true) (hd2 : m ≤ 2), Does prog 53 [.agg #[arv, crv], tv, ii ((m : Int))] F L (fun v F' L' => (∃ (a : Value), (.tuple #[a, .bool ((normC ar cr m t).isSome)] : Value) = v ∧ (IntsF F' a ((normC ar cr m t).getD []))) ∧ L = L')) {F : FH} {L : List HP}  {arv : Value} {ar : List Int} (har : IntsF F arv ar) {crv : Value} {cr : List CRuleT} (hcr : CRulesF F crv cr) {tv : Value} {t : List Int} (ht : IntsF F tv t) (hc : csysOk ar cr = true) (ho : termOk ar t = true) (hd2 : d ≤ 2) :
    Does prog 53 [.agg #[arv, crv], tv, ii ((d : Int))] F (L) (fun v F' L' => (∃ (a : Value), (.tuple #[a, .bool ((normC ar cr d t).isSome)] : Value) = v ∧ (IntsF F' a ((normC ar cr d t).getD []))) ∧ L = L') := by
 refine qz func53 rfl rfl rfl ?_
 have hsl := sigOk_spec (termOk_sig ho)
 have htl := termOk_len ho
 have hcl := (csysOk_iff.1 hc).2.1
 refine qf (qc (cX (qO [arv, crv] rfl rfl ?_)))
 intro b1
 refine qh (sN) rfl (qh (.bool (false)) rfl (qd (qf (qc (qg (tv) rfl (cX (XOp.frzF <| ql (args := [tv]) call32 rfl (l1Copy_spec ht (hlt := (by first | assumption | rfl | omega | simp))) ?_)))))))
 rintro v1 _ _ _ ⟨rfl, hs1, rfl⟩
 refine ⟨_, _, rfl, fun F1 le1 hz1 => ?_⟩
 replace har := har.mono le1
 replace hcr := hcr.mono le1
 have hf1 : IntsF F1 v1 ((t)) := intsH.fz (xs := (t)) hz1.fz
 refine qh (v1) rfl (qd (qf (qc (qh (ii (0)) rfl (qd (qE (qY (α := Nat × Value × List Int × FH) (fun xQ => [(2, ii ((d : Int))), (3, ptr b1 0), (8, xQ.2.1), (9, ii (((xQ.1 : Nat) : Int)))]) (fun xQ => cellsH b1 [arv, crv] 48 :: L) (fun xQ F' => xQ.2.2.2 = F' ∧ F1 ≤ xQ.2.2.2 ∧ (IntsF xQ.2.2.2 xQ.2.1 xQ.2.2.1) ∧ (termOk ar xQ.2.2.1 = true) ∧ (xQ.1 ≤ 8) ∧ (normC ar cr d t = normD ar cr d (8 - xQ.1) xQ.2.2.1)) (fun xQ => 8 - xQ.1) (0, v1, (t), F1) ⟨rfl, rfl, rfl, rfl, ⟨⟩⟩ (sC sR) ⟨rfl, FLe.refl _, (hf1), (ho), (Nat.zero_le _), (normD_eq)⟩ ?_)))))))
 rintro ⟨k, cv, cur, G1⟩ rE _ _ ⟨rfl, leG, hcv, hoc, hk, hgo⟩
 show X _ _ _ _ (envs [(2, ii ((d : Int))), (3, ptr b1 0), (8, cv), (9, ii ((k : Int)))] rE) _ (cellsH b1 [arv, crv] 48 :: L)
 replace leG : F1 ≤ G1 := leG
 dsimp only at hcv hoc hk hgo
 have hcl9 := termOk_len hoc
 have leG1 := leG
 replace har := har.mono leG1
 replace hcr := hcr.mono leG1
 refine qf (qE (qf (qc (cX (qt [arv, crv] ju jo rfl rfl (Rd.ownN [] rfl rfl) (qg (cv) rfl (qg (ii ((d : Int))) rfl (cX (ql (args := [.agg #[arv, crv], cv, ii (d : Int)]) call42 rfl (spick_step ih har hcr hcv (hc := (by first | assumption | rfl | omega | simp)) (ho := (by first | assumption | rfl | omega | simp)) (hd2 := (by first | assumption | rfl | omega | simp))) ?_)))))))))
 rintro _ F2 _ le2 ⟨⟨rfl, hr1⟩, rfl⟩
 replace har := har.mono le2
 replace hcr := hcr.mono le2
 replace hcv := hcv.mono le2
 show XL _ _ _ _ _ _ _ (cellsH b1 [arv, crv] 48 :: L)
 refine qg (.tuple #[ii ((pickV ar cr d cur).1), ii ((pickV ar cr d cur).2.1), .bool ((pickV ar cr d cur).2.2)]) rfl (cX (qF (ii ((pickV ar cr d cur).1)) rfl rfl (cX (qF (ii ((pickV ar cr d cur).2.1)) rfl rfl (cX (qF (.bool ((pickV ar cr d cur).2.2)) rfl rfl (qh (ii ((pickV ar cr d cur).1)) rfl (qh (ii ((pickV ar cr d cur).2.1)) rfl (qh (.bool ((pickV ar cr d cur).2.2)) rfl (qd (qf (qf (qc (qg (.bool ((pickV ar cr d cur).2.2)) rfl (cX (qZ rfl ?_))))))))))))))))
 refine qd ?_
 refine jq (t := !((pickV ar cr d cur).2.2)) rfl (fun h1 => ?_) (fun h1 => ?_)
 ·have hpn := pickV_false (Bool.not_inj (y := false) h1)
  refine qf (qc (qg (cv) rfl (qh (cv) rfl (qh (.bool (true)) rfl (qd (qs (qj (qy (qj (qj (qy (qm (L' := L) [cv, .bool (true)] (.tuple #[cv, .bool (true)]) (.tmp rfl (.tmp rfl .nil)) rfl (qp (qp le1 leG1) le2) rF (sD sR) ?_))))))))))))
  have e : normC ar cr d t = some cur := hgo.trans (normD_nil hpn)
  exact ⟨⟨_, by rw [e]; rfl, by rw [e]; exact hcv⟩, rfl⟩
 have hpt := pickV_true (Bool.not_inj (y := true) h1)
 have hpn := hpt.1
 have hps := pickD_step hpn
 have hp1 := hpt.2.1
 have hp2 := hpt.2.2
 have hto : toB ar cr d cur (pickD ar cr d cur) = (stepD ar cr d (RD cr ((pickV ar cr d cur).2.1).toNat) cur ((pickV ar cr d cur).1).toNat).getD [] := by unfold toB; rw [if_neg hpn, hp1, hp2]; rfl
 refine qw (qf (qf (qc (qg (ii ((k : Int))) rfl (cX (XOp.eql rfl rfl (qd ?_)))))))
 refine qx (p := (k : Int) = 8) rfl (fun h2 => ?_) (fun h2 => ?_)
 ·refine qf (qc (cX (qS (s := 1) [] [ii (0)] [] qi qG jb rfl (by decide) rfl CellsAre.nil rfl ?_)))
  intro v2 hv1
  refine qh (v2) rfl (qh (.bool (false)) rfl (qd ?_))
  show X _ _ _ _ _ _ (intsH 2 v2 ([] : List Int) :: cellsH b1 [arv, crv] 48 :: L)
  refine jn [] _ _ rfl (fun F3 le3 hz2 => ?_)
  replace har := har.mono le3
  replace hcr := hcr.mono le3
  replace hcv := hcv.mono le3
  have hf2 : IntsF F3 v2 ([]) := intsH.fz (xs := []) hz2.fz
  refine qs (qj (qy (qj (qj (qy (qm (L' := L) [v2, .bool (false)] (.tuple #[v2, .bool (false)]) (.tmp rfl (.tmp rfl .nil)) rfl (qp (qp (qp le1 leG1) le2) le3) rF (sD sR) ?_))))))
  have e : normC ar cr d t = none := by rw [hgo, show 8 - k = 0 from by omega]; exact normD_zero hpn
  exact ⟨⟨_, by rw [e]; rfl, by rw [e]; exact hf2⟩, rfl⟩
 refine qw (qc (cX (qt [arv, crv] ju jo rfl rfl (Rd.ownN [] rfl rfl) (qg (cv) rfl (qg (ii ((pickV ar cr d cur).1)) rfl (qg (ii ((pickV ar cr d cur).2.1)) rfl (qg (ii ((d : Int))) rfl (cX (ql (args := [.agg #[arv, crv], cv, ii ((((pickV ar cr d cur).1).toNat : Nat) : Int), ii ((((pickV ar cr d cur).2.1).toNat : Nat) : Int), ii (d : Int)]) call49 (by rw [show ((((pickV ar cr d cur).1).toNat : Nat) : Int) = (pickV ar cr d cur).1 from by omega, show ((((pickV ar cr d cur).2.1).toNat : Nat) : Int) = (pickV ar cr d cur).2.1 from by omega]; rfl) (sstep_step ih (p := ((pickV ar cr d cur).1).toNat) (q := ((pickV ar cr d cur).2.1).toNat) har hcr hcv (hc := (by first | assumption | rfl | omega | simp)) (ho := (by first | assumption | rfl | omega | simp)) (hd2 := (by first | assumption | rfl | omega | simp)) (hp := (by rw [hp1]; omega)) (hq := (by rw [hp2]; exact hps.2.2.1))) ?_)))))))))
 rintro _ F4 _ le4 ⟨⟨x1, rfl, hr2⟩, rfl⟩
 show XL _ _ _ _ _ _ _ (cellsH b1 [arv, crv] 48 :: L)
 refine qg (.tuple #[x1, .bool ((stepD ar cr d (RD cr (((pickV ar cr d cur).2.1).toNat)) cur (((pickV ar cr d cur).1).toNat)).isSome)]) rfl (cX (qF (x1) rfl rfl (cX (qF (.bool ((stepD ar cr d (RD cr (((pickV ar cr d cur).2.1).toNat)) cur (((pickV ar cr d cur).1).toNat)).isSome)) rfl rfl (qh (x1) rfl (qd (qc (qg (ii ((k : Int))) rfl (cX (qM (((k + 1 : Nat) : Int)) rfl rfl (by omega) (by omega) (qh (ii (((k + 1 : Nat) : Int))) rfl (qd ?_))))))))))))
 exact ⟨(k + 1, x1, (stepD ar cr d (RD cr (((pickV ar cr d cur).2.1).toNat)) cur (((pickV ar cr d cur).1).toNat)).getD [], F4), _, (qp (qp leG1 le2) le4), rF, ⟨rfl, rfl, rfl, rfl, ⟨⟩⟩, (sC sR), ⟨rfl, (qp (qp leG1 le2) le4), (hr2), (by (try dsimp only); rw [← hto]; exact toB_ok hc hoc hpn), (by (try dsimp only) <;> omega), (by (try dsimp only); rw [← hto, show 8 - (k + 1) = (8 - k) - 1 from by omega]; exact hgo.trans (normD_next hpn (by omega)))⟩, (by omega)⟩

theorem snormal (d : Nat) : ∀ {F : FH} {L : List HP}  {arv : Value} {ar : List Int} (har : IntsF F arv ar) {crv : Value} {cr : List CRuleT} (hcr : CRulesF F crv cr) {tv : Value} {t : List Int} (ht : IntsF F tv t) (hc : csysOk ar cr = true) (ho : termOk ar t = true) (hd2 : d ≤ 2), Does prog 53 [.agg #[arv, crv], tv, ii ((d : Int))] F L (fun v F' L' => (∃ (a : Value), (.tuple #[a, .bool ((normC ar cr d t).isSome)] : Value) = v ∧ (IntsF F' a ((normC ar cr d t).getD []))) ∧ L = L') := by
  induction d using Nat.strongRecOn with
  | _ d ih =>
    intros
    exact snormal_step ih (by assumption) (by assumption) (by assumption) (by assumption) (by assumption) (by assumption)
end Go.Proofs.Ytenomejgjcpbdaa
set_option linter.unusedSimpArgs false
set_option linter.unusedVariables false
namespace Go.Proofs.Ytenomejgjcpbdaa
open Go X M Try

/- impl.CNormalBy -/
theorem CNormalBy_spec {F : FH} {L : List HP} {arv : Value} {ar : List Int} (har : IntsF F arv ar) {crv : Value} {cr : List CRuleT} (hcr : CRulesF F crv cr) {tv : Value} {t : List Int} (ht : IntsF F tv t) {z : Int} :
    Does prog 28 [.agg #[arv, crv], tv, ii (z)] F (L) (fun v F' L' => ∃ (a : Value), (.tuple #[a, .bool ((cnormF ar cr t z).isSome)] : Value) = v ∧ (IntsF F' a ((cnormF ar cr t z).getD [])) ∧ (Fresh F F' (star [intsH 2 a ((cnormF ar cr t z).getD [])])) ∧ L = L') := by
 refine qz func28 rfl rfl rfl (qf (qc (cX (qO [arv, crv] rfl rfl ?_))))
 intro b1
 refine qh (sN) rfl (qh (.bool (false)) rfl (qd (qf (qf (qc (cX (qt [arv, crv] ju jo rfl rfl (Rd.ownN [] rfl rfl) (qg (tv) rfl (qg (ii (z)) rfl (cX (ql (args := [.agg #[arv, crv], tv, ii (z)]) call44 rfl (depthOk_spec (z := z) har hcr ht) ?_)))))))))))
 rintro _ _ _ _ ⟨rfl, rfl, rfl⟩
 refine cX (qZ rfl (qd ?_))
 refine jq (t := !(depthB ar cr t z)) rfl (fun h1 => ?_) (fun h1 => ?_)
 ·have hdb := Bool.not_inj (y := false) h1
  refine qf (qc (qh (sN) rfl (qh (.bool (false)) rfl (qd (qs (qj (qm (L' := L) [sN, .bool (false)] (.tuple #[sN, .bool (false)]) (.tmp rfl (.tmp rfl .nil)) rfl rF rF (sD sR) ?_)))))))
  have e : cnormF ar cr t z = none := by first | exact cnormF_no hdb | exact (cnormF_yes hdb).trans hq0
  exact ⟨_, by rw [e]; rfl, by rw [e]; exact IntsF.nilV, by rw [e]; exact Fresh.one (Fresh.ofNil _), rfl⟩
 have hdb := Bool.not_inj (y := true) h1
 have hdq := depth_iff.1 hdb
 have hc := hdq.1.1
 have ho := hdq.1.2
 have hz := hdq.2
 have htl := termOk_len ho
 refine qw (qf (qc (cX (qt [arv, crv] ju jo rfl rfl (Rd.ownN [] rfl rfl) (qg (tv) rfl (qg (ii (z)) rfl (cX (ql (args := [.agg #[arv, crv], tv, ii (((z).toNat : Nat) : Int)]) call54 (by rw [show (((z).toNat : Nat) : Int) = z from by omega]; rfl) (cnormal ((z).toNat) har hcr ht (hc := (by first | assumption | rfl | omega | simp)) (ho := (by first | assumption | rfl | omega | simp)) (hd2 := (by first | assumption | rfl | omega | simp))) ?_))))))))
 rintro _ F1 _ le1 ⟨⟨x1, rfl, hr1⟩, rfl⟩
 show XL _ _ _ _ _ _ _ (cellsH b1 [arv, crv] 48 :: L)
 refine qg (.tuple #[x1, .bool ((normC ar cr ((z).toNat) t).isSome)]) rfl (cX (qF (x1) rfl rfl (cX (qF (.bool ((normC ar cr ((z).toNat) t).isSome)) rfl rfl (qh (x1) rfl (qh (.bool ((normC ar cr ((z).toNat) t).isSome)) rfl (qd (qf (qf (qc (qg (.bool ((normC ar cr ((z).toNat) t).isSome)) rfl (cX (qZ rfl (qd ?_))))))))))))))
 refine jq (t := !((normC ar cr ((z).toNat) t).isSome)) rfl (fun h2 => ?_) (fun h2 => ?_)
 ·have hq9 := Bool.not_inj (y := false) h2
  have hq0 : normC ar cr z.toNat t = none := by cases hx : normC ar cr z.toNat t with | none => rfl | some v => rw [hx] at hq9; cases hq9
  refine qf (qc (qh (sN) rfl (qh (.bool (false)) rfl (qd (qs (qj (qm (L' := L) [sN, .bool (false)] (.tuple #[sN, .bool (false)]) (.tmp rfl (.tmp rfl .nil)) rfl le1 rF (sD sR) ?_)))))))
  have e : cnormF ar cr t z = none := by first | exact cnormF_no hdb | exact (cnormF_yes hdb).trans hq0
  exact ⟨_, by rw [e]; rfl, by rw [e]; exact IntsF.nilV, by rw [e]; exact Fresh.one (Fresh.ofNil _), rfl⟩
 have hq1 : (normC ar cr z.toNat t).isSome = true := Bool.not_inj (y := true) h2
 have hnl := termOk_len (norm_okS hc ho hq1)
 refine qw (qf (qc (qg (x1) rfl (cX (XOp.frzF <| ql (args := [x1]) call55 rfl (Clone_spec hr1 (hlt := (by first | assumption | rfl | omega | simp))) ?_)))))
 rintro v1 _ _ _ ⟨rfl, hs1, rfl⟩
 refine ⟨_, _, rfl, fun F2 le2 hz1 => ?_⟩
 have hf1 : IntsF F2 v1 ((((normC ar cr ((z).toNat) t).getD []))) := intsH.fz (xs := (((normC ar cr ((z).toNat) t).getD []))) hz1.fz
 refine qh (v1) rfl (qh (.bool (true)) rfl (qd (qs (qm (L' := L) [v1, .bool (true)] (.tuple #[v1, .bool (true)]) (.tmp rfl (.tmp rfl .nil)) rfl (qp le1 le2) rF (sD sR) ?_))))
 have e : cnormF ar cr t z = normC ar cr z.toNat t := cnormF_yes hdb
 exact ⟨_, by first | (rw [e]; done) | (rw [e]; rfl) | rw [e, hq1], by rw [e]; exact hf1, by rw [e]; exact Fresh.one (hz1.base le1), rfl⟩

/- spec.CNormalBy -/
theorem sCNormalBy_spec {F : FH} {L : List HP} {arv : Value} {ar : List Int} (har : IntsF F arv ar) {crv : Value} {cr : List CRuleT} (hcr : CRulesF F crv cr) {tv : Value} {t : List Int} (ht : IntsF F tv t) {z : Int} (hla : ar.length ≤ 4000000) (hlr : cr.length ≤ 4000000) (hrb : ∀ i, i < cr.length → (cr.getD i ([], [], [])).1.length ≤ 4000000 ∧ (cr.getD i ([], [], [])).2.1.length ≤ 4000000 ∧ (cr.getD i ([], [], [])).2.2.length ≤ 4000000 ∧ ∀ q, q < (cr.getD i ([], [], [])).2.2.length → ((cr.getD i ([], [], [])).2.2.getD q ([], [])).1.length ≤ 4000000 ∧ ((cr.getD i ([], [], [])).2.2.getD q ([], [])).2.length ≤ 4000000) (hlt : t.length ≤ 4000000) :
    Does prog 27 [.agg #[arv, crv], tv, ii (z)] F (L) (fun v F' L' => ∃ (a : Value), (.tuple #[a, .bool ((cnormF ar cr t z).isSome)] : Value) = v ∧ (IntsF F' a ((cnormF ar cr t z).getD [])) ∧ L = L') := by
 refine qz func27 rfl rfl rfl (qf (qc (cX (qO [arv, crv] rfl rfl ?_))))
 intro b1
 refine qh (sN) rfl (qh (.bool (false)) rfl (qd (qf (qf (qc (cX (qt [arv, crv] ju jo rfl rfl (Rd.ownN [] rfl rfl) (qg (tv) rfl (qg (ii (z)) rfl (cX (ql (args := [.agg #[arv, crv], tv, ii (z)]) call41 rfl (l27Right_spec (z := z) har hcr ht (hla := (by first | assumption | rfl | omega | simp)) (hlr := (by first | assumption | rfl | omega | simp)) (hrb := (by first | assumption | rfl | omega | simp)) (hlt := (by first | assumption | rfl | omega | simp))) ?_)))))))))))
 rintro _ _ _ _ ⟨rfl, rfl, rfl⟩
 refine cX (qZ rfl (qd ?_))
 refine jq (t := !(depthB ar cr t z)) rfl (fun h1 => ?_) (fun h1 => ?_)
 ·have hdb := Bool.not_inj (y := false) h1
  refine qf (qc (cX (qS (s := 1) [] [ii (0)] [] qi qG jb rfl (by decide) rfl CellsAre.nil rfl ?_)))
  intro v1 hv1
  refine qh (v1) rfl (qh (.bool (false)) rfl (qd ?_))
  show X _ _ _ _ _ _ (intsH 2 v1 ([] : List Int) :: cellsH b1 [arv, crv] 48 :: L)
  refine jn [] _ _ rfl (fun F1 le1 hz1 => ?_)
  replace har := har.mono le1
  replace hcr := hcr.mono le1
  replace ht := ht.mono le1
  have hf1 : IntsF F1 v1 ([]) := intsH.fz (xs := []) hz1.fz
  refine qs (qj (qm (L' := L) [v1, .bool (false)] (.tuple #[v1, .bool (false)]) (.tmp rfl (.tmp rfl .nil)) rfl le1 rF (sD sR) ?_))
  have e : cnormF ar cr t z = none := by first | exact cnormF_no hdb | exact (cnormF_yes hdb).trans hq0
  exact ⟨_, by rw [e]; rfl, by rw [e]; exact hf1, rfl⟩
 have hdb := Bool.not_inj (y := true) h1
 have hdq := depth_iff.1 hdb
 have hc := hdq.1.1
 have ho := hdq.1.2
 have hz := hdq.2
 have htl := termOk_len ho
 refine qw (qf (qc (cX (qt [arv, crv] ju jo rfl rfl (Rd.ownN [] rfl rfl) (qg (tv) rfl (qg (ii (z)) rfl (cX (ql (args := [.agg #[arv, crv], tv, ii (((z).toNat : Nat) : Int)]) call53 (by rw [show (((z).toNat : Nat) : Int) = z from by omega]; rfl) (snormal ((z).toNat) har hcr ht (hc := (by first | assumption | rfl | omega | simp)) (ho := (by first | assumption | rfl | omega | simp)) (hd2 := (by first | assumption | rfl | omega | simp))) ?_))))))))
 rintro _ F2 _ le2 ⟨⟨x1, rfl, hr1⟩, rfl⟩
 show XL _ _ _ _ _ _ _ (cellsH b1 [arv, crv] 48 :: L)
 refine cX (qF (x1) rfl rfl (cX (qF (.bool ((normC ar cr ((z).toNat) t).isSome)) rfl rfl (qh (x1) rfl (qh (.bool ((normC ar cr ((z).toNat) t).isSome)) rfl (qd (qs (qm (L' := L) [x1, .bool ((normC ar cr ((z).toNat) t).isSome)] (.tuple #[x1, .bool ((normC ar cr ((z).toNat) t).isSome)]) (.tmp rfl (.tmp rfl .nil)) rfl le2 rF (sD sR) ?_))))))))
 have e : cnormF ar cr t z = normC ar cr z.toNat t := cnormF_yes hdb
 exact ⟨_, by first | (rw [e]; done) | (rw [e]; rfl) | rw [e, hq1], by rw [e]; exact hr1, rfl⟩

/- laws.szCRule -/
theorem szCRule_spec {F : FH} {L : List HP} {lv : Value} {l : List Int} (hl : IntsF F lv l) {rv : Value} {r : List Int} (hr : IntsF F rv r) {csv : Value} {cs : List (List Int × List Int)} (hcs : PairsF F csv cs) {z : Int} (hz : 0 ≤ z ∧ z ≤ 4000000) (hla : l.length ≤ 9223372036854775807) (hlb : r.length ≤ 9223372036854775807) (hlc : cs.length ≤ 9223372036854775807) (hcb : ∀ q, q < cs.length → (cs.getD q ([], [])).1.length ≤ 9223372036854775807 ∧ (cs.getD q ([], [])).2.length ≤ 9223372036854775807) :
    Does prog 68 [.agg #[lv, rv, csv], ii (z)] F (L) (fun v F' L' => (ii (dec z ((l.length + r.length) + szR cs)) : Value) = v ∧ F = F' ∧ L = L') := by
 refine qz func68 rfl rfl rfl ?_
 have hdr := dec_range z l.length
 have hdr2 := dec_range (dec z l.length) r.length
 refine qf (qc (cX (qO [lv, rv, csv] rfl rfl ?_)))
 intro b1
 refine qh (ii (0)) rfl (qd (qf (qc (cX (qn (0) runUnderlying105 rfl qB (by decide) rfl rfl (cX (qk qK rfl (Rd.own [] rfl rfl) (qg (ii (z)) rfl (cX (ql (args := [lv, ii (z)]) call56 rfl (szInt64S_spec (z := z) hl (hz := (by first | assumption | rfl | omega | simp)) (hlx := (by first | assumption | rfl | omega | simp))) ?_))))))))))
 rintro _ _ _ _ ⟨rfl, rfl, rfl⟩
 refine qh (ii (dec z l.length)) rfl (qd (qf (qf (qc (qg (ii (dec z l.length)) rfl (cX (qI rfl rfl (qd ?_))))))))
 refine qx (p := (dec z l.length : Int) < 0) rfl (fun h1 => ?_) (fun h1 => ?_)
 ·refine qf (qc (qh (ii (-1)) rfl (qd (qs (qj (qm (L' := L) [ii (-1)] (ii (-1)) (.tmp rfl .nil) rfl rF rF (sD sR) ?_))))))
  exact ⟨(vI (by rw [Nat.add_assoc]; exact dec_out (by omega))), rfl, rfl⟩
 refine qw (qf (qc (cX (qn (1) runUnderlying105 rfl qB (by decide) rfl rfl (cX (qk qK rfl (Rd.own [] rfl rfl) (qg (ii (dec z l.length)) rfl (cX (ql (args := [rv, ii (dec z l.length)]) call56 rfl (szInt64S_spec (z := dec z l.length) hr (hz := (by first | assumption | rfl | omega | simp)) (hlx := (by first | assumption | rfl | omega | simp))) ?_)))))))))
 rintro _ _ _ _ ⟨rfl, rfl, rfl⟩
 refine qh (ii (dec (dec z l.length) r.length)) rfl (qd (qf (qf (qc (qg (ii (dec (dec z l.length) r.length)) rfl (cX (qI rfl rfl (qd ?_))))))))
 refine qx (p := (dec (dec z l.length) r.length : Int) < 0) rfl (fun h2 => ?_) (fun h2 => ?_)
 ·refine qf (qc (qh (ii (-1)) rfl (qd (qs (qj (qm (L' := L) [ii (-1)] (ii (-1)) (.tmp rfl .nil) rfl rF rF (sD sR) ?_))))))
  exact ⟨(vI (dec_out (by rw [← dec_dec (by omega)]; omega))), rfl, rfl⟩
 refine qw (qf (qc (cX (qn (2) runUnderlying105 rfl sizeOf103 (by decide) rfl rfl (cX (qk isAgg103 rfl (Rd.own [] rfl rfl) (qg (ii (dec (dec z l.length) r.length)) rfl (cX (ql (args := [csv, ii (dec (dec z l.length) r.length)]) call98 rfl (szEqS_spec (z := dec (dec z l.length) r.length) hcs (hz := (by first | assumption | rfl | omega | simp)) (hrl := (by first | assumption | rfl | omega | simp)) (hrb := (hcb))) ?_)))))))))
 rintro _ _ _ _ ⟨rfl, rfl, rfl⟩
 refine qh (ii (dec (dec (dec z l.length) r.length) (szR cs))) rfl (qd (qf (qf (qc (qg (ii (dec (dec (dec z l.length) r.length) (szR cs))) rfl (cX (qI rfl rfl (qd ?_))))))))
 refine qx (p := (dec (dec (dec z l.length) r.length) (szR cs) : Int) < 0) rfl (fun h3 => ?_) (fun h3 => ?_)
 ·refine qf (qc (qh (ii (-1)) rfl (qd (qs (qj (qm (L' := L) [ii (-1)] (ii (-1)) (.tmp rfl .nil) rfl rF rF (sD sR) ?_))))))
  exact ⟨(vI (by rw [← dec_dec (by rw [← dec_dec (by omega)]; omega), ← dec_dec (by omega)]; have := (dec_range (dec (dec z l.length) r.length) (szR cs)).1; omega)), rfl, rfl⟩
 refine qw (qf (qc (qg (ii (dec (dec (dec z l.length) r.length) (szR cs))) rfl (qh (ii (dec (dec (dec z l.length) r.length) (szR cs))) rfl (qd (qs (qm (L' := L) [ii (dec (dec (dec z l.length) r.length) (szR cs))] (ii (dec (dec (dec z l.length) r.length) (szR cs))) (.tmp rfl .nil) rfl rF rF (sD sR) ?_)))))))
 exact ⟨(vI (by rw [← dec_dec (by rw [← dec_dec (by omega)]; omega), ← dec_dec (by omega)])), rfl, rfl⟩

/- laws.szCRuleS -/
theorem szCRuleS_spec {F : FH} {L : List HP} {rsv : Value} {rs : List CRuleT} (hrs : CRulesF F rsv rs) {z : Int} (hz : 0 ≤ z ∧ z ≤ 4000000) (hrl : rs.length ≤ 9223372036854775807) (hrb : ∀ i, i < rs.length → (rs.getD i ([], [], [])).1.length ≤ 9223372036854775807 ∧ (rs.getD i ([], [], [])).2.1.length ≤ 9223372036854775807 ∧ (rs.getD i ([], [], [])).2.2.length ≤ 9223372036854775807 ∧ ∀ q, q < (rs.getD i ([], [], [])).2.2.length → ((rs.getD i ([], [], [])).2.2.getD q ([], [])).1.length ≤ 9223372036854775807 ∧ ((rs.getD i ([], [], [])).2.2.getD q ([], [])).2.length ≤ 9223372036854775807) :
    Does prog 40 [rsv, ii (z)] F (L) (fun v F' L' => (ii (dec z (szG lenC rs)) : Value) = v ∧ F = F' ∧ L = L') := by
 refine qz func40 rfl rfl rfl (qf (qc (qh (ii (0)) rfl (qd (qf (qc (qg (ii (z)) rfl (qg (rsv) rfl (cX (qC runUnderlying40 rfl hrs.slv (cX (je (z - ((rs.length : Int))) rfl rfl (by omega) (by omega) (qh (ii (z - ((rs.length : Int)))) rfl (qd (qf (qf (qc ?_)))))))))))))))))
 refine qg (ii (z - ((rs.length : Int)))) rfl (cX (qI rfl rfl (qd ?_)))
 refine qx (p := (z - ((rs.length : Int)) : Int) < 0) rfl (fun h1 => ?_) (fun h1 => ?_)
 ·refine qf (qc (qh (ii (-1)) rfl (qd (qs (qj (qm (L' := L) [ii (-1)] (ii (-1)) (.tmp rfl .nil) rfl rF rF sR ?_))))))
  exact ⟨(vI (dec_mono (n := rs.length) (by rw [dec_neg (by omega)]; omega) (by unfold szG; omega))), rfl, rfl⟩
 refine qw (qf (qf (qc (qh (ii (0)) rfl (qd (qE (qY (α := Nat) (fun k => [(0, rsv), (1, ii (dec z (rs.length + gTo lenC rs k))), (5, ii ((k : Int)))]) (fun k => L) (fun k F' => F = F' ∧ (k ≤ rs.length) ∧ (0 ≤ dec z (rs.length + gTo lenC rs k))) (fun k => rs.length - k) 0 ⟨rfl, (vI (by show z - rs.length = dec z (rs.length + 0); rw [Nat.add_zero, dec_pos (by omega)])), rfl, ⟨⟩⟩ sR ⟨rfl, (by (try dsimp only) <;> omega), (by show 0 ≤ dec z (rs.length + 0); rw [Nat.add_zero, dec_pos (by omega)]; omega)⟩ ?_)))))))
 rintro k rE _ _ ⟨rfl, hk, hnn⟩
 show X _ _ _ _ (envs [(0, rsv), (1, ii (dec z (rs.length + gTo lenC rs k))), (5, ii ((k : Int)))] rE) _ (L)
 have hdr := dec_range z (rs.length + gTo lenC rs k)
 have hrk := hrb k
 have hgk : lenC (rs.getD k ([], [], [])) = ((rs.getD k ([], [], [])).1.length + (rs.getD k ([], [], [])).2.1.length) + szR (rs.getD k ([], [], [])).2.2 := rfl
 refine qf (qf (qc (qg (ii ((k : Int))) rfl (qg (rsv) rfl (cX (qC runUnderlying40 rfl hrs.slv (cX (qI rfl rfl (qd ?_)))))))))
 refine qx (p := (k : Int) < (rs.length : Int)) rfl (fun h2 => ?_) (fun h2 => ?_)
 ·refine qw (qf (qE (qf (qc (qg (rsv) rfl (qg (ii ((k : Int))) rfl (cX (qA k runUnderlying40 sizeOf105 rfl rfl rfl hrs.slv (by omega) rfl ?_))))))))
  obtain ⟨a1, a2, a3, ha1, ha2, ha3, hrg1, hq1⟩ := hrs.rd (i := k) (by omega)
  refine cX (qt [a1, a2, a3] isAgg105 sizeOf105 rfl rfl (Rd.all (hrg1 _)) (qg (ii (dec z (rs.length + gTo lenC rs k))) rfl (cX (ql (args := [.agg #[a1, a2, a3], ii (dec z (rs.length + gTo lenC rs k))]) call68 rfl (szCRule_spec (z := dec z (rs.length + gTo lenC rs k)) ha1 ha2 ha3 (hz := (by first | assumption | rfl | omega | simp)) (hla := ((hrk (by omega)).1)) (hlb := ((hrk (by omega)).2.1)) (hlc := ((hrk (by omega)).2.2.1)) (hcb := ((hrk (by omega)).2.2.2))) ?_))))
  rintro _ _ _ _ ⟨rfl, rfl, rfl⟩
  refine qh (ii (dec (dec z (rs.length + gTo lenC rs k)) ((((rs.getD k ([], [], [])).1).length + ((rs.getD k ([], [], [])).2.1).length) + szR ((rs.getD k ([], [], [])).2.2)))) rfl (qd (qf (qc (qg (ii (dec (dec z (rs.length + gTo lenC rs k)) ((((rs.getD k ([], [], [])).1).length + ((rs.getD k ([], [], [])).2.1).length) + szR ((rs.getD k ([], [], [])).2.2)))) rfl (cX (qI rfl rfl (qd ?_)))))))
  refine qx (p := (dec (dec z (rs.length + gTo lenC rs k)) ((((rs.getD k ([], [], [])).1).length + ((rs.getD k ([], [], [])).2.1).length) + szR ((rs.getD k ([], [], [])).2.2)) : Int) < 0) rfl (fun h3 => ?_) (fun h3 => ?_)
  ·refine qf (qc (qh (ii (-1)) rfl (qd (qs (qy (qj (qj (qy (qj (qm (L' := L) [ii (-1)] (ii (-1)) (.tmp rfl .nil) rfl rF rF sR ?_))))))))))
   exact ⟨(vI (by have h9 := gTo_le (f := lenC) (l := rs) (([] : List Int), ([] : List Int), ([] : List (List Int × List Int))) (k + 1) rs.length (by omega) (Nat.le_refl _); refine dec_mono (n := rs.length + gTo lenC rs (k + 1)) ?_ (by unfold szG; omega); rw [← gTo_succ (([] : List Int), ([] : List Int), ([] : List (List Int × List Int))) (by omega), ← Nat.add_assoc, ← dec_dec (by omega)]; assumption)), rfl, rfl⟩
  refine qw (qc (qg (ii ((k : Int))) rfl (cX (qM (((k + 1 : Nat) : Int)) rfl rfl (by omega) (by omega) (qh (ii (((k + 1 : Nat) : Int))) rfl (qd ?_))))))
  exact ⟨k + 1, _, FLe.refl _, rF, ⟨rfl, (vI (by rw [dec_dec (by omega), Nat.add_assoc, ← gTo_succ (([] : List Int), ([] : List Int), ([] : List (List Int × List Int))) (by omega)]; rfl)), rfl, ⟨⟩⟩, sR, ⟨rfl, (by (try dsimp only) <;> omega), (by (try dsimp only); rw [← gTo_succ (([] : List Int), ([] : List Int), ([] : List (List Int × List Int))) (by omega), ← Nat.add_assoc, ← dec_dec (by omega)]; exact Int.not_lt.1 (by assumption))⟩, (by omega)⟩
 refine qX (qv (qv (qJ (qf (qc (qg (ii (dec z (rs.length + gTo lenC rs k))) rfl (qh (ii (dec z (rs.length + gTo lenC rs k))) rfl (qd (qs (qm (L' := L) [ii (dec z (rs.length + gTo lenC rs k))] (ii (dec z (rs.length + gTo lenC rs k))) (.tmp rfl .nil) rfl rF rF sR ?_))))))))))
 exact ⟨(vI (by rw [szG, show k = rs.length from by omega])), rfl, rfl⟩

/- laws.szCSystem -/
theorem szCSystem_spec {F : FH} {L : List HP} {arv : Value} {ar : List Int} (har : IntsF F arv ar) {crv : Value} {cr : List CRuleT} (hcr : CRulesF F crv cr) {z : Int} (hz : 0 ≤ z ∧ z ≤ 4000000) (hal : ar.length ≤ 9223372036854775807) (hrl : cr.length ≤ 9223372036854775807) (hrb : ∀ i, i < cr.length → (cr.getD i ([], [], [])).1.length ≤ 9223372036854775807 ∧ (cr.getD i ([], [], [])).2.1.length ≤ 9223372036854775807 ∧ (cr.getD i ([], [], [])).2.2.length ≤ 9223372036854775807 ∧ ∀ q, q < (cr.getD i ([], [], [])).2.2.length → ((cr.getD i ([], [], [])).2.2.getD q ([], [])).1.length ≤ 9223372036854775807 ∧ ((cr.getD i ([], [], [])).2.2.getD q ([], [])).2.length ≤ 9223372036854775807) :
    Does prog 17 [.agg #[arv, crv], ii (z)] F (L) (fun v F' L' => (ii (dec z (ar.length + szG lenC cr)) : Value) = v ∧ F = F' ∧ L = L') := by
 refine qz func17 rfl rfl rfl ?_
 have hdr := dec_range z ar.length
 refine qf (qc (cX (qO [arv, crv] rfl rfl ?_)))
 intro b1
 refine qh (ii (0)) rfl (qd (qf (qc (cX (qn (0) runUnderlying42 rfl sizeOf24 (by decide) rfl rfl (cX (qt [arv] isAgg24 sizeOf24 rfl rfl (Rd.ownN [] rfl rfl) (qg (ii (z)) rfl (cX (ql (args := [.agg #[arv], ii (z)]) call29 rfl (szSig_spec (z := z) har (hz := (by first | assumption | rfl | omega | simp)) (hlx := (by first | assumption | rfl | omega | simp))) ?_))))))))))
 rintro _ _ _ _ ⟨rfl, rfl, rfl⟩
 refine qh (ii (dec z ar.length)) rfl (qd (qf (qf (qc (qg (ii (dec z ar.length)) rfl (cX (qI rfl rfl (qd ?_))))))))
 refine qx (p := (dec z ar.length : Int) < 0) rfl (fun h1 => ?_) (fun h1 => ?_)
 ·refine qf (qc (qh (ii (-1)) rfl (qd (qs (qj (qm (L' := L) [ii (-1)] (ii (-1)) (.tmp rfl .nil) rfl rF rF (sD sR) ?_))))))
  exact ⟨(vI (dec_out (by omega))), rfl, rfl⟩
 refine qw (qf (qc (cX (qn (1) runUnderlying42 rfl sizeOf40 (by decide) rfl rfl (cX (qk isAgg40 rfl (Rd.own [] rfl rfl) (qg (ii (dec z ar.length)) rfl (cX (ql (args := [crv, ii (dec z ar.length)]) call40 rfl (szCRuleS_spec (z := dec z ar.length) hcr (hz := (by first | assumption | rfl | omega | simp)) (hrl := (by first | assumption | rfl | omega | simp)) (hrb := (by first | assumption | rfl | omega | simp))) ?_)))))))))
 rintro _ _ _ _ ⟨rfl, rfl, rfl⟩
 refine qh (ii (dec (dec z ar.length) (szG lenC cr))) rfl (qd (qf (qf (qc (qg (ii (dec (dec z ar.length) (szG lenC cr))) rfl (cX (qI rfl rfl (qd ?_))))))))
 refine qx (p := (dec (dec z ar.length) (szG lenC cr) : Int) < 0) rfl (fun h2 => ?_) (fun h2 => ?_)
 ·refine qf (qc (qh (ii (-1)) rfl (qd (qs (qj (qm (L' := L) [ii (-1)] (ii (-1)) (.tmp rfl .nil) rfl rF rF (sD sR) ?_))))))
  exact ⟨(vI (by rw [← dec_dec (by omega)]; have := (dec_range (dec z ar.length) (szG lenC cr)).1; omega)), rfl, rfl⟩
 refine qw (qf (qc (qg (ii (dec (dec z ar.length) (szG lenC cr))) rfl (qh (ii (dec (dec z ar.length) (szG lenC cr))) rfl (qd (qs (qm (L' := L) [ii (dec (dec z ar.length) (szG lenC cr))] (ii (dec (dec z ar.length) (szG lenC cr))) (.tmp rfl .nil) rfl rF rF (sD sR) ?_)))))))
 exact ⟨(vI ((dec_dec (by omega)).symm)), rfl, rfl⟩

/- laws.eqCRule -/
theorem eqCRule_spec {F : FH} {L : List HP} {lv : Value} {l : List Int} (hl : IntsF F lv l) {rv : Value} {r : List Int} (hr : IntsF F rv r) {csv : Value} {cs : List (List Int × List Int)} (hcs : PairsF F csv cs) {av : Value} {a : List Int} (ha : IntsF F av a) {bv : Value} {b : List Int} (hb : IntsF F bv b) {cv : Value} {c : List (List Int × List Int)} (hc : PairsF F cv c) (hla : l.length ≤ 9223372036854775807) (hlb : r.length ≤ 9223372036854775807) (hlc : cs.length ≤ 9223372036854775807) (hcb : ∀ q, q < cs.length → (cs.getD q ([], [])).1.length ≤ 9223372036854775807 ∧ (cs.getD q ([], [])).2.length ≤ 9223372036854775807) :
    Does prog 76 [.agg #[lv, rv, csv], .agg #[av, bv, cv]] F (L) (fun v F' L' => (.bool (decide ((l, r, cs) = (a, b, c))) : Value) = v ∧ F = F' ∧ L = L') := by
 refine qz func76 rfl rfl rfl (qf (qc (cX (qO [lv, rv, csv] rfl rfl ?_))))
 intro b1
 refine cX (qO [av, bv, cv] rfl rfl ?_)
 intro b2
 refine qh (.bool (false)) rfl (qd (qf (qf (qc (cX (qn (0) qH rfl qB (by decide) rfl rfl (cX (qk qK rfl (Rd.own [_] rfl rfl) (cX (qn (0) qH rfl qB (by decide) rfl rfl (cX (qk qK rfl (Rd.own [] rfl rfl) (cX (ql (args := [lv, av]) call14 rfl (eqInt64S_spec hl ha (hbd := (.inl hla))) ?_))))))))))))))
 rintro _ _ _ _ ⟨rfl, rfl, rfl⟩
 refine cX (jk rfl (qd ?_))
 refine qx (p := ¬(l = a)) rfl (fun h1 => ?_) (fun h1 => ?_)
 ·refine qf (qc (qh (.bool (false)) rfl (qd (qs (qj (qm (L' := L) [.bool (false)] (.bool (false)) (.tmp rfl .nil) rfl rF rF (sD (sD sR)) ?_))))))
  exact ⟨(vB (decide_eq_false (by intro e; simp_all))), rfl, rfl⟩
 refine qw (qf (qf (qc (cX (qn (1) qH rfl qB (by decide) rfl rfl (cX (qk qK rfl (Rd.own [_] rfl rfl) (cX (qn (1) qH rfl qB (by decide) rfl rfl (cX (qk qK rfl (Rd.own [] rfl rfl) (cX (ql (args := [rv, bv]) call14 rfl (eqInt64S_spec hr hb (hbd := (.inl hlb))) ?_)))))))))))))
 rintro _ _ _ _ ⟨rfl, rfl, rfl⟩
 refine cX (jk rfl (qd ?_))
 refine qx (p := ¬(r = b)) rfl (fun h2 => ?_) (fun h2 => ?_)
 ·refine qf (qc (qh (.bool (false)) rfl (qd (qs (qj (qm (L' := L) [.bool (false)] (.bool (false)) (.tmp rfl .nil) rfl rF rF (sD (sD sR)) ?_))))))
  exact ⟨(vB (decide_eq_false (by intro e; simp_all))), rfl, rfl⟩
 refine qw (qf (qf (qc (cX (qn (2) qH rfl jt (by decide) rfl rfl (cX (qk isAgg77 rfl (Rd.own [_] rfl rfl) (cX (qn (2) qH rfl jt (by decide) rfl rfl (cX (qk isAgg77 rfl (Rd.own [] rfl rfl) (cX (ql (args := [csv, cv]) call107 rfl (eqEqS_spec hcs hc (hal := (by first | assumption | rfl | omega | simp)) (hbd := (hcb))) ?_)))))))))))))
 rintro _ _ _ _ ⟨rfl, rfl, rfl⟩
 refine cX (jk rfl (qd ?_))
 refine qx (p := ¬(cs = c)) rfl (fun h3 => ?_) (fun h3 => ?_)
 ·refine qf (qc (qh (.bool (false)) rfl (qd (qs (qj (qm (L' := L) [.bool (false)] (.bool (false)) (.tmp rfl .nil) rfl rF rF (sD (sD sR)) ?_))))))
  exact ⟨(vB (decide_eq_false (by intro e; simp_all))), rfl, rfl⟩
 refine qw (qf (qc (qh (.bool (true)) rfl (qd (qs (qm (L' := L) [.bool (true)] (.bool (true)) (.tmp rfl .nil) rfl rF rF (sD (sD sR)) ?_))))))
 exact ⟨(vB (decide_eq_true (by simp_all))), rfl, rfl⟩

/- laws.eqCRuleS -/
theorem eqCRuleS_spec {F : FH} {L : List HP} {av : Value} {a : List CRuleT} (ha : CRulesF F av a) {bv : Value} {b : List CRuleT} (hb : CRulesF F bv b) (hal : a.length ≤ 9223372036854775807) (hbd : ∀ i, i < a.length → (a.getD i ([], [], [])).1.length ≤ 9223372036854775807 ∧ (a.getD i ([], [], [])).2.1.length ≤ 9223372036854775807 ∧ (a.getD i ([], [], [])).2.2.length ≤ 9223372036854775807 ∧ ∀ q, q < (a.getD i ([], [], [])).2.2.length → ((a.getD i ([], [], [])).2.2.getD q ([], [])).1.length ≤ 9223372036854775807 ∧ ((a.getD i ([], [], [])).2.2.getD q ([], [])).2.length ≤ 9223372036854775807) :
    Does prog 46 [av, bv] F (L) (fun v F' L' => (.bool (decide (a = b)) : Value) = v ∧ F = F' ∧ L = L') := by
 refine qz func46 rfl rfl rfl (qf (qc (qh (.bool (false)) rfl (qd (qf (qf (qc (qg (av) rfl (cX (qC qW rfl ha.slv (qg (bv) rfl (cX (qC qW rfl hb.slv (cX (XOp.neq rfl rfl (qd ?_))))))))))))))))
 refine qx (p := ((a.length : Int) : Int) ≠ (b.length : Int)) rfl (fun h1 => ?_) (fun h1 => ?_)
 ·refine qf (qc (qh (.bool (false)) rfl (qd (qs (qj (qm (L' := L) [.bool (false)] (.bool (false)) (.tmp rfl .nil) rfl rF rF sR ?_))))))
  exact ⟨(vB (decide_eq_false (fun e => by rw [e] at h1; omega))), rfl, rfl⟩
 refine qw (qf (qf (qc (qh (ii (0)) rfl (qd (qE (qY (α := Nat) (fun k => [(0, av), (1, bv), (5, ii ((k : Int)))]) (fun k => L) (fun k F' => F = F' ∧ (k ≤ a.length) ∧ (∀ i, i < k → a.getD i ([], [], []) = b.getD i ([], [], []))) (fun k => a.length - k) 0 ⟨rfl, rfl, rfl, ⟨⟩⟩ sR ⟨rfl, (by (try dsimp only) <;> omega), (fun i hi => absurd hi (by omega))⟩ ?_)))))))
 rintro k rE _ _ ⟨rfl, hk, hall⟩
 show X _ _ _ _ (envs [(0, av), (1, bv), (5, ii ((k : Int)))] rE) _ (L)
 have hbk := hbd k
 refine qf (qf (qc (qg (ii ((k : Int))) rfl (qg (av) rfl (cX (qC qW rfl ha.slv (cX (qI rfl rfl (qd ?_)))))))))
 refine qx (p := (k : Int) < (a.length : Int)) rfl (fun h2 => ?_) (fun h2 => ?_)
 ·refine qw (qf (qE (qf ?_)))
  obtain ⟨a1, a2, a3, ha1, ha2, ha3, hrg1, hq1⟩ := ha.rd (i := k) (by omega)
  obtain ⟨a4, a5, a6, ha4, ha5, ha6, hrg2, hq2⟩ := hb.rd (i := k) (by omega)
  refine X.draw [] L 8 [] [[], [], [0, 1], [2], [], [], [4, 5], [6]] (phiL [qe av, qe (ii ((k : Int)) : Value), qe (.pointer (some (elemA av (k * 3)))), qe (.agg #[a1, a2, a3]), qe bv, qe (ii ((k : Int)) : Value), qe (.pointer (some (elemA bv (k * 3)))), qe (.agg #[a4, a5, a6])]) (ownL []) mixed rfl rfl (by kernel_rfl) ?_ ?_
  ·refine pD (fun W R z9 => ?_) ?_
   ·refine qo (qu (av) rfl ?_)
    exact ⟨rfl, rfl, rfl⟩
   refine pD (fun W R z9 => ?_) ?_
   ·refine qo (qu (ii ((k : Int))) rfl ?_)
    exact ⟨rfl, rfl, rfl⟩
   refine pD (fun W R z9 => ?_) ?_
   ·rw [eS (l := [(0, _), (1, _)]) ⟨z9 0 rfl, z9 1 rfl, ⟨⟩⟩]
    refine qo (qA k qW jj rfl rfl rfl ha.slv (by omega) rfl ?_)
    exact ⟨rfl, rfl, rfl⟩
   refine pD (fun W R z9 => ?_) ?_
   ·rw [eS (l := [(2, _)]) ⟨z9 2 rfl, ⟨⟩⟩]
    refine qo (qt [a1, a2, a3] isAgg79 jj rfl rfl (Rd.all (hrg1 _)) ?_)
    exact ⟨rfl, rfl, rfl⟩
   refine pD (fun W R z9 => ?_) ?_
   ·refine qo (qu (bv) rfl ?_)
    exact ⟨rfl, rfl, rfl⟩
   refine pD (fun W R z9 => ?_) ?_
   ·refine qo (qu (ii ((k : Int))) rfl ?_)
    exact ⟨rfl, rfl, rfl⟩
   refine pD (fun W R z9 => ?_) ?_
   ·rw [eS (l := [(4, _), (5, _)]) ⟨z9 4 rfl, z9 5 rfl, ⟨⟩⟩]
    refine qo (qA k qW jj rfl rfl rfl hb.slv (by omega) rfl ?_)
    exact ⟨rfl, rfl, rfl⟩
   refine pD (fun W R z9 => ?_) ?_
   ·rw [eS (l := [(6, _)]) ⟨z9 6 rfl, ⟨⟩⟩]
    refine qo (qt [a4, a5, a6] isAgg79 jj rfl rfl (Rd.all (hrg2 _)) ?_)
    exact ⟨rfl, rfl, rfl⟩
   exact stepsP.nil
  intro W hphi
  rw [eS (l := [(3, _), (7, _)]) ⟨(hphi 3 (by decide)), (hphi 7 (by decide)), ⟨⟩⟩]
  show XL _ _ _ _ _ _ _ (L)
  refine cX (ql (args := [.agg #[a1, a2, a3], .agg #[a4, a5, a6]]) call76 rfl (eqCRule_spec ha1 ha2 ha3 ha4 ha5 ha6 (hla := ((hbk (by omega)).1)) (hlb := ((hbk (by omega)).2.1)) (hlc := ((hbk (by omega)).2.2.1)) (hcb := ((hbk (by omega)).2.2.2))) ?_)
  rintro _ _ _ _ ⟨rfl, rfl, rfl⟩
  refine cX (jk rfl (qd ?_))
  refine qx (p := ¬((((a.getD k ([], [], [])).1), ((a.getD k ([], [], [])).2.1), ((a.getD k ([], [], [])).2.2)) = (((b.getD k ([], [], [])).1), ((b.getD k ([], [], [])).2.1), ((b.getD k ([], [], [])).2.2)))) rfl (fun h3 => ?_) (fun h3 => ?_)
  ·refine qf (qc (qh (.bool (false)) rfl (qd (qs (qy (qj (qj (qy (qj (qm (L' := L) [.bool (false)] (.bool (false)) (.tmp rfl .nil) rfl rF rF sR ?_))))))))))
   exact ⟨(vB (decide_eq_false (fun e => by subst e; simp at *))), rfl, rfl⟩
  refine qw (qc (qg (ii ((k : Int))) rfl (cX (qM (((k + 1 : Nat) : Int)) rfl rfl (by omega) (by omega) (qh (ii (((k + 1 : Nat) : Int))) rfl (qd ?_))))))
  exact ⟨k + 1, _, FLe.refl _, rF, ⟨rfl, rfl, rfl, ⟨⟩⟩, sR, ⟨rfl, (by (try dsimp only) <;> omega), (fun i hi => (Nat.lt_or_ge i k).elim (fun h => hall i h) (fun h => by obtain rfl : i = k := (by omega); first | assumption | exact Classical.not_not.1 (by assumption)))⟩, (by omega)⟩
 refine qX (qv (qv (qJ (qf (qc (qh (.bool (true)) rfl (qd (qs (qm (L' := L) [.bool (true)] (.bool (true)) (.tmp rfl .nil) rfl rF rF sR ?_)))))))))
 exact ⟨(vB (decide_eq_true (ext_any (([] : List Int), ([] : List Int), ([] : List (List Int × List Int))) (by omega) (fun i hi => hall i (by omega))))), rfl, rfl⟩

/- laws.eqCSystem -/
theorem eqCSystem_spec {F : FH} {L : List HP} {arv : Value} {ar : List Int} (har : IntsF F arv ar) {crv : Value} {cr : List CRuleT} (hcr : CRulesF F crv cr) {brv : Value} {br : List Int} (hbr : IntsF F brv br) {drv : Value} {dr : List CRuleT} (hdr : CRulesF F drv dr) (hcl : ar.length ≤ 9223372036854775807) (hal : cr.length ≤ 9223372036854775807) (hbd : ∀ i, i < cr.length → (cr.getD i ([], [], [])).1.length ≤ 9223372036854775807 ∧ (cr.getD i ([], [], [])).2.1.length ≤ 9223372036854775807 ∧ (cr.getD i ([], [], [])).2.2.length ≤ 9223372036854775807 ∧ ∀ q, q < (cr.getD i ([], [], [])).2.2.length → ((cr.getD i ([], [], [])).2.2.getD q ([], [])).1.length ≤ 9223372036854775807 ∧ ((cr.getD i ([], [], [])).2.2.getD q ([], [])).2.length ≤ 9223372036854775807) :
    Does prog 21 [.agg #[arv, crv], .agg #[brv, drv]] F (L) (fun v F' L' => (.bool (decide (ar = br ∧ cr = dr)) : Value) = v ∧ F = F' ∧ L = L') := by
 refine qz func21 rfl rfl rfl (qf (qc (cX (qO [arv, crv] rfl rfl ?_))))
 intro b1
 refine cX (qO [brv, drv] rfl rfl ?_)
 intro b2
 refine qh (.bool (false)) rfl (qd (qf (qf (qc (cX (qn (0) qN rfl qD (by decide) rfl rfl (cX (qt [arv] qP qD rfl rfl (Rd.ownN [_] rfl rfl) (cX (qn (0) qN rfl qD (by decide) rfl rfl (cX (qt [brv] qP qD rfl rfl (Rd.ownN [] rfl rfl) (cX (ql (args := [.agg #[arv], .agg #[brv]]) call38 rfl (eqSig_spec har hbr (hbd := (.inl hcl))) ?_))))))))))))))
 rintro _ _ _ _ ⟨rfl, rfl, rfl⟩
 refine cX (jk rfl (qd ?_))
 refine qx (p := ¬(ar = br)) rfl (fun h1 => ?_) (fun h1 => ?_)
 ·refine qf (qc (qh (.bool (false)) rfl (qd (qs (qj (qm (L' := L) [.bool (false)] (.bool (false)) (.tmp rfl .nil) rfl rF rF (sD (sD sR)) ?_))))))
  exact ⟨(vB (decide_eq_false (by intro e; simp_all))), rfl, rfl⟩
 refine qw (qf (qf (qc (cX (qn (1) qN rfl sizeOf46 (by decide) rfl rfl (cX (qk isAgg46 rfl (Rd.own [_] rfl rfl) (cX (qn (1) qN rfl sizeOf46 (by decide) rfl rfl (cX (qk isAgg46 rfl (Rd.own [] rfl rfl) (cX (ql (args := [crv, drv]) call46 rfl (eqCRuleS_spec hcr hdr (hal := (by first | assumption | rfl | omega | simp)) (hbd := (by first | assumption | rfl | omega | simp))) ?_)))))))))))))
 rintro _ _ _ _ ⟨rfl, rfl, rfl⟩
 refine cX (jk rfl (qd ?_))
 refine qx (p := ¬(cr = dr)) rfl (fun h2 => ?_) (fun h2 => ?_)
 ·refine qf (qc (qh (.bool (false)) rfl (qd (qs (qj (qm (L' := L) [.bool (false)] (.bool (false)) (.tmp rfl .nil) rfl rF rF (sD (sD sR)) ?_))))))
  exact ⟨(vB (decide_eq_false (by intro e; simp_all))), rfl, rfl⟩
 refine qw (qf (qc (qh (.bool (true)) rfl (qd (qs (qm (L' := L) [.bool (true)] (.bool (true)) (.tmp rfl .nil) rfl rF rF (sD (sD sR)) ?_))))))
 exact ⟨(vB (decide_eq_true (by simp_all))), rfl, rfl⟩

/- laws.toCRule -/
theorem toCRule_spec {F : FH} {L : List HP} {lv : Value} {l : List Int} (hl : IntsF F lv l) {rv : Value} {r : List Int} (hr : IntsF F rv r) {csv : Value} {cs : List (List Int × List Int)} (hcs : PairsF F csv cs) (hla : l.length ≤ 4000000) (hlb : r.length ≤ 4000000) (hlc : cs.length ≤ 4000000) (hcb : ∀ q, q < cs.length → (cs.getD q ([], [])).1.length ≤ 4000000 ∧ (cs.getD q ([], [])).2.length ≤ 4000000) :
    Does prog 73 [.agg #[lv, rv, csv]] F (L) (fun v F' L' => ∃ (a : Value), ∃ (b : Value), ∃ (c : Value), (.agg #[a, b, c] : Value) = v ∧ (IntsF F' a l) ∧ (IntsF F' b r) ∧ (PairsF F' c cs) ∧ (Fresh F F' (star [intsH 2 a l, intsH 2 b r, pairsD 2 123 c cs])) ∧ L = L') := by
 refine qz func73 rfl rfl rfl (qf (qc (cX (qO [lv, rv, csv] rfl rfl ?_))))
 intro b1
 refine cX (jr [sN, sN, sN] zeroValue79 rfl ?_)
 intro b2
 refine qd (qf (qc (cX (jr [sN, sN, sN] zeroValue79 rfl ?_))))
 intro b3
 refine qd (qf (qc (cX (qn (0) runUnderlying105 rfl qB (by decide) rfl rfl (cX (qk qK rfl (Rd.own [_, _] rfl rfl) (cX (XOp.frzF <| ql (args := [lv]) call11 rfl (toInt64S_spec hl (hlx := (by first | assumption | rfl | omega | simp))) ?_))))))))
 rintro v1 _ _ _ ⟨rfl, hs1, rfl⟩
 refine ⟨_, _, rfl, fun F1 le1 hz1 => ?_⟩
 replace hr := hr.mono le1
 replace hcs := hcs.mono le1
 have hf1 : IntsF F1 v1 ((l)) := intsH.fz (xs := (l)) hz1.fz
 refine cX (qn (0) qH rfl qB (by decide) rfl rfl (cX (XOp.store1 [] _ [v1, sN, sN] qB rfl rfl (jf (qU hf1)) rfl rfl rfl (qd (qf (qc (cX (qn (1) runUnderlying105 rfl qB (by decide) rfl rfl (cX (qk qK rfl (Rd.own [_, _] rfl rfl) (cX (XOp.frzF <| ql (args := [rv]) call11 rfl (toInt64S_spec hr (hlx := (by first | assumption | rfl | omega | simp))) ?_))))))))))))
 rintro v2 _ _ _ ⟨rfl, hs2, rfl⟩
 refine ⟨_, _, rfl, fun F2 le2 hz2 => ?_⟩
 replace hcs := hcs.mono le2
 replace hf1 := hf1.mono le2
 have hf2 : IntsF F2 v2 ((r)) := intsH.fz (xs := (r)) hz2.fz
 refine cX (qn (1) qH rfl qB (by decide) rfl rfl (cX (XOp.store1 [] _ [v1, v2, sN] qB rfl rfl (jf (qU hf2)) rfl rfl rfl (qd (qf (qc (cX (qn (2) runUnderlying105 rfl sizeOf103 (by decide) rfl rfl (cX (qk isAgg103 rfl (Rd.own [_, _] rfl rfl) (cX (ql (args := [csv]) call102 rfl (toEqS_spec hcs (hlx := (by first | assumption | rfl | omega | simp)) (hrb := (hcb))) ?_))))))))))))
 rintro _ F3 _ le3 ⟨x1, rfl, hr1, hr2, rfl⟩
 replace hf1 := hf1.mono le3
 replace hf2 := hf2.mono le3
 refine cX (qn (2) qH rfl jt (by decide) rfl rfl (cX (XOp.store1 [] _ [v1, v2, x1] jt rfl rfl (jf (PairsF.isSl hr1)) rfl rfl rfl (qd (qf (qc (cX (qt [v1, v2, x1] isAgg79 jj rfl rfl (Rd.ownN [] rfl rfl) (cX (jl [_] _ [v1, v2, x1] jj rfl rfl rfl (jc (jf (qU hf1)) (jc (jf (qU hf2)) (jc (jf (PairsF.isSl hr1)) ones_nil))) rfl rfl rfl (qd (qs (qm (L' := L) [.agg #[v1, v2, x1]] (.agg #[v1, v2, x1]) (.cell rfl (loadNV [v1, v2, x1] isAgg79 jj rfl (Rd.ownN [_] rfl rfl)) .nil) rfl (qp (qp le1 le2) le3) rF (sD (sD (sD sR))) ?_)))))))))))))
 exact ⟨_, _, _, rfl, hf1, hf2, hr1, (Fresh.app (Fresh.app (Fresh.one hz1) le1 (Fresh.one hz2) le2) (qp le1 le2) hr2 le3), rfl⟩

/- laws.toCRuleS -/
theorem toCRuleS_spec {F : FH} {L : List HP} {xv : Value} {x : List CRuleT} (hx : CRulesF F xv x) (hlx : x.length ≤ 4000000) (hrb : ∀ i, i < x.length → (x.getD i ([], [], [])).1.length ≤ 4000000 ∧ (x.getD i ([], [], [])).2.1.length ≤ 4000000 ∧ (x.getD i ([], [], [])).2.2.length ≤ 4000000 ∧ ∀ q, q < (x.getD i ([], [], [])).2.2.length → ((x.getD i ([], [], [])).2.2.getD q ([], [])).1.length ≤ 4000000 ∧ ((x.getD i ([], [], [])).2.2.getD q ([], [])).2.length ≤ 4000000) :
    Does prog 43 [xv] F (L) (fun v F' L' => ∃ (a : Value), (a : Value) = v ∧ (CRulesF F' a x) ∧ (Fresh F F' (star [crulesD 2 123 79 a x])) ∧ L = L') := by
 refine qz func43 rfl rfl rfl (qf (qc (qh (sN) rfl (qd (qf (qc (qg (xv) rfl (cX (qC runUnderlying40 rfl hx.slv (cX (XOp.makeSlice (n := (x).length) (bytes := 72) [sN, sN, sN] qW jj typeInfo79 rfl zeroValue79 rfl rfl rfl rfl (by omega) (by omega) ?_)))))))))))
 intro v1 hv1
 obtain ⟨cs1, hq1, hc1⟩ : ∃ cs, ((List.range (((x).length) * 3)).map fun i => [sN, sN, sN].toArray[i % [sN, sN, sN].toArray.size]!) = cs ∧ CRulesC F cs (List.replicate ((x).length) ([], [], []) : List CRuleT) := ⟨_, rfl, by obtain ⟨_, h1, h2⟩ := deepNilsC 123 2 ((x).length); exact DeepL.crulesNil h1 h2⟩
 rw [hq1]
 refine qh (v1) rfl (qd (qf (qf (qc (qh (ii (0)) rfl (qd (qE ?_)))))))
 obtain ⟨L0, hD0, hS0⟩ := deepNilsC 123 2 x.length
 rw [hq1] at hD0
 refine qY (α := Nat × List CRuleT × List Value × List HP × FH) (fun xQ => [(0, xv), (3, v1), (4, ii (((xQ.1 : Nat) : Int)))]) (fun xQ => slH 79 3 v1 x.length xQ.2.2.1 :: L) (fun xQ F' => xQ.2.2.2.2 = F' ∧ F ≤ xQ.2.2.2.2 ∧ (CRulesC xQ.2.2.2.2 xQ.2.2.1 xQ.2.1) ∧ (xQ.1 ≤ x.length) ∧ (xQ.2.1.length = x.length) ∧ (xQ.2.1.take xQ.1 = x.take xQ.1) ∧ (DeepL 3 (CRuleO 123 2) xQ.2.2.1 xQ.2.1 xQ.2.2.2.1) ∧ (Fresh F xQ.2.2.2.2 (star xQ.2.2.2.1))) (fun xQ => x.length - xQ.1) (0, (List.replicate ((x).length) ([], [], []) : List CRuleT), cs1, L0, F) ⟨rfl, rfl, rfl, ⟨⟩⟩ (sC sR) ⟨rfl, FLe.refl _, (hc1), (by (try dsimp only) <;> omega), (by simp), (rfl), (hD0), (Fresh.empty hS0)⟩ ?_
 rintro ⟨k, os, cs, Ls, G1⟩ rE _ _ ⟨rfl, leG, hC, hk, hol, hos, hD, hZ⟩
 show X _ _ _ _ (envs [(0, xv), (3, v1), (4, ii ((k : Int)))] rE) _ (slH 79 3 v1 x.length cs :: L)
 replace leG : F ≤ G1 := leG
 dsimp only at hC hk hol hos hD hZ
 have hrk := hrb k
 have leG1 := leG
 replace hx := hx.mono leG1
 refine qf (qf (qc (qg (ii ((k : Int))) rfl (qg (xv) rfl (cX (qC runUnderlying40 rfl hx.slv (cX (qI rfl rfl (qd ?_)))))))))
 refine qx (p := (k : Int) < (x.length : Int)) rfl (fun h1 => ?_) (fun h1 => ?_)
 ·refine qw (qf (qE (qc (qg (v1) rfl (qg (ii ((k : Int))) rfl (qg (xv) rfl (qg (ii ((k : Int))) rfl (cX (qA k runUnderlying40 sizeOf105 rfl rfl rfl hx.slv (by omega) rfl ?_)))))))))
  obtain ⟨a1, a2, a3, ha1, ha2, ha3, hrg1, hq2⟩ := hx.rd (i := k) (by omega)
  refine cX (qt [a1, a2, a3] isAgg105 sizeOf105 rfl rfl (Rd.all (hrg1 _)) (cX (ql (args := [.agg #[a1, a2, a3]]) call73 rfl (toCRule_spec ha1 ha2 ha3 (hla := ((hrk (by omega)).1)) (hlb := ((hrk (by omega)).2.1)) (hlc := ((hrk (by omega)).2.2.1)) (hcb := ((hrk (by omega)).2.2.2))) ?_)))
  rintro _ F1 _ le1 ⟨x1, x2, x3, rfl, hr1, hr2, hr3, hr4, rfl⟩
  replace hC := hC.mono le1
  refine cX (qA k qW jj rfl rfl rfl (SlV.own [] rfl) (by omega) rfl (cX (XOp.storeSN (i := k * 3) (m := 3) (vs := [x1, x2, x3]) (cs := cs) [] _ jj rfl rfl rfl (jc (jf (qU hr1)) (jc (jf (qU hr2)) (jc (jf (PairsF.isSl hr3)) ones_nil))) rfl (show k * 3 + 3 ≤ _ from by have h9 := CO.len hC; (try simp only [List.length_set, List.length_replicate] at h9); omega) (Nat.succ_pos _) ?_)))
  have hc2 := hC.set (j := k) (by (try simp only [List.length_set, List.length_replicate]); omega) hr1 hr2 hr3
  refine qd (qc (qg (ii ((k : Int))) rfl (cX (qM (((k + 1 : Nat) : Int)) rfl rfl (by omega) (by omega) (qh (ii (((k + 1 : Nat) : Int))) rfl (qd ?_))))))
  obtain ⟨A, K, B, es, hLs, hel, hR, hg, hput⟩ := hD.at (d := (([] : List Int), ([] : List Int), ([] : List (List Int × List Int)))) (k := k) (by omega)
  rw [hLs] at hZ
  have hDn := hput _ (((x.getD k ([], [], [])).1), ((x.getD k ([], [], [])).2.1), ((x.getD k ([], [], [])).2.2)) [intsH 2 x1 (((x.getD k ([], [], [])).1)), intsH 2 x2 (((x.getD k ([], [], [])).2.1)), pairsD 2 123 x3 (((x.getD k ([], [], [])).2.2))] rfl ⟨_, _, _,  rfl, rfl⟩
  exact ⟨(k + 1, (os.set k (((x.getD k ([], [], [])).1), ((x.getD k ([], [], [])).2.1), ((x.getD k ([], [], [])).2.2))), (cs.take (k * 3) ++ [x1, x2, x3] ++ cs.drop (k * 3 + 3)), A ++ ([intsH 2 x1 (((x.getD k ([], [], [])).1)), intsH 2 x2 (((x.getD k ([], [], [])).2.1)), pairsD 2 123 x3 (((x.getD k ([], [], [])).2.2))] ++ B), F1), _, (qp leG1 le1), rF, ⟨rfl, rfl, rfl, ⟨⟩⟩, (sC sR), ⟨rfl, (qp leG1 le1), (hc2), (by (try dsimp only) <;> omega), (by dsimp only; rw [List.length_set]; exact hol), (by dsimp only; rw [take_set_any (by omega), hos, take_succ_getD (([] : List Int), ([] : List Int), ([] : List (List Int × List Int))) (by omega)]), (hDn), ((Fresh.swap hZ leG1 hr4 le1))⟩, (by omega)⟩
 refine qX (qv (qv (qJ (qf (qc (qg (v1) rfl (qh (v1) rfl (qd (jn [] _ _ rfl (fun F2 le2 hz1 => ?_))))))))))
 replace hC := hC.mono le2
 have hf1 : CRulesF F2 v1 os := CO.fz hC (by first | rfl | omega | (rw [List.length_set]; omega) | (simp; done)) hz1.fz
 refine qs (qm (L' := L) [v1] (v1) (.tmp rfl .nil) rfl (qp leG1 le2) rF sR ?_)
 have e : os = x := by rw [← List.take_of_length_le (l := x) (i := k) (by omega), ← hos, List.take_of_length_le (by omega)]
 subst e
 exact ⟨_, rfl, hf1, Fresh.one (Fresh.deep hD hZ leG1 hz1 rfl le2), rfl⟩

/- laws.toCSystem -/
theorem toCSystem_spec {F : FH} {L : List HP} {arv : Value} {ar : List Int} (har : IntsF F arv ar) {crv : Value} {cr : List CRuleT} (hcr : CRulesF F crv cr) (hla : ar.length ≤ 4000000) (hrl : cr.length ≤ 4000000) (hrb : ∀ i, i < cr.length → (cr.getD i ([], [], [])).1.length ≤ 4000000 ∧ (cr.getD i ([], [], [])).2.1.length ≤ 4000000 ∧ (cr.getD i ([], [], [])).2.2.length ≤ 4000000 ∧ ∀ q, q < (cr.getD i ([], [], [])).2.2.length → ((cr.getD i ([], [], [])).2.2.getD q ([], [])).1.length ≤ 4000000 ∧ ((cr.getD i ([], [], [])).2.2.getD q ([], [])).2.length ≤ 4000000) :
    Does prog 19 [.agg #[arv, crv]] F (L) (fun v F' L' => ∃ (a : Value), ∃ (b : Value), (.agg #[a, b] : Value) = v ∧ (IntsF F' a ar) ∧ (CRulesF F' b cr) ∧ (Fresh F F' (star [intsH 2 a ar, crulesD 2 123 79 b cr])) ∧ L = L') := by
 refine qz func19 rfl rfl rfl (qf (qc (cX (qO [arv, crv] rfl rfl ?_))))
 intro b1
 refine cX (jr [sN, sN] zeroValue48 rfl ?_)
 intro b2
 refine qd (qf (qc (cX (jr [sN, sN] zeroValue48 rfl ?_))))
 intro b3
 refine qd (qf (qc (cX (qn (0) runUnderlying42 rfl sizeOf24 (by decide) rfl rfl (cX (qt [arv] isAgg24 sizeOf24 rfl rfl (Rd.ownN [_, _] rfl rfl) (cX (ql (args := [.agg #[arv]]) call34 rfl (toSig_spec har (hlx := (by first | assumption | rfl | omega | simp))) ?_))))))))
 rintro _ F1 _ le1 ⟨x1, rfl, hr1, hr2, rfl⟩
 replace hcr := hcr.mono le1
 refine cX (qn (0) qN rfl qD (by decide) rfl rfl (cX (jl [] _ [x1, sN] qD rfl rfl rfl (jc (jf (qU hr1)) ones_nil) rfl rfl rfl (qd (qf (qc (cX (qn (1) runUnderlying42 rfl sizeOf40 (by decide) rfl rfl (cX (qk isAgg40 rfl (Rd.own [_, _] rfl rfl) (cX (ql (args := [crv]) call43 rfl (toCRuleS_spec hcr (hlx := (by first | assumption | rfl | omega | simp)) (hrb := (by first | assumption | rfl | omega | simp))) ?_))))))))))))
 rintro _ F2 _ le2 ⟨x2, rfl, hr3, hr4, rfl⟩
 replace hr1 := hr1.mono le2
 refine cX (qn (1) qN rfl sizeOf46 (by decide) rfl rfl (cX (XOp.store1 [] _ [x1, x2] sizeOf46 rfl rfl (jf (CRulesF.isSl hr3)) rfl rfl rfl (qd (qf (qc (cX (qt [x1, x2] ju jo rfl rfl (Rd.ownN [] rfl rfl) (cX (jl [_] _ [x1, x2] jo rfl rfl rfl (jc (jf (qU hr1)) (jc (jf (CRulesF.isSl hr3)) ones_nil)) rfl rfl rfl (qd (qs (qm (L' := L) [.agg #[x1, x2]] (.agg #[x1, x2]) (.cell rfl (loadNV [x1, x2] ju jo rfl (Rd.ownN [_] rfl rfl)) .nil) rfl (qp le1 le2) rF (sD (sD (sD sR))) ?_)))))))))))))
 exact ⟨_, _, rfl, hr1, hr3, (Fresh.app hr2 le1 hr4 le2), rfl⟩

/- laws.markEqS -/
theorem markEqS_spec {F : FH} {L : List HP} {xv : Value} {x : List (List Int × List Int)} {z : Int} (hz : 0 ≤ z ∧ z + (((x.flatMap flatPair)).length : Int) ≤ 9000000000) (hnx : x.length ≤ 4000000) :
    Does prog 86 [xv, ii (z)] F (pairsD 2 123 xv x :: L) (fun v F' L' => ∃ x' : List (List Int × List Int), ((x'.flatMap flatPair)) = iota z ((x.flatMap flatPair)).length ∧ x'.length = x.length ∧ (ii (z + (((x.flatMap flatPair)).length : Int)) : Value) = v ∧ F = F' ∧ pairsD 2 123 xv x' :: L = L') := by
 refine qz func86 rfl rfl rfl (X.openDeep (fun cs Ls hd => (X.weaken (ji (A := [_])) ?_)))
 show X _ _ _ _ _ _ (star Ls :: slH 123 2 xv x.length cs :: L)
 refine qf (qc (qh (ii (0)) rfl (qd (qf (qf (qc (qh (ii (0)) rfl (qd (qE (qY (α := Nat × List (List Int × List Int) × List HP) (fun xQ => [(0, xv), (1, ii (z + ((((x.take xQ.1).flatMap flatPair).length : Nat) : Int))), (5, ii (((xQ.1 : Nat) : Int)))]) (fun xQ => star xQ.2.2 :: slH 123 2 xv x.length cs :: L) (fun xQ F' => F = F' ∧ (DeepL 2 (PairO 2) cs (xQ.2.1 ++ x.drop xQ.1) xQ.2.2) ∧ (xQ.1 ≤ x.length) ∧ (xQ.2.1.length = xQ.1) ∧ (xQ.2.1.flatMap flatPair = iota z ((x.take xQ.1).flatMap flatPair).length)) (fun xQ => x.length - xQ.1) (0, [], Ls) ⟨rfl, (show Value.int .i64 z = ii (z + ((((x.take 0).flatMap flatPair).length : Nat) : Int)) from congrArg (Value.int .i64) (by simp)), rfl, ⟨⟩⟩ (sC (sC sR)) ⟨rfl, (hd), (by (try dsimp only) <;> omega), (rfl), (rfl)⟩ ?_))))))))))
 rintro ⟨k, os, Ls⟩ rE _ _ ⟨rfl, hd, hk, hol, hfl⟩
 show X _ _ _ _ (envs [(0, xv), (1, ii (z + ((((x.take k).flatMap flatPair).length : Nat) : Int))), (5, ii ((k : Int)))] rE) _ (star Ls :: slH 123 2 xv x.length cs :: L)
 dsimp only at hd hk hol hfl
 have htl := fun (h : k < x.length) => flat_take_le (f := flatPair) (l := x) ([], []) h
 have hlen : (os ++ x.drop k).length = x.length := by rw [List.length_append, List.length_drop]; omega
 refine qf (qf (qc (qg (ii ((k : Int))) rfl (qg (xv) rfl (cX (qC qT rfl (SlV.own [_] rfl) (cX (qI rfl rfl (qd ?_)))))))))
 refine qx (p := (k : Int) < (x.length : Int)) rfl (fun h1 => ?_) (fun h1 => ?_)
 ·refine qw (qf (qE (qf (qc ?_))))
  have hkx : k < x.length := by omega
  have htl2 := htl hkx
  obtain ⟨A, K, B, es, hLs, hel, hR, hg, hput⟩ := hd.at (d := ([], [])) (k := k) (by omega)
  rw [app_getD hol] at hR
  have hself := splice_self hel hg (hd.bound (k := k) (by omega))
  obtain ⟨a, b, he, hK⟩ := hR
  subst he hK
  have hfp : (flatPair (x.getD k ([], []))).length = (x.getD k ([], [])).1.length + (x.getD k ([], [])).2.length := by unfold flatPair; rw [List.length_append]
  subst hLs
  refine XL.weaken (Sub.pull (A := A)) ?_
  show XL _ _ _ _ _ _ _ (intsH 2 a ((x.getD k ([], [])).1) :: intsH 2 b ((x.getD k ([], [])).2) :: star (A ++ B) :: slH 123 2 xv x.length cs :: L)
  skip
  refine qg (xv) rfl (qg (ii ((k : Int))) rfl (cX (qA k qT jd rfl rfl rfl (SlV.own [_, _, _] rfl) (by omega) rfl (cX (XOp.fieldE (k * 2) qR rfl qB (by decide) rfl rfl (cX (qk qK rfl (Rd.sl [_, _, _] rfl (hg 0 _ rfl)) (qg (ii (z + ((((x.take k).flatMap flatPair).length : Nat) : Int))) rfl (cX (ql (args := [a, ii (z + ((((x.take k).flatMap flatPair).length : Nat) : Int))]) call25 rfl (markInt64S_spec (by omega)) ?_))))))))))
  rintro _ _ _ _ ⟨m1, hm1, rfl, rfl, rfl⟩
  have hml1 := congrArg List.length hm1
  rw [iota_len] at hml1
  try simp only [List.length_append] at hml1
  refine qh (ii ((z + ((((x.take k).flatMap flatPair).length : Nat) : Int)) + (((((x.getD k ([], [])).1))).length : Int))) rfl (qd (qc (qg (xv) rfl (qg (ii ((k : Int))) rfl (cX (qA k qT jd rfl rfl rfl (SlV.own [_, _, _] rfl) (by omega) rfl (cX (XOp.fieldE (k * 2 + 1) qR rfl qB (by decide) rfl rfl (cX (qk qK rfl (Rd.sl [_, _, _] rfl (hg 1 _ rfl)) (qg (ii ((z + ((((x.take k).flatMap flatPair).length : Nat) : Int)) + (((((x.getD k ([], [])).1))).length : Int))) rfl (XL.weaken (ji (A := [_])) ?_))))))))))))
  show XL _ _ _ _ _ _ _ (intsH 2 b ((x.getD k ([], [])).2) :: intsH 2 a m1 :: star (A ++ B) :: slH 123 2 xv x.length cs :: L)
  refine cX (ql (args := [b, ii ((z + ((((x.take k).flatMap flatPair).length : Nat) : Int)) + (((((x.getD k ([], [])).1))).length : Int))]) call25 rfl (markInt64S_spec (by omega)) ?_)
  rintro _ _ _ _ ⟨m2, hm2, rfl, rfl, rfl⟩
  have hml2 := congrArg List.length hm2
  rw [iota_len] at hml2
  try simp only [List.length_append] at hml2
  refine qh (ii (((z + ((((x.take k).flatMap flatPair).length : Nat) : Int)) + (((((x.getD k ([], [])).1))).length : Int)) + (((((x.getD k ([], [])).2))).length : Int))) rfl (qd (qc (XL.weaken (Sub.trans (ji (A := [_, _, _])) (Sub.trans (ji (A := [_, _, _])) (Sub.trans (ji (A := [_, _])) (Sub.trans (ji (A := [_, _, _])) (sC (sC (sC (sC sR)))))))) (XL.weaken (Sub.push (A := A) (K := [intsH 2 a m1, intsH 2 b m2]) (B := B)) ?_))))
  show XL _ _ _ _ _ _ _ (star (A ++ ([intsH 2 a m1, intsH 2 b m2] ++ B)) :: slH 123 2 xv x.length cs :: L)
  have hdn := hput [a, b] (m1, m2) _ rfl ⟨a, b, rfl, rfl⟩
  rw [hself, app_set hol hkx] at hdn
  have hfx : flatPair (m1, m2) = iota (z + ((((x.take k).flatMap flatPair).length : Nat) : Int)) (flatPair (x.getD k ([], []))).length := by rw [hfp, iota_add]; show m1 ++ m2 = _; rw [hm1, hm2]
  have hnext : (z + ((((x.take k).flatMap flatPair).length : Nat) : Int)) + ((x.getD k ([], [])).1.length : Int) + ((x.getD k ([], [])).2.length : Int) = z + ((((x.take (k + 1)).flatMap flatPair).length : Nat) : Int) := by rw [flatMap_take_succ flatPair ([], []) hkx, List.length_append, hfp]; omega
  skip
  refine qg (ii ((k : Int))) rfl (cX (qM (((k + 1 : Nat) : Int)) rfl rfl (by omega) (by omega) (qh (ii (((k + 1 : Nat) : Int))) rfl (qd ?_))))
  exact ⟨(k + 1, os ++ [(m1, m2)], A ++ ([intsH 2 a m1, intsH 2 b m2] ++ B)), _, FLe.refl _, rF, ⟨rfl, (vI hnext), rfl, ⟨⟩⟩, (sC (sC sR)), ⟨rfl, (hdn), (by (try dsimp only) <;> omega), (by simp [hol]), (marked (d := ([], [])) (by omega) hfl hfx)⟩, (by omega)⟩
 refine qX (qv (qv (qJ (qf (qc (qg (ii (z + ((((x.take k).flatMap flatPair).length : Nat) : Int))) rfl (qh (ii (z + ((((x.take k).flatMap flatPair).length : Nat) : Int))) rfl (qd (qs (qm (L' := pairsD 2 123 xv os :: L) [ii (z + ((((x.take k).flatMap flatPair).length : Nat) : Int))] (ii (z + ((((x.take k).flatMap flatPair).length : Nat) : Int))) (.tmp rfl .nil) rfl rF rF (Sub.trans (ji (A := [_])) (Sub.closeDeep (by rw [app_all (by omega)] at hd; exact hd) (by omega))) ?_))))))))))
 rw [app_all (by omega)] at hd
 have hkl : k = x.length := by omega
 exact ⟨os, by rw [hfl, hkl, List.take_length], by omega, by rw [hkl, List.take_length], rfl, rfl⟩

/- laws.markCRuleS -/
theorem markCRuleS_spec {F : FH} {L : List HP} {xv : Value} {x : List CRuleT} {z : Int} (hz : 0 ≤ z ∧ z + (((x.flatMap flatC)).length : Int) ≤ 9000000000) (hnx : x.length ≤ 4000000) (hcn : ∀ i, i < x.length → (x.getD i ([], [], [])).2.2.length ≤ 4000000) :
    Does prog 52 [xv, ii (z)] F (crulesD 2 123 79 xv x :: L) (fun v F' L' => ∃ x' : List CRuleT, ((x'.flatMap flatC)) = iota z ((x.flatMap flatC)).length ∧ x'.length = x.length ∧ (ii (z + (((x.flatMap flatC)).length : Int)) : Value) = v ∧ F = F' ∧ crulesD 2 123 79 xv x' :: L = L') := by
 refine qz func52 rfl rfl rfl (X.openDeep (fun cs Ls hd => (X.weaken (ji (A := [_])) ?_)))
 show X _ _ _ _ _ _ (star Ls :: slH 79 3 xv x.length cs :: L)
 refine qf (qc (qh (ii (0)) rfl (qd (qf (qf (qc (qh (ii (0)) rfl (qd (qE (qY (α := Nat × List CRuleT × List HP) (fun xQ => [(0, xv), (1, ii (z + ((((x.take xQ.1).flatMap flatC).length : Nat) : Int))), (5, ii (((xQ.1 : Nat) : Int)))]) (fun xQ => star xQ.2.2 :: slH 79 3 xv x.length cs :: L) (fun xQ F' => F = F' ∧ (DeepL 3 (CRuleO 123 2) cs (xQ.2.1 ++ x.drop xQ.1) xQ.2.2) ∧ (xQ.1 ≤ x.length) ∧ (xQ.2.1.length = xQ.1) ∧ (xQ.2.1.flatMap flatC = iota z ((x.take xQ.1).flatMap flatC).length)) (fun xQ => x.length - xQ.1) (0, [], Ls) ⟨rfl, (show Value.int .i64 z = ii (z + ((((x.take 0).flatMap flatC).length : Nat) : Int)) from congrArg (Value.int .i64) (by simp)), rfl, ⟨⟩⟩ (sC (sC sR)) ⟨rfl, (hd), (by (try dsimp only) <;> omega), (rfl), (rfl)⟩ ?_))))))))))
 rintro ⟨k, os, Ls⟩ rE _ _ ⟨rfl, hd, hk, hol, hfl⟩
 show X _ _ _ _ (envs [(0, xv), (1, ii (z + ((((x.take k).flatMap flatC).length : Nat) : Int))), (5, ii ((k : Int)))] rE) _ (star Ls :: slH 79 3 xv x.length cs :: L)
 dsimp only at hd hk hol hfl
 have htl := fun (h : k < x.length) => flat_take_le (f := flatC) (l := x) (([] : List Int), ([] : List Int), ([] : List (List Int × List Int))) h
 have hlen : (os ++ x.drop k).length = x.length := by rw [List.length_append, List.length_drop]; omega
 refine qf (qf (qc (qg (ii ((k : Int))) rfl (qg (xv) rfl (cX (qC qW rfl (SlV.own [_] rfl) (cX (qI rfl rfl (qd ?_)))))))))
 refine qx (p := (k : Int) < (x.length : Int)) rfl (fun h1 => ?_) (fun h1 => ?_)
 ·refine qw (qf (qE (qf (qc ?_))))
  have hkx : k < x.length := by omega
  have htl2 := htl hkx
  obtain ⟨A, K, B, es, hLs, hel, hR, hg, hput⟩ := hd.at (d := (([] : List Int), ([] : List Int), ([] : List (List Int × List Int)))) (k := k) (by omega)
  rw [app_getD hol] at hR
  have hself := splice_self hel hg (hd.bound (k := k) (by omega))
  obtain ⟨a, b, c, he, hK⟩ := hR
  subst he hK
  have hfp : (flatC (x.getD k ([], [], []))).length = ((x.getD k ([], [], [])).1.length + (x.getD k ([], [], [])).2.1.length) + ((x.getD k ([], [], [])).2.2.flatMap flatPair).length := by unfold flatC; rw [List.length_append, List.length_append]
  have hcnk := hcn k hkx
  subst hLs
  refine XL.weaken (Sub.pull (A := A)) ?_
  show XL _ _ _ _ _ _ _ (intsH 2 a ((x.getD k ([], [], [])).1) :: intsH 2 b ((x.getD k ([], [], [])).2.1) :: pairsD 2 123 c ((x.getD k ([], [], [])).2.2) :: star (A ++ B) :: slH 79 3 xv x.length cs :: L)
  skip
  refine qg (xv) rfl (qg (ii ((k : Int))) rfl (cX (qA k qW jj rfl rfl rfl (SlV.own [_, _, _, _] rfl) (by omega) rfl (cX (XOp.fieldE (k * 3) qH rfl qB (by decide) rfl rfl (cX (qk qK rfl (Rd.sl [_, _, _, _] rfl (hg 0 _ rfl)) (qg (ii (z + ((((x.take k).flatMap flatC).length : Nat) : Int))) rfl (cX (ql (args := [a, ii (z + ((((x.take k).flatMap flatC).length : Nat) : Int))]) call25 rfl (markInt64S_spec (by omega)) ?_))))))))))
  rintro _ _ _ _ ⟨m1, hm1, rfl, rfl, rfl⟩
  have hml1 := congrArg List.length hm1
  rw [iota_len] at hml1
  try simp only [List.length_append] at hml1
  refine qh (ii ((z + ((((x.take k).flatMap flatC).length : Nat) : Int)) + (((((x.getD k ([], [], [])).1))).length : Int))) rfl (qd (qf (qc (qg (xv) rfl (qg (ii ((k : Int))) rfl (cX (qA k qW jj rfl rfl rfl (SlV.own [_, _, _, _] rfl) (by omega) rfl (cX (XOp.fieldE (k * 3 + 1) qH rfl qB (by decide) rfl rfl (cX (qk qK rfl (Rd.sl [_, _, _, _] rfl (hg 1 _ rfl)) (qg (ii ((z + ((((x.take k).flatMap flatC).length : Nat) : Int)) + (((((x.getD k ([], [], [])).1))).length : Int))) rfl (XL.weaken (ji (A := [_])) ?_)))))))))))))
  show XL _ _ _ _ _ _ _ (intsH 2 b ((x.getD k ([], [], [])).2.1) :: intsH 2 a m1 :: pairsD 2 123 c ((x.getD k ([], [], [])).2.2) :: star (A ++ B) :: slH 79 3 xv x.length cs :: L)
  refine cX (ql (args := [b, ii ((z + ((((x.take k).flatMap flatC).length : Nat) : Int)) + (((((x.getD k ([], [], [])).1))).length : Int))]) call25 rfl (markInt64S_spec (by omega)) ?_)
  rintro _ _ _ _ ⟨m2, hm2, rfl, rfl, rfl⟩
  have hml2 := congrArg List.length hm2
  rw [iota_len] at hml2
  try simp only [List.length_append] at hml2
  refine qh (ii (((z + ((((x.take k).flatMap flatC).length : Nat) : Int)) + (((((x.getD k ([], [], [])).1))).length : Int)) + (((((x.getD k ([], [], [])).2.1))).length : Int))) rfl (qd (qc (qg (xv) rfl (qg (ii ((k : Int))) rfl (cX (qA k qW jj rfl rfl rfl (SlV.own [_, _, _, _] rfl) (by omega) rfl (cX (XOp.fieldE (k * 3 + 2) qH rfl jt (by decide) rfl rfl (cX (qk isAgg77 rfl (Rd.sl [_, _, _, _] rfl (hg 2 _ rfl)) (qg (ii (((z + ((((x.take k).flatMap flatC).length : Nat) : Int)) + (((((x.getD k ([], [], [])).1))).length : Int)) + (((((x.getD k ([], [], [])).2.1))).length : Int))) rfl (XL.weaken (ji (A := [_, _])) ?_))))))))))))
  show XL _ _ _ _ _ _ _ (pairsD 2 123 c ((x.getD k ([], [], [])).2.2) :: intsH 2 b m2 :: intsH 2 a m1 :: star (A ++ B) :: slH 79 3 xv x.length cs :: L)
  refine cX (ql (args := [c, ii (((z + ((((x.take k).flatMap flatC).length : Nat) : Int)) + (((((x.getD k ([], [], [])).1))).length : Int)) + (((((x.getD k ([], [], [])).2.1))).length : Int))]) call86 rfl (markEqS_spec (by omega) (by omega)) ?_)
  rintro _ _ _ _ ⟨m3, hm3, hk1, rfl, rfl, rfl⟩
  have hml3 := congrArg List.length hm3
  rw [iota_len] at hml3
  try simp only [List.length_append] at hml3
  refine qh (ii ((((z + ((((x.take k).flatMap flatC).length : Nat) : Int)) + (((((x.getD k ([], [], [])).1))).length : Int)) + (((((x.getD k ([], [], [])).2.1))).length : Int)) + (((((x.getD k ([], [], [])).2.2).flatMap flatPair)).length : Int))) rfl (qd (qc (XL.weaken (Sub.trans (ji (A := [_, _, _, _])) (Sub.trans (ji (A := [_, _, _, _])) (Sub.trans (ji (A := [_, _])) (Sub.trans (ji (A := [_, _, _])) (Sub.trans (ji (A := [_, _, _, _])) (sC (sC (sC (sC (sC sR)))))))))) (XL.weaken (Sub.push (A := A) (K := [intsH 2 a m1, intsH 2 b m2, pairsD 2 123 c m3]) (B := B)) ?_))))
  show XL _ _ _ _ _ _ _ (star (A ++ ([intsH 2 a m1, intsH 2 b m2, pairsD 2 123 c m3] ++ B)) :: slH 79 3 xv x.length cs :: L)
  have hdn := hput [a, b, c] (m1, m2, m3) _ rfl ⟨a, b, c, rfl, rfl⟩
  rw [hself, app_set hol hkx] at hdn
  have hfx : flatC (m1, m2, m3) = iota (z + ((((x.take k).flatMap flatC).length : Nat) : Int)) (flatC (x.getD k ([], [], []))).length := by rw [hfp, iota_add, iota_add, show ((z + ((((x.take k).flatMap flatC).length : Nat) : Int)) + ((((x.getD k ([], [], [])).1.length + (x.getD k ([], [], [])).2.1.length : Nat)) : Int)) = (z + ((((x.take k).flatMap flatC).length : Nat) : Int)) + ((x.getD k ([], [], [])).1.length : Int) + ((x.getD k ([], [], [])).2.1.length : Int) from by omega]; show (m1 ++ m2) ++ m3.flatMap flatPair = _; rw [hm1, hm2, hm3]
  have hnext : (z + ((((x.take k).flatMap flatC).length : Nat) : Int)) + ((x.getD k ([], [], [])).1.length : Int) + ((x.getD k ([], [], [])).2.1.length : Int) + (((x.getD k ([], [], [])).2.2.flatMap flatPair).length : Int) = z + ((((x.take (k + 1)).flatMap flatC).length : Nat) : Int) := by rw [flatMap_take_succ flatC (([] : List Int), ([] : List Int), ([] : List (List Int × List Int))) hkx, List.length_append, hfp]; omega
  skip
  refine qg (ii ((k : Int))) rfl (cX (qM (((k + 1 : Nat) : Int)) rfl rfl (by omega) (by omega) (qh (ii (((k + 1 : Nat) : Int))) rfl (qd ?_))))
  exact ⟨(k + 1, os ++ [(m1, m2, m3)], A ++ ([intsH 2 a m1, intsH 2 b m2, pairsD 2 123 c m3] ++ B)), _, FLe.refl _, rF, ⟨rfl, (vI hnext), rfl, ⟨⟩⟩, (sC (sC sR)), ⟨rfl, (hdn), (by (try dsimp only) <;> omega), (by simp [hol]), (marked (d := (([] : List Int), ([] : List Int), ([] : List (List Int × List Int)))) (by omega) hfl hfx)⟩, (by omega)⟩
 refine qX (qv (qv (qJ (qf (qc (qg (ii (z + ((((x.take k).flatMap flatC).length : Nat) : Int))) rfl (qh (ii (z + ((((x.take k).flatMap flatC).length : Nat) : Int))) rfl (qd (qs (qm (L' := crulesD 2 123 79 xv os :: L) [ii (z + ((((x.take k).flatMap flatC).length : Nat) : Int))] (ii (z + ((((x.take k).flatMap flatC).length : Nat) : Int))) (.tmp rfl .nil) rfl rF rF (Sub.trans (ji (A := [_])) (Sub.closeDeep (by rw [app_all (by omega)] at hd; exact hd) (by omega))) ?_))))))))))
 rw [app_all (by omega)] at hd
 have hkl : k = x.length := by omega
 exact ⟨os, by rw [hfl, hkl, List.take_length], by omega, by rw [hkl, List.take_length], rfl, rfl⟩

/- laws.markCSystem -/
theorem markCSystem_spec {F : FH} {L : List HP} {xv : Value} {x : List Int} {yv : Value} {y : List CRuleT} {z : Int} (hz : 0 ≤ z ∧ z + (((x) ++ (y.flatMap flatC)).length : Int) ≤ 9000000000) (hny : y.length ≤ 4000000) (hcn : ∀ i, i < y.length → (y.getD i ([], [], [])).2.2.length ≤ 4000000) :
    Does prog 24 [.agg #[xv, yv], ii (z)] F (intsH 2 xv x :: crulesD 2 123 79 yv y :: L) (fun v F' L' => ∃ x' : List Int, ∃ y' : List CRuleT, ((x') ++ (y'.flatMap flatC)) = iota z ((x) ++ (y.flatMap flatC)).length ∧ y'.length = y.length ∧ (ii (z + (((x) ++ (y.flatMap flatC)).length : Int)) : Value) = v ∧ F = F' ∧ intsH 2 xv x' :: crulesD 2 123 79 yv y' :: L = L') := by
 refine qz func24 rfl rfl rfl ?_
 have hlx : ((x) ++ (y.flatMap flatC)).length = x.length + (y.flatMap flatC).length := List.length_append
 refine qf (qc (cX (qO [xv, yv] rfl rfl ?_)))
 intro b1
 refine qh (ii (0)) rfl (qd (qf (qc (cX (qn (0) qN rfl qD (by decide) rfl rfl (cX (qt [xv] qP qD rfl rfl (Rd.ownN [] rfl rfl) (qg (ii (z)) rfl (XL.weaken (ji (A := [_])) ?_)))))))))
 show XL _ _ _ _ _ _ _ (intsH 2 xv x :: cellsH b1 [xv, yv] 48 :: crulesD 2 123 79 yv y :: L)
 refine cX (ql (args := [.agg #[xv], ii (z)]) call51 rfl (markSig_spec (by omega)) ?_)
 rintro _ _ _ _ ⟨m1, hm1, rfl, rfl, rfl⟩
 have hml1 := congrArg List.length hm1
 rw [iota_len] at hml1
 try simp only [List.length_append] at hml1
 refine qh (ii (z + (((x)).length : Int))) rfl (qd (qf (qc (cX (qn (1) qN rfl sizeOf46 (by decide) rfl rfl (cX (qk isAgg46 rfl (Rd.own [_] rfl rfl) (qg (ii (z + (((x)).length : Int))) rfl (XL.weaken (ji (A := [_, _])) ?_)))))))))
 show XL _ _ _ _ _ _ _ (crulesD 2 123 79 yv y :: intsH 2 xv m1 :: cellsH b1 [xv, yv] 48 :: L)
 refine cX (ql (args := [yv, ii (z + (((x)).length : Int))]) call52 rfl (markCRuleS_spec (by omega) (by omega) (by first | assumption | exact hcn | exact hcncr)) ?_)
 rintro _ _ _ _ ⟨m2, hm2, hk1, rfl, rfl, rfl⟩
 have hml2 := congrArg List.length hm2
 rw [iota_len] at hml2
 try simp only [List.length_append] at hml2
 refine qh (ii ((z + (((x)).length : Int)) + (((y.flatMap flatC)).length : Int))) rfl (qd (qf (qc (qg (ii ((z + (((x)).length : Int)) + (((y.flatMap flatC)).length : Int))) rfl (qh (ii ((z + (((x)).length : Int)) + (((y.flatMap flatC)).length : Int))) rfl (qd (qs (qm (L' := intsH 2 xv m1 :: crulesD 2 123 79 yv m2 :: L) [ii ((z + (((x)).length : Int)) + (((y.flatMap flatC)).length : Int))] (ii ((z + (((x)).length : Int)) + (((y.flatMap flatC)).length : Int))) (.tmp rfl .nil) rfl rF rF (Sub.trans (ji (A := [_])) (sC (sC (sD sR)))) ?_))))))))
 exact ⟨m1, m2, by rw [List.length_append, iota_add, hm1, hm2], (by assumption), congrArg (Value.int .i64) (by first | rfl | (simp only [List.length_append]; omega)), rfl, rfl⟩

/- laws.FnExactCNormalBy -/
set_option maxRecDepth 20000 in
theorem FnExactCNormalBy_does {F : FH} {L : List HP} {arv : Value} {ar : List Int} (har : IntsF F arv ar) {crv : Value} {cr : List CRuleT} (hcr : CRulesF F crv cr) {tv : Value} {t : List Int} (ht : IntsF F tv t) {z : Int} (hlar : ar.length ≤ 9223372036854775807) (hlcr : cr.length ≤ 9223372036854775807) (hbcr : ∀ i, i < cr.length → (cr.getD i ([], [], [])).1.length ≤ 9223372036854775807 ∧ (cr.getD i ([], [], [])).2.1.length ≤ 9223372036854775807 ∧ (cr.getD i ([], [], [])).2.2.length ≤ 9223372036854775807 ∧ ∀ q, q < (cr.getD i ([], [], [])).2.2.length → ((cr.getD i ([], [], [])).2.2.getD q ([], [])).1.length ≤ 9223372036854775807 ∧ ((cr.getD i ([], [], [])).2.2.getD q ([], [])).2.length ≤ 9223372036854775807) (hlt : t.length ≤ 9223372036854775807) :
    Does prog 7 [.agg #[arv, crv], tv, ii (z)] F (L) (fun v F' L' => (.bool (true) : Value) = v ∧ F = F' ∧ L = L') := by
 refine qz func7 rfl rfl rfl ?_
 have hnl := cnormF_len (ar := ar) (cr := cr) (t := t) (z := z)
 refine qf (qc (cX (qO [arv, crv] rfl rfl ?_)))
 intro b1
 refine qh (.bool (false)) rfl (qd (qf (qf (qc (qg (tv) rfl (cX (qC qi rfl ht.slv (cX (js rfl rfl (qd ?_))))))))))
 refine qx (p := ((t.length : Int) : Int) > 1048576) rfl (fun h1 => ?_) (fun h1 => ?_)
 ·refine qf (qc (qh (.bool (true)) rfl (qd (qs (qj (qm (L' := L) [.bool (true)] (.bool (true)) (.tmp rfl .nil) rfl rF rF (sD sR) ?_))))))
  exact ⟨rfl, rfl, rfl⟩
 refine qw (qf (qc (qh (ii (1048576)) rfl (qd (qf (qc (cX (qt [arv, crv] isAgg42 sizeOf42 rfl rfl (Rd.ownN [] rfl rfl) (qg (ii (1048576)) rfl (cX (ql (args := [.agg #[arv, crv], ii (1048576)]) call17 rfl (szCSystem_spec (z := 1048576) har hcr (hz := (by first | assumption | rfl | omega | simp)) (hal := (by first | assumption | rfl | omega | simp)) (hrl := (by first | assumption | rfl | omega | simp)) (hrb := (by first | assumption | rfl | omega | simp))) ?_)))))))))))
 rintro _ _ _ _ ⟨rfl, rfl, rfl⟩
 refine qh (ii (dec 1048576 (ar.length + szG lenC cr))) rfl (qd (qf (qf (qc (qg (ii (dec 1048576 (ar.length + szG lenC cr))) rfl (cX (qI rfl rfl (qd ?_))))))))
 refine qx (p := (dec 1048576 (ar.length + szG lenC cr) : Int) < 0) rfl (fun h2 => ?_) (fun h2 => ?_)
 ·refine qf (qc (qh (.bool (true)) rfl (qd (qs (qj (qm (L' := L) [.bool (true)] (.bool (true)) (.tmp rfl .nil) rfl rF rF (sD sR) ?_))))))
  exact ⟨rfl, rfl, rfl⟩
 have hd1 := dec_le2 h2 (by omega)
 have hzcr := szC_le (l := cr)
 have hicr := hzcr.2
 have hccr : ∀ i, i < cr.length → (cr.getD i ([], [], [])).1.length ≤ 4000000 ∧ (cr.getD i ([], [], [])).2.1.length ≤ 4000000 ∧ (cr.getD i ([], [], [])).2.2.length ≤ 4000000 ∧ ∀ q, q < (cr.getD i ([], [], [])).2.2.length → ((cr.getD i ([], [], [])).2.2.getD q ([], [])).1.length ≤ 4000000 ∧ ((cr.getD i ([], [], [])).2.2.getD q ([], [])).2.length ≤ 4000000 := fun i hi => by have h9 := hicr i hi; exact ⟨by omega, by omega, by omega, fun q hq => by have h8 := h9.2.2.2 q hq; omega⟩
 have hcncr : ∀ i, i < cr.length → (cr.getD i ([], [], [])).2.2.length ≤ 4000000 := fun i hi => (hccr i hi).2.2.1
 have hfcr := flatC_len cr
 refine qw (qf (qc (cX (qt [arv, crv] isAgg42 sizeOf42 rfl rfl (Rd.ownN [] rfl rfl) (cX (XOp.thawL (id (ql (args := [.agg #[arv, crv]]) call19 rfl (toCSystem_spec har hcr (hla := (by first | assumption | rfl | omega | simp)) (hrl := (by first | assumption | rfl | omega | simp)) (hrb := (by first | assumption | rfl | omega | simp))) ?_))))))))
 rintro _ F1 _ le1 ⟨x1, x2, rfl, hr1, hr2, hr3, rfl⟩
 refine ⟨[intsH 2 x1 ar, crulesD 2 123 79 x2 cr], hr3, ?_⟩
 show XL _ _ _ _ _ _ _ (intsH 2 x1 ar :: crulesD 2 123 79 x2 cr :: cellsH b1 [arv, crv] 42 :: L)
 refine qg (tv) rfl (cX (ql (args := [tv]) call11 rfl (toInt64S_spec ht (hlx := (by first | assumption | rfl | omega | simp))) ?_))
 rintro v1 _ _ _ ⟨rfl, hs1, rfl⟩
 refine qg (ii (z)) rfl (XL.freezeF [_] _ _ rfl (fun F2 le2 hz1 => ?_))
 replace har := har.mono le2
 replace hcr := hcr.mono le2
 replace ht := ht.mono le2
 have hf1 : IntsF F2 x1 ar := intsH.fz (xs := ar) hz1.fz
 refine XL.freezeF [_] _ _ rfl (fun F3 le3 hz2 => ?_)
 replace har := har.mono le3
 replace hcr := hcr.mono le3
 replace ht := ht.mono le3
 replace hf1 := hf1.mono le3
 have hf2 : CRulesF F3 x2 cr := crulesD.fz hz2.fz
 refine XL.freezeF [] _ _ rfl (fun F4 le4 hz3 => ?_)
 replace har := har.mono le4
 replace hcr := hcr.mono le4
 replace ht := ht.mono le4
 replace hf1 := hf1.mono le4
 replace hf2 := hf2.mono le4
 have hf3 : IntsF F4 v1 ((t)) := intsH.fz (xs := (t)) hz3.fz
 refine cX (ql (args := [.agg #[x1, x2], v1, ii (z)]) call27 rfl (sCNormalBy_spec (z := z) hf1 hf2 hf3 (hla := (by first | assumption | rfl | omega | simp)) (hlr := (by first | assumption | rfl | omega | simp)) (hrb := (by first | assumption | rfl | omega | simp)) (hlt := (by first | assumption | rfl | omega | simp))) ?_)
 rintro _ F5 _ le5 ⟨x3, rfl, hr4, rfl⟩
 replace har := har.mono le5
 replace hcr := hcr.mono le5
 replace ht := ht.mono le5
 refine qg (.tuple #[x3, .bool ((cnormF ar cr ((t)) z).isSome)]) rfl (cX (qF (x3) rfl rfl (cX (qF (.bool ((cnormF ar cr ((t)) z).isSome)) rfl rfl (qh (x3) rfl (qh (.bool ((cnormF ar cr ((t)) z).isSome)) rfl (qd (qf (qc (cX (qt [arv, crv] isAgg42 sizeOf42 rfl rfl (Rd.ownN [] rfl rfl) (cX (XOp.thawL (id (ql (args := [.agg #[arv, crv]]) call19 rfl (toCSystem_spec har hcr (hla := (by first | assumption | rfl | omega | simp)) (hrl := (by first | assumption | rfl | omega | simp)) (hrb := (by first | assumption | rfl | omega | simp))) ?_)))))))))))))))
 rintro _ F6 _ le6 ⟨x4, x5, rfl, hr5, hr6, hr7, rfl⟩
 refine ⟨[intsH 2 x4 ar, crulesD 2 123 79 x5 cr], hr7, ?_⟩
 show XL _ _ _ _ _ _ _ (intsH 2 x4 ar :: crulesD 2 123 79 x5 cr :: cellsH b1 [arv, crv] 42 :: L)
 refine cX (jr [sN, sN] zeroValue48 rfl ?_)
 intro b2
 refine cX (jl [] _ [x4, x5] jo rfl rfl rfl (jc (jf (qU hr5)) (jc (jf (CRulesF.isSl hr6)) ones_nil)) rfl rfl rfl (qd (qf (qc (qg (tv) rfl (cX (ql (args := [tv]) call11 rfl (toInt64S_spec ht (hlx := (by first | assumption | rfl | omega | simp))) ?_)))))))
 rintro v2 _ _ _ ⟨rfl, hs2, rfl⟩
 refine qh (v2) rfl (qd (qf (qc (cX (qt [x4, x5] ju jo rfl rfl (Rd.ownN [_] rfl rfl) (qg (v2) rfl (qg (ii (z)) rfl (cX (XOp.lend [_, _] _ _ rfl (fun F7 le7 hz4 => (id (XOp.lend [_, _] _ _ rfl (fun F8 le8 hz5 => (id (XOp.lend [] _ _ rfl (fun F9 le9 hz6 => ?_))))))))))))))))
 have hf4 : IntsF _ x4 ar := (intsH.fz (xs := ar) hz4).mono (qp le8 le9)
 have hf5 : CRulesF _ x5 cr := (crulesD.fz hz5).mono le9
 have hf6 : IntsF _ v2 ((t)) := intsH.fz (xs := (t)) hz6
 refine id (XOp.thawL (id (ql (args := [.agg #[x4, x5], v2, ii (z)]) call28 rfl (CNormalBy_spec (z := z) hf4 hf5 hf6) ?_)))
 rintro _ F10 _ le10 ⟨x6, rfl, hr8, hr9, rfl⟩
 refine ⟨[intsH 2 x6 ((cnormF ar cr ((t)) z).getD [])], hr9, ?_⟩
 show XL _ _ _ _ _ _ _ (intsH 2 x4 ar :: crulesD 2 123 79 x5 cr :: intsH 2 v2 ((t)) :: intsH 2 x6 ((cnormF ar cr ((t)) z).getD []) :: cellsH b2 [x4, x5] 48 :: cellsH b1 [arv, crv] 42 :: L)
 refine qg (.tuple #[x6, .bool ((cnormF ar cr ((t)) z).isSome)]) rfl (cX (qF (x6) rfl rfl (cX (qF (.bool ((cnormF ar cr ((t)) z).isSome)) rfl rfl (qh (x6) rfl (qh (.bool ((cnormF ar cr ((t)) z).isSome)) rfl (qd (qf (qf (qc (qg (x6) rfl (qg (x3) rfl (cX (XOp.lend [_, _, _] _ _ rfl (fun F11 le11 hz7 => ?_)))))))))))))))
 have hf7 : IntsF _ x6 ((cnormF ar cr ((t)) z).getD []) := intsH.fz (xs := (cnormF ar cr ((t)) z).getD []) hz7
 refine id (ql (args := [x6, x3]) call14 rfl (eqInt64S_spec hf7 ((hr4.mono le11)) (hbd := (by first | assumption | rfl | omega | (left; simp; done) | (right; simp; done)))) ?_)
 rintro _ _ _ _ ⟨rfl, rfl, rfl⟩
 show XL _ _ _ _ _ _ _ (intsH 2 x6 ((cnormF ar cr ((t)) z).getD []) :: intsH 2 x4 ar :: crulesD 2 123 79 x5 cr :: intsH 2 v2 ((t)) :: cellsH b2 [x4, x5] 48 :: cellsH b1 [arv, crv] 42 :: L)
 refine cX (jk rfl (qg (.bool (decide (¬(((cnormF ar cr ((t)) z).getD []) = ((cnormF ar cr ((t)) z).getD []))))) rfl ?_))
 by_cases h3 : ¬(((cnormF ar cr ((t)) z).getD []) = ((cnormF ar cr ((t)) z).getD []))
 ·exact absurd (by first | rfl | exact ⟨rfl, rfl⟩ | exact ⟨⟨rfl, rfl⟩, rfl, rfl⟩ | simp) h3
 refine qr (t := 51) rfl (vF h3) (qu (.bool ((cnormF ar cr ((t)) z).isSome)) rfl (qr (t := 51) rfl (vF h3) (qu (.bool ((cnormF ar cr ((t)) z).isSome)) rfl (qr (t := 51) rfl (vF h3) (XOp.neB (a := (cnormF ar cr ((t)) z).isSome) (b := (cnormF ar cr ((t)) z).isSome) runUnderlying4 rfl rfl (cX (qL (.bool (decide (((cnormF ar cr ((t)) z).isSome) ≠ ((cnormF ar cr ((t)) z).isSome)))) (vF h3) rfl (qd ?_))))))))
 refine qx (p := ((cnormF ar cr ((t)) z).isSome) ≠ ((cnormF ar cr ((t)) z).isSome)) rfl (fun h4 => ?_) (fun h4 => ?_)
 ·exact absurd rfl h4
 refine qw (qf (qf ?_))
 refine X.drawG [intsH 2 x6 ((cnormF ar cr ((t)) z).getD []), intsH 2 x4 ar, crulesD 2 123 79 x5 cr, intsH 2 v2 ((t)), cellsH b2 [x4, x5] 48, cellsH b1 [arv, crv] 42] L 3 [] [[], [], [1]] [] (phiG [pe (.agg #[x4, x5]), pe (.agg #[arv, crv]), fun FF us v => (.agg #[((aggAt v 0)), ((aggAt v 1))] : Value) = v ∧ (IntsF FF ((aggAt v 0)) ar) ∧ (CRulesF FF ((aggAt v 1)) cr)]) (ownL []) mixed rfl rfl (by kernel_rfl) (by kernel_rfl) (MonoG.get (m1 (m1 (mC (fun le h => ⟨h.1, h.2.1.mono le, h.2.2.mono le⟩) MonoG.nil)))) ?_ ?_
 ·refine gD (fun W Fs R lF z9 => ?_) ?_
  ·replace har := har.mono lF
   replace hcr := hcr.mono lF
   replace ht := ht.mono lF
   replace hr4 := hr4.mono lF
   refine qo (qt [x4, x5] ju jo rfl rfl (Rd.ownN [_, _, _, _] rfl rfl) ?_)
   exact ⟨rfl, rfl⟩
  refine gD (fun W Fs R lF z9 => ?_) ?_
  ·replace har := har.mono lF
   replace hcr := hcr.mono lF
   replace ht := ht.mono lF
   replace hr4 := hr4.mono lF
   refine qo (qt [arv, crv] isAgg42 sizeOf42 rfl rfl (Rd.ownN [_, _, _, _, _] rfl rfl) ?_)
   exact ⟨rfl, rfl⟩
  refine gD (fun W Fs R lF z9 => ?_) ?_
  ·replace har := har.mono lF
   replace hcr := hcr.mono lF
   replace ht := ht.mono lF
   replace hr4 := hr4.mono lF
   rw [eS (l := [(1, _)]) ⟨z9 1 rfl, ⟨⟩⟩]
   refine qo (ql (args := [.agg #[arv, crv]]) call19 rfl (toCSystem_spec har hcr (hla := (by first | assumption | rfl | omega | simp)) (hrl := (by first | assumption | rfl | omega | simp)) (hrb := (by first | assumption | rfl | omega | simp))) ?_)
   rintro _ F13 _ le13 ⟨x9, x10, rfl, hr13, hr14, hr15, rfl⟩
   replace har := har.mono le13
   replace hcr := hcr.mono le13
   replace ht := ht.mono le13
   replace hr4 := hr4.mono le13
   exact ⟨⟨rfl, hr13, hr14⟩, rfl⟩
  exact stepsG.nil
 intro W F14 le14 hphi
 obtain ⟨e2, f2_1hr1, f2_1hr2⟩ := hphi 2 (by decide)
 generalize hu1 : ((aggAt (W 2) 0)) = u1 at e2 f2_1hr1 f2_1hr2
 generalize hu2 : ((aggAt (W 2) 1)) = u2 at e2 f2_1hr1 f2_1hr2
 rw [eS (l := [(0, _), (2, (.agg #[u1, u2]))]) ⟨(hphi 0 (by decide)), (e2).symm, ⟨⟩⟩]
 replace har := har.mono le14
 replace hcr := hcr.mono le14
 replace ht := ht.mono le14
 replace hr4 := hr4.mono le14
 show XL _ _ _ _ _ _ _ (intsH 2 x6 ((cnormF ar cr ((t)) z).getD []) :: intsH 2 x4 ar :: crulesD 2 123 79 x5 cr :: intsH 2 v2 ((t)) :: cellsH b2 [x4, x5] 48 :: cellsH b1 [arv, crv] 42 :: L)
 refine cX (XOp.lend [_] _ _ rfl (fun F15 le15 hz8 => (id (XOp.lend [_] _ _ rfl (fun F16 le16 hz9 => ?_)))))
 have hf8 : IntsF _ x4 ar := (intsH.fz (xs := ar) hz8).mono le16
 have hf9 : CRulesF _ x5 cr := crulesD.fz hz9
 refine id (ql (args := [.agg #[x4, x5], .agg #[u1, u2]]) call21 rfl (eqCSystem_spec hf8 hf9 ((f2_1hr1.mono (qp le15 le16))) ((f2_1hr2.mono (qp le15 le16))) (hcl := (by first | assumption | rfl | omega | simp)) (hal := (by first | assumption | rfl | omega | simp)) (hbd := (by first | assumption | rfl | omega | simp))) ?_)
 rintro _ _ _ _ ⟨rfl, rfl, rfl⟩
 show XL _ _ _ _ _ _ _ (intsH 2 x4 ar :: crulesD 2 123 79 x5 cr :: intsH 2 x6 ((cnormF ar cr ((t)) z).getD []) :: intsH 2 v2 ((t)) :: cellsH b2 [x4, x5] 48 :: cellsH b1 [arv, crv] 42 :: L)
 refine cX (jk rfl (qd ?_))
 refine qx (p := ¬(ar = ar ∧ cr = cr)) rfl (fun h5 => ?_) (fun h5 => ?_)
 ·exact absurd (by first | rfl | exact ⟨rfl, rfl⟩ | exact ⟨⟨rfl, rfl⟩, rfl, rfl⟩ | simp) h5
 refine qw (qf (qf (qc (qg (v2) rfl (qg (tv) rfl (cX (ql (args := [tv]) call11 rfl (toInt64S_spec ht (hlx := (by first | assumption | rfl | omega | simp))) ?_)))))))
 rintro v3 _ _ _ ⟨rfl, hs3, rfl⟩
 refine cX (XOp.lend [_, _, _, _] _ _ rfl (fun F17 le17 hz10 => (id (XOp.lend [] _ _ rfl (fun F18 le18 hz11 => ?_)))))
 have hf10 : IntsF _ v2 ((t)) := (intsH.fz (xs := (t)) hz10).mono le18
 have hf11 : IntsF _ v3 ((t)) := intsH.fz (xs := (t)) hz11
 refine id (ql (args := [v2, v3]) call14 rfl (eqInt64S_spec hf10 hf11 (hbd := (by first | assumption | rfl | omega | (left; simp; done) | (right; simp; done)))) ?_)
 rintro _ _ _ _ ⟨rfl, rfl, rfl⟩
 show XL _ _ _ _ _ _ _ (intsH 2 v2 ((t)) :: intsH 2 v3 ((t)) :: intsH 2 x4 ar :: crulesD 2 123 79 x5 cr :: intsH 2 x6 ((cnormF ar cr ((t)) z).getD []) :: cellsH b2 [x4, x5] 48 :: cellsH b1 [arv, crv] 42 :: L)
 refine cX (jk rfl (qd ?_))
 refine qx (p := ¬(((t)) = ((t)))) rfl (fun h6 => ?_) (fun h6 => ?_)
 ·exact absurd (by first | rfl | exact ⟨rfl, rfl⟩ | exact ⟨⟨rfl, rfl⟩, rfl, rfl⟩ | simp) h6
 refine qw (qf (qc (qh (ii (1)) rfl (qd (qf (qc (cX (qt [x4, x5] ju jo rfl rfl (Rd.ownN [_, _, _, _, _] rfl rfl) (qg (ii (1)) rfl (XL.weaken (ji (A := [_, _, _])) ?_))))))))))
 show XL _ _ _ _ _ _ _ (crulesD 2 123 79 x5 cr :: intsH 2 v2 ((t)) :: intsH 2 v3 ((t)) :: intsH 2 x4 ar :: intsH 2 x6 ((cnormF ar cr ((t)) z).getD []) :: cellsH b2 [x4, x5] 48 :: cellsH b1 [arv, crv] 42 :: L)
 refine XL.weaken (ji (A := [_, _, _])) ?_
 show XL _ _ _ _ _ _ _ (intsH 2 x4 ar :: crulesD 2 123 79 x5 cr :: intsH 2 v2 ((t)) :: intsH 2 v3 ((t)) :: intsH 2 x6 ((cnormF ar cr ((t)) z).getD []) :: cellsH b2 [x4, x5] 48 :: cellsH b1 [arv, crv] 42 :: L)
 refine cX (ql (args := [.agg #[x4, x5], ii (1)]) call24 rfl (markCSystem_spec (by (try simp only [List.length_append]); omega) (by omega) (by first | assumption | exact hcn | exact hcncr)) ?_)
 rintro _ _ _ _ ⟨m1, m2, hm1, hk1, rfl, rfl, rfl⟩
 have hml1 := congrArg List.length hm1
 rw [iota_len] at hml1
 try simp only [List.length_append] at hml1
 refine qh (ii (1 + (((ar) ++ (cr.flatMap flatC)).length : Int))) rfl (qd (qf (qc (qg (v2) rfl (qg (ii (1 + (((ar) ++ (cr.flatMap flatC)).length : Int))) rfl (XL.weaken (ji (A := [_, _])) ?_))))))
 show XL _ _ _ _ _ _ _ (intsH 2 v2 ((t)) :: intsH 2 x4 m1 :: crulesD 2 123 79 x5 m2 :: intsH 2 v3 ((t)) :: intsH 2 x6 ((cnormF ar cr ((t)) z).getD []) :: cellsH b2 [x4, x5] 48 :: cellsH b1 [arv, crv] 42 :: L)
 refine cX (ql (args := [v2, ii (1 + (((ar) ++ (cr.flatMap flatC)).length : Int))]) call25 rfl (markInt64S_spec (by (try simp only [List.length_append]); omega)) ?_)
 rintro _ _ _ _ ⟨m3, hm2, rfl, rfl, rfl⟩
 have hml2 := congrArg List.length hm2
 rw [iota_len] at hml2
 try simp only [List.length_append] at hml2
 refine qh (ii ((1 + (((ar) ++ (cr.flatMap flatC)).length : Int)) + (((((t)))).length : Int))) rfl (qd (qf (qf (qc (qg (ii ((1 + (((ar) ++ (cr.flatMap flatC)).length : Int)) + (((((t)))).length : Int))) rfl (cX (qI rfl rfl (qg (.bool (decide (((1 + (((ar) ++ (cr.flatMap flatC)).length : Int)) + (((((t)))).length : Int) : Int) < 0))) rfl ?_))))))))
 by_cases h7 : ((1 + (((ar) ++ (cr.flatMap flatC)).length : Int)) + (((((t)))).length : Int) : Int) < 0
 ·exact absurd h7 (by omega)
 refine qr (t := 74) rfl (vF h7) (qu (x6) rfl (qr (t := 74) rfl (vF h7) (qu (x3) rfl (qr (t := 74) rfl (vF h7) (XOp.lend [_, _, _, _] _ _ rfl (fun F19 le19 hz12 => ?_))))))
 have hf12 : IntsF _ x6 ((cnormF ar cr ((t)) z).getD []) := intsH.fz (xs := (cnormF ar cr ((t)) z).getD []) hz12
 refine id (ql (args := [x6, x3]) call14 rfl (eqInt64S_spec hf12 ((hr4.mono le19)) (hbd := (by first | assumption | rfl | omega | (left; simp; done) | (right; simp; done)))) ?_)
 rintro _ _ _ _ ⟨rfl, rfl, rfl⟩
 show XL _ _ _ _ _ _ _ (intsH 2 x6 ((cnormF ar cr ((t)) z).getD []) :: intsH 2 v2 m3 :: intsH 2 x4 m1 :: crulesD 2 123 79 x5 m2 :: intsH 2 v3 ((t)) :: cellsH b2 [x4, x5] 48 :: cellsH b1 [arv, crv] 42 :: L)
 refine qr (t := 74) rfl (vF h7) (jk rfl (cX (qL (.bool (decide (¬(((cnormF ar cr ((t)) z).getD []) = ((cnormF ar cr ((t)) z).getD []))))) (vF h7) rfl (qg (.bool (decide (¬(((cnormF ar cr ((t)) z).getD []) = ((cnormF ar cr ((t)) z).getD []))))) rfl (qr (t := 80) rfl (vF h3) (qu (.bool ((cnormF ar cr ((t)) z).isSome)) rfl (qr (t := 80) rfl (vF h3) (qu (.bool ((cnormF ar cr ((t)) z).isSome)) rfl (qr (t := 80) rfl (vF h3) (XOp.neB (a := (cnormF ar cr ((t)) z).isSome) (b := (cnormF ar cr ((t)) z).isSome) runUnderlying4 rfl rfl (cX (qL (.bool (decide (((cnormF ar cr ((t)) z).isSome) ≠ ((cnormF ar cr ((t)) z).isSome)))) (vF h3) rfl (qd (X.condF (vF h4) (qw (qf (qc ?_)))))))))))))))))
 refine qh (ii (1)) rfl (qd (qf (qc (qg (x6) rfl (qg (ii (1)) rfl (cX (ql (args := [x6, ii (1)]) call25 rfl (markInt64S_spec (by (try simp only [List.length_append]); omega)) ?_)))))))
 rintro _ _ _ _ ⟨m4, hm3, rfl, rfl, rfl⟩
 have hml3 := congrArg List.length hm3
 rw [iota_len] at hml3
 try simp only [List.length_append] at hml3
 refine qh (ii (1 + (((((cnormF ar cr ((t)) z).getD []))).length : Int))) rfl (qd (qf (qc (qh (ii (1)) rfl (qd (qf (qc (qg (x6) rfl (qg (ii (1)) rfl (cX (XOp.lend [] _ _ rfl (fun F20 le20 hz13 => ?_))))))))))))
 have hf13 : IntsF _ x6 m4 := intsH.fz (xs := m4) hz13
 refine id (ql (args := [x6, ii (1)]) call26 rfl (heldInt64S_spec (z := 1) hf13 (hzb := (by first | assumption | rfl | omega | simp))) ?_)
 rintro _ _ _ _ ⟨rfl, rfl, rfl⟩
 show XL _ _ _ _ _ _ _ (intsH 2 x6 m4 :: intsH 2 v2 m3 :: intsH 2 x4 m1 :: crulesD 2 123 79 x5 m2 :: intsH 2 v3 ((t)) :: cellsH b2 [x4, x5] 48 :: cellsH b1 [arv, crv] 42 :: L)
 refine qh (ii (heldF m4 1)) rfl (qd (qf (qf (qc (qg (ii (heldF m4 1)) rfl (cX (qI rfl rfl (qd ?_))))))))
 refine qx (p := (heldF m4 1 : Int) < 0) rfl (fun h8 => ?_) (fun h8 => ?_)
 ·rw [hm3, heldF_iota] at h8
  exact absurd h8 (by omega)
 have hh2 := (fun (l : List Int) (k k2 : Int) (n : Nat) (h : l = iota k n) (hk : k2 = k) => show heldF l k2 = k + n from (by subst hk; rw [h, heldF_iota])) _ _ (1) _ hm3 (by first | rfl | omega)
 have hh2l := hh2
 try simp only [List.length_append] at hh2l
 refine qw (qf (qf (qc (qg (ii (heldF m4 1)) rfl (qg (ii (1 + (((((cnormF ar cr ((t)) z).getD []))).length : Int))) rfl (cX (XOp.neq rfl rfl (qd ?_))))))))
 refine qx (p := (heldF m4 1 : Int) ≠ 1 + (((((cnormF ar cr ((t)) z).getD []))).length : Int)) rfl (fun h9 => ?_) (fun h9 => ?_)
 ·exact absurd (by rw [hm3, heldF_iota]) h9
 refine qw (qf (qc (cX (qt [arv, crv] isAgg42 sizeOf42 rfl rfl (Rd.ownN [_, _, _, _, _, _] rfl rfl) (cX (XOp.thawL (id (ql (args := [.agg #[arv, crv]]) call19 rfl (toCSystem_spec har hcr (hla := (by first | assumption | rfl | omega | simp)) (hrl := (by first | assumption | rfl | omega | simp)) (hrb := (by first | assumption | rfl | omega | simp))) ?_))))))))
 rintro _ F21 _ le21 ⟨x11, x12, rfl, hr16, hr17, hr18, rfl⟩
 refine ⟨[intsH 2 x11 ar, crulesD 2 123 79 x12 cr], hr18, ?_⟩
 show XL _ _ _ _ _ _ _ (intsH 2 x11 ar :: crulesD 2 123 79 x12 cr :: intsH 2 x6 m4 :: intsH 2 v2 m3 :: intsH 2 x4 m1 :: crulesD 2 123 79 x5 m2 :: intsH 2 v3 ((t)) :: cellsH b2 [x4, x5] 48 :: cellsH b1 [arv, crv] 42 :: L)
 refine qg (tv) rfl (cX (ql (args := [tv]) call11 rfl (toInt64S_spec ht (hlx := (by first | assumption | rfl | omega | simp))) ?_))
 rintro v4 _ _ _ ⟨rfl, hs4, rfl⟩
 refine qg (ii (z)) rfl (cX (XOp.lend [_] _ _ rfl (fun F22 le22 hz14 => (id (XOp.lend [_] _ _ rfl (fun F23 le23 hz15 => (id (XOp.lend [] _ _ rfl (fun F24 le24 hz16 => ?_)))))))))
 have hf14 : IntsF _ x11 ar := (intsH.fz (xs := ar) hz14).mono (qp le23 le24)
 have hf15 : CRulesF _ x12 cr := (crulesD.fz hz15).mono le24
 have hf16 : IntsF _ v4 ((t)) := intsH.fz (xs := (t)) hz16
 refine id (XOp.thawL (id (ql (args := [.agg #[x11, x12], v4, ii (z)]) call28 rfl (CNormalBy_spec (z := z) hf14 hf15 hf16) ?_)))
 rintro _ F25 _ le25 ⟨x13, rfl, hr19, hr20, rfl⟩
 refine ⟨[intsH 2 x13 ((cnormF ar cr ((t)) z).getD [])], hr20, ?_⟩
 show XL _ _ _ _ _ _ _ (intsH 2 x11 ar :: crulesD 2 123 79 x12 cr :: intsH 2 v4 ((t)) :: intsH 2 x13 ((cnormF ar cr ((t)) z).getD []) :: intsH 2 x6 m4 :: intsH 2 v2 m3 :: intsH 2 x4 m1 :: crulesD 2 123 79 x5 m2 :: intsH 2 v3 ((t)) :: cellsH b2 [x4, x5] 48 :: cellsH b1 [arv, crv] 42 :: L)
 refine qg (.tuple #[x13, .bool ((cnormF ar cr ((t)) z).isSome)]) rfl (cX (qF (x13) rfl rfl (cX (qF (.bool ((cnormF ar cr ((t)) z).isSome)) rfl rfl (qh (x13) rfl (qh (.bool ((cnormF ar cr ((t)) z).isSome)) rfl (qd (qf (qf (qc (qg (x13) rfl (qg (x3) rfl (cX (XOp.lend [_, _, _] _ _ rfl (fun F26 le26 hz17 => ?_)))))))))))))))
 have hf17 : IntsF _ x13 ((cnormF ar cr ((t)) z).getD []) := intsH.fz (xs := (cnormF ar cr ((t)) z).getD []) hz17
 refine id (ql (args := [x13, x3]) call14 rfl (eqInt64S_spec hf17 ((hr4.mono le26)) (hbd := (by first | assumption | rfl | omega | (left; simp; done) | (right; simp; done)))) ?_)
 rintro _ _ _ _ ⟨rfl, rfl, rfl⟩
 show XL _ _ _ _ _ _ _ (intsH 2 x13 ((cnormF ar cr ((t)) z).getD []) :: intsH 2 x11 ar :: crulesD 2 123 79 x12 cr :: intsH 2 v4 ((t)) :: intsH 2 x6 m4 :: intsH 2 v2 m3 :: intsH 2 x4 m1 :: crulesD 2 123 79 x5 m2 :: intsH 2 v3 ((t)) :: cellsH b2 [x4, x5] 48 :: cellsH b1 [arv, crv] 42 :: L)
 refine cX (jk rfl (qg (.bool (decide (¬(((cnormF ar cr ((t)) z).getD []) = ((cnormF ar cr ((t)) z).getD []))))) rfl (qr (t := 109) rfl (vF h3) (qu (.bool ((cnormF ar cr ((t)) z).isSome)) rfl (qr (t := 109) rfl (vF h3) (qu (.bool ((cnormF ar cr ((t)) z).isSome)) rfl (qr (t := 109) rfl (vF h3) (XOp.neB (a := (cnormF ar cr ((t)) z).isSome) (b := (cnormF ar cr ((t)) z).isSome) runUnderlying4 rfl rfl (cX (qL (.bool (decide (((cnormF ar cr ((t)) z).isSome) ≠ ((cnormF ar cr ((t)) z).isSome)))) (vF h3) rfl (qd (X.condF (vF h4) (qw (qf (qc (qh (ii (1)) rfl ?_))))))))))))))))
 refine qd (qf (qc (qg (x6) rfl (qg (ii (1)) rfl (cX (XOp.lend [_, _, _, _] _ _ rfl (fun F27 le27 hz18 => ?_)))))))
 have hf18 : IntsF _ x6 m4 := intsH.fz (xs := m4) hz18
 refine id (ql (args := [x6, ii (1)]) call26 rfl (heldInt64S_spec (z := 1) hf18 (hzb := (by first | assumption | rfl | omega | simp))) ?_)
 rintro _ _ _ _ ⟨rfl, rfl, rfl⟩
 show XL _ _ _ _ _ _ _ (intsH 2 x6 m4 :: intsH 2 x13 ((cnormF ar cr ((t)) z).getD []) :: intsH 2 x11 ar :: crulesD 2 123 79 x12 cr :: intsH 2 v4 ((t)) :: intsH 2 v2 m3 :: intsH 2 x4 m1 :: crulesD 2 123 79 x5 m2 :: intsH 2 v3 ((t)) :: cellsH b2 [x4, x5] 48 :: cellsH b1 [arv, crv] 42 :: L)
 refine qh (ii (heldF m4 1)) rfl (qd (qf (qf (qc (qg (ii (heldF m4 1)) rfl (cX (qI rfl rfl (qd (X.condF (vF h8) (qw (qf (qf (qc (qg (ii (heldF m4 1)) rfl (qg (ii (1 + (((((cnormF ar cr ((t)) z).getD []))).length : Int))) rfl (cX (XOp.neq rfl rfl ?_)))))))))))))))))
 refine qd (X.condF (vF h9) (qw (qf (qc (qh (.bool (true)) rfl (qd (qs (qm (L' := L) [.bool (true)] (.bool (true)) (.tmp rfl .nil) rfl rF (qp (qp (qp (qp le2 le3) le4) le5) le14) (sD (sD (sD (sD (sD (sD (sD (sD (sD (sD (sD sR))))))))))) ?_))))))))
 exact ⟨rfl, rfl, rfl⟩
end Go.Proofs.Ytenomejgjcpbdaa
