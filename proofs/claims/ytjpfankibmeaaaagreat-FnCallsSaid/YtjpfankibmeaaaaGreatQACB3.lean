/-
  Walks, one after the other (part 4).
-/
import Derived.Test.YtjpfankibmeaaaaGreatQACL1
import Derived.Test.YtjpfankibmeaaaaGreatQACB2
set_option linter.unusedSimpArgs false
set_option linter.unusedVariables false
namespace Go.Proofs.YtjpfankibmeaaaaGreat
open Go X M Tryz

/- impl.varsIn -/
theorem varsIn_spec {F : FH} {L : List HP} {tv : Value} {t : List Int} (ht : IntsF F tv t) (hlt : t.length ≤ 4000000) :
    Does prog 217 [tv] F (L) (fun v F' L' => ∃ (a : Value), ∃ (os : List Int), (a : Value) = v ∧ (IntsF F' a os) ∧ ((os = [] → ∀ i : Nat, i < 24 → (-1 - (i : Int)) ∉ t) ∧ (os ≠ [] → ∃ i : Nat, (-1 - (i : Int)) ∈ t)) ∧ (os.length ≤ 24) ∧ L = L') := by
 refine qG func217 rfl rfl rfl (qd (qb (qh (sN) rfl (qc (qd (qb (qh (sN) rfl (qc (qd (qd (qb (qh (ii (0)) rfl (qc (qH (jn (α := Nat × Value × List Int) (fun xQ => [(0, tv), (3, xQ.2.1), (4, ii (((xQ.1 : Nat) : Int)))]) (fun xQ => intsH 2 xQ.2.1 xQ.2.2 :: L) (fun xQ F' => F = F' ∧ (IsSl xQ.2.1) ∧ (xQ.1 ≤ 24) ∧ (xQ.2.2 = [] → ∀ i : Nat, i < xQ.1 → (-1 - (i : Int)) ∉ t) ∧ (xQ.2.2 ≠ [] → ∃ i : Nat, (-1 - (i : Int)) ∈ t) ∧ (xQ.2.2.length ≤ xQ.1)) (fun xQ => 24 - xQ.1) (0, sN, []) ⟨rfl, rfl, rfl, ⟨⟩⟩ (jN (intsH.addNil 2 none _) (sC sR)) ⟨rfl, (⟨_, _, _, rfl⟩), (by (try dsimp only) <;> omega), (fun _ i hi => absurd hi (by omega)), (fun h => absurd rfl h), (Nat.le_refl _)⟩ ?_)))))))))))))))
 rintro ⟨k, ov, os⟩ rE _ _ ⟨rfl, hov, hk, hno, hye, hol⟩
 show X _ _ _ _ (envs [(0, tv), (3, ov), (4, ii ((k : Int)))] rE) _ (intsH 2 ov os :: L)
 dsimp only at hov hk hno hye hol
 refine qd (qd (qb (qg (ii ((k : Int))) rfl (cX (qQ rfl rfl (qc ?_))))))
 refine qC (p := (k : Int) < 24) rfl (fun h1 => ?_) (fun h1 => ?_)
 ·refine qz (qd (qH (qd (qb (qg (tv) rfl (qg (ii ((k : Int))) rfl (cX (je ((-1) - ((k : Int))) rfl rfl (by omega) (by omega) (cX (qn (args := [tv, ii ((-1) - ((k : Int)))]) call218 rfl (Contains_spec (n := (-1) - ((k : Int))) ht (hbd := (by first | assumption | rfl | omega | simp))) ?_))))))))))
  rintro _ _ _ _ ⟨rfl, rfl, rfl⟩
  refine qc ?_
  refine qC (p := ((-1) - ((k : Int))) ∈ t) rfl (fun h2 => ?_) (fun h2 => ?_)
  ·have hvi := h2
   refine qb (qg (ov) rfl (qg (ii ((k : Int))) rfl (cX (qs (s := 1) [ii ((k : Int))] [ii (0)] [(0, [ii ((k : Int))])] qf qq qL rfl (by decide) rfl (.cons rfl CellsAre.nil) rfl ?_))))
   intro v1 hv1
   refine cX (jX (u := (k : Int)) [_] _ qf typeInfo2 rfl rfl rfl rfl rfl rfl (SlV.own [] rfl) (Rd.sl [] rfl rfl) (by (try simp only [List.length_append, List.length_nil, List.length_cons, List.length_singleton, List.length_take, List.length_drop]); omega) ?_)
   intro v2 hs1 hn1
   refine qh (v2) rfl (qc (qb (qg (ii ((k : Int))) rfl (cX (qK (((k + 1 : Nat) : Int)) rfl rfl (by omega) (by omega) (qh (ii (((k + 1 : Nat) : Int))) rfl (qc ?_)))))))
   exact ⟨(k + 1, v2, os ++ [(k : Int)]), _, FLe.refl _, rF, ⟨rfl, rfl, rfl, ⟨⟩⟩, (sD (sC sR)), ⟨rfl, (hs1), (by (try dsimp only) <;> omega), ((fun e => by (try dsimp only at e); first | (simp at e; done) | (intro i hi; rcases Nat.lt_or_ge i k with h8 | h8; exact hno e i h8; obtain rfl : i = k := (by omega); exact hvi))), ((fun e => by first | exact ⟨k, hvi⟩ | exact hye e)), (by (try dsimp only); (try rw [List.length_append, List.length_singleton]); omega)⟩, (by omega)⟩
  have hvi := h2
  refine qz (qb (qg (ii ((k : Int))) rfl (cX (qK (((k + 1 : Nat) : Int)) rfl rfl (by omega) (by omega) (qh (ii (((k + 1 : Nat) : Int))) rfl (qc ?_))))))
  exact ⟨(k + 1, ov, os), _, FLe.refl _, rF, ⟨rfl, rfl, rfl, ⟨⟩⟩, (sC sR), ⟨rfl, (hov), (by (try dsimp only) <;> omega), ((fun e => by (try dsimp only at e); first | (simp at e; done) | (intro i hi; rcases Nat.lt_or_ge i k with h8 | h8; exact hno e i h8; obtain rfl : i = k := (by omega); exact hvi))), ((fun e => by first | exact ⟨k, hvi⟩ | exact hye e)), (by (try dsimp only); (try rw [List.length_append, List.length_singleton]); omega)⟩, (by omega)⟩
 refine jg (qv (qv (qM (qd (qb (qg (ov) rfl (qh (ov) rfl (qc (qY [] _ _ rfl (fun F1 le1 hz1 => ?_))))))))))
 have hf1 : IntsF F1 ov os := intsH.fz (xs := os) hz1.fz
 refine qw (qr (L' := L) [ov] (ov) (.tmp rfl .nil) rfl le1 rF sR ?_)
 exact ⟨_, _, rfl, hf1, ⟨fun e i hi => hno e i (by omega), hye⟩, by omega, rfl⟩

/- impl.GroundIn -/
theorem iGroundIn_spec {F : FH} {L : List HP} {arv : Value} {ar : List Int} (har : IntsF F arv ar) {tv : Value} {t : List Int} (ht : IntsF F tv t) (hlt : t.length ≤ 4000000) :
    Does prog 140 [.agg #[arv], tv] F (L) (fun v F' L' => (.bool (groundB ar t) : Value) = v ∧ F = F' ∧ L = L') := by
 refine qG func140 rfl rfl rfl (qd (qb (cX (jb [arv] rfl rfl ?_))))
 intro b1
 refine qh (.bool (false)) rfl (qc (qd (qb (cX (qu [arv] jf qJ rfl rfl (Rd.ownN [] rfl rfl) (qg (tv) rfl (cX (qn (args := [.agg #[arv], tv]) call112 rfl (TermOk_spec har ht) ?_))))))))
 rintro _ _ _ _ ⟨rfl, rfl, rfl⟩
 refine qg (.bool (termOk ar t)) rfl ?_
 by_cases h1 : (termOk ar t) = true
 ·have hto : termOk ar t = true := h1
  have htl := termOk_len hto
  refine qo (t := 8) rfl (vB h1) (qm (tv) rfl (qo (t := 8) rfl (vB h1) (qn (args := [tv]) call217 rfl (varsIn_spec ht (hlt := (by first | assumption | rfl | omega | simp))) ?_)))
  rintro _ F1 _ le1 ⟨x1, x2, rfl, hr1, hr2, hr3, rfl⟩
  refine qo (t := 8) rfl (vB h1) (qE qf rfl hr1.slv (qo (t := 8) rfl (vB h1) (ju rfl rfl (cX (qO (.bool (decide (((x2.length : Int) : Int) = 0))) (vB h1) rfl (qh (.bool (decide (((x2.length : Int) : Int) = 0))) rfl (qc (qw (qr (L' := L) [.bool (decide (((x2.length : Int) : Int) = 0))] (.bool (decide (((x2.length : Int) : Int) = 0))) (.tmp rfl .nil) rfl rF le1 (sD sR) ?_)))))))))
  exact ⟨(vB ((by cases hos : groundB ar t with | true => (refine (decide_eq_true ?_).symm; have h9 := fun h8 => hr2.2 h8; apply Classical.byContradiction; intro hc; obtain ⟨i, hi⟩ := h9 (fun e => hc (by rw [e]; rfl)); rw [ground_not hi] at hos; cases hos) | false => (refine (decide_eq_false ?_).symm; intro hz; rw [ground_of hto (hr2.1 (List.eq_nil_of_length_eq_zero (by omega)))] at hos; cases hos)))), rfl, rfl⟩
 rw [Bool.not_eq_true] at h1
 have hto : termOk ar t = false := h1
 refine qp (t := 8) rfl (vB h1) (qp (t := 8) rfl (vB h1) (qp (t := 8) rfl (vB h1) (qp (t := 8) rfl (vB h1) (cX (qN (.bool (false)) (vB h1) rfl (qh (.bool (false)) rfl (qc (qw (qr (L' := L) [.bool (false)] (.bool (false)) (.tmp rfl .nil) rfl rF rF (sD sR) ?_)))))))))
 exact ⟨(vB ((ground_no hto))), rfl, rfl⟩

/- spec.l1Into -/
theorem l1IntoE_spec {F : FH} {L : List HP} {xsv : Value} {xs : List Int} (hxs : IntsF F xsv xs) {n : Int} (hlx : xs.length ≤ 1000) :
    Does prog 330 [xsv, ii (n)] F (L) (fun v F' L' => ∃ (a : Value), ∃ (os : List Int), (a : Value) = v ∧ (IntsF F' a os) ∧ (1 ≤ os.length) ∧ (os.length ≤ xs.length + 1) ∧ L = L') := by
 refine qG func330 rfl rfl rfl (qd (qb (qh (sN) rfl (qc (qd (qb (qh (ii (0)) rfl (qc (qd (qH (jn (α := Nat) (fun k => [(0, xsv), (1, ii (n)), (5, ii ((k : Int)))]) (fun k => L) (fun k F' => F = F' ∧ (k ≤ xs.length)) (fun k => xs.length - k) 0 ⟨rfl, rfl, rfl, ⟨⟩⟩ sR ⟨rfl, (Nat.zero_le _)⟩ ?_)))))))))))
 rintro k rE _ _ ⟨rfl, hk⟩
 show X _ _ _ _ (envs [(0, xsv), (1, ii (n)), (5, ii ((k : Int)))] rE) _ (L)
 refine qd (qd (qb (qg (ii ((k : Int))) rfl (qg (xsv) rfl (cX (qE qf rfl hxs.slv (cX (qQ rfl rfl (qg (.bool (decide ((k : Int) < (xs.length : Int)))) rfl ?_)))))))))
 by_cases h1 : (k : Int) < (xs.length : Int)
 ·refine qo (t := 11) rfl (vT h1) (qm (xsv) rfl (qo (t := 11) rfl (vT h1) (qm (ii ((k : Int))) rfl (qo (t := 11) rfl (vT h1) (qt k qf qq rfl rfl rfl hxs.slv (by omega) (Nat.mul_one _) (qo (t := 11) rfl (vT h1) (qj qP rfl (hxs.rd (by omega)) (qo (t := 11) rfl (vT h1) (qm (ii (n)) rfl (qo (t := 11) rfl (vT h1) (qQ rfl rfl (cX (qO (.bool (decide ((xs.getD k 0 : Int) < n))) (vT h1) rfl (qc ?_))))))))))))))
  refine qC (p := (xs.getD k 0 : Int) < n) rfl (fun h2 => ?_) (fun h2 => ?_)
  ·refine qz (qH (qb (qg (ii ((k : Int))) rfl (cX (qK (((k + 1 : Nat) : Int)) rfl rfl (by omega) (by omega) (qh (ii (((k + 1 : Nat) : Int))) rfl (qc ?_)))))))
   exact ⟨k + 1, _, FLe.refl _, rF, ⟨rfl, rfl, rfl, ⟨⟩⟩, sR, ⟨rfl, (by (try dsimp only) <;> omega)⟩, (by omega)⟩
  refine jg (qv (qv (qM (qd (qd (qb (qg (ii ((k : Int))) rfl (qg (xsv) rfl (cX (qE qf rfl hxs.slv (cX (qQ rfl rfl (qg (.bool (decide ((k : Int) < (xs.length : Int)))) rfl (qo (t := 25) rfl (vT h1) (qm (xsv) rfl (qo (t := 25) rfl (vT h1) (qm (ii ((k : Int))) rfl (qo (t := 25) rfl (vT h1) (qt k qf qq rfl rfl rfl hxs.slv (by omega) (Nat.mul_one _) ?_)))))))))))))))))))
  refine qo (t := 25) rfl (vT h1) (qj qP rfl (hxs.rd (by omega)) (qo (t := 25) rfl (vT h1) (qm (ii (n)) rfl (qo (t := 25) rfl (vT h1) (ju rfl rfl (cX (qO (.bool (decide ((xs.getD k 0 : Int) = n))) (vT h1) rfl (qc ?_))))))))
  refine qC (p := (xs.getD k 0 : Int) = n) rfl (fun h3 => ?_) (fun h3 => ?_)
  ·refine qd (qb (qg (xsv) rfl (qh (xsv) rfl (qc (qw (ql (qr (L' := L) [xsv] (xsv) (.tmp rfl .nil) rfl rF rF sR ?_)))))))
   exact ⟨_, _, rfl, hxs, by omega, by omega, rfl⟩
  refine qz (qd (qb (qg (xsv) rfl (qg (ii ((k : Int))) rfl (cX (jV 0 k qf qq rfl hxs rfl ⟨_, rfl⟩ (by omega) (by omega) ?_))))))
  intro v1 hv1 hn1
  refine cX (qn (args := [v1]) call105 rfl (l1Copy_spec hv1 (hlt := (by simp; omega))) ?_)
  rintro v2 _ _ _ ⟨rfl, hs1, rfl⟩
  refine qg (ii (n)) rfl (cX (qs (s := 1) [ii (n)] [ii (0)] [(0, [ii (n)])] qf qq qL rfl (by decide) rfl (.cons rfl CellsAre.nil) rfl ?_))
  intro v3 hv2
  refine cX (jX (u := n) [_] _ qf typeInfo2 rfl rfl rfl rfl rfl rfl (SlV.own [] rfl) (Rd.sl [] rfl rfl) (by (try simp only [List.length_append, List.length_nil, List.length_cons, List.length_singleton, List.length_take, List.length_drop]); omega) ?_)
  intro v4 hs2 hn2
  refine qh (v4) rfl (qc (qd (qb (qg (v4) rfl (qg (xsv) rfl (qg (ii ((k : Int))) rfl (cX (jV k ((xs).length) qf qq rfl hxs ⟨_, rfl⟩ rfl (by omega) (by omega) ?_))))))))
  intro v5 hv3 hn3
  refine cX (yd [_] _ qf typeInfo2 rfl rfl rfl rfl rfl rfl hv3 (by (try simp only [List.length_append, List.length_nil, List.length_cons, List.length_singleton, List.length_take, List.length_drop]); omega) ?_)
  intro v6 hs3 hn4 hm1
  refine qh (v6) rfl (qc (qY [_] _ _ rfl (fun F1 le1 hz1 => ?_)))
  replace hxs := hxs.mono le1
  have hf1 : IntsF F1 v6 (((((((xs.drop 0).take (k - 0))))) ++ [n]) ++ (((xs.drop k).take (((xs).length) - k)))) := intsH.fz (xs := ((((((xs.drop 0).take (k - 0))))) ++ [n]) ++ (((xs.drop k).take (((xs).length) - k)))) hz1.fz
  refine qw (qr (L' := L) [v6] (v6) (.tmp rfl .nil) rfl le1 rF (sD sR) ?_)
  exact ⟨_, _, rfl, hf1, by simp only [List.length_append, List.length_singleton]; omega, by simp only [List.length_append, List.length_take, List.length_drop, List.length_singleton]; omega, rfl⟩
 refine qp (t := 11) rfl (vF h1) (qp (t := 11) rfl (vF h1) (qp (t := 11) rfl (vF h1) (qp (t := 11) rfl (vF h1) (qp (t := 11) rfl (vF h1) (qp (t := 11) rfl (vF h1) (cX (qN (.bool (false)) (vF h1) rfl (qc (jO rfl (jg (qv (qv (qM ?_)))))))))))))
 refine qd (qd (qb (qg (ii ((k : Int))) rfl (qg (xsv) rfl (cX (qE qf rfl hxs.slv (cX (qQ rfl rfl (qg (.bool (decide ((k : Int) < (xs.length : Int)))) rfl (qp (t := 25) rfl (vF h1) (qp (t := 25) rfl (vF h1) (qp (t := 25) rfl (vF h1) (qp (t := 25) rfl (vF h1) ?_)))))))))))))
 refine qp (t := 25) rfl (vF h1) (qp (t := 25) rfl (vF h1) (cX (qN (.bool (false)) (vF h1) rfl (qc (jO rfl (qz (qd (qb (qg (xsv) rfl (qg (ii ((k : Int))) rfl (cX (jV 0 k qf qq rfl hxs rfl ⟨_, rfl⟩ (by omega) (by omega) ?_))))))))))))
 intro v7 hv4 hn5
 refine cX (qn (args := [v7]) call105 rfl (l1Copy_spec hv4 (hlt := (by simp; omega))) ?_)
 rintro v8 _ _ _ ⟨rfl, hs4, rfl⟩
 refine qg (ii (n)) rfl (cX (qs (s := 1) [ii (n)] [ii (0)] [(0, [ii (n)])] qf qq qL rfl (by decide) rfl (.cons rfl CellsAre.nil) rfl ?_))
 intro v9 hv5
 refine cX (jX (u := n) [_] _ qf typeInfo2 rfl rfl rfl rfl rfl rfl (SlV.own [] rfl) (Rd.sl [] rfl rfl) (by (try simp only [List.length_append, List.length_nil, List.length_cons, List.length_singleton, List.length_take, List.length_drop]); omega) ?_)
 intro v10 hs5 hn6
 refine qh (v10) rfl (qc (qd (qb (qg (v10) rfl (qg (xsv) rfl (qg (ii ((k : Int))) rfl (cX (jV k ((xs).length) qf qq rfl hxs ⟨_, rfl⟩ rfl (by omega) (by omega) ?_))))))))
 intro v11 hv6 hn7
 refine cX (yd [_] _ qf typeInfo2 rfl rfl rfl rfl rfl rfl hv6 (by (try simp only [List.length_append, List.length_nil, List.length_cons, List.length_singleton, List.length_take, List.length_drop]); omega) ?_)
 intro v12 hs6 hn8 hm2
 refine qh (v12) rfl (qc (qY [_] _ _ rfl (fun F2 le2 hz2 => ?_)))
 have hf2 : IntsF F2 v12 (((((((xs.drop 0).take (k - 0))))) ++ [n]) ++ (((xs.drop k).take (((xs).length) - k)))) := intsH.fz (xs := ((((((xs.drop 0).take (k - 0))))) ++ [n]) ++ (((xs.drop k).take (((xs).length) - k)))) hz2.fz
 refine qw (qr (L' := L) [v12] (v12) (.tmp rfl .nil) rfl le2 rF (sD sR) ?_)
 exact ⟨_, _, rfl, hf2, by simp only [List.length_append, List.length_singleton]; omega, by simp only [List.length_append, List.length_take, List.length_drop, List.length_singleton]; omega, rfl⟩

/- spec.l2Vars -/
theorem l2VarsE_spec {F : FH} {L : List HP} {tv : Value} {t : List Int} (ht : IntsF F tv t) (hlt : t.length ≤ 60) (htg : ∀ k, k < t.length → -24 ≤ t.getD k 0) :
    Does prog 258 [tv] F (L) (fun v F' L' => ∃ (a : Value), ∃ (os : List Int), (a : Value) = v ∧ (IntsF F' a os) ∧ ((os = [] → ∀ i, i < t.length → 0 ≤ t.getD i 0) ∧ (os ≠ [] → ∃ i, i < t.length ∧ t.getD i 0 < 0)) ∧ (os.length ≤ t.length) ∧ L = L') := by
 refine qG func258 rfl rfl rfl ?_
 have htgk := htg
 refine qd (qb (qh (sN) rfl (qc (qd (qb (cX (qs (s := 1) [] [ii (0)] [] qf qq qL rfl (by decide) rfl CellsAre.nil rfl ?_)))))))
 intro v1 hv1
 refine qh (v1) rfl (qc (qd (qd (qb ?_))))
 show XL _ _ _ _ _ _ _ (intsH 2 v1 ([] : List Int) :: L)
 refine ja [] _ _ rfl (fun F1 le1 hz1 => ?_)
 replace ht := ht.mono le1
 have hf1 : IntsF F1 v1 ([]) := intsH.fz (xs := []) hz1.fz
 skip
 refine qh (ii (0)) rfl (qc (qH (jn (α := Nat × Value × List Int × FH) (fun xQ => [(0, tv), (3, xQ.2.1), (4, ii (((xQ.1 : Nat) : Int)))]) (fun xQ => L) (fun xQ F' => xQ.2.2.2 = F' ∧ F1 ≤ xQ.2.2.2 ∧ (IntsF xQ.2.2.2 xQ.2.1 xQ.2.2.1) ∧ (xQ.1 ≤ t.length) ∧ (xQ.2.2.1.length ≤ xQ.1) ∧ (xQ.2.2.1 = [] → ∀ i, i < xQ.1 → 0 ≤ t.getD i 0) ∧ (xQ.2.2.1 ≠ [] → ∃ i, i < t.length ∧ t.getD i 0 < 0)) (fun xQ => t.length - xQ.1) (0, v1, [], F1) ⟨rfl, rfl, rfl, ⟨⟩⟩ sR ⟨rfl, FLe.refl _, (hf1), (Nat.zero_le _), (by simp), (fun _ i hi => absurd hi (by omega)), (fun h => absurd rfl h)⟩ ?_)))
 rintro ⟨k, ov, os, G1⟩ rE _ _ ⟨rfl, leG, hov, hk, hol, hno, hye⟩
 show X _ _ _ _ (envs [(0, tv), (3, ov), (4, ii ((k : Int)))] rE) _ (L)
 replace leG : F1 ≤ G1 := leG
 dsimp only at hov hk hol hno hye
 have leG1 := leG
 replace ht := ht.mono leG1
 refine qd (qd (qb (qg (ii ((k : Int))) rfl (qg (tv) rfl (cX (qE qf rfl ht.slv (cX (qQ rfl rfl (qc ?_)))))))))
 refine qC (p := (k : Int) < (t.length : Int)) rfl (fun h1 => ?_) (fun h1 => ?_)
 ·refine qz (qd (qH (qd (qb (qg (tv) rfl (qg (ii ((k : Int))) rfl (cX (qt k qf qq rfl rfl rfl ht.slv (by omega) (Nat.mul_one _) (cX (qj qP rfl (ht.rd (by omega)) (cX (qQ rfl rfl (qc ?_)))))))))))))
  refine qC (p := (t.getD k 0 : Int) < 0) rfl (fun h2 => ?_) (fun h2 => ?_)
  ·have hneg := h2
   have htgk := htg k (by omega)
   refine qb (qg (ov) rfl (qg (tv) rfl (qg (ii ((k : Int))) rfl (cX (qt k qf qq rfl rfl rfl ht.slv (by omega) (Nat.mul_one _) (cX (qj qP rfl (ht.rd (by omega)) (cX (je ((-1) - (t.getD k 0)) rfl rfl (by omega) (by omega) (cX (qn (args := [ov, ii ((-1) - (t.getD k 0))]) call330 rfl (l1IntoE_spec (n := (-1) - (t.getD k 0)) hov (hlx := (by first | assumption | rfl | omega | simp))) ?_)))))))))))
   rintro _ F2 _ le2 ⟨x1, x2, rfl, hr1, hr2, hr3, rfl⟩
   replace hov := hov.mono le2
   refine qh (x1) rfl (qc (qb (qg (ii ((k : Int))) rfl (cX (qK (((k + 1 : Nat) : Int)) rfl rfl (by omega) (by omega) (qh (ii (((k + 1 : Nat) : Int))) rfl (qc ?_)))))))
   exact ⟨(k + 1, x1, x2, F2), _, (qa leG1 le2), rF, ⟨rfl, rfl, rfl, ⟨⟩⟩, sR, ⟨rfl, (qa leG1 le2), (hr1), (by (try dsimp only) <;> omega), (by (try dsimp only); have h9 := hr3; omega), ((fun e => absurd (congrArg List.length e) (by have h9 := hr2; (try dsimp only); simp only [List.length_nil]; omega))), ((fun _ => ⟨k, by omega, hneg⟩))⟩, (by omega)⟩
  have hneg := h2
  have htgk := htg k (by omega)
  refine qz (qb (qg (ii ((k : Int))) rfl (cX (qK (((k + 1 : Nat) : Int)) rfl rfl (by omega) (by omega) (qh (ii (((k + 1 : Nat) : Int))) rfl (qc ?_))))))
  exact ⟨(k + 1, ov, os, G1), _, leG1, rF, ⟨rfl, rfl, rfl, ⟨⟩⟩, sR, ⟨rfl, leG1, (hov), (by (try dsimp only) <;> omega), (by (try dsimp only); omega), (fun e i hi => (Nat.lt_or_ge i k).elim (fun h => hno e i h) (fun h => by obtain rfl : i = k := (by omega); omega)), (hye)⟩, (by omega)⟩
 refine jg (qv (qv (qM (qd (qb (qg (ov) rfl (qh (ov) rfl (qc (qw (qr (L' := L) [ov] (ov) (.tmp rfl .nil) rfl (qa le1 leG1) rF sR ?_))))))))))
 exact ⟨_, _, rfl, hov, ⟨fun e i hi => hno e i (by omega), hye⟩, by omega, rfl⟩

/- spec.GroundIn -/
theorem sGroundIn_spec {F : FH} {L : List HP} {arv : Value} {ar : List Int} (har : IntsF F arv ar) {tv : Value} {t : List Int} (ht : IntsF F tv t) (hla : ar.length ≤ 4000000) (hlt : t.length ≤ 4000000) :
    Does prog 148 [.agg #[arv], tv] F (L) (fun v F' L' => (.bool (groundB ar t) : Value) = v ∧ F = F' ∧ L = L') := by
 refine qG func148 rfl rfl rfl (qd (qb (cX (jb [arv] rfl rfl ?_))))
 intro b1
 refine qh (.bool (false)) rfl (qc (qd (qb (cX (qu [arv] jf qJ rfl rfl (Rd.ownN [] rfl rfl) (qg (tv) rfl (cX (qn (args := [.agg #[arv], tv]) call202 rfl (sTermOk_spec har ht (hla := (by first | assumption | rfl | omega | simp)) (hlt := (by first | assumption | rfl | omega | simp))) ?_))))))))
 rintro _ _ _ _ ⟨rfl, rfl, rfl⟩
 refine qg (.bool (termOk ar t)) rfl ?_
 by_cases h1 : (termOk ar t) = true
 ·have hto : termOk ar t = true := h1
  have htl := termOk_len hto
  have htg := fun k (hk : k < t.length) => termOk_ge hto hk
  refine qo (t := 8) rfl (vB h1) (qm (tv) rfl (qo (t := 8) rfl (vB h1) (qn (args := [tv]) call258 rfl (l2VarsE_spec ht (hlt := (by first | assumption | rfl | omega | simp)) (htg := (by first | assumption | rfl | omega | simp))) ?_)))
  rintro _ F1 _ le1 ⟨x1, x2, rfl, hr1, hr2, hr3, rfl⟩
  refine qo (t := 8) rfl (vB h1) (qE qf rfl hr1.slv (qo (t := 8) rfl (vB h1) (ju rfl rfl (cX (qO (.bool (decide (((x2.length : Int) : Int) = 0))) (vB h1) rfl (qh (.bool (decide (((x2.length : Int) : Int) = 0))) rfl (qc (qw (qr (L' := L) [.bool (decide (((x2.length : Int) : Int) = 0))] (.bool (decide (((x2.length : Int) : Int) = 0))) (.tmp rfl .nil) rfl rF le1 (sD sR) ?_)))))))))
  exact ⟨(vB ((ground_dec hto (fun e => hr2.1 e) (fun e => hr2.2 e)))), rfl, rfl⟩
 rw [Bool.not_eq_true] at h1
 have hto : termOk ar t = false := h1
 refine qp (t := 8) rfl (vB h1) (qp (t := 8) rfl (vB h1) (qp (t := 8) rfl (vB h1) (qp (t := 8) rfl (vB h1) (cX (qN (.bool (false)) (vB h1) rfl (qh (.bool (false)) rfl (qc (qw (qr (L' := L) [.bool (false)] (.bool (false)) (.tmp rfl .nil) rfl rF rF (sD sR) ?_)))))))))
 exact ⟨(vB ((ground_no hto))), rfl, rfl⟩

/- spec.l23Set -/
set_option maxRecDepth 20000 in
theorem l23Set_spec {F : FH} {L : List HP} {fsv : Value} {fs : List Int} (hfs : IntsF F fsv fs) {n : Int} (hlf : fs.length ≤ 4000000) (hn : 0 ≤ n ∧ n ≤ 4000000) :
    Does prog 156 [fsv, ii (n)] F (L) (fun v F' L' => (.bool (setB fs n) : Value) = v ∧ F = F' ∧ L = L') := by
 refine qG func156 rfl rfl rfl (qd (qb (qh (.bool (false)) rfl (qc (qd (qd (qb (qh (ii (0)) rfl (qc (qH (jn (α := Nat) (fun k => [(0, fsv), (1, ii (n)), (5, ii ((k : Int)))]) (fun k => L) (fun k F' => F = F' ∧ (k ≤ fs.length) ∧ (∀ i, i < k → (0 ≤ fs.getD i 0 ∧ fs.getD i 0 < n) ∧ (0 < i → fs.getD ((i : Int) - 1).toNat 0 < fs.getD i 0))) (fun k => fs.length - k) 0 ⟨rfl, rfl, rfl, ⟨⟩⟩ sR ⟨rfl, (by (try dsimp only) <;> omega), (fun i hi => absurd hi (by omega))⟩ ?_)))))))))))
 rintro k rE _ _ ⟨rfl, hk, hall⟩
 show X _ _ _ _ (envs [(0, fsv), (1, ii (n)), (5, ii ((k : Int)))] rE) _ (L)
 refine qd (qd (qb (qg (ii ((k : Int))) rfl (qg (fsv) rfl (cX (qE qf rfl hfs.slv (cX (qQ rfl rfl (qc ?_)))))))))
 refine qC (p := (k : Int) < (fs.length : Int)) rfl (fun h1 => ?_) (fun h1 => ?_)
 ·refine qz (qd (qH (qd ?_)))
  by_cases h2 : ¬(0 ≤ (fs.getD k 0) ∧ (fs.getD k 0) ≤ (n - 1))
  ·refine jx [] L 21 [] [[], [], [0, 1], [2], [], [4], [3, 5], [6], [7], [8], [8, 9], [8, 10], [11], [11], [11, 12, 13], [11, 14], [11], [11], [11, 17], [11, 16, 18], [11, 19]] (phiL [qe fsv, qe (ii ((k : Int)) : Value), qe (.pointer (some (elemA fsv (k)))), qe (ii (fs.getD k 0)), qe (ii (n)), qe (ii (n - 1)), qe (.bool (decide (0 ≤ (fs.getD k 0) ∧ (fs.getD k 0) ≤ (n - 1)))), qe (.bool (decide (¬(0 ≤ (fs.getD k 0) ∧ (fs.getD k 0) ≤ (n - 1))))), qe (.bool (decide (¬(0 ≤ (fs.getD k 0) ∧ (fs.getD k 0) ≤ (n - 1))))), qe undef, qe undef, qe undef, qe undef, qe undef, qe undef, qe undef, qe undef, qe undef, qe undef, qe undef, qe undef]) (ownL []) mixed rfl rfl (by kernel_rfl) ?_ ?_
   ·refine pD (fun W R z9 => ?_) ?_
    ·refine qi (qm (fsv) rfl ?_)
     exact ⟨rfl, rfl, rfl⟩
    refine pD (fun W R z9 => ?_) ?_
    ·refine qi (qm (ii ((k : Int))) rfl ?_)
     exact ⟨rfl, rfl, rfl⟩
    refine pD (fun W R z9 => ?_) ?_
    ·rw [zB 0 1 (z9 0 rfl) (z9 1 rfl)]
     refine qi (qt k qf qq rfl rfl rfl hfs.slv (by omega) (Nat.mul_one _) ?_)
     exact ⟨rfl, rfl, rfl⟩
    refine pD (fun W R z9 => ?_) ?_
    ·rw [zA 2 (z9 2 rfl)]
     refine qi (qj qP rfl (hfs.rd (by omega)) ?_)
     exact ⟨rfl, rfl, rfl⟩
    refine pD (fun W R z9 => ?_) ?_
    ·refine qi (qm (ii (n)) rfl ?_)
     exact ⟨rfl, rfl, rfl⟩
    refine pD (fun W R z9 => ?_) ?_
    ·rw [zA 4 (z9 4 rfl)]
     refine qi (je (n - 1) rfl rfl (by omega) (by omega) ?_)
     exact ⟨rfl, rfl, rfl⟩
    refine pD (fun W R z9 => ?_) ?_
    ·rw [zB 3 5 (z9 3 rfl) (z9 5 rfl)]
     refine qi (qn (args := [ii (fs.getD k 0), ii (0), ii (n - 1)]) call109 rfl (l1In_spec (n := fs.getD k 0) (a := 0) (b := n - 1)) ?_)
     rintro _ _ _ _ ⟨rfl, rfl, rfl⟩
     exact ⟨rfl, rfl, rfl⟩
    refine pD (fun W R z9 => ?_) ?_
    ·rw [zA 6 (z9 6 rfl)]
     refine qi (jY rfl ?_)
     exact ⟨rfl, rfl, rfl⟩
    refine pD (fun W R z9 => ?_) ?_
    ·rw [zA 7 (z9 7 rfl)]
     refine qi (qm (.bool (decide (¬(0 ≤ (fs.getD k 0) ∧ (fs.getD k 0) ≤ (n - 1))))) rfl ?_)
     exact ⟨rfl, rfl, rfl⟩
    refine pD (fun W R z9 => ?_) ?_
    ·rw [zA 8 (z9 8 rfl)]
     exact jh (t := 20) rfl (vT h2) ⟨rfl, rfl, rfl⟩
    refine pD (fun W R z9 => ?_) ?_
    ·rw [eS (l := [(8, _), (9, undef)]) ⟨z9 8 rfl, z9 9 rfl, ⟨⟩⟩]
     exact jh (t := 20) rfl (vT h2) ⟨rfl, rfl, rfl⟩
    refine pD (fun W R z9 => ?_) ?_
    ·rw [eS (l := [(8, _), (10, undef)]) ⟨z9 8 rfl, z9 10 rfl, ⟨⟩⟩]
     exact jh (t := 20) rfl (vT h2) ⟨rfl, rfl, rfl⟩
    refine pD (fun W R z9 => ?_) ?_
    ·rw [eS (l := [(11, undef)]) ⟨z9 11 rfl, ⟨⟩⟩]
     exact XG.noU (t := 23) rfl rfl ⟨rfl, rfl, rfl⟩
    refine pD (fun W R z9 => ?_) ?_
    ·rw [eS (l := [(11, undef)]) ⟨z9 11 rfl, ⟨⟩⟩]
     exact XG.noU (t := 23) rfl rfl ⟨rfl, rfl, rfl⟩
    refine pD (fun W R z9 => ?_) ?_
    ·rw [eS (l := [(11, undef), (12, undef), (13, undef)]) ⟨z9 11 rfl, z9 12 rfl, z9 13 rfl, ⟨⟩⟩]
     exact XG.noU (t := 23) rfl rfl ⟨rfl, rfl, rfl⟩
    refine pD (fun W R z9 => ?_) ?_
    ·rw [eS (l := [(11, undef), (14, undef)]) ⟨z9 11 rfl, z9 14 rfl, ⟨⟩⟩]
     exact XG.noU (t := 23) rfl rfl ⟨rfl, rfl, rfl⟩
    refine pD (fun W R z9 => ?_) ?_
    ·rw [eS (l := [(11, undef)]) ⟨z9 11 rfl, ⟨⟩⟩]
     exact XG.noU (t := 23) rfl rfl ⟨rfl, rfl, rfl⟩
    refine pD (fun W R z9 => ?_) ?_
    ·rw [eS (l := [(11, undef)]) ⟨z9 11 rfl, ⟨⟩⟩]
     exact XG.noU (t := 23) rfl rfl ⟨rfl, rfl, rfl⟩
    refine pD (fun W R z9 => ?_) ?_
    ·rw [eS (l := [(11, undef), (17, undef)]) ⟨z9 11 rfl, z9 17 rfl, ⟨⟩⟩]
     exact XG.noU (t := 23) rfl rfl ⟨rfl, rfl, rfl⟩
    refine pD (fun W R z9 => ?_) ?_
    ·rw [eS (l := [(11, undef), (16, undef), (18, undef)]) ⟨z9 11 rfl, z9 16 rfl, z9 18 rfl, ⟨⟩⟩]
     exact XG.noU (t := 23) rfl rfl ⟨rfl, rfl, rfl⟩
    refine pD (fun W R z9 => ?_) ?_
    ·rw [eS (l := [(11, undef), (19, undef)]) ⟨z9 11 rfl, z9 19 rfl, ⟨⟩⟩]
     exact XG.noU (t := 23) rfl rfl ⟨rfl, rfl, rfl⟩
    exact stepsP.nil
   intro W hphi
   rw [eS (l := [(8, _), (11, undef), (15, undef), (20, undef)]) ⟨(hphi 8 (by decide)), (hphi 11 (by decide)), (hphi 15 (by decide)), (hphi 20 (by decide)), ⟨⟩⟩]
   show XL _ _ _ _ _ _ _ (L)
   refine XL.noU (t := 23) rfl rfl (qp (t := 20) rfl (vT h2) (cX (qO (.bool (true)) (vT h2) rfl (qc (jA rfl (qd (qb (qh (.bool (false)) rfl (qc (qw (qD (ql (ql (qD (ql (qr (L' := L) [.bool (false)] (.bool (false)) (.tmp rfl .nil) rfl rF rF sR ?_))))))))))))))))
   exact ⟨(vB (set_no (k := k) (by omega) (fun h9 => by omega))), rfl, rfl⟩
  by_cases h3 : (k : Int) > 0
  ·refine jx [] L 21 [] [[], [], [0, 1], [2], [], [4], [3, 5], [6], [7], [8], [8, 9], [8, 10], [11], [11], [11, 12, 13], [11, 14], [11], [11], [11, 17], [11, 16, 18], [11, 19]] (phiL [qe fsv, qe (ii ((k : Int)) : Value), qe (.pointer (some (elemA fsv (k)))), qe (ii (fs.getD k 0)), qe (ii (n)), qe (ii (n - 1)), qe (.bool (decide (0 ≤ (fs.getD k 0) ∧ (fs.getD k 0) ≤ (n - 1)))), qe (.bool (decide (¬(0 ≤ (fs.getD k 0) ∧ (fs.getD k 0) ≤ (n - 1))))), qe (.bool (decide (¬(0 ≤ (fs.getD k 0) ∧ (fs.getD k 0) ≤ (n - 1))))), qe (ii ((k : Int)) : Value), qe (.bool (decide ((k : Int) > 0)) : Value), qe (.bool (decide ((k : Int) > 0)) : Value), qe fsv, qe (ii ((k : Int)) : Value), qe (.pointer (some (elemA fsv (k)))), qe (ii (fs.getD k 0)), qe fsv, qe (ii ((k : Int)) : Value), qe (ii (((k : Int)) - 1) : Value), qe (.pointer (some (elemA fsv ((((k : Int)) - 1).toNat))) : Value), qe (ii (fs.getD ((((k : Int)) - 1).toNat) 0) : Value)]) (ownL []) mixed rfl rfl (by kernel_rfl) ?_ ?_
   ·refine pD (fun W R z9 => ?_) ?_
    ·refine qi (qm (fsv) rfl ?_)
     exact ⟨rfl, rfl, rfl⟩
    refine pD (fun W R z9 => ?_) ?_
    ·refine qi (qm (ii ((k : Int))) rfl ?_)
     exact ⟨rfl, rfl, rfl⟩
    refine pD (fun W R z9 => ?_) ?_
    ·rw [zB 0 1 (z9 0 rfl) (z9 1 rfl)]
     refine qi (qt k qf qq rfl rfl rfl hfs.slv (by omega) (Nat.mul_one _) ?_)
     exact ⟨rfl, rfl, rfl⟩
    refine pD (fun W R z9 => ?_) ?_
    ·rw [zA 2 (z9 2 rfl)]
     refine qi (qj qP rfl (hfs.rd (by omega)) ?_)
     exact ⟨rfl, rfl, rfl⟩
    refine pD (fun W R z9 => ?_) ?_
    ·refine qi (qm (ii (n)) rfl ?_)
     exact ⟨rfl, rfl, rfl⟩
    refine pD (fun W R z9 => ?_) ?_
    ·rw [zA 4 (z9 4 rfl)]
     refine qi (je (n - 1) rfl rfl (by omega) (by omega) ?_)
     exact ⟨rfl, rfl, rfl⟩
    refine pD (fun W R z9 => ?_) ?_
    ·rw [zB 3 5 (z9 3 rfl) (z9 5 rfl)]
     refine qi (qn (args := [ii (fs.getD k 0), ii (0), ii (n - 1)]) call109 rfl (l1In_spec (n := fs.getD k 0) (a := 0) (b := n - 1)) ?_)
     rintro _ _ _ _ ⟨rfl, rfl, rfl⟩
     exact ⟨rfl, rfl, rfl⟩
    refine pD (fun W R z9 => ?_) ?_
    ·rw [zA 6 (z9 6 rfl)]
     refine qi (jY rfl ?_)
     exact ⟨rfl, rfl, rfl⟩
    refine pD (fun W R z9 => ?_) ?_
    ·rw [zA 7 (z9 7 rfl)]
     refine qi (qm (.bool (decide (¬(0 ≤ (fs.getD k 0) ∧ (fs.getD k 0) ≤ (n - 1))))) rfl ?_)
     exact ⟨rfl, rfl, rfl⟩
    refine pD (fun W R z9 => ?_) ?_
    ·rw [zA 8 (z9 8 rfl)]
     refine qZ (t := 20) rfl (vF h2) (qm (ii ((k : Int))) rfl ?_)
     exact ⟨rfl, rfl, rfl⟩
    refine pD (fun W R z9 => ?_) ?_
    ·rw [zB 8 9 (z9 8 rfl) (z9 9 rfl)]
     refine qZ (t := 20) rfl (vF h2) (jG rfl rfl ?_)
     exact ⟨rfl, rfl, rfl⟩
    refine pD (fun W R z9 => ?_) ?_
    ·rw [zB 8 10 (z9 8 rfl) (z9 10 rfl)]
     refine qZ (t := 20) rfl (vF h2) (qm (.bool (decide ((k : Int) > 0))) rfl ?_)
     exact ⟨rfl, rfl, rfl⟩
    refine pD (fun W R z9 => ?_) ?_
    ·rw [zA 11 (z9 11 rfl)]
     refine qZ (t := 23) rfl (vT h3) (qm (fsv) rfl ?_)
     exact ⟨rfl, rfl, rfl⟩
    refine pD (fun W R z9 => ?_) ?_
    ·rw [zA 11 (z9 11 rfl)]
     refine qZ (t := 23) rfl (vT h3) (qm (ii ((k : Int))) rfl ?_)
     exact ⟨rfl, rfl, rfl⟩
    refine pD (fun W R z9 => ?_) ?_
    ·rw [eS (l := [(11, _), (12, _), (13, _)]) ⟨z9 11 rfl, z9 12 rfl, z9 13 rfl, ⟨⟩⟩]
     refine qZ (t := 23) rfl (vT h3) (qt k qf qq rfl rfl rfl hfs.slv (by omega) (Nat.mul_one _) ?_)
     exact ⟨rfl, rfl, rfl⟩
    refine pD (fun W R z9 => ?_) ?_
    ·rw [zB 11 14 (z9 11 rfl) (z9 14 rfl)]
     refine qZ (t := 23) rfl (vT h3) (qj qP rfl (hfs.rd (by omega)) ?_)
     exact ⟨rfl, rfl, rfl⟩
    refine pD (fun W R z9 => ?_) ?_
    ·rw [zA 11 (z9 11 rfl)]
     refine qZ (t := 23) rfl (vT h3) (qm (fsv) rfl ?_)
     exact ⟨rfl, rfl, rfl⟩
    refine pD (fun W R z9 => ?_) ?_
    ·rw [zA 11 (z9 11 rfl)]
     refine qZ (t := 23) rfl (vT h3) (qm (ii ((k : Int))) rfl ?_)
     exact ⟨rfl, rfl, rfl⟩
    refine pD (fun W R z9 => ?_) ?_
    ·rw [zB 11 17 (z9 11 rfl) (z9 17 rfl)]
     refine qZ (t := 23) rfl (vT h3) (je (((k : Int)) - 1) rfl rfl (by omega) (by omega) ?_)
     exact ⟨rfl, rfl, rfl⟩
    refine pD (fun W R z9 => ?_) ?_
    ·rw [eS (l := [(11, _), (16, _), (18, _)]) ⟨z9 11 rfl, z9 16 rfl, z9 18 rfl, ⟨⟩⟩]
     refine qZ (t := 23) rfl (vT h3) (qt ((((k : Int)) - 1).toNat) qf qq rfl rfl (by omega) hfs.slv (by omega) (Nat.mul_one _) ?_)
     exact ⟨rfl, rfl, rfl⟩
    refine pD (fun W R z9 => ?_) ?_
    ·rw [zB 11 19 (z9 11 rfl) (z9 19 rfl)]
     refine qZ (t := 23) rfl (vT h3) (qj qP rfl (hfs.rd (by omega)) ?_)
     exact ⟨rfl, rfl, rfl⟩
    exact stepsP.nil
   intro W hphi
   rw [eS (l := [(8, _), (11, _), (15, _), (20, _)]) ⟨(hphi 8 (by decide)), (hphi 11 (by decide)), (hphi 15 (by decide)), (hphi 20 (by decide)), ⟨⟩⟩]
   show XL _ _ _ _ _ _ _ (L)
   refine qo (t := 23) rfl (vT h3) (XOp.leq rfl rfl (qo (t := 20) rfl (vF h2) (qO (.bool (decide ((fs.getD k 0 : Int) ≤ fs.getD ((((k : Int)) - 1).toNat) 0))) (vT h3) rfl (cX (qN (.bool (decide ((fs.getD k 0 : Int) ≤ fs.getD ((((k : Int)) - 1).toNat) 0))) (vF h2) rfl (qc ?_))))))
   refine qC (p := (fs.getD k 0 : Int) ≤ fs.getD ((((k : Int)) - 1).toNat) 0) rfl (fun h4 => ?_) (fun h4 => ?_)
   ·refine qd (qb (qh (.bool (false)) rfl (qc (qw (qD (ql (ql (qD (ql (qr (L' := L) [.bool (false)] (.bool (false)) (.tmp rfl .nil) rfl rF rF sR ?_))))))))))
    exact ⟨(vB (set_no (k := k) (by omega) (fun h9 => by omega))), rfl, rfl⟩
   refine qz (qb (qg (ii ((k : Int))) rfl (cX (qK (((k + 1 : Nat) : Int)) rfl rfl (by omega) (by omega) (qh (ii (((k + 1 : Nat) : Int))) rfl (qc ?_))))))
   exact ⟨k + 1, _, FLe.refl _, rF, ⟨rfl, rfl, rfl, ⟨⟩⟩, sR, ⟨rfl, (by (try dsimp only) <;> omega), (fun i hi => (Nat.lt_or_ge i k).elim (fun h => hall i h) (fun h => by obtain rfl : i = k := (by omega); omega))⟩, (by omega)⟩
  refine jx [] L 21 [] [[], [], [0, 1], [2], [], [4], [3, 5], [6], [7], [8], [8, 9], [8, 10], [11], [11], [11, 12, 13], [11, 14], [11], [11], [11, 17], [11, 16, 18], [11, 19]] (phiL [qe fsv, qe (ii ((k : Int)) : Value), qe (.pointer (some (elemA fsv (k)))), qe (ii (fs.getD k 0)), qe (ii (n)), qe (ii (n - 1)), qe (.bool (decide (0 ≤ (fs.getD k 0) ∧ (fs.getD k 0) ≤ (n - 1)))), qe (.bool (decide (¬(0 ≤ (fs.getD k 0) ∧ (fs.getD k 0) ≤ (n - 1))))), qe (.bool (decide (¬(0 ≤ (fs.getD k 0) ∧ (fs.getD k 0) ≤ (n - 1))))), qe (ii ((k : Int)) : Value), qe (.bool (decide ((k : Int) > 0)) : Value), qe (.bool (decide ((k : Int) > 0)) : Value), qe undef, qe undef, qe undef, qe undef, qe undef, qe undef, qe undef, qe undef, qe undef]) (ownL []) mixed rfl rfl (by kernel_rfl) ?_ ?_
  ·refine pD (fun W R z9 => ?_) ?_
   ·refine qi (qm (fsv) rfl ?_)
    exact ⟨rfl, rfl, rfl⟩
   refine pD (fun W R z9 => ?_) ?_
   ·refine qi (qm (ii ((k : Int))) rfl ?_)
    exact ⟨rfl, rfl, rfl⟩
   refine pD (fun W R z9 => ?_) ?_
   ·rw [zB 0 1 (z9 0 rfl) (z9 1 rfl)]
    refine qi (qt k qf qq rfl rfl rfl hfs.slv (by omega) (Nat.mul_one _) ?_)
    exact ⟨rfl, rfl, rfl⟩
   refine pD (fun W R z9 => ?_) ?_
   ·rw [zA 2 (z9 2 rfl)]
    refine qi (qj qP rfl (hfs.rd (by omega)) ?_)
    exact ⟨rfl, rfl, rfl⟩
   refine pD (fun W R z9 => ?_) ?_
   ·refine qi (qm (ii (n)) rfl ?_)
    exact ⟨rfl, rfl, rfl⟩
   refine pD (fun W R z9 => ?_) ?_
   ·rw [zA 4 (z9 4 rfl)]
    refine qi (je (n - 1) rfl rfl (by omega) (by omega) ?_)
    exact ⟨rfl, rfl, rfl⟩
   refine pD (fun W R z9 => ?_) ?_
   ·rw [zB 3 5 (z9 3 rfl) (z9 5 rfl)]
    refine qi (qn (args := [ii (fs.getD k 0), ii (0), ii (n - 1)]) call109 rfl (l1In_spec (n := fs.getD k 0) (a := 0) (b := n - 1)) ?_)
    rintro _ _ _ _ ⟨rfl, rfl, rfl⟩
    exact ⟨rfl, rfl, rfl⟩
   refine pD (fun W R z9 => ?_) ?_
   ·rw [zA 6 (z9 6 rfl)]
    refine qi (jY rfl ?_)
    exact ⟨rfl, rfl, rfl⟩
   refine pD (fun W R z9 => ?_) ?_
   ·rw [zA 7 (z9 7 rfl)]
    refine qi (qm (.bool (decide (¬(0 ≤ (fs.getD k 0) ∧ (fs.getD k 0) ≤ (n - 1))))) rfl ?_)
    exact ⟨rfl, rfl, rfl⟩
   refine pD (fun W R z9 => ?_) ?_
   ·rw [zA 8 (z9 8 rfl)]
    refine qZ (t := 20) rfl (vF h2) (qm (ii ((k : Int))) rfl ?_)
    exact ⟨rfl, rfl, rfl⟩
   refine pD (fun W R z9 => ?_) ?_
   ·rw [zB 8 9 (z9 8 rfl) (z9 9 rfl)]
    refine qZ (t := 20) rfl (vF h2) (jG rfl rfl ?_)
    exact ⟨rfl, rfl, rfl⟩
   refine pD (fun W R z9 => ?_) ?_
   ·rw [zB 8 10 (z9 8 rfl) (z9 10 rfl)]
    refine qZ (t := 20) rfl (vF h2) (qm (.bool (decide ((k : Int) > 0))) rfl ?_)
    exact ⟨rfl, rfl, rfl⟩
   refine pD (fun W R z9 => ?_) ?_
   ·rw [zA 11 (z9 11 rfl)]
    exact jh (t := 23) rfl (vF h3) ⟨rfl, rfl, rfl⟩
   refine pD (fun W R z9 => ?_) ?_
   ·rw [zA 11 (z9 11 rfl)]
    exact jh (t := 23) rfl (vF h3) ⟨rfl, rfl, rfl⟩
   refine pD (fun W R z9 => ?_) ?_
   ·rw [eS (l := [(11, _), (12, undef), (13, undef)]) ⟨z9 11 rfl, z9 12 rfl, z9 13 rfl, ⟨⟩⟩]
    exact jh (t := 23) rfl (vF h3) ⟨rfl, rfl, rfl⟩
   refine pD (fun W R z9 => ?_) ?_
   ·rw [eS (l := [(11, _), (14, undef)]) ⟨z9 11 rfl, z9 14 rfl, ⟨⟩⟩]
    exact jh (t := 23) rfl (vF h3) ⟨rfl, rfl, rfl⟩
   refine pD (fun W R z9 => ?_) ?_
   ·rw [zA 11 (z9 11 rfl)]
    exact jh (t := 23) rfl (vF h3) ⟨rfl, rfl, rfl⟩
   refine pD (fun W R z9 => ?_) ?_
   ·rw [zA 11 (z9 11 rfl)]
    exact jh (t := 23) rfl (vF h3) ⟨rfl, rfl, rfl⟩
   refine pD (fun W R z9 => ?_) ?_
   ·rw [eS (l := [(11, _), (17, undef)]) ⟨z9 11 rfl, z9 17 rfl, ⟨⟩⟩]
    exact jh (t := 23) rfl (vF h3) ⟨rfl, rfl, rfl⟩
   refine pD (fun W R z9 => ?_) ?_
   ·rw [eS (l := [(11, _), (16, undef), (18, undef)]) ⟨z9 11 rfl, z9 16 rfl, z9 18 rfl, ⟨⟩⟩]
    exact jh (t := 23) rfl (vF h3) ⟨rfl, rfl, rfl⟩
   refine pD (fun W R z9 => ?_) ?_
   ·rw [eS (l := [(11, _), (19, undef)]) ⟨z9 11 rfl, z9 19 rfl, ⟨⟩⟩]
    exact jh (t := 23) rfl (vF h3) ⟨rfl, rfl, rfl⟩
   exact stepsP.nil
  intro W hphi
  rw [eS (l := [(8, _), (11, _), (15, undef), (20, undef)]) ⟨(hphi 8 (by decide)), (hphi 11 (by decide)), (hphi 15 (by decide)), (hphi 20 (by decide)), ⟨⟩⟩]
  show XL _ _ _ _ _ _ _ (L)
  refine qp (t := 23) rfl (vF h3) (qo (t := 20) rfl (vF h2) (qN (.bool (false)) (vF h3) rfl (cX (qN (.bool (false)) (vF h2) rfl (qc (jO rfl (qz (qb (qg (ii ((k : Int))) rfl (cX (qK (((k + 1 : Nat) : Int)) rfl rfl (by omega) (by omega) (qh (ii (((k + 1 : Nat) : Int))) rfl (qc ?_)))))))))))))
  exact ⟨k + 1, _, FLe.refl _, rF, ⟨rfl, rfl, rfl, ⟨⟩⟩, sR, ⟨rfl, (by (try dsimp only) <;> omega), (fun i hi => (Nat.lt_or_ge i k).elim (fun h => hall i h) (fun h => by obtain rfl : i = k := (by omega); omega))⟩, (by omega)⟩
 refine jg (qv (qv (qM (qd (qb (qh (.bool (true)) rfl (qc (qw (qr (L' := L) [.bool (true)] (.bool (true)) (.tmp rfl .nil) rfl rF rF sR ?_)))))))))
 exact ⟨(vB (set_iff.2 (fun i hi => hall i (by omega)))), rfl, rfl⟩

/- spec.l26Without -/
theorem l26Without_spec {F : FH} {L : List HP} {tv : Value} {t : List Int} (ht : IntsF F tv t) {fsv : Value} {fs : List Int} (hfs : IntsF F fsv fs) (hlt : t.length ≤ 4000000) (hlf : fs.length ≤ 4000000) :
    Does prog 260 [tv, fsv] F (L) (fun v F' L' => (.bool (freeB fs t) : Value) = v ∧ F = F' ∧ L = L') := by
 refine qG func260 rfl rfl rfl (qd (qb (qh (.bool (false)) rfl (qc (qd (qd (qb (qh (ii (0)) rfl (qc (qH (jn (α := Nat) (fun k => [(0, tv), (1, fsv), (5, ii ((k : Int)))]) (fun k => L) (fun k F' => F = F' ∧ (k ≤ t.length) ∧ (∀ i, i < k → (fun n => !decide (n ∈ fs)) (t.getD i 0) = true)) (fun k => t.length - k) 0 ⟨rfl, rfl, rfl, ⟨⟩⟩ sR ⟨rfl, (by (try dsimp only) <;> omega), (fun i hi => absurd hi (by omega))⟩ ?_)))))))))))
 rintro k rE _ _ ⟨rfl, hk, hall⟩
 show X _ _ _ _ (envs [(0, tv), (1, fsv), (5, ii ((k : Int)))] rE) _ (L)
 refine qd (qd (qb (qg (ii ((k : Int))) rfl (qg (tv) rfl (cX (qE qf rfl ht.slv (cX (qQ rfl rfl (qc ?_)))))))))
 refine qC (p := (k : Int) < (t.length : Int)) rfl (fun h1 => ?_) (fun h1 => ?_)
 ·refine qz (qd (qH (qd (qb (qg (fsv) rfl (qg (tv) rfl (qg (ii ((k : Int))) rfl (cX (qt k qf qq rfl rfl rfl ht.slv (by omega) (Nat.mul_one _) (cX (qj qP rfl (ht.rd (by omega)) (cX (qn (args := [fsv, ii (t.getD k 0)]) call259 rfl (l1Has_spec (n := t.getD k 0) hfs (hbd := (by omega))) ?_)))))))))))))
  rintro _ _ _ _ ⟨rfl, rfl, rfl⟩
  refine qc ?_
  refine qC (p := (t.getD k 0) ∈ fs) rfl (fun h2 => ?_) (fun h2 => ?_)
  ·have hin := h2
   refine qd (qb (qh (.bool (false)) rfl (qc (qw (qD (ql (ql (qD (ql (qr (L' := L) [.bool (false)] (.bool (false)) (.tmp rfl .nil) rfl rF rF sR ?_))))))))))
   exact ⟨(vB (by unfold freeB; exact all_fail 0 (k := k) (by omega) (by simpa using hin))), rfl, rfl⟩
  have hin := h2
  refine qz (qb (qg (ii ((k : Int))) rfl (cX (qK (((k + 1 : Nat) : Int)) rfl rfl (by omega) (by omega) (qh (ii (((k + 1 : Nat) : Int))) rfl (qc ?_))))))
  exact ⟨k + 1, _, FLe.refl _, rF, ⟨rfl, rfl, rfl, ⟨⟩⟩, sR, ⟨rfl, (by (try dsimp only) <;> omega), (fun i hi => (Nat.lt_or_ge i k).elim (fun h => hall i h) (fun h => by obtain rfl : i = k := (by omega); simpa using hin))⟩, (by omega)⟩
 refine jg (qv (qv (qM (qd (qb (qh (.bool (true)) rfl (qc (qw (qr (L' := L) [.bool (true)] (.bool (true)) (.tmp rfl .nil) rfl rF rF sR ?_)))))))))
 exact ⟨(vB (by unfold freeB; rw [all_getD_iff 0]; exact fun i hi => hall i (by omega))), rfl, rfl⟩

/- (impl.Front).calls$1 -/
theorem calls1_spec {F : FH} {L : List HP} {n : Int} {arv : Value} {ar : List Int} (har : IntsF F arv ar) {fsv : Value} {fs : List Int} (hfs : IntsF F fsv fs) {lsv : Value} {ls : List LineT} (hls : LinesF F lsv ls) {b : Nat} (hzb : FzC F b [arv, fsv, lsv]) (hlf : fs.length ≤ 4000000) :
    Does prog 333 [ii (n), ptr b 0] F (L) (fun v F' L' => (.bool (decide (n ∈ fs)) : Value) = v ∧ F = F' ∧ L = L') := by
 refine qG func333 rfl rfl rfl (qd (qb (qh (.bool (false)) rfl (qc (qd (qb (cX (qk (1) qy rfl qA (by decide) rfl rfl (cX (qj qU rfl (FzC.rd1 hzb rfl) (qg (ii (n)) rfl (cX (qn (args := [fsv, ii (n)]) call218 rfl (Contains_spec (n := n) hfs (hbd := (by first | assumption | rfl | omega | simp))) ?_)))))))))))))
 rintro _ _ _ _ ⟨rfl, rfl, rfl⟩
 refine qh (.bool (decide (n ∈ fs))) rfl (qc (qw (qr (L' := L) [.bool (decide (n ∈ fs))] (.bool (decide (n ∈ fs))) (.tmp rfl .nil) rfl rF rF sR ?_)))
 exact ⟨rfl, rfl, rfl⟩

/- slices.IndexFunc[[]int64,int64] -/
theorem IndexFuncF_spec {F : FH} {L : List HP} {tv : Value} {t : List Int} (ht : IntsF F tv t) {arv : Value} {ar : List Int} (har : IntsF F arv ar) {fsv : Value} {fs : List Int} (hfs : IntsF F fsv fs) {lsv : Value} {ls : List LineT} (hls : LinesF F lsv ls) {b : Nat} (hzb : FzC F b [arv, fsv, lsv]) (hlt : t.length ≤ 4000000) (hlf : fs.length ≤ 4000000) :
    Does prog 365 [tv, .func (.func 333) #[] #[ptr b 0]] F (L) (fun v F' L' => (ii (badG (fun n => !decide (n ∈ fs)) t) : Value) = v ∧ F = F' ∧ L = L') := by
 refine qG func365 rfl rfl rfl (qd (qb (qh (ii (0)) rfl (qc (qd (qd (qb (qg (tv) rfl (cX (qE qf rfl ht.slv (qg (ii (0)) rfl (qc (qH (jn (α := Nat) (fun k => [(0, tv), (1, .func (.func 333) #[] #[ptr b 0]), (7, ii ((t.length : Int))), (8, ii ((k : Int)))]) (fun k => L) (fun k F' => F = F' ∧ (k ≤ t.length) ∧ (∀ i, i < k → (fun n => !decide (n ∈ fs)) (t.getD i 0) = true)) (fun k => t.length - k) 0 ⟨rfl, rfl, rfl, rfl, ⟨⟩⟩ sR ⟨rfl, (by (try dsimp only) <;> omega), (fun i hi => absurd hi (by omega))⟩ ?_))))))))))))))
 rintro k rE _ _ ⟨rfl, hk, hall⟩
 show X _ _ _ _ (envs [(0, tv), (1, .func (.func 333) #[] #[ptr b 0]), (7, ii ((t.length : Int))), (8, ii ((k : Int)))] rE) _ (L)
 refine qd (qb (cX (qQ rfl rfl (qc (qd ?_)))))
 refine qC (p := (k : Int) < (t.length : Int)) rfl (fun h1 => ?_) (fun h1 => ?_)
 ·refine qz (qd (qH (qd (qb (qg (ii ((k : Int))) rfl (qh (ii ((k : Int))) rfl (qc (qd (qb (qg (.func (.func 333) #[] #[ptr b 0]) rfl (qg (tv) rfl (qg (ii ((k : Int))) rfl (cX (qt k qf qq rfl rfl rfl ht.slv (by omega) (Nat.mul_one _) (cX (qj qP rfl (ht.rd (by omega)) (cX (XOp.callV (first := []) (captured := [ptr b 0]) (args := [ii (t.getD k 0), ptr b 0]) call333 rfl rfl (calls1_spec (n := t.getD k 0) har hfs hls hzb (hlf := (by first | assumption | rfl | omega | simp))) ?_))))))))))))))))))
  rintro _ _ _ _ ⟨rfl, rfl, rfl⟩
  refine qc ?_
  refine qC (p := (t.getD k 0) ∈ fs) rfl (fun h2 => ?_) (fun h2 => ?_)
  ·have hin := h2
   refine qd (qb (qg (ii ((k : Int))) rfl (qh (ii ((k : Int))) rfl (qc (qw (qD (ql (ql (qD (ql (qr (L' := L) [ii ((k : Int))] (ii ((k : Int))) (.tmp rfl .nil) rfl rF rF sR ?_)))))))))))
   exact ⟨(vI (badG_at 0 (by omega) (by simpa using hin) hall)), rfl, rfl⟩
  have hin := h2
  refine qz (qb (cX (qK (((k + 1 : Nat) : Int)) rfl rfl (by omega) (by omega) (qg (ii (((k + 1 : Nat) : Int))) rfl (qc ?_)))))
  exact ⟨k + 1, _, FLe.refl _, rF, ⟨rfl, rfl, rfl, rfl, ⟨⟩⟩, sR, ⟨rfl, (by (try dsimp only) <;> omega), (fun i hi => (Nat.lt_or_ge i k).elim (fun h => hall i h) (fun h => by obtain rfl : i = k := (by omega); simpa using hin))⟩, (by omega)⟩
 refine jg (qv (qv (qM (qd (qb (qh (ii (-1)) rfl (qc (qw (qr (L' := L) [ii (-1)] (ii (-1)) (.tmp rfl .nil) rfl rF rF sR ?_)))))))))
 exact ⟨(vI (badG_none 0 (fun i hi => hall i (by omega)))), rfl, rfl⟩

/- slices.ContainsFunc[[]int64,int64] -/
theorem ContainsFuncF_spec {F : FH} {L : List HP} {tv : Value} {t : List Int} (ht : IntsF F tv t) {arv : Value} {ar : List Int} (har : IntsF F arv ar) {fsv : Value} {fs : List Int} (hfs : IntsF F fsv fs) {lsv : Value} {ls : List LineT} (hls : LinesF F lsv ls) {b : Nat} (hzb : FzC F b [arv, fsv, lsv]) (hlt : t.length ≤ 4000000) (hlf : fs.length ≤ 4000000) :
    Does prog 332 [tv, .func (.func 333) #[] #[ptr b 0]] F (L) (fun v F' L' => (.bool (!(freeB fs t)) : Value) = v ∧ F = F' ∧ L = L') := by
 refine qG func332 rfl rfl rfl (qd (qb (qh (.bool (false)) rfl (qc (qd (qb (qg (tv) rfl (qg (.func (.func 333) #[] #[ptr b 0]) rfl (cX (qn (args := [tv, .func (.func 333) #[] #[ptr b 0]]) call365 rfl (IndexFuncF_spec ht har hfs hls hzb (hlt := (by first | assumption | rfl | omega | simp)) (hlf := (by first | assumption | rfl | omega | simp))) ?_))))))))))
 rintro _ _ _ _ ⟨rfl, rfl, rfl⟩
 refine cX (jP rfl rfl (qh (.bool (decide ((badG (fun n => !decide (n ∈ fs)) t : Int) ≥ 0))) rfl (qc (qw (qr (L' := L) [.bool (decide ((badG (fun n => !decide (n ∈ fs)) t : Int) ≥ 0))] (.bool (decide ((badG (fun n => !decide (n ∈ fs)) t : Int) ≥ 0))) (.tmp rfl .nil) rfl rF rF sR ?_)))))
 exact ⟨(vB (by have hb := free_badG (fs := fs) t; cases hA : freeB fs t <;> simp_all <;> omega)), rfl, rfl⟩

/- (impl.Front).calls -/
theorem calls_spec {F : FH} {L : List HP} {arv : Value} {ar : List Int} (har : IntsF F arv ar) {fsv : Value} {fs : List Int} (hfs : IntsF F fsv fs) {lsv : Value} {ls : List LineT} (hls : LinesF F lsv ls) {tv : Value} {t : List Int} (ht : IntsF F tv t) (hlt : t.length ≤ 4000000) (hlf : fs.length ≤ 4000000) :
    Does prog 263 [.agg #[arv, fsv, lsv], tv] F (L) (fun v F' L' => (.bool (!(freeB fs t)) : Value) = v ∧ F = F' ∧ L = L') := by
 refine qG func263 rfl rfl rfl (qd (qb (cX (jb [arv, fsv, lsv] rfl rfl ?_))))
 intro b1
 refine qh (.bool (false)) rfl (qc (qd (qb (qg (tv) rfl (cX (XOp.makeFuncL [] [ptr b1 0] rfl rfl (XL.freeze [] _ _ rfl (fun F1 le1 hz1 => ?_))))))))
 replace har := har.mono le1
 replace hfs := hfs.mono le1
 replace hls := hls.mono le1
 replace ht := ht.mono le1
 have hf1 : FzC F1 b1 [arv, fsv, lsv] := Fz.cells hz1
 refine cX (qn (args := [tv, .func (.func 333) #[] #[ptr b1 0]]) call332 rfl (ContainsFuncF_spec ht har hfs hls hf1 (hlt := (by first | assumption | rfl | omega | simp)) (hlf := (by first | assumption | rfl | omega | simp))) ?_)
 rintro _ _ _ _ ⟨rfl, rfl, rfl⟩
 refine qh (.bool (!(freeB fs t))) rfl (qc (qw (qr (L' := L) [.bool (!(freeB fs t))] (.bool (!(freeB fs t))) (.tmp rfl .nil) rfl rF le1 sR ?_)))
 exact ⟨rfl, rfl, rfl⟩

/- spec.l26Left -/
theorem l26Left_spec {F : FH} {L : List HP} {fn : Int} {psv : Value} {ps : List (List Int)} (hps : RowsF F psv ps) {bdv : Value} {bd : List Int} (hbd : IntsF F bdv bd) (hpn : ps.length ≤ 10) (hpb : ∀ i, i < ps.length → (ps.getD i []).length ≤ 4000000) :
    Does prog 153 [.agg #[ii (fn), psv, bdv]] F (L) (fun v F' L' => F = F' ∧ IsSl v ∧ intsH 2 v (leftL (fn, ps, bd)) :: L = L') := by
 refine qG func153 rfl rfl rfl (qd (qb (cX (jb [ii (fn), psv, bdv] rfl rfl ?_))))
 intro b1
 refine qh (sN) rfl (qc (qd (qb (cX (qk (0) qR rfl qq (by decide) rfl rfl (cX (qj qP rfl (Rd.own [] rfl rfl) (cX (qs (s := 1) [ii (fn)] [ii (0)] [(0, [ii (fn)])] qf qq qL rfl (by decide) rfl (.cons rfl CellsAre.nil) rfl ?_)))))))))
 intro v1 hv1
 refine qh (v1) rfl (qc (qd (qd (qb ?_))))
 show XL _ _ _ _ _ _ _ (intsH 2 v1 ([fn] : List Int) :: cellsH b1 [ii (fn), psv, bdv] 206 :: L)
 skip
 refine qh (ii (0)) rfl (qc (qH (jn (α := Nat × Value × List Int) (fun xQ => [(1, ptr b1 0), (3, xQ.2.1), (4, ii (((xQ.1 : Nat) : Int)))]) (fun xQ => intsH 2 xQ.2.1 xQ.2.2 :: cellsH b1 [ii (fn), psv, bdv] 206 :: L) (fun xQ F' => F = F' ∧ (IsSl xQ.2.1) ∧ (xQ.1 ≤ ps.length) ∧ (xQ.2.2 = fn :: (ps.take xQ.1).flatten)) (fun xQ => ps.length - xQ.1) (0, v1, [fn]) ⟨rfl, rfl, rfl, ⟨⟩⟩ (sC (sC sR)) ⟨rfl, ((jo hv1)), (by (try dsimp only) <;> omega), (rfl)⟩ ?_)))
 rintro ⟨k, ov, os⟩ rE _ _ ⟨rfl, hov, hk, hos⟩
 show X _ _ _ _ (envs [(1, ptr b1 0), (3, ov), (4, ii ((k : Int)))] rE) _ (intsH 2 ov os :: cellsH b1 [ii (fn), psv, bdv] 206 :: L)
 dsimp only at hov hk hos
 have hpk := hpb k
 have hol : os.length ≤ 1 + k * 4000000 := by rw [hos, List.length_cons]; have h9 := flatten_bound hpb k (by omega); omega
 refine qd (qd (qb (qg (ii ((k : Int))) rfl (cX (qk (1) qR rfl qW (by decide) rfl rfl (cX (qj jz rfl (Rd.own [_] rfl rfl) (cX (qE qF rfl hps.slv (cX (qQ rfl rfl (qc ?_))))))))))))
 refine qC (p := (k : Int) < (ps.length : Int)) rfl (fun h1 => ?_) (fun h1 => ?_)
 ·refine qz (qd (qH (qb (qg (ov) rfl (cX (qk (1) qR rfl qW (by decide) rfl rfl (cX (qj jz rfl (Rd.own [_] rfl rfl) (qg (ii ((k : Int))) rfl (cX (qt k qF qA rfl rfl rfl hps.slv (by omega) (Nat.mul_one _) ?_)))))))))))
  obtain ⟨a1, ha1, hr1⟩ := hps.rd (i := k) (by omega)
  refine cX (qj qU rfl (hr1 _) (cX (yd [] _ qf typeInfo2 rfl rfl rfl rfl rfl rfl ha1 (by (try simp only [List.length_append, List.length_nil, List.length_cons, List.length_singleton, List.length_take, List.length_drop]); omega) ?_)))
  intro v2 hs1 hn1 hm1
  refine qh (v2) rfl (qc (qb (qg (ii ((k : Int))) rfl (cX (qK (((k + 1 : Nat) : Int)) rfl rfl (by omega) (by omega) (qh (ii (((k + 1 : Nat) : Int))) rfl (qc ?_)))))))
  exact ⟨(k + 1, v2, os ++ ((ps.getD k []))), _, FLe.refl _, rF, ⟨rfl, rfl, rfl, ⟨⟩⟩, (sC (sC sR)), ⟨rfl, (hs1), (by (try dsimp only) <;> omega), ((by dsimp only; rw [hos, flatten_take (by omega)]; rfl))⟩, (by omega)⟩
 refine jg (qv (qv (qM (qd (qb (qg (ov) rfl (qh (ov) rfl (qc (qw (qr (L' := intsH 2 ov os :: L) [ov] (ov) (.tmp rfl .nil) rfl rF rF (sC (sD sR)) ?_))))))))))
 refine ⟨rfl, hov, ?_⟩
 have hxs : (leftL (fn, ps, bd) : List Int) = os := by rw [hos, show k = ps.length from by omega, List.take_length]; rfl
 exact congrArg (fun z => intsH 2 _ z :: L) hxs

/- slices.Grow[[]int64,int64] -/
theorem GrowAny_spec {F : FH} {L : List HP}  {n : Nat} (hn : n ≤ 400000000) :
    Does prog 293 [sN, ii ((n : Int))] F (L) (fun v F' L' => F = F' ∧ IsSl v ∧ intsH 2 v ([]) :: L = L') := by
 refine qG func293 rfl rfl rfl (qd (qb (qh (sN) rfl (qc (qd (qd (qb (qg (ii ((n : Int))) rfl (cX (qQ rfl rfl (qc ?_)))))))))))
 refine qC (p := (n : Int) < 0) rfl (fun h1 => ?_) (fun h1 => ?_)
 ·omega
 refine qz (qd (qd (qb (qg (ii ((n : Int))) rfl (qg (sN) rfl (cX (XOp.capNil qf rfl (qg (sN) rfl (cX (qE qf rfl SlV.nil (cX (je (0 - (((0 : Nat) : Int))) rfl rfl (by omega) (by omega) (cX (je (((n : Int)) - (0 - (((0 : Nat) : Int)))) rfl rfl (by omega) (by omega) (qh (ii (((n : Int)) - (0 - (((0 : Nat) : Int))))) rfl (qc (qd (qb ?_))))))))))))))))))
 refine qg (ii (((n : Int)) - (0 - (((0 : Nat) : Int))))) rfl (cX (jG rfl rfl (qc ?_)))
 refine qC (p := (((n : Int)) - (0 - (((0 : Nat) : Int))) : Int) > 0) rfl (fun h2 => ?_) (fun h2 => ?_)
 ·refine qb (qg (sN) rfl (qg (sN) rfl (cX (XOp.capNil qf rfl (cX (XOp.sliceNil qf qq rfl ⟨_, rfl⟩ (qg (ii (((n : Int)) - (0 - (((0 : Nat) : Int))))) rfl (cX (XOp.appendZ (s := 1) (bytes := 8) (n := (((n : Int)) - (0 - (((0 : Nat) : Int)))).toNat) [ii (0)] qf runUnderlying3 typeInfo2 rfl rfl rfl rfl rfl (by decide) rfl (by rw [show (((((n : Int)) - (0 - (((0 : Nat) : Int)))).toNat : Nat) : Int) = ((n : Int)) - (0 - (((0 : Nat) : Int))) from by omega]; rfl) (by omega) (by omega) (by omega) ?_)))))))))
  intro v1 hv1
  have hv2 : IsSl v1 := by obtain ⟨b0, c0, h0⟩ := hv1; exact ⟨_, _, _, h0⟩
  rw [intsH_zeros]
  refine qg (sN) rfl (cX (qE qf rfl SlV.nil (cX (XOp.sliceOwn (cs := List.map (Value.int .i64) ((List.replicate ((((n : Int)) - (0 - (((0 : Nat) : Int)))).toNat) 0))) [] _ 0 qf qq rfl rfl ⟨_, rfl⟩ (Nat.zero_le _) ?_))))
  intro v2 hs1
  show XL _ _ _ _ _ _ _ (intsH 2 v2 ([]) :: L)
  refine qh (v2) rfl (qc (qd (qb (qg (v2) rfl (qh (v2) rfl (qc (qw (qr (L' := intsH 2 v2 ([]) :: L) [v2] (v2) (.tmp rfl .nil) rfl rF rF (sC sR) ?_))))))))
  refine ⟨rfl, hs1, ?_⟩
  have hxs : ([] : List Int) = [] := rfl
  exact congrArg (fun z => intsH 2 _ z :: L) hxs
 refine qz (qd (qb (qg (sN) rfl (qh (sN) rfl (qc (qw (qr (L' := intsH 2 (sN) ([]) :: L) [sN] (sN) (.tmp rfl .nil) rfl rF rF (jN (intsH.addNil 2 none _) (sC sR)) ?_)))))))
 refine ⟨rfl, ⟨_, _, _, rfl⟩, ?_⟩
 have hxs : ([] : List Int) = [] := rfl
 exact congrArg (fun z => intsH 2 _ z :: L) hxs

/- slices.Concat[[]int64,int64] -/
theorem ConcatAny_spec {F : FH} {L : List HP} {xsv : Value} {xs : List (List Int)} (hxs : RowsF F xsv xs) (hn : xs.length ≤ 10) (hb : ∀ i, i < xs.length → (xs.getD i []).length ≤ 40000000) :
    Does prog 191 [xsv] F (L) (fun v F' L' => F = F' ∧ IsSl v ∧ intsH 2 v xs.flatten :: L = L') := by
 refine qG func191 rfl rfl rfl (qd (qb (qh (sN) rfl (qc (qd (qb (qh (ii (0)) rfl (qc (qd (qd (qb (qg (xsv) rfl (cX (qE qF rfl hxs.slv (qg (ii (0)) rfl (qc (qH ?_)))))))))))))))))
 refine jn (α := Nat × Nat) (fun xQ => [(0, xsv), (3, ii (((xQ.2 : Nat) : Int))), (9, xsv), (10, ii ((xs.length : Int))), (11, ii (((xQ.1 : Nat) : Int)))]) (fun xQ => L) (fun xQ F' => F = F' ∧ (xQ.1 ≤ xs.length) ∧ (xQ.2 = (xs.take xQ.1).flatten.length) ∧ (xQ.2 ≤ xQ.1 * 40000000)) (fun xQ => xs.length - xQ.1) (0, 0) ⟨rfl, rfl, rfl, rfl, rfl, ⟨⟩⟩ sR ⟨rfl, (by (try dsimp only) <;> omega), (rfl), (by (try dsimp only) <;> omega)⟩ ?_
 rintro ⟨k, z⟩ rE _ _ ⟨rfl, hk, hz, hz2⟩
 show X _ _ _ _ (envs [(0, xsv), (3, ii ((z : Int))), (9, xsv), (10, ii ((xs.length : Int))), (11, ii ((k : Int)))] rE) _ (L)
 dsimp only at hk hz hz2
 have hbk := hb k
 have hft := fun h => congrArg List.length (flatten_take (xs := xs) (k := k) h)
 simp only [List.length_append] at hft
 refine qd (qb (cX (qQ rfl rfl (qc (qd ?_)))))
 refine qC (p := (k : Int) < (xs.length : Int)) rfl (fun h1 => ?_) (fun h1 => ?_)
 ·refine qz (qd (qH (qd (qb (cX (qt k qF qA rfl rfl rfl hxs.slv (by omega) (Nat.mul_one _) ?_))))))
  obtain ⟨a1, ha1, hr1⟩ := hxs.rd (i := k) (by omega)
  refine cX (qj qU rfl (hr1 _) (qh (a1) rfl (qc (qd (qb (qg (ii ((z : Int))) rfl (qg (a1) rfl (cX (qE qf rfl ha1.slv (cX (qK (((z + (((xs.getD k [])).length) : Nat) : Int)) rfl rfl (by omega) (by omega) (qh (ii (((z + (((xs.getD k [])).length) : Nat) : Int))) rfl (qc (qd (qb (qg (ii (((z + (((xs.getD k [])).length) : Nat) : Int))) rfl ?_))))))))))))))))
  refine cX (qQ rfl rfl (qc ?_))
  refine qC (p := (((z + (((xs.getD k [])).length) : Nat) : Int) : Int) < 0) rfl (fun h2 => ?_) (fun h2 => ?_)
  ·omega
  refine qz (qb (cX (qK (((k + 1 : Nat) : Int)) rfl rfl (by omega) (by omega) (qg (ii (((k + 1 : Nat) : Int))) rfl (qc ?_)))))
  exact ⟨(k + 1, z + (((xs.getD k [])).length)), _, FLe.refl _, rF, ⟨rfl, rfl, rfl, rfl, rfl, ⟨⟩⟩, sR, ⟨rfl, (by (try dsimp only) <;> omega), (by (try dsimp only) <;> omega), (by (try dsimp only) <;> omega)⟩, (by omega)⟩
 refine jg (qv (qv (qM (qd (qb (qg (ii ((z : Int))) rfl (cX (qn (args := [sN, ii (z : Int)]) call293 rfl (GrowAny_spec (n := z) (hn := (by omega))) ?_))))))))
 rintro v1 _ _ _ ⟨rfl, hs1, rfl⟩
 refine qh (v1) rfl (qc (qd (qd (qb (qg (xsv) rfl (cX (qE qF rfl hxs.slv (qg (ii (0)) rfl (qc (qH (jn (α := Nat × Value × List Int) (fun xQ => [(6, xQ.2.1), (25, xsv), (26, ii ((xs.length : Int))), (27, ii (((xQ.1 : Nat) : Int)))]) (fun xQ => intsH 2 xQ.2.1 xQ.2.2 :: L) (fun xQ F' => F = F' ∧ (IsSl xQ.2.1) ∧ (xQ.1 ≤ xs.length) ∧ (xQ.2.2 = (xs.take xQ.1).flatten)) (fun xQ => xs.length - xQ.1) (0, v1, ([])) ⟨rfl, rfl, rfl, rfl, ⟨⟩⟩ (sC sR) ⟨rfl, (hs1), (by (try dsimp only) <;> omega), (rfl)⟩ ?_)))))))))))
 rintro ⟨k, ov, os⟩ rE _ _ ⟨rfl, hov, hk, hos⟩
 show X _ _ _ _ (envs [(6, ov), (25, xsv), (26, ii ((xs.length : Int))), (27, ii ((k : Int)))] rE) _ (intsH 2 ov os :: L)
 dsimp only at hov hk hos
 have hbk := hb k
 have hol : os.length ≤ k * 40000000 := by rw [hos]; exact flatten_bound hb k (by omega)
 refine qd (qb (cX (qQ rfl rfl (qc (qd ?_)))))
 refine qC (p := (k : Int) < (xs.length : Int)) rfl (fun h3 => ?_) (fun h3 => ?_)
 ·refine qz (qd (qH (qd (qb (cX (qt k qF qA rfl rfl rfl hxs.slv (by omega) (Nat.mul_one _) ?_))))))
  obtain ⟨a2, ha2, hr2⟩ := hxs.rd (i := k) (by omega)
  refine cX (qj qU rfl (hr2 _) (qh (a2) rfl (qc (qb (qg (ov) rfl (qg (a2) rfl (cX (yd [] _ qf typeInfo2 rfl rfl rfl rfl rfl rfl ha2 (by (try simp only [List.length_append, List.length_nil, List.length_cons, List.length_singleton, List.length_take, List.length_drop]); omega) ?_))))))))
  intro v2 hs2 hn1 hm1
  refine qh (v2) rfl (qc (qb (cX (qK (((k + 1 : Nat) : Int)) rfl rfl (by omega) (by omega) (qg (ii (((k + 1 : Nat) : Int))) rfl (qc ?_))))))
  exact ⟨(k + 1, v2, os ++ ((xs.getD k []))), _, FLe.refl _, rF, ⟨rfl, rfl, rfl, rfl, ⟨⟩⟩, (sC sR), ⟨rfl, (hs2), (by (try dsimp only) <;> omega), ((by dsimp only; rw [hos, flatten_take (by omega)]))⟩, (by omega)⟩
 refine jg (qv (qv (qM (qd (qb (qg (ov) rfl (qh (ov) rfl (qc (qw (qr (L' := intsH 2 ov os :: L) [ov] (ov) (.tmp rfl .nil) rfl rF rF (sC sR) ?_))))))))))
 refine ⟨rfl, hov, ?_⟩
 have hxs : (xs.flatten : List Int) = os := by rw [hos, List.take_of_length_le (by omega)]
 exact congrArg (fun z => intsH 2 _ z :: L) hxs

/- (impl.Line).left -/
theorem left_spec {F : FH} {L : List HP} {fn : Int} {psv : Value} {ps : List (List Int)} (hps : RowsF F psv ps) {bdv : Value} {bd : List Int} (hbd : IntsF F bdv bd) (hpn : ps.length ≤ 10) (hpb : ∀ i, i < ps.length → (ps.getD i []).length ≤ 4000000) :
    Does prog 145 [.agg #[ii (fn), psv, bdv]] F (L) (fun v F' L' => ∃ (a : Value), (a : Value) = v ∧ (IntsF F' a (leftL (fn, ps, bd))) ∧ L = L') := by
 refine qG func145 rfl rfl rfl (qd (qb (cX (jb [ii (fn), psv, bdv] rfl rfl ?_))))
 intro b1
 refine qh (sN) rfl (qc (qd ?_))
 refine jM [cellsH b1 [ii (fn), psv, bdv] 206] L 6 [] [[], [0], [1], [], [3], [4]] [] (phiG [pe (ptr b1 0), pe (ii (fn)), fun FF us v => (v : Value) = v ∧ (IntsF FF v [fn]), pe (ptr b1 1), pe psv, fun FF us v => ((v) : Value) = v ∧ (IntsF FF (v) (ps.flatten))]) (ownL []) mixed rfl rfl (by kernel_rfl) (by kernel_rfl) (MonoG.get (m1 (m1 (mC (fun le h => ⟨h.1, h.2.mono le⟩) (m1 (m1 (mC (fun le h => ⟨h.1, h.2.mono le⟩) MonoG.nil))))))) ?_ ?_
 ·refine gD (fun W Fs R lF z9 => ?_) ?_
  ·refine qi (qk (0) qR rfl qq (by decide) rfl rfl ?_)
   exact ⟨rfl, rfl⟩
  refine gD (fun W Fs R lF z9 => ?_) ?_
  ·replace hps := hps.mono lF
   rw [zA 0 (z9 0 rfl)]
   refine qi (qj qP rfl (Rd.own [] rfl rfl) ?_)
   exact ⟨rfl, rfl⟩
  refine gD (fun W Fs R lF z9 => ?_) ?_
  ·replace hps := hps.mono lF
   rw [zA 1 (z9 1 rfl)]
   refine qi (jD <| qs (s := 1) [ii (fn)] [ii (0)] [(0, [ii (fn)])] qf qq qL rfl (by decide) rfl (.cons rfl CellsAre.nil) rfl ?_)
   intro v2 hv1
   refine ⟨_, _, rfl, fun F1 le1 hz1 => ?_⟩
   replace hps := hps.mono le1
   have hf1 : IntsF F1 v2 [fn] := intsH.fz (xs := [fn]) hz1.fz
   exact ⟨⟨rfl, hf1⟩, rfl⟩
  refine gD (fun W Fs R lF z9 => ?_) ?_
  ·refine qi (qk (1) qR rfl qW (by decide) rfl rfl ?_)
   exact ⟨rfl, rfl⟩
  refine gD (fun W Fs R lF z9 => ?_) ?_
  ·replace hps := hps.mono lF
   rw [zA 3 (z9 3 rfl)]
   refine qi (qj jz rfl (Rd.own [] rfl rfl) ?_)
   exact ⟨rfl, rfl⟩
  refine gD (fun W Fs R lF z9 => ?_) ?_
  ·replace hps := hps.mono lF
   rw [zA 4 (z9 4 rfl)]
   refine qi (jD <| qn (args := [psv]) call191 rfl (ConcatAny_spec hps (hn := (hpn)) (hb := (fun i hi => Nat.le_trans (hpb i hi) (by decide)))) ?_)
   rintro v3 _ _ _ ⟨rfl, hs2, rfl⟩
   refine ⟨_, _, rfl, fun F2 le2 hz2 => ?_⟩
   have hf2 : IntsF F2 v3 ((ps.flatten)) := intsH.fz (xs := (ps.flatten)) hz2.fz
   exact ⟨⟨rfl, hf2⟩, rfl⟩
  exact stepsG.nil
 intro W F3 le3 hphi
 obtain ⟨e2, f2_1lit⟩ := hphi 2 (by decide)
 obtain ⟨e5, f5_1ha⟩ := hphi 5 (by decide)
 generalize hu1 : (W 2) = u1 at e2 f2_1lit e5 f5_1ha
 generalize hu2 : ((W 5)) = u2 at e2 f2_1lit e5 f5_1ha
 rw [eS (l := [(2, u1), (5, u2)]) ⟨hu1, hu2, ⟨⟩⟩]
 show XL _ _ _ _ _ _ _ (cellsH b1 [ii (fn), psv, bdv] 206 :: L)
 refine cX (qs (s := 1) [u1, u2] [sN] [(0, [u1]), (1, [u2])] qF qA jI rfl (by decide) rfl (.cons (cells_one (qB f2_1lit)) (.cons (cells_one (qB f5_1ha)) CellsAre.nil)) rfl ?_)
 intro v4 hv2
 have hc1 : RowsC F3 [u1, u2] ([[fn], (ps.flatten)] : List (List Int)) := (RowsC.snoc (RowsC.snoc (CO.nil : RowsC F3 [] []) f2_1lit) f5_1ha)
 refine ja [] _ _ rfl (fun F4 le4 hz3 => ?_)
 replace hc1 := hc1.mono le4
 have hf3 : RowsF F4 v4 (([[fn], (ps.flatten)] : List (List Int))) := CO.fz hc1 (by first | rfl | omega | (rw [List.length_set]; omega) | (simp; done)) hz3.fz
 refine cX (jD <| qn (args := [v4]) call191 rfl (ConcatAny_spec hf3 (hn := (by simp)) (hb := (fun i hi => by match i, hi with | 0, _ => (show [fn].length ≤ 40000000; simp) | 1, _ => (show ps.flatten.length ≤ 40000000; exact Nat.le_trans (flatN_le hpb) (by omega))))) ?_)
 rintro v5 _ _ _ ⟨rfl, hs3, rfl⟩
 refine ⟨_, _, rfl, fun F5 le5 hz4 => ?_⟩
 have hf4 : IntsF F5 v5 (((([[fn], (ps.flatten)] : List (List Int))).flatten)) := intsH.fz (xs := ((([[fn], (ps.flatten)] : List (List Int))).flatten)) hz4.fz
 refine qh (v5) rfl (qc (qw (qr (L' := L) [v5] (v5) (.tmp rfl .nil) rfl (qa (qa le3 le4) le5) rF (sD sR) ?_)))
 have e9 : ((([[fn], (ps.flatten)] : List (List Int))).flatten) = leftL (fn, ps, bd) := by simp [leftL]
 exact ⟨_, rfl, by rw [← e9]; exact hf4, rfl⟩

/- (impl.Front).lineOk -/
set_option maxHeartbeats 1000000 in
set_option maxRecDepth 20000 in
theorem lineOk_spec {F : FH} {L : List HP} {arv : Value} {ar : List Int} (har : IntsF F arv ar) {fsv : Value} {fs : List Int} (hfs : IntsF F fsv fs) {lsv : Value} {ls : List LineT} (hls : LinesF F lsv ls) {fn : Int} {psv : Value} {ps : List (List Int)} (hps : RowsF F psv ps) {bdv : Value} {bd : List Int} (hbd : IntsF F bdv bd) (hsig : sigOk ar = true) (hset : ∀ n ∈ fs, 0 ≤ n ∧ n < (ar.length : Int)) (hlf : fs.length ≤ 4000000) (hpl : ps.length ≤ 4000000) (hpz : ∀ i, i < ps.length → (ps.getD i []).length ≤ 4000000) (hbl : bd.length ≤ 4000000) :
    Does prog 161 [.agg #[arv, fsv, lsv], .agg #[ii (fn), psv, bdv]] F (L) (fun v F' L' => (.bool (lineB ar fs (fn, ps, bd)) : Value) = v ∧ L = L') := by
 refine qG func161 rfl rfl rfl ?_
 have hsg := sigOk_spec hsig
 refine qd (qb (cX (jb [arv, fsv, lsv] rfl rfl ?_)))
 intro b1
 refine cX (jb [ii (fn), psv, bdv] rfl rfl ?_)
 intro b2
 refine qh (.bool (false)) rfl (qc (qd (qd ?_)))
 by_cases h1 : ¬(fn ∈ fs)
 ·have hnin : ¬ fn ∈ fs := h1
  refine jx [cellsH b2 [ii (fn), psv, bdv] 206, cellsH b1 [arv, fsv, lsv] 108] L 17 [] [[], [0], [], [2], [1, 3], [4], [5], [6], [6, 7], [6, 8], [6], [6, 10], [6, 11], [6], [6, 13], [6, 12, 14], [6, 15]] (phiL [qe (ptr b1 1), qe fsv, qe (ptr b2 0), qe (ii (fn)), qe (.bool (decide (fn ∈ fs))), qe (.bool (decide (¬(fn ∈ fs)))), qe (.bool (decide (¬(fn ∈ fs)))), qe undef, qe undef, qe undef, qe undef, qe undef, qe undef, qe undef, qe undef, qe undef, qe undef]) (ownL []) mixed rfl rfl (by kernel_rfl) ?_ ?_
  ·refine pD (fun W R z9 => ?_) ?_
   ·refine qi (qk (1) qy rfl qA (by decide) rfl rfl ?_)
    exact ⟨rfl, rfl, rfl⟩
   refine pD (fun W R z9 => ?_) ?_
   ·rw [zA 0 (z9 0 rfl)]
    refine qi (qj qU rfl (Rd.own [_] rfl rfl) ?_)
    exact ⟨rfl, rfl, rfl⟩
   refine pD (fun W R z9 => ?_) ?_
   ·refine qi (qk (0) qR rfl qq (by decide) rfl rfl ?_)
    exact ⟨rfl, rfl, rfl⟩
   refine pD (fun W R z9 => ?_) ?_
   ·rw [zA 2 (z9 2 rfl)]
    refine qi (qj qP rfl (Rd.own [] rfl rfl) ?_)
    exact ⟨rfl, rfl, rfl⟩
   refine pD (fun W R z9 => ?_) ?_
   ·rw [zB 1 3 (z9 1 rfl) (z9 3 rfl)]
    refine qi (qn (args := [fsv, ii (fn)]) call218 rfl (Contains_spec (n := fn) hfs (hbd := (by first | assumption | rfl | omega | simp))) ?_)
    rintro _ _ _ _ ⟨rfl, rfl, rfl⟩
    exact ⟨rfl, rfl, rfl⟩
   refine pD (fun W R z9 => ?_) ?_
   ·rw [zA 4 (z9 4 rfl)]
    refine qi (jY rfl ?_)
    exact ⟨rfl, rfl, rfl⟩
   refine pD (fun W R z9 => ?_) ?_
   ·rw [zA 5 (z9 5 rfl)]
    refine qi (qm (.bool (decide (¬(fn ∈ fs)))) rfl ?_)
    exact ⟨rfl, rfl, rfl⟩
   refine pD (fun W R z9 => ?_) ?_
   ·rw [zA 6 (z9 6 rfl)]
    exact jh (t := 13) rfl (vT h1) ⟨rfl, rfl, rfl⟩
   refine pD (fun W R z9 => ?_) ?_
   ·rw [eS (l := [(6, _), (7, undef)]) ⟨z9 6 rfl, z9 7 rfl, ⟨⟩⟩]
    exact jh (t := 13) rfl (vT h1) ⟨rfl, rfl, rfl⟩
   refine pD (fun W R z9 => ?_) ?_
   ·rw [eS (l := [(6, _), (8, undef)]) ⟨z9 6 rfl, z9 8 rfl, ⟨⟩⟩]
    exact jh (t := 13) rfl (vT h1) ⟨rfl, rfl, rfl⟩
   refine pD (fun W R z9 => ?_) ?_
   ·rw [zA 6 (z9 6 rfl)]
    exact jh (t := 13) rfl (vT h1) ⟨rfl, rfl, rfl⟩
   refine pD (fun W R z9 => ?_) ?_
   ·rw [eS (l := [(6, _), (10, undef)]) ⟨z9 6 rfl, z9 10 rfl, ⟨⟩⟩]
    exact jh (t := 13) rfl (vT h1) ⟨rfl, rfl, rfl⟩
   refine pD (fun W R z9 => ?_) ?_
   ·rw [eS (l := [(6, _), (11, undef)]) ⟨z9 6 rfl, z9 11 rfl, ⟨⟩⟩]
    exact jh (t := 13) rfl (vT h1) ⟨rfl, rfl, rfl⟩
   refine pD (fun W R z9 => ?_) ?_
   ·rw [zA 6 (z9 6 rfl)]
    exact jh (t := 13) rfl (vT h1) ⟨rfl, rfl, rfl⟩
   refine pD (fun W R z9 => ?_) ?_
   ·rw [eS (l := [(6, _), (13, undef)]) ⟨z9 6 rfl, z9 13 rfl, ⟨⟩⟩]
    exact jh (t := 13) rfl (vT h1) ⟨rfl, rfl, rfl⟩
   refine pD (fun W R z9 => ?_) ?_
   ·rw [eS (l := [(6, _), (12, undef), (14, undef)]) ⟨z9 6 rfl, z9 12 rfl, z9 14 rfl, ⟨⟩⟩]
    exact jh (t := 13) rfl (vT h1) ⟨rfl, rfl, rfl⟩
   refine pD (fun W R z9 => ?_) ?_
   ·rw [eS (l := [(6, _), (15, undef)]) ⟨z9 6 rfl, z9 15 rfl, ⟨⟩⟩]
    exact jh (t := 13) rfl (vT h1) ⟨rfl, rfl, rfl⟩
   exact stepsP.nil
  intro W hphi
  rw [eS (l := [(6, _), (9, undef), (16, undef)]) ⟨(hphi 6 (by decide)), (hphi 9 (by decide)), (hphi 16 (by decide)), ⟨⟩⟩]
  show XL _ _ _ _ _ _ _ (cellsH b2 [ii (fn), psv, bdv] 206 :: cellsH b1 [arv, fsv, lsv] 108 :: L)
  refine qp (t := 13) rfl (vT h1) (cX (qO (.bool (true)) (vT h1) rfl (qc (jA rfl (qd (qb (qh (.bool (false)) rfl (qc (qw (ql (qr (L' := L) [.bool (false)] (.bool (false)) (.tmp rfl .nil) rfl rF rF (sD (sD sR)) ?_)))))))))))
  exact ⟨congrArg Value.bool (line_no (ar := ar) (fs := fs) (x := (fn, ps, bd)) (fun h9 => by first | exact hnin h9.1 | exact hnl9 h9.2.1)), rfl⟩
 have hin : fn ∈ fs := Classical.not_not.1 h1
 have hin9 := hset _ hin
 have har9 := hsg.2.2 fn.toNat (by omega)
 refine jx [cellsH b2 [ii (fn), psv, bdv] 206, cellsH b1 [arv, fsv, lsv] 108] L 17 [] [[], [0], [], [2], [1, 3], [4], [5], [6], [6, 7], [6, 8], [6], [6, 10], [6, 11], [6], [6, 13], [6, 12, 14], [6, 15]] (phiL [qe (ptr b1 1), qe fsv, qe (ptr b2 0), qe (ii (fn)), qe (.bool (decide (fn ∈ fs))), qe (.bool (decide (¬(fn ∈ fs)))), qe (.bool (decide (¬(fn ∈ fs)))), qe (ptr b2 1), qe psv, qe (ii ((ps.length : Int)) : Value), qe (ptr b1 0), qe (ptr b1 0), qe arv, qe (ptr b2 0), qe (ii (fn)), qe (.pointer (some (elemA arv ((fn).toNat)))), qe (ii (ar.getD ((fn).toNat) 0))]) (ownL []) mixed rfl rfl (by kernel_rfl) ?_ ?_
 ·refine pD (fun W R z9 => ?_) ?_
  ·refine qi (qk (1) qy rfl qA (by decide) rfl rfl ?_)
   exact ⟨rfl, rfl, rfl⟩
  refine pD (fun W R z9 => ?_) ?_
  ·rw [zA 0 (z9 0 rfl)]
   refine qi (qj qU rfl (Rd.own [_] rfl rfl) ?_)
   exact ⟨rfl, rfl, rfl⟩
  refine pD (fun W R z9 => ?_) ?_
  ·refine qi (qk (0) qR rfl qq (by decide) rfl rfl ?_)
   exact ⟨rfl, rfl, rfl⟩
  refine pD (fun W R z9 => ?_) ?_
  ·rw [zA 2 (z9 2 rfl)]
   refine qi (qj qP rfl (Rd.own [] rfl rfl) ?_)
   exact ⟨rfl, rfl, rfl⟩
  refine pD (fun W R z9 => ?_) ?_
  ·rw [zB 1 3 (z9 1 rfl) (z9 3 rfl)]
   refine qi (qn (args := [fsv, ii (fn)]) call218 rfl (Contains_spec (n := fn) hfs (hbd := (by first | assumption | rfl | omega | simp))) ?_)
   rintro _ _ _ _ ⟨rfl, rfl, rfl⟩
   exact ⟨rfl, rfl, rfl⟩
  refine pD (fun W R z9 => ?_) ?_
  ·rw [zA 4 (z9 4 rfl)]
   refine qi (jY rfl ?_)
   exact ⟨rfl, rfl, rfl⟩
  refine pD (fun W R z9 => ?_) ?_
  ·rw [zA 5 (z9 5 rfl)]
   refine qi (qm (.bool (decide (¬(fn ∈ fs)))) rfl ?_)
   exact ⟨rfl, rfl, rfl⟩
  refine pD (fun W R z9 => ?_) ?_
  ·rw [zA 6 (z9 6 rfl)]
   refine qZ (t := 13) rfl (vF h1) (qk (1) qR rfl qW (by decide) rfl rfl ?_)
   exact ⟨rfl, rfl, rfl⟩
  refine pD (fun W R z9 => ?_) ?_
  ·rw [zB 6 7 (z9 6 rfl) (z9 7 rfl)]
   refine qZ (t := 13) rfl (vF h1) (qj jz rfl (Rd.own [] rfl rfl) ?_)
   exact ⟨rfl, rfl, rfl⟩
  refine pD (fun W R z9 => ?_) ?_
  ·rw [zB 6 8 (z9 6 rfl) (z9 8 rfl)]
   refine qZ (t := 13) rfl (vF h1) (qE qF rfl hps.slv ?_)
   exact ⟨rfl, rfl, rfl⟩
  refine pD (fun W R z9 => ?_) ?_
  ·rw [zA 6 (z9 6 rfl)]
   refine qZ (t := 13) rfl (vF h1) (qk (0) qy rfl qJ (by decide) rfl rfl ?_)
   exact ⟨rfl, rfl, rfl⟩
  refine pD (fun W R z9 => ?_) ?_
  ·rw [zB 6 10 (z9 6 rfl) (z9 10 rfl)]
   refine qZ (t := 13) rfl (vF h1) (qk (0) ji rfl qA (by decide) rfl rfl ?_)
   exact ⟨rfl, rfl, rfl⟩
  refine pD (fun W R z9 => ?_) ?_
  ·rw [zB 6 11 (z9 6 rfl) (z9 11 rfl)]
   refine qZ (t := 13) rfl (vF h1) (qj qU rfl (Rd.own [_] rfl rfl) ?_)
   exact ⟨rfl, rfl, rfl⟩
  refine pD (fun W R z9 => ?_) ?_
  ·rw [zA 6 (z9 6 rfl)]
   refine qZ (t := 13) rfl (vF h1) (qk (0) qR rfl qq (by decide) rfl rfl ?_)
   exact ⟨rfl, rfl, rfl⟩
  refine pD (fun W R z9 => ?_) ?_
  ·rw [zB 6 13 (z9 6 rfl) (z9 13 rfl)]
   refine qZ (t := 13) rfl (vF h1) (qj qP rfl (Rd.own [] rfl rfl) ?_)
   exact ⟨rfl, rfl, rfl⟩
  refine pD (fun W R z9 => ?_) ?_
  ·rw [eS (l := [(6, _), (12, _), (14, _)]) ⟨z9 6 rfl, z9 12 rfl, z9 14 rfl, ⟨⟩⟩]
   refine qZ (t := 13) rfl (vF h1) (qt ((fn).toNat) qf qq rfl rfl (by omega) har.slv (by omega) (Nat.mul_one _) ?_)
   exact ⟨rfl, rfl, rfl⟩
  refine pD (fun W R z9 => ?_) ?_
  ·rw [zB 6 15 (z9 6 rfl) (z9 15 rfl)]
   refine qZ (t := 13) rfl (vF h1) (qj qP rfl (har.rd (by omega)) ?_)
   exact ⟨rfl, rfl, rfl⟩
  exact stepsP.nil
 intro W hphi
 rw [eS (l := [(6, _), (9, _), (16, _)]) ⟨(hphi 6 (by decide)), (hphi 9 (by decide)), (hphi 16 (by decide)), ⟨⟩⟩]
 show XL _ _ _ _ _ _ _ (cellsH b2 [ii (fn), psv, bdv] 206 :: cellsH b1 [arv, fsv, lsv] 108 :: L)
 refine qo (t := 13) rfl (vF h1) (XOp.neq rfl rfl (cX (qN (.bool (decide (((ps.length : Int) : Int) ≠ ar.getD ((fn).toNat) 0))) (vF h1) rfl (qc ?_))))
 refine qC (p := ((ps.length : Int) : Int) ≠ ar.getD ((fn).toNat) 0) rfl (fun h2 => ?_) (fun h2 => ?_)
 ·have hnl9 := h2
  refine qd (qb (qh (.bool (false)) rfl (qc (qw (ql (qr (L' := L) [.bool (false)] (.bool (false)) (.tmp rfl .nil) rfl rF rF (sD (sD sR)) ?_))))))
  exact ⟨congrArg Value.bool (line_no (ar := ar) (fs := fs) (x := (fn, ps, bd)) (fun h9 => by first | exact hnin h9.1 | exact hnl9 h9.2.1)), rfl⟩
 have hle9 : (ps.length : Int) = ar.getD fn.toNat 0 := Classical.not_not.1 h2
 refine qz (qd (qd (qb (cX (qk (1) qR rfl qW (by decide) rfl rfl (cX (qj jz rfl (Rd.own [] rfl rfl) (cX (qE qF rfl hps.slv (qg (ii (0)) rfl (qc (qH (jn (α := Nat) (fun k => [(2, ptr b1 0), (3, ptr b2 0), (27, psv), (28, ii ((ps.length : Int))), (29, ii ((k : Int)))]) (fun k => cellsH b2 [ii (fn), psv, bdv] 206 :: cellsH b1 [arv, fsv, lsv] 108 :: L) (fun k F' => F = F' ∧ (k ≤ ps.length) ∧ (∀ i, i < k → termOk ar (ps.getD i []) = true ∧ freeB fs (ps.getD i []) = true)) (fun k => ps.length - k) 0 ⟨rfl, rfl, rfl, rfl, rfl, ⟨⟩⟩ (sC (sC sR)) ⟨rfl, (by (try dsimp only) <;> omega), (fun i hi => absurd hi (by omega))⟩ ?_)))))))))))))
 rintro k rE _ _ ⟨rfl, hk, hall⟩
 show X _ _ _ _ (envs [(2, ptr b1 0), (3, ptr b2 0), (27, psv), (28, ii ((ps.length : Int))), (29, ii ((k : Int)))] rE) _ (cellsH b2 [ii (fn), psv, bdv] 206 :: cellsH b1 [arv, fsv, lsv] 108 :: L)
 have hpzk := hpz k
 refine qd (qb (cX (qQ rfl rfl (qc (qd ?_)))))
 refine qC (p := (k : Int) < (ps.length : Int)) rfl (fun h3 => ?_) (fun h3 => ?_)
 ·refine qz (qd (qH (qd (qb (cX (qt k qF qA rfl rfl rfl hps.slv (by omega) (Nat.mul_one _) ?_))))))
  obtain ⟨a1, ha1, hr1⟩ := hps.rd (i := k) (by omega)
  refine cX (qj qU rfl (hr1 _) (qh (a1) rfl (qc (qd (qb (cX (qk (0) qy rfl qJ (by decide) rfl rfl (cX (qu [arv] jf qJ rfl rfl (Rd.ownN [_] rfl rfl) (qg (a1) rfl (cX (qn (args := [.agg #[arv], a1]) call112 rfl (TermOk_spec har ha1) ?_))))))))))))
  rintro _ _ _ _ ⟨rfl, rfl, rfl⟩
  refine cX (jt rfl (qg (.bool (!(termOk ar ((ps.getD k []))))) rfl ?_))
  by_cases h4 : (!(termOk ar ((ps.getD k [])))) = true
  ·have hto9 : termOk ar (ps.getD k []) = false := Bool.not_inj (y := false) h4
   refine qp (t := 38) rfl (vB h4) (qp (t := 38) rfl (vB h4) (qp (t := 38) rfl (vB h4) (cX (qO (.bool (true)) (vB h4) rfl (qc (jA rfl (qd (qb (qh (.bool (false)) rfl (qc (qw (qD (ql (ql (qD (ql (qr (L' := L) [.bool (false)] (.bool (false)) (.tmp rfl .nil) rfl rF rF (sD (sD sR)) ?_)))))))))))))))))
   exact ⟨congrArg Value.bool (line_no (ar := ar) (fs := fs) (x := (fn, ps, bd)) (fun h9 => by have h8 := h9.2.2.1 k (show k < ps.length by omega); (try dsimp only at h8); first | exact absurd (h8.1.symm.trans hto9) (by decide) | exact absurd (h8.2.symm.trans hfr9) (by decide))), rfl⟩
  rw [Bool.not_eq_true] at h4
  have hto9 : termOk ar (ps.getD k []) = true := Bool.not_inj (y := true) h4
  have htl9 := termOk_len hto9
  refine qo (t := 38) rfl (vB h4) (qu [arv, fsv, lsv] jj qT rfl rfl (Rd.ownN [_] rfl rfl) (qo (t := 38) rfl (vB h4) (qm (a1) rfl (qo (t := 38) rfl (vB h4) (qn (args := [.agg #[arv, fsv, lsv], a1]) call263 rfl (calls_spec har hfs hls ha1 (hlt := (by omega)) (hlf := (hlf))) ?_)))))
  rintro _ _ _ _ ⟨rfl, rfl, rfl⟩
  refine cX (qN (.bool (!(freeB fs ((ps.getD k []))))) (vB h4) rfl (qc ?_))
  refine jF (t := !(freeB fs ((ps.getD k [])))) rfl (fun h5 => ?_) (fun h5 => ?_)
  ·have hfr9 : freeB fs (ps.getD k []) = false := by simpa using h5
   refine qd (qb (qh (.bool (false)) rfl (qc (qw (qD (ql (ql (qD (ql (qr (L' := L) [.bool (false)] (.bool (false)) (.tmp rfl .nil) rfl rF rF (sD (sD sR)) ?_))))))))))
   exact ⟨congrArg Value.bool (line_no (ar := ar) (fs := fs) (x := (fn, ps, bd)) (fun h9 => by have h8 := h9.2.2.1 k (show k < ps.length by omega); (try dsimp only at h8); first | exact absurd (h8.1.symm.trans hto9) (by decide) | exact absurd (h8.2.symm.trans hfr9) (by decide))), rfl⟩
  have hfr9 : freeB fs (ps.getD k []) = true := by simpa using h5
  refine qz (qb (cX (qK (((k + 1 : Nat) : Int)) rfl rfl (by omega) (by omega) (qg (ii (((k + 1 : Nat) : Int))) rfl (qc ?_)))))
  exact ⟨k + 1, _, FLe.refl _, rF, ⟨rfl, rfl, rfl, rfl, rfl, ⟨⟩⟩, (sC (sC sR)), ⟨rfl, (by (try dsimp only) <;> omega), (fun i hi => (Nat.lt_or_ge i k).elim (fun h => hall i h) (fun h => by obtain rfl : i = k := (by omega); exact ⟨hto9, hfr9⟩))⟩, (by omega)⟩
 refine jg (qv (qv (qM (qd ?_))))
 refine jM [cellsH b2 [ii (fn), psv, bdv] 206, cellsH b1 [arv, fsv, lsv] 108] L 7 [[], [], [], [], [], [], [3]] [[], [0], [], [2], [], [4], [3, 5]] [] (phiG [pe (ptr b1 0), pe (.agg #[arv]), pe (.agg #[ii (fn), psv, bdv]), fun FF us v => ((v) : Value) = v ∧ (IntsF FF (v) (leftL (fn, ps, bd))), pe (ptr b2 2), pe bdv, fun FF us v => v = (.agg #[((us.getD 0 undef)), bdv])]) (ownL []) mixed rfl rfl (by kernel_rfl) (by kernel_rfl) (MonoG.get (m1 (m1 (m1 (mC (fun le h => ⟨h.1, h.2.mono le⟩) (m1 (m1 (mC (fun le h => h) MonoG.nil)))))))) ?_ ?_
 ·refine gD (fun W Fs R lF z9 => ?_) ?_
  ·refine qi (qk (0) qy rfl qJ (by decide) rfl rfl ?_)
   exact ⟨rfl, rfl⟩
  refine gD (fun W Fs R lF z9 => ?_) ?_
  ·replace har := har.mono lF
   replace hps := hps.mono lF
   replace hbd := hbd.mono lF
   rw [zA 0 (z9 0 rfl)]
   refine qi (qu [arv] jf qJ rfl rfl (Rd.ownN [_] rfl rfl) ?_)
   exact ⟨rfl, rfl⟩
  refine gD (fun W Fs R lF z9 => ?_) ?_
  ·replace har := har.mono lF
   replace hps := hps.mono lF
   replace hbd := hbd.mono lF
   refine qi (qu [ii (fn), psv, bdv] jW jl rfl rfl (Rd.ownN [] rfl rfl) ?_)
   exact ⟨rfl, rfl⟩
  refine gD (fun W Fs R lF z9 => ?_) ?_
  ·replace har := har.mono lF
   replace hps := hps.mono lF
   replace hbd := hbd.mono lF
   rw [zA 2 (z9 2 rfl)]
   refine qi (qn (args := [.agg #[ii (fn), psv, bdv]]) call145 rfl (left_spec hps hbd (hpn := (by omega)) (hpb := (fun i hi => by have := termOk_len (hall i (by omega)).1; omega))) ?_)
   rintro _ F2 _ le2 ⟨x2, rfl, hr3, rfl⟩
   replace har := har.mono le2
   replace hps := hps.mono le2
   replace hbd := hbd.mono le2
   exact ⟨⟨rfl, hr3⟩, rfl⟩
  refine gD (fun W Fs R lF z9 => ?_) ?_
  ·refine qi (qk (2) qR rfl qA (by decide) rfl rfl ?_)
   exact ⟨rfl, rfl⟩
  refine gD (fun W Fs R lF z9 => ?_) ?_
  ·replace har := har.mono lF
   replace hps := hps.mono lF
   replace hbd := hbd.mono lF
   rw [zA 4 (z9 4 rfl)]
   refine qi (qj qU rfl (Rd.own [] rfl rfl) ?_)
   exact ⟨rfl, rfl⟩
  refine gD (fun W Fs R lF z9 => ?_) ?_
  ·obtain ⟨e3, f3_4hr⟩ := z9 3 rfl
   replace har := har.mono lF
   replace hps := hps.mono lF
   replace hbd := hbd.mono lF
   rw [eS (l := [(3, ((W 3))), (5, _)]) ⟨(e3).symm, z9 5 rfl, ⟨⟩⟩]
   refine qi (jv [((W 3)), bdv] [sN, sN] [(0, 1), (1, 1)] [(0, [((W 3))]), (1, [bdv])] jy zeroValue76 rfl (.cons rfl qA (.cons rfl qA PlacesAre.nil)) rfl (.cons (cells_one (qB f3_4hr)) (.cons (cells_one (qB hbd)) CellsAre.nil)) ?_)
   exact ⟨rfl, rfl⟩
  exact stepsG.nil
 intro W F3 le3 hphi
 obtain ⟨e3, f3_4hr⟩ := hphi 3 (by decide)
 have e6 : W 6 = (.agg #[((W 3)), bdv] : Value) := hphi 6 (by decide)
 generalize hu1 : ((W 3)) = u1 at e3 f3_4hr e6
 rw [eS (l := [(1, _), (3, u1), (6, (.agg #[u1, bdv]))]) ⟨(hphi 1 (by decide)), hu1, e6, ⟨⟩⟩]
 replace har := har.mono le3
 replace hps := hps.mono le3
 replace hbd := hbd.mono le3
 show XL _ _ _ _ _ _ _ (cellsH b2 [ii (fn), psv, bdv] 206 :: cellsH b1 [arv, fsv, lsv] 108 :: L)
 refine cX (qn (args := [.agg #[arv], .agg #[u1, bdv]]) call264 rfl (RuleOk_spec har f3_4hr hbd) ?_)
 rintro _ _ _ _ ⟨rfl, rfl, rfl⟩
 refine qg (.bool (ruleOk ar (leftL (fn, ps, bd)) bd)) rfl ?_
 by_cases h6 : (ruleOk ar (leftL (fn, ps, bd)) bd) = true
 ·have hrk9 : ruleOk ar (leftL (fn, ps, bd)) bd = true := h6
  refine qo (t := 52) rfl (vB h6) (qu [ii (fn), psv, bdv] jW jl rfl rfl (Rd.ownN [] rfl rfl) (qo (t := 52) rfl (vB h6) (qn (args := [.agg #[ii (fn), psv, bdv]]) call145 rfl (left_spec hps hbd (hpn := (by omega)) (hpb := (fun i hi => by have := termOk_len (hall i (by omega)).1; omega))) ?_)))
  rintro _ F4 _ le4 ⟨x3, rfl, hr4, rfl⟩
  refine qo (t := 52) rfl (vB h6) (qn (args := [x3]) call265 rfl (linear_spec hr4 (hlt := (by have h9 : (leftL (fn, ps, bd)).length ≤ 1 + ps.length * 60 := leftL_lenN (fun i (hi : i < ps.length) => show (ps.getD i []).length ≤ 60 from by have := termOk_len (hall i (by omega)).1; omega); omega))) ?_)
  rintro _ _ _ _ ⟨rfl, rfl, rfl⟩
  refine cX (qO (.bool (decide (LinT (leftL (fn, ps, bd))))) (vB h6) rfl (qh (.bool (decide (LinT (leftL (fn, ps, bd))))) rfl (qc (qw (qr (L' := L) [.bool (decide (LinT (leftL (fn, ps, bd))))] (.bool (decide (LinT (leftL (fn, ps, bd))))) (.tmp rfl .nil) rfl (qa le3 le4) rF (sD (sD sR)) ?_)))))
  exact ⟨congrArg Value.bool (by rw [Bool.eq_iff_iff, line_iff, decide_eq_true_eq]; exact ⟨fun h => h.2.2.2.2, fun h => ⟨hin, hle9, fun i (hi : i < ps.length) => hall i (by omega), hrk9, h⟩⟩), rfl⟩
 rw [Bool.not_eq_true] at h6
 have hrk9 : ruleOk ar (leftL (fn, ps, bd)) bd = false := h6
 refine qp (t := 52) rfl (vB h6) (qp (t := 52) rfl (vB h6) (qp (t := 52) rfl (vB h6) (cX (qN (.bool (false)) (vB h6) rfl (qh (.bool (false)) rfl (qc (qw (qr (L' := L) [.bool (false)] (.bool (false)) (.tmp rfl .nil) rfl le3 rF (sD (sD sR)) ?_))))))))
 exact ⟨congrArg Value.bool (line_no (ar := ar) (fs := fs) (x := (fn, ps, bd)) (fun h9 => by have h8 := h9.2.2.2.1; rw [hrk9] at h8; cases h8)), rfl⟩

/- spec.LinearIn -/
theorem sLinearIn_spec {F : FH} {L : List HP} {arv : Value} {ar : List Int} (har : IntsF F arv ar) {tv : Value} {t : List Int} (ht : IntsF F tv t) (hla : ar.length ≤ 4000000) (hlt : t.length ≤ 4000000) :
    Does prog 262 [.agg #[arv], tv] F (L) (fun v F' L' => (.bool (decide (termOk ar t = true ∧ LinT t)) : Value) = v ∧ F = F' ∧ L = L') := by
 refine qG func262 rfl rfl rfl (qd (qb (cX (jb [arv] rfl rfl ?_))))
 intro b1
 refine qh (.bool (false)) rfl (qc (qd (qb (cX (qu [arv] jf qJ rfl rfl (Rd.ownN [] rfl rfl) (qg (tv) rfl (cX (qn (args := [.agg #[arv], tv]) call202 rfl (sTermOk_spec har ht (hla := (by first | assumption | rfl | omega | simp)) (hlt := (by first | assumption | rfl | omega | simp))) ?_))))))))
 rintro _ _ _ _ ⟨rfl, rfl, rfl⟩
 refine qg (.bool (termOk ar t)) rfl ?_
 by_cases h1 : (termOk ar t) = true
 ·refine qo (t := 8) rfl (vB h1) (qm (tv) rfl (qo (t := 8) rfl (vB h1) (qn (args := [tv]) call331 rfl (l2Linear_spec ht (hlt := (by first | assumption | rfl | omega | simp))) ?_)))
  rintro _ _ _ _ ⟨rfl, rfl, rfl⟩
  refine cX (qO (.bool (decide (LinT t))) (vB h1) rfl (qh (.bool (decide (LinT t))) rfl (qc (qw (qr (L' := L) [.bool (decide (LinT t))] (.bool (decide (LinT t))) (.tmp rfl .nil) rfl rF rF (sD sR) ?_)))))
  exact ⟨(vB (by simp_all)), rfl, rfl⟩
 rw [Bool.not_eq_true] at h1
 refine qp (t := 8) rfl (vB h1) (qp (t := 8) rfl (vB h1) (cX (qN (.bool (false)) (vB h1) rfl (qh (.bool (false)) rfl (qc (qw (qr (L' := L) [.bool (false)] (.bool (false)) (.tmp rfl .nil) rfl rF rF (sD sR) ?_)))))))
 exact ⟨(vB (by simp_all)), rfl, rfl⟩

/- spec.l26Line -/
set_option maxHeartbeats 1000000 in
set_option maxRecDepth 20000 in
theorem l26Line_spec {F : FH} {L : List HP} {arv : Value} {ar : List Int} (har : IntsF F arv ar) {fsv : Value} {fs : List Int} (hfs : IntsF F fsv fs) {lsv : Value} {ls : List LineT} (hls : LinesF F lsv ls) {fn : Int} {psv : Value} {ps : List (List Int)} (hps : RowsF F psv ps) {bdv : Value} {bd : List Int} (hbd : IntsF F bdv bd) (hsig : sigOk ar = true) (hset : ∀ n ∈ fs, 0 ≤ n ∧ n < (ar.length : Int)) (hlf : fs.length ≤ 4000000) (hpl : ps.length ≤ 4000000) (hpz : ∀ i, i < ps.length → (ps.getD i []).length ≤ 4000000) (hbl : bd.length ≤ 4000000) (hla : ar.length ≤ 4000000) :
    Does prog 157 [.agg #[arv, fsv, lsv], .agg #[ii (fn), psv, bdv]] F (L) (fun v F' L' => (.bool (lineB ar fs (fn, ps, bd)) : Value) = v ∧ F = F' ∧ L = L') := by
 refine qG func157 rfl rfl rfl ?_
 have hsg := sigOk_spec hsig
 refine qd (qb (cX (jb [arv, fsv, lsv] rfl rfl ?_)))
 intro b1
 refine cX (jb [ii (fn), psv, bdv] rfl rfl ?_)
 intro b2
 refine qh (.bool (false)) rfl (qc (qd (qd ?_)))
 by_cases h1 : ¬(fn ∈ fs)
 ·have hnin : ¬ fn ∈ fs := h1
  refine jx [cellsH b2 [ii (fn), psv, bdv] 206, cellsH b1 [arv, fsv, lsv] 108] L 17 [] [[], [0], [], [2], [1, 3], [4], [5], [6], [6, 7], [6, 8], [6], [6, 10], [6, 11], [6], [6, 13], [6, 12, 14], [6, 15]] (phiL [qe (ptr b1 1), qe fsv, qe (ptr b2 0), qe (ii (fn)), qe (.bool (decide (fn ∈ fs))), qe (.bool (decide (¬(fn ∈ fs)))), qe (.bool (decide (¬(fn ∈ fs)))), qe undef, qe undef, qe undef, qe undef, qe undef, qe undef, qe undef, qe undef, qe undef, qe undef]) (ownL []) mixed rfl rfl (by kernel_rfl) ?_ ?_
  ·refine pD (fun W R z9 => ?_) ?_
   ·refine qi (qk (1) qy rfl qA (by decide) rfl rfl ?_)
    exact ⟨rfl, rfl, rfl⟩
   refine pD (fun W R z9 => ?_) ?_
   ·rw [zA 0 (z9 0 rfl)]
    refine qi (qj qU rfl (Rd.own [_] rfl rfl) ?_)
    exact ⟨rfl, rfl, rfl⟩
   refine pD (fun W R z9 => ?_) ?_
   ·refine qi (qk (0) qR rfl qq (by decide) rfl rfl ?_)
    exact ⟨rfl, rfl, rfl⟩
   refine pD (fun W R z9 => ?_) ?_
   ·rw [zA 2 (z9 2 rfl)]
    refine qi (qj qP rfl (Rd.own [] rfl rfl) ?_)
    exact ⟨rfl, rfl, rfl⟩
   refine pD (fun W R z9 => ?_) ?_
   ·rw [zB 1 3 (z9 1 rfl) (z9 3 rfl)]
    refine qi (qn (args := [fsv, ii (fn)]) call259 rfl (l1Has_spec (n := fn) hfs (hbd := (by omega))) ?_)
    rintro _ _ _ _ ⟨rfl, rfl, rfl⟩
    exact ⟨rfl, rfl, rfl⟩
   refine pD (fun W R z9 => ?_) ?_
   ·rw [zA 4 (z9 4 rfl)]
    refine qi (jY rfl ?_)
    exact ⟨rfl, rfl, rfl⟩
   refine pD (fun W R z9 => ?_) ?_
   ·rw [zA 5 (z9 5 rfl)]
    refine qi (qm (.bool (decide (¬(fn ∈ fs)))) rfl ?_)
    exact ⟨rfl, rfl, rfl⟩
   refine pD (fun W R z9 => ?_) ?_
   ·rw [zA 6 (z9 6 rfl)]
    exact jh (t := 13) rfl (vT h1) ⟨rfl, rfl, rfl⟩
   refine pD (fun W R z9 => ?_) ?_
   ·rw [eS (l := [(6, _), (7, undef)]) ⟨z9 6 rfl, z9 7 rfl, ⟨⟩⟩]
    exact jh (t := 13) rfl (vT h1) ⟨rfl, rfl, rfl⟩
   refine pD (fun W R z9 => ?_) ?_
   ·rw [eS (l := [(6, _), (8, undef)]) ⟨z9 6 rfl, z9 8 rfl, ⟨⟩⟩]
    exact jh (t := 13) rfl (vT h1) ⟨rfl, rfl, rfl⟩
   refine pD (fun W R z9 => ?_) ?_
   ·rw [zA 6 (z9 6 rfl)]
    exact jh (t := 13) rfl (vT h1) ⟨rfl, rfl, rfl⟩
   refine pD (fun W R z9 => ?_) ?_
   ·rw [eS (l := [(6, _), (10, undef)]) ⟨z9 6 rfl, z9 10 rfl, ⟨⟩⟩]
    exact jh (t := 13) rfl (vT h1) ⟨rfl, rfl, rfl⟩
   refine pD (fun W R z9 => ?_) ?_
   ·rw [eS (l := [(6, _), (11, undef)]) ⟨z9 6 rfl, z9 11 rfl, ⟨⟩⟩]
    exact jh (t := 13) rfl (vT h1) ⟨rfl, rfl, rfl⟩
   refine pD (fun W R z9 => ?_) ?_
   ·rw [zA 6 (z9 6 rfl)]
    exact jh (t := 13) rfl (vT h1) ⟨rfl, rfl, rfl⟩
   refine pD (fun W R z9 => ?_) ?_
   ·rw [eS (l := [(6, _), (13, undef)]) ⟨z9 6 rfl, z9 13 rfl, ⟨⟩⟩]
    exact jh (t := 13) rfl (vT h1) ⟨rfl, rfl, rfl⟩
   refine pD (fun W R z9 => ?_) ?_
   ·rw [eS (l := [(6, _), (12, undef), (14, undef)]) ⟨z9 6 rfl, z9 12 rfl, z9 14 rfl, ⟨⟩⟩]
    exact jh (t := 13) rfl (vT h1) ⟨rfl, rfl, rfl⟩
   refine pD (fun W R z9 => ?_) ?_
   ·rw [eS (l := [(6, _), (15, undef)]) ⟨z9 6 rfl, z9 15 rfl, ⟨⟩⟩]
    exact jh (t := 13) rfl (vT h1) ⟨rfl, rfl, rfl⟩
   exact stepsP.nil
  intro W hphi
  rw [eS (l := [(6, _), (9, undef), (16, undef)]) ⟨(hphi 6 (by decide)), (hphi 9 (by decide)), (hphi 16 (by decide)), ⟨⟩⟩]
  show XL _ _ _ _ _ _ _ (cellsH b2 [ii (fn), psv, bdv] 206 :: cellsH b1 [arv, fsv, lsv] 108 :: L)
  refine qp (t := 13) rfl (vT h1) (cX (qO (.bool (true)) (vT h1) rfl (qc (jA rfl (qd (qb (qh (.bool (false)) rfl (qc (qw (ql (qr (L' := L) [.bool (false)] (.bool (false)) (.tmp rfl .nil) rfl rF rF (sD (sD sR)) ?_)))))))))))
  exact ⟨(vB (line_no (ar := ar) (fs := fs) (x := (fn, ps, bd)) (fun h9 => by first | exact hnin h9.1 | exact hnl9 h9.2.1))), rfl, rfl⟩
 have hin : fn ∈ fs := Classical.not_not.1 h1
 have hin9 := hset _ hin
 have har9 := hsg.2.2 fn.toNat (by omega)
 refine jx [cellsH b2 [ii (fn), psv, bdv] 206, cellsH b1 [arv, fsv, lsv] 108] L 17 [] [[], [0], [], [2], [1, 3], [4], [5], [6], [6, 7], [6, 8], [6], [6, 10], [6, 11], [6], [6, 13], [6, 12, 14], [6, 15]] (phiL [qe (ptr b1 1), qe fsv, qe (ptr b2 0), qe (ii (fn)), qe (.bool (decide (fn ∈ fs))), qe (.bool (decide (¬(fn ∈ fs)))), qe (.bool (decide (¬(fn ∈ fs)))), qe (ptr b2 1), qe psv, qe (ii ((ps.length : Int)) : Value), qe (ptr b1 0), qe (ptr b1 0), qe arv, qe (ptr b2 0), qe (ii (fn)), qe (.pointer (some (elemA arv ((fn).toNat)))), qe (ii (ar.getD ((fn).toNat) 0))]) (ownL []) mixed rfl rfl (by kernel_rfl) ?_ ?_
 ·refine pD (fun W R z9 => ?_) ?_
  ·refine qi (qk (1) qy rfl qA (by decide) rfl rfl ?_)
   exact ⟨rfl, rfl, rfl⟩
  refine pD (fun W R z9 => ?_) ?_
  ·rw [zA 0 (z9 0 rfl)]
   refine qi (qj qU rfl (Rd.own [_] rfl rfl) ?_)
   exact ⟨rfl, rfl, rfl⟩
  refine pD (fun W R z9 => ?_) ?_
  ·refine qi (qk (0) qR rfl qq (by decide) rfl rfl ?_)
   exact ⟨rfl, rfl, rfl⟩
  refine pD (fun W R z9 => ?_) ?_
  ·rw [zA 2 (z9 2 rfl)]
   refine qi (qj qP rfl (Rd.own [] rfl rfl) ?_)
   exact ⟨rfl, rfl, rfl⟩
  refine pD (fun W R z9 => ?_) ?_
  ·rw [zB 1 3 (z9 1 rfl) (z9 3 rfl)]
   refine qi (qn (args := [fsv, ii (fn)]) call259 rfl (l1Has_spec (n := fn) hfs (hbd := (by omega))) ?_)
   rintro _ _ _ _ ⟨rfl, rfl, rfl⟩
   exact ⟨rfl, rfl, rfl⟩
  refine pD (fun W R z9 => ?_) ?_
  ·rw [zA 4 (z9 4 rfl)]
   refine qi (jY rfl ?_)
   exact ⟨rfl, rfl, rfl⟩
  refine pD (fun W R z9 => ?_) ?_
  ·rw [zA 5 (z9 5 rfl)]
   refine qi (qm (.bool (decide (¬(fn ∈ fs)))) rfl ?_)
   exact ⟨rfl, rfl, rfl⟩
  refine pD (fun W R z9 => ?_) ?_
  ·rw [zA 6 (z9 6 rfl)]
   refine qZ (t := 13) rfl (vF h1) (qk (1) qR rfl qW (by decide) rfl rfl ?_)
   exact ⟨rfl, rfl, rfl⟩
  refine pD (fun W R z9 => ?_) ?_
  ·rw [zB 6 7 (z9 6 rfl) (z9 7 rfl)]
   refine qZ (t := 13) rfl (vF h1) (qj jz rfl (Rd.own [] rfl rfl) ?_)
   exact ⟨rfl, rfl, rfl⟩
  refine pD (fun W R z9 => ?_) ?_
  ·rw [zB 6 8 (z9 6 rfl) (z9 8 rfl)]
   refine qZ (t := 13) rfl (vF h1) (qE qF rfl hps.slv ?_)
   exact ⟨rfl, rfl, rfl⟩
  refine pD (fun W R z9 => ?_) ?_
  ·rw [zA 6 (z9 6 rfl)]
   refine qZ (t := 13) rfl (vF h1) (qk (0) qy rfl qJ (by decide) rfl rfl ?_)
   exact ⟨rfl, rfl, rfl⟩
  refine pD (fun W R z9 => ?_) ?_
  ·rw [zB 6 10 (z9 6 rfl) (z9 10 rfl)]
   refine qZ (t := 13) rfl (vF h1) (qk (0) ji rfl qA (by decide) rfl rfl ?_)
   exact ⟨rfl, rfl, rfl⟩
  refine pD (fun W R z9 => ?_) ?_
  ·rw [zB 6 11 (z9 6 rfl) (z9 11 rfl)]
   refine qZ (t := 13) rfl (vF h1) (qj qU rfl (Rd.own [_] rfl rfl) ?_)
   exact ⟨rfl, rfl, rfl⟩
  refine pD (fun W R z9 => ?_) ?_
  ·rw [zA 6 (z9 6 rfl)]
   refine qZ (t := 13) rfl (vF h1) (qk (0) qR rfl qq (by decide) rfl rfl ?_)
   exact ⟨rfl, rfl, rfl⟩
  refine pD (fun W R z9 => ?_) ?_
  ·rw [zB 6 13 (z9 6 rfl) (z9 13 rfl)]
   refine qZ (t := 13) rfl (vF h1) (qj qP rfl (Rd.own [] rfl rfl) ?_)
   exact ⟨rfl, rfl, rfl⟩
  refine pD (fun W R z9 => ?_) ?_
  ·rw [eS (l := [(6, _), (12, _), (14, _)]) ⟨z9 6 rfl, z9 12 rfl, z9 14 rfl, ⟨⟩⟩]
   refine qZ (t := 13) rfl (vF h1) (qt ((fn).toNat) qf qq rfl rfl (by omega) har.slv (by omega) (Nat.mul_one _) ?_)
   exact ⟨rfl, rfl, rfl⟩
  refine pD (fun W R z9 => ?_) ?_
  ·rw [zB 6 15 (z9 6 rfl) (z9 15 rfl)]
   refine qZ (t := 13) rfl (vF h1) (qj qP rfl (har.rd (by omega)) ?_)
   exact ⟨rfl, rfl, rfl⟩
  exact stepsP.nil
 intro W hphi
 rw [eS (l := [(6, _), (9, _), (16, _)]) ⟨(hphi 6 (by decide)), (hphi 9 (by decide)), (hphi 16 (by decide)), ⟨⟩⟩]
 show XL _ _ _ _ _ _ _ (cellsH b2 [ii (fn), psv, bdv] 206 :: cellsH b1 [arv, fsv, lsv] 108 :: L)
 refine qo (t := 13) rfl (vF h1) (XOp.neq rfl rfl (cX (qN (.bool (decide (((ps.length : Int) : Int) ≠ ar.getD ((fn).toNat) 0))) (vF h1) rfl (qc ?_))))
 refine qC (p := ((ps.length : Int) : Int) ≠ ar.getD ((fn).toNat) 0) rfl (fun h2 => ?_) (fun h2 => ?_)
 ·have hnl9 := h2
  refine qd (qb (qh (.bool (false)) rfl (qc (qw (ql (qr (L' := L) [.bool (false)] (.bool (false)) (.tmp rfl .nil) rfl rF rF (sD (sD sR)) ?_))))))
  exact ⟨(vB (line_no (ar := ar) (fs := fs) (x := (fn, ps, bd)) (fun h9 => by first | exact hnin h9.1 | exact hnl9 h9.2.1))), rfl, rfl⟩
 have hle9 : (ps.length : Int) = ar.getD fn.toNat 0 := Classical.not_not.1 h2
 refine qz (qd (qd (qb (qh (ii (0)) rfl (qc (qH (jn (α := Nat) (fun k => [(2, ptr b1 0), (3, ptr b2 0), (5, ii ((k : Int)))]) (fun k => cellsH b2 [ii (fn), psv, bdv] 206 :: cellsH b1 [arv, fsv, lsv] 108 :: L) (fun k F' => F = F' ∧ (k ≤ ps.length) ∧ (∀ i, i < k → termOk ar (ps.getD i []) = true ∧ freeB fs (ps.getD i []) = true)) (fun k => ps.length - k) 0 ⟨rfl, rfl, rfl, ⟨⟩⟩ (sC (sC sR)) ⟨rfl, (by (try dsimp only) <;> omega), (fun i hi => absurd hi (by omega))⟩ ?_)))))))
 rintro k rE _ _ ⟨rfl, hk, hall⟩
 show X _ _ _ _ (envs [(2, ptr b1 0), (3, ptr b2 0), (5, ii ((k : Int)))] rE) _ (cellsH b2 [ii (fn), psv, bdv] 206 :: cellsH b1 [arv, fsv, lsv] 108 :: L)
 have hpzk := hpz k
 refine qd (qd (qb (qg (ii ((k : Int))) rfl (cX (qk (1) qR rfl qW (by decide) rfl rfl (cX (qj jz rfl (Rd.own [] rfl rfl) (cX (qE qF rfl hps.slv (cX (qQ rfl rfl (qc ?_))))))))))))
 refine qC (p := (k : Int) < (ps.length : Int)) rfl (fun h3 => ?_) (fun h3 => ?_)
 ·refine qz (qd (qH (qd ?_)))
  obtain ⟨a1, ha1, hr1⟩ := hps.rd (i := k) (by omega)
  by_cases h4 : (!(termOk ar ((ps.getD k [])))) = true
  ·have hto9 : termOk ar (ps.getD k []) = false := Bool.not_inj (y := false) h4
   refine jx [cellsH b2 [ii (fn), psv, bdv] 206, cellsH b1 [arv, fsv, lsv] 108] L 17 [] [[], [0], [], [2], [], [3, 4], [5], [1, 6], [7], [8], [9], [9, 10], [9], [9, 11, 12], [9, 13], [9], [9, 15]] (phiL [qe (ptr b1 0), qe (.agg #[arv]), qe (ptr b2 1), qe psv, qe (ii ((k : Int)) : Value), qe (.pointer (some (elemA psv (k)))), qe a1, qe (.bool (termOk ar ((ps.getD k [])))), qe (.bool (!(termOk ar ((ps.getD k []))))), qe (.bool (!(termOk ar ((ps.getD k []))))), qe undef, qe undef, qe undef, qe undef, qe undef, qe undef, qe undef]) (ownL []) mixed rfl rfl (by kernel_rfl) ?_ ?_
   ·refine pD (fun W R z9 => ?_) ?_
    ·refine qi (qk (0) qy rfl qJ (by decide) rfl rfl ?_)
     exact ⟨rfl, rfl, rfl⟩
    refine pD (fun W R z9 => ?_) ?_
    ·rw [zA 0 (z9 0 rfl)]
     refine qi (qu [arv] jf qJ rfl rfl (Rd.ownN [_] rfl rfl) ?_)
     exact ⟨rfl, rfl, rfl⟩
    refine pD (fun W R z9 => ?_) ?_
    ·refine qi (qk (1) qR rfl qW (by decide) rfl rfl ?_)
     exact ⟨rfl, rfl, rfl⟩
    refine pD (fun W R z9 => ?_) ?_
    ·rw [zA 2 (z9 2 rfl)]
     refine qi (qj jz rfl (Rd.own [] rfl rfl) ?_)
     exact ⟨rfl, rfl, rfl⟩
    refine pD (fun W R z9 => ?_) ?_
    ·refine qi (qm (ii ((k : Int))) rfl ?_)
     exact ⟨rfl, rfl, rfl⟩
    refine pD (fun W R z9 => ?_) ?_
    ·rw [zB 3 4 (z9 3 rfl) (z9 4 rfl)]
     refine qi (qt k qF qA rfl rfl rfl hps.slv (by omega) (Nat.mul_one _) ?_)
     exact ⟨rfl, rfl, rfl⟩
    refine pD (fun W R z9 => ?_) ?_
    ·rw [zA 5 (z9 5 rfl)]
     refine qi (qj qU rfl (hr1 _) ?_)
     exact ⟨rfl, rfl, rfl⟩
    refine pD (fun W R z9 => ?_) ?_
    ·rw [zB 1 6 (z9 1 rfl) (z9 6 rfl)]
     refine qi (qn (args := [.agg #[arv], a1]) call202 rfl (sTermOk_spec har ha1 (hla := (by first | assumption | rfl | omega | simp)) (hlt := (by omega))) ?_)
     rintro _ _ _ _ ⟨rfl, rfl, rfl⟩
     exact ⟨rfl, rfl, rfl⟩
    refine pD (fun W R z9 => ?_) ?_
    ·rw [zA 7 (z9 7 rfl)]
     refine qi (jt rfl ?_)
     exact ⟨rfl, rfl, rfl⟩
    refine pD (fun W R z9 => ?_) ?_
    ·rw [zA 8 (z9 8 rfl)]
     refine qi (qm (.bool (!(termOk ar ((ps.getD k []))))) rfl ?_)
     exact ⟨rfl, rfl, rfl⟩
    refine pD (fun W R z9 => ?_) ?_
    ·rw [zA 9 (z9 9 rfl)]
     exact jh (t := 42) rfl (vB h4) ⟨rfl, rfl, rfl⟩
    refine pD (fun W R z9 => ?_) ?_
    ·rw [eS (l := [(9, _), (10, undef)]) ⟨z9 9 rfl, z9 10 rfl, ⟨⟩⟩]
     exact jh (t := 42) rfl (vB h4) ⟨rfl, rfl, rfl⟩
    refine pD (fun W R z9 => ?_) ?_
    ·rw [zA 9 (z9 9 rfl)]
     exact jh (t := 42) rfl (vB h4) ⟨rfl, rfl, rfl⟩
    refine pD (fun W R z9 => ?_) ?_
    ·rw [eS (l := [(9, _), (11, undef), (12, undef)]) ⟨z9 9 rfl, z9 11 rfl, z9 12 rfl, ⟨⟩⟩]
     exact jh (t := 42) rfl (vB h4) ⟨rfl, rfl, rfl⟩
    refine pD (fun W R z9 => ?_) ?_
    ·rw [eS (l := [(9, _), (13, undef)]) ⟨z9 9 rfl, z9 13 rfl, ⟨⟩⟩]
     exact jh (t := 42) rfl (vB h4) ⟨rfl, rfl, rfl⟩
    refine pD (fun W R z9 => ?_) ?_
    ·rw [zA 9 (z9 9 rfl)]
     exact jh (t := 42) rfl (vB h4) ⟨rfl, rfl, rfl⟩
    refine pD (fun W R z9 => ?_) ?_
    ·rw [eS (l := [(9, _), (15, undef)]) ⟨z9 9 rfl, z9 15 rfl, ⟨⟩⟩]
     exact jh (t := 42) rfl (vB h4) ⟨rfl, rfl, rfl⟩
    exact stepsP.nil
   intro W hphi
   rw [eS (l := [(9, _), (14, undef), (16, undef)]) ⟨(hphi 9 (by decide)), (hphi 14 (by decide)), (hphi 16 (by decide)), ⟨⟩⟩]
   show XL _ _ _ _ _ _ _ (cellsH b2 [ii (fn), psv, bdv] 206 :: cellsH b1 [arv, fsv, lsv] 108 :: L)
   refine qp (t := 42) rfl (vB h4) (qp (t := 42) rfl (vB h4) (cX (qO (.bool (true)) (vB h4) rfl (qc (jA rfl (qd (qb (qh (.bool (false)) rfl (qc (qw (qD (ql (ql (qD (ql (qr (L' := L) [.bool (false)] (.bool (false)) (.tmp rfl .nil) rfl rF rF (sD (sD sR)) ?_))))))))))))))))
   exact ⟨(vB (line_no (ar := ar) (fs := fs) (x := (fn, ps, bd)) (fun h9 => by have h8 := h9.2.2.1 k (show k < ps.length by omega); (try dsimp only at h8); first | exact absurd (h8.1.symm.trans hto9) (by decide) | exact absurd (h8.2.symm.trans hfr9) (by decide)))), rfl, rfl⟩
  rw [Bool.not_eq_true] at h4
  have hto9 : termOk ar (ps.getD k []) = true := Bool.not_inj (y := true) h4
  have htl9 := termOk_len hto9
  refine jx [cellsH b2 [ii (fn), psv, bdv] 206, cellsH b1 [arv, fsv, lsv] 108] L 17 [] [[], [0], [], [2], [], [3, 4], [5], [1, 6], [7], [8], [9], [9, 10], [9], [9, 11, 12], [9, 13], [9], [9, 15]] (phiL [qe (ptr b1 0), qe (.agg #[arv]), qe (ptr b2 1), qe psv, qe (ii ((k : Int)) : Value), qe (.pointer (some (elemA psv (k)))), qe a1, qe (.bool (termOk ar ((ps.getD k [])))), qe (.bool (!(termOk ar ((ps.getD k []))))), qe (.bool (!(termOk ar ((ps.getD k []))))), qe (ptr b2 1), qe psv, qe (ii ((k : Int)) : Value), qe (.pointer (some (elemA psv (k)))), qe a1, qe (ptr b1 1), qe fsv]) (ownL []) mixed rfl rfl (by kernel_rfl) ?_ ?_
  ·refine pD (fun W R z9 => ?_) ?_
   ·refine qi (qk (0) qy rfl qJ (by decide) rfl rfl ?_)
    exact ⟨rfl, rfl, rfl⟩
   refine pD (fun W R z9 => ?_) ?_
   ·rw [zA 0 (z9 0 rfl)]
    refine qi (qu [arv] jf qJ rfl rfl (Rd.ownN [_] rfl rfl) ?_)
    exact ⟨rfl, rfl, rfl⟩
   refine pD (fun W R z9 => ?_) ?_
   ·refine qi (qk (1) qR rfl qW (by decide) rfl rfl ?_)
    exact ⟨rfl, rfl, rfl⟩
   refine pD (fun W R z9 => ?_) ?_
   ·rw [zA 2 (z9 2 rfl)]
    refine qi (qj jz rfl (Rd.own [] rfl rfl) ?_)
    exact ⟨rfl, rfl, rfl⟩
   refine pD (fun W R z9 => ?_) ?_
   ·refine qi (qm (ii ((k : Int))) rfl ?_)
    exact ⟨rfl, rfl, rfl⟩
   refine pD (fun W R z9 => ?_) ?_
   ·rw [zB 3 4 (z9 3 rfl) (z9 4 rfl)]
    refine qi (qt k qF qA rfl rfl rfl hps.slv (by omega) (Nat.mul_one _) ?_)
    exact ⟨rfl, rfl, rfl⟩
   refine pD (fun W R z9 => ?_) ?_
   ·rw [zA 5 (z9 5 rfl)]
    refine qi (qj qU rfl (hr1 _) ?_)
    exact ⟨rfl, rfl, rfl⟩
   refine pD (fun W R z9 => ?_) ?_
   ·rw [zB 1 6 (z9 1 rfl) (z9 6 rfl)]
    refine qi (qn (args := [.agg #[arv], a1]) call202 rfl (sTermOk_spec har ha1 (hla := (by first | assumption | rfl | omega | simp)) (hlt := (by omega))) ?_)
    rintro _ _ _ _ ⟨rfl, rfl, rfl⟩
    exact ⟨rfl, rfl, rfl⟩
   refine pD (fun W R z9 => ?_) ?_
   ·rw [zA 7 (z9 7 rfl)]
    refine qi (jt rfl ?_)
    exact ⟨rfl, rfl, rfl⟩
   refine pD (fun W R z9 => ?_) ?_
   ·rw [zA 8 (z9 8 rfl)]
    refine qi (qm (.bool (!(termOk ar ((ps.getD k []))))) rfl ?_)
    exact ⟨rfl, rfl, rfl⟩
   refine pD (fun W R z9 => ?_) ?_
   ·rw [zA 9 (z9 9 rfl)]
    refine qZ (t := 42) rfl (vB h4) (qk (1) qR rfl qW (by decide) rfl rfl ?_)
    exact ⟨rfl, rfl, rfl⟩
   refine pD (fun W R z9 => ?_) ?_
   ·rw [zB 9 10 (z9 9 rfl) (z9 10 rfl)]
    refine qZ (t := 42) rfl (vB h4) (qj jz rfl (Rd.own [] rfl rfl) ?_)
    exact ⟨rfl, rfl, rfl⟩
   refine pD (fun W R z9 => ?_) ?_
   ·rw [zA 9 (z9 9 rfl)]
    refine qZ (t := 42) rfl (vB h4) (qm (ii ((k : Int))) rfl ?_)
    exact ⟨rfl, rfl, rfl⟩
   refine pD (fun W R z9 => ?_) ?_
   ·rw [eS (l := [(9, _), (11, _), (12, _)]) ⟨z9 9 rfl, z9 11 rfl, z9 12 rfl, ⟨⟩⟩]
    refine qZ (t := 42) rfl (vB h4) (qt k qF qA rfl rfl rfl hps.slv (by omega) (Nat.mul_one _) ?_)
    exact ⟨rfl, rfl, rfl⟩
   refine pD (fun W R z9 => ?_) ?_
   ·rw [zB 9 13 (z9 9 rfl) (z9 13 rfl)]
    refine qZ (t := 42) rfl (vB h4) (qj qU rfl (hr1 _) ?_)
    exact ⟨rfl, rfl, rfl⟩
   refine pD (fun W R z9 => ?_) ?_
   ·rw [zA 9 (z9 9 rfl)]
    refine qZ (t := 42) rfl (vB h4) (qk (1) qy rfl qA (by decide) rfl rfl ?_)
    exact ⟨rfl, rfl, rfl⟩
   refine pD (fun W R z9 => ?_) ?_
   ·rw [zB 9 15 (z9 9 rfl) (z9 15 rfl)]
    refine qZ (t := 42) rfl (vB h4) (qj qU rfl (Rd.own [_] rfl rfl) ?_)
    exact ⟨rfl, rfl, rfl⟩
   exact stepsP.nil
  intro W hphi
  rw [eS (l := [(9, _), (14, _), (16, _)]) ⟨(hphi 9 (by decide)), (hphi 14 (by decide)), (hphi 16 (by decide)), ⟨⟩⟩]
  show XL _ _ _ _ _ _ _ (cellsH b2 [ii (fn), psv, bdv] 206 :: cellsH b1 [arv, fsv, lsv] 108 :: L)
  refine qo (t := 42) rfl (vB h4) (qn (args := [a1, fsv]) call260 rfl (l26Without_spec ha1 hfs (hlt := (by omega)) (hlf := (hlf))) ?_)
  rintro _ _ _ _ ⟨rfl, rfl, rfl⟩
  refine qo (t := 42) rfl (vB h4) (jt rfl (cX (qN (.bool (!(freeB fs ((ps.getD k []))))) (vB h4) rfl (qc ?_))))
  refine jF (t := !(freeB fs ((ps.getD k [])))) rfl (fun h5 => ?_) (fun h5 => ?_)
  ·have hfr9 : freeB fs (ps.getD k []) = false := by simpa using h5
   refine qd (qb (qh (.bool (false)) rfl (qc (qw (qD (ql (ql (qD (ql (qr (L' := L) [.bool (false)] (.bool (false)) (.tmp rfl .nil) rfl rF rF (sD (sD sR)) ?_))))))))))
   exact ⟨(vB (line_no (ar := ar) (fs := fs) (x := (fn, ps, bd)) (fun h9 => by have h8 := h9.2.2.1 k (show k < ps.length by omega); (try dsimp only at h8); first | exact absurd (h8.1.symm.trans hto9) (by decide) | exact absurd (h8.2.symm.trans hfr9) (by decide)))), rfl, rfl⟩
  have hfr9 : freeB fs (ps.getD k []) = true := by simpa using h5
  refine qz (qb (qg (ii ((k : Int))) rfl (cX (qK (((k + 1 : Nat) : Int)) rfl rfl (by omega) (by omega) (qh (ii (((k + 1 : Nat) : Int))) rfl (qc ?_))))))
  exact ⟨k + 1, _, FLe.refl _, rF, ⟨rfl, rfl, rfl, ⟨⟩⟩, (sC (sC sR)), ⟨rfl, (by (try dsimp only) <;> omega), (fun i hi => (Nat.lt_or_ge i k).elim (fun h => hall i h) (fun h => by obtain rfl : i = k := (by omega); exact ⟨hto9, hfr9⟩))⟩, (by omega)⟩
 refine jg (qv (qv (qM (qd (qb (cX (qu [ii (fn), psv, bdv] jW jl rfl rfl (Rd.ownN [] rfl rfl) (cX (jD <| qn (args := [.agg #[ii (fn), psv, bdv]]) call153 rfl (l26Left_spec hps hbd (hpn := (by omega)) (hpb := (fun i hi => by have := termOk_len (hall i (by omega)).1; omega))) ?_)))))))))
 rintro v1 _ _ _ ⟨rfl, hs1, rfl⟩
 refine ⟨_, _, rfl, fun F1 le1 hz1 => ?_⟩
 replace har := har.mono le1
 replace hbd := hbd.mono le1
 have hf1 : IntsF F1 v1 ((leftL (fn, ps, bd))) := intsH.fz (xs := (leftL (fn, ps, bd))) hz1.fz
 refine qh (v1) rfl (qc (qd (qb (cX (qk (0) qy rfl qJ (by decide) rfl rfl (cX (qu [arv] jf qJ rfl rfl (Rd.ownN [_] rfl rfl) (qg (v1) rfl (cX (qn (args := [.agg #[arv], v1]) call262 rfl (sLinearIn_spec har hf1 (hla := (by first | assumption | rfl | omega | simp)) (hlt := (by have h9 : (leftL (fn, ps, bd)).length ≤ 1 + ps.length * 60 := leftL_lenN (fun i (hi : i < ps.length) => show (ps.getD i []).length ≤ 60 from by have := termOk_len (hall i (by omega)).1; omega); omega))) ?_))))))))))
 rintro _ _ _ _ ⟨rfl, rfl, rfl⟩
 refine qg (.bool (decide (termOk ar ((leftL (fn, ps, bd))) = true ∧ LinT ((leftL (fn, ps, bd)))))) rfl ?_
 by_cases h6 : termOk ar ((leftL (fn, ps, bd))) = true ∧ LinT ((leftL (fn, ps, bd)))
 ·have hlk9 : (termOk ar (leftL (fn, ps, bd)) = true ∧ LinT (leftL (fn, ps, bd))) := by simpa using h6
  refine qo (t := 59) rfl (vT h6) (qk (0) qy rfl qJ (by decide) rfl rfl (qo (t := 59) rfl (vT h6) (qu [arv] jf qJ rfl rfl (Rd.ownN [_] rfl rfl) (qo (t := 59) rfl (vT h6) (qm (v1) rfl (qo (t := 59) rfl (vT h6) (qk (2) qR rfl qA (by decide) rfl rfl (qo (t := 59) rfl (vT h6) (qj qU rfl (Rd.own [] rfl rfl) (qo (t := 59) rfl (vT h6) (jv [v1, bdv] [sN, sN] [(0, 1), (1, 1)] [(0, [v1]), (1, [bdv])] jy zeroValue76 rfl (.cons rfl qA (.cons rfl qA PlacesAre.nil)) rfl (.cons (cells_one (qB hf1)) (.cons (cells_one (qB hbd)) CellsAre.nil)) (qo (t := 59) rfl (vT h6) (qn (args := [.agg #[arv], .agg #[v1, bdv]]) call179 rfl (sRuleOk_spec har hf1 hbd (hla := (by first | assumption | rfl | omega | simp)) (hlb := (by have h9 : (leftL (fn, ps, bd)).length ≤ 1 + ps.length * 60 := leftL_lenN (fun i (hi : i < ps.length) => show (ps.getD i []).length ≤ 60 from by have := termOk_len (hall i (by omega)).1; omega); omega)) (hlc := (hbl))) ?_)))))))))))))
  rintro _ _ _ _ ⟨rfl, rfl, rfl⟩
  refine cX (qO (.bool (ruleOk ar ((leftL (fn, ps, bd))) bd)) (vT h6) rfl (qh (.bool (ruleOk ar ((leftL (fn, ps, bd))) bd)) rfl (qc (qw (qr (L' := L) [.bool (ruleOk ar ((leftL (fn, ps, bd))) bd)] (.bool (ruleOk ar ((leftL (fn, ps, bd))) bd)) (.tmp rfl .nil) rfl rF le1 (sD (sD sR)) ?_)))))
  exact ⟨(vB (by rw [Bool.eq_iff_iff, line_iff]; exact ⟨fun h => h.2.2.2.1, fun h => ⟨hin, hle9, fun i (hi : i < ps.length) => hall i (by omega), h, hlk9.2⟩⟩)), rfl, rfl⟩
 have hlk9 : ¬ (termOk ar (leftL (fn, ps, bd)) = true ∧ LinT (leftL (fn, ps, bd))) := by simpa using h6
 refine qp (t := 59) rfl (vF h6) (qp (t := 59) rfl (vF h6) (qp (t := 59) rfl (vF h6) (qp (t := 59) rfl (vF h6) (qp (t := 59) rfl (vF h6) (qp (t := 59) rfl (vF h6) (qp (t := 59) rfl (vF h6) (cX (qN (.bool (false)) (vF h6) rfl (qh (.bool (false)) rfl (qc ?_))))))))))
 refine qw (qr (L' := L) [.bool (false)] (.bool (false)) (.tmp rfl .nil) rfl rF le1 (sD (sD sR)) ?_)
 exact ⟨(vB (line_no (ar := ar) (fs := fs) (x := (fn, ps, bd)) (fun h9 => hlk9 ⟨(ruleOk_iff.1 h9.2.2.2.1).left, h9.2.2.2.2⟩))), rfl, rfl⟩

/- impl.FrontOk$1 -/
theorem FrontOk1_spec {F : FH} {L : List HP} {fn : Int} {psv : Value} {ps : List (List Int)} (hps : RowsF F psv ps) {bdv : Value} {bd : List Int} (hbd : IntsF F bdv bd) {arv : Value} {ar : List Int} (har : IntsF F arv ar) {fsv : Value} {fs : List Int} (hfs : IntsF F fsv fs) {lsv : Value} {ls : List LineT} (hls : LinesF F lsv ls) {b : Nat} (hzb : FzC F b [arv, fsv, lsv]) (hsig : sigOk ar = true) (hset : ∀ n ∈ fs, 0 ≤ n ∧ n < (ar.length : Int)) (hlf : fs.length ≤ 4000000) (hpl : ps.length ≤ 4000000) (hpz : ∀ i, i < ps.length → (ps.getD i []).length ≤ 4000000) (hbl : bd.length ≤ 4000000) :
    Does prog 160 [.agg #[ii (fn), psv, bdv], ptr b 0] F (L) (fun v F' L' => (.bool (!(lineB ar fs (fn, ps, bd))) : Value) = v ∧ F = F' ∧ L = L') := by
 refine qG func160 rfl rfl rfl (qd (qb (cX (jb [ii (fn), psv, bdv] rfl rfl ?_))))
 intro b1
 refine qh (.bool (false)) rfl (qc (qd (qb (cX (qu [arv, fsv, lsv] jj qT rfl rfl (FzC.rd hzb rfl) (cX (qu [ii (fn), psv, bdv] jW jl rfl rfl (Rd.ownN [] rfl rfl) (cX (qn (args := [.agg #[arv, fsv, lsv], .agg #[ii (fn), psv, bdv]]) call161 rfl (lineOk_spec har hfs hls hps hbd (hsig := (by first | assumption | rfl | omega | simp)) (hset := (by first | assumption | rfl | omega | simp)) (hlf := (by first | assumption | rfl | omega | simp)) (hpl := (by first | assumption | rfl | omega | simp)) (hpz := (by first | assumption | rfl | omega | simp)) (hbl := (by first | assumption | rfl | omega | simp))) ?_)))))))))
 rintro _ F1 _ le1 ⟨rfl, rfl⟩
 refine cX (jt rfl (qh (.bool (!(lineB ar fs (fn, ps, bd)))) rfl (qc (qw (qr (L' := L) [.bool (!(lineB ar fs (fn, ps, bd)))] (.bool (!(lineB ar fs (fn, ps, bd)))) (.tmp rfl .nil) rfl rF le1 (sD sR) ?_)))))
 exact ⟨rfl, rfl, rfl⟩

/- slices.IndexFunc[[]impl.Line,impl.Line] -/
theorem IndexFuncL_spec {F : FH} {L : List HP} {xsv : Value} {xs : List LineT} (hxs : LinesF F xsv xs) {arv : Value} {ar : List Int} (har : IntsF F arv ar) {fsv : Value} {fs : List Int} (hfs : IntsF F fsv fs) {lsv : Value} {ls : List LineT} (hls : LinesF F lsv ls) {b : Nat} (hzb : FzC F b [arv, fsv, lsv]) (hlx : xs.length ≤ 4000000) (hsig : sigOk ar = true) (hset : ∀ n ∈ fs, 0 ≤ n ∧ n < (ar.length : Int)) (hlf : fs.length ≤ 4000000) (hbd : ∀ i, i < xs.length → (xs.getD i (0, [], [])).2.1.length ≤ 4000000 ∧ (∀ j, j < (xs.getD i (0, [], [])).2.1.length → ((xs.getD i (0, [], [])).2.1.getD j []).length ≤ 4000000) ∧ (xs.getD i (0, [], [])).2.2.length ≤ 4000000) :
    Does prog 254 [xsv, .func (.func 160) #[] #[ptr b 0]] F (L) (fun v F' L' => (ii (badG (lineB ar fs) xs) : Value) = v ∧ F = F' ∧ L = L') := by
 refine qG func254 rfl rfl rfl (qd (qb (qh (ii (0)) rfl (qc (qd (qd (qb (qg (xsv) rfl (cX (qE qS rfl hxs.slv (qg (ii (0)) rfl (qc (qH (jn (α := Nat) (fun k => [(0, xsv), (1, .func (.func 160) #[] #[ptr b 0]), (7, ii ((xs.length : Int))), (8, ii ((k : Int)))]) (fun k => L) (fun k F' => F = F' ∧ (k ≤ xs.length) ∧ (∀ i, i < k → (lineB ar fs) (xs.getD i (0, [], [])) = true)) (fun k => xs.length - k) 0 ⟨rfl, rfl, rfl, rfl, ⟨⟩⟩ sR ⟨rfl, (by (try dsimp only) <;> omega), (fun i hi => absurd hi (by omega))⟩ ?_))))))))))))))
 rintro k rE _ _ ⟨rfl, hk, hall⟩
 show X _ _ _ _ (envs [(0, xsv), (1, .func (.func 160) #[] #[ptr b 0]), (7, ii ((xs.length : Int))), (8, ii ((k : Int)))] rE) _ (L)
 refine qd (qb (cX (qQ rfl rfl (qc (qd ?_)))))
 refine qC (p := (k : Int) < (xs.length : Int)) rfl (fun h1 => ?_) (fun h1 => ?_)
 ·refine qz (qd (qH (qd (qb (qg (ii ((k : Int))) rfl (qh (ii ((k : Int))) rfl (qc (qd (qb (qg (.func (.func 160) #[] #[ptr b 0]) rfl (qg (xsv) rfl (qg (ii ((k : Int))) rfl (cX (qt k qS jl rfl rfl rfl hxs.slv (by omega) rfl ?_))))))))))))))
  obtain ⟨a1, a2, ha1, ha2, hrg1, hq1⟩ := hxs.rd (i := k) (by omega)
  refine cX (qu [ii ((xs.getD k (0, [], [])).1), a1, a2] jW jl rfl rfl (Rd.all (hrg1 _)) (cX (XOp.callV (first := []) (captured := [ptr b 0]) (args := [.agg #[ii ((xs.getD k (0, [], [])).1), a1, a2], ptr b 0]) call160 rfl rfl (FrontOk1_spec ha1 ha2 har hfs hls hzb (hsig := (by first | assumption | rfl | omega | simp)) (hset := (by first | assumption | rfl | omega | simp)) (hlf := (by first | assumption | rfl | omega | simp)) (hpl := ((hbd k (by omega)).1)) (hpz := ((hbd k (by omega)).2.1)) (hbl := ((hbd k (by omega)).2.2))) ?_)))
  rintro _ _ _ _ ⟨rfl, rfl, rfl⟩
  refine qc ?_
  refine jF (t := !(lineB ar fs (((xs.getD k (0, [], [])).1), ((xs.getD k (0, [], [])).2.1), ((xs.getD k (0, [], [])).2.2)))) rfl (fun h2 => ?_) (fun h2 => ?_)
  ·have hlk := h2
   refine qd (qb (qg (ii ((k : Int))) rfl (qh (ii ((k : Int))) rfl (qc (qw (qD (ql (ql (qD (ql (qr (L' := L) [ii ((k : Int))] (ii ((k : Int))) (.tmp rfl .nil) rfl rF rF sR ?_)))))))))))
   exact ⟨(vI (badG_at ((0, [], []) : LineT) (by omega) (by simpa using hlk) hall)), rfl, rfl⟩
  have hlk := h2
  refine qz (qb (cX (qK (((k + 1 : Nat) : Int)) rfl rfl (by omega) (by omega) (qg (ii (((k + 1 : Nat) : Int))) rfl (qc ?_)))))
  exact ⟨k + 1, _, FLe.refl _, rF, ⟨rfl, rfl, rfl, rfl, ⟨⟩⟩, sR, ⟨rfl, (by (try dsimp only) <;> omega), (fun i hi => (Nat.lt_or_ge i k).elim (fun h => hall i h) (fun h => by obtain rfl : i = k := (by omega); simpa using hlk))⟩, (by omega)⟩
 refine jg (qv (qv (qM (qd (qb (qh (ii (-1)) rfl (qc (qw (qr (L' := L) [ii (-1)] (ii (-1)) (.tmp rfl .nil) rfl rF rF sR ?_)))))))))
 exact ⟨(vI (badG_none ((0, [], []) : LineT) (fun i hi => hall i (by omega)))), rfl, rfl⟩

/- slices.ContainsFunc[[]impl.Line,impl.Line] -/
theorem ContainsFuncL_spec {F : FH} {L : List HP} {xsv : Value} {xs : List LineT} (hxs : LinesF F xsv xs) {arv : Value} {ar : List Int} (har : IntsF F arv ar) {fsv : Value} {fs : List Int} (hfs : IntsF F fsv fs) {lsv : Value} {ls : List LineT} (hls : LinesF F lsv ls) {b : Nat} (hzb : FzC F b [arv, fsv, lsv]) (hlx : xs.length ≤ 4000000) (hsig : sigOk ar = true) (hset : ∀ n ∈ fs, 0 ≤ n ∧ n < (ar.length : Int)) (hlf : fs.length ≤ 4000000) (hbd : ∀ i, i < xs.length → (xs.getD i (0, [], [])).2.1.length ≤ 4000000 ∧ (∀ j, j < (xs.getD i (0, [], [])).2.1.length → ((xs.getD i (0, [], [])).2.1.getD j []).length ≤ 4000000) ∧ (xs.getD i (0, [], [])).2.2.length ≤ 4000000) :
    Does prog 159 [xsv, .func (.func 160) #[] #[ptr b 0]] F (L) (fun v F' L' => (.bool (decide (badG (lineB ar fs) xs ≥ 0)) : Value) = v ∧ F = F' ∧ L = L') := by
 refine qG func159 rfl rfl rfl (qd (qb (qh (.bool (false)) rfl (qc (qd (qb (qg (xsv) rfl (qg (.func (.func 160) #[] #[ptr b 0]) rfl (cX (qn (args := [xsv, .func (.func 160) #[] #[ptr b 0]]) call254 rfl (IndexFuncL_spec hxs har hfs hls hzb (hlx := (by first | assumption | rfl | omega | simp)) (hsig := (by first | assumption | rfl | omega | simp)) (hset := (by first | assumption | rfl | omega | simp)) (hlf := (by first | assumption | rfl | omega | simp)) (hbd := (by first | assumption | rfl | omega | simp))) ?_))))))))))
 rintro _ _ _ _ ⟨rfl, rfl, rfl⟩
 refine cX (jP rfl rfl (qh (.bool (decide ((badG (lineB ar fs) xs : Int) ≥ 0))) rfl (qc (qw (qr (L' := L) [.bool (decide ((badG (lineB ar fs) xs : Int) ≥ 0))] (.bool (decide ((badG (lineB ar fs) xs : Int) ≥ 0))) (.tmp rfl .nil) rfl rF rF sR ?_)))))
 exact ⟨rfl, rfl, rfl⟩

/- impl.FrontOk -/
set_option maxHeartbeats 1000000 in
set_option maxRecDepth 20000 in
theorem FrontOk_spec {F : FH} {L : List HP} {arv : Value} {ar : List Int} (har : IntsF F arv ar) {fsv : Value} {fs : List Int} (hfs : IntsF F fsv fs) {lsv : Value} {ls : List LineT} (hls : LinesF F lsv ls) (hsa : ar.length ≤ 4000000) (hlf : fs.length ≤ 4000000) (hll : ls.length ≤ 4000000) (hlb : ∀ i, i < ls.length → (ls.getD i (0, [], [])).2.1.length ≤ 4000000 ∧ (∀ j, j < (ls.getD i (0, [], [])).2.1.length → ((ls.getD i (0, [], [])).2.1.getD j []).length ≤ 4000000) ∧ (ls.getD i (0, [], [])).2.2.length ≤ 4000000) :
    Does prog 59 [.agg #[arv, fsv, lsv]] F (L) (fun v F' L' => (.bool (frontB ar fs ls) : Value) = v ∧ F = F' ∧ L = L') := by
 refine qG func59 rfl rfl rfl (qd (qb (cX (jb [arv, fsv, lsv] rfl rfl ?_))))
 intro b1
 refine qh (.bool (false)) rfl (qc (qd (qd (qb (cX (qk (0) qy rfl qJ (by decide) rfl rfl (cX (qu [arv] jf qJ rfl rfl (Rd.ownN [] rfl rfl) (cX (qn (args := [.agg #[arv]]) call158 rfl (SigOk_spec har) ?_))))))))))
 rintro _ _ _ _ ⟨rfl, rfl, rfl⟩
 refine cX (jt rfl (qg (.bool (!(sigOk ar))) rfl ?_))
 by_cases h1 : (!(sigOk ar)) = true
 ·have hsig := Bool.not_inj (y := false) h1
  refine qp (t := 9) rfl (vB h1) (qp (t := 9) rfl (vB h1) (qp (t := 9) rfl (vB h1) (qp (t := 9) rfl (vB h1) (cX (qO (.bool (true)) (vB h1) rfl (qc (jA rfl (qd (qb (qh (.bool (false)) rfl (qc ?_)))))))))))
  refine qw (ql (qr (L' := L) [.bool (false)] (.bool (false)) (.tmp rfl .nil) rfl rF rF (sD sR) ?_))
  exact ⟨(vB (front_no (fun h9 => by first | exact absurd (h9.1.symm.trans hsig) (by decide) | (have h8 := h9.2.2.1; omega)))), rfl, rfl⟩
 rw [Bool.not_eq_true] at h1
 have hsig := Bool.not_inj (y := true) h1
 refine qo (t := 9) rfl (vB h1) (qk (2) qy rfl jm (by decide) rfl rfl (qo (t := 9) rfl (vB h1) (qj jE rfl (Rd.own [] rfl rfl) (qo (t := 9) rfl (vB h1) (qE qS rfl hls.slv (qo (t := 9) rfl (vB h1) (jG rfl rfl (cX (qN (.bool (decide (((ls.length : Int) : Int) > 8))) (vB h1) rfl (qc ?_))))))))))
 refine qC (p := ((ls.length : Int) : Int) > 8) rfl (fun h2 => ?_) (fun h2 => ?_)
 ·have hl8 := h2
  refine qd (qb (qh (.bool (false)) rfl (qc (qw (ql (qr (L' := L) [.bool (false)] (.bool (false)) (.tmp rfl .nil) rfl rF rF (sD sR) ?_))))))
  exact ⟨(vB (front_no (fun h9 => by first | exact absurd (h9.1.symm.trans hsig) (by decide) | (have h8 := h9.2.2.1; omega)))), rfl, rfl⟩
 have hl8 := h2
 refine qz (qd (qd (qb (cX (qk (1) qy rfl qA (by decide) rfl rfl (cX (qj qU rfl (Rd.own [] rfl rfl) (cX (qE qf rfl hfs.slv (qg (ii (0)) rfl (qc (qH (jn (α := Nat) (fun k => [(1, ptr b1 0), (16, fsv), (17, ii ((fs.length : Int))), (18, ii ((k : Int)))]) (fun k => cellsH b1 [arv, fsv, lsv] 108 :: L) (fun k F' => F = F' ∧ (k ≤ fs.length) ∧ (∀ i, i < k → (0 ≤ fs.getD i 0 ∧ fs.getD i 0 < (ar.length : Int)) ∧ (0 < i → fs.getD ((i : Int) - 1).toNat 0 < fs.getD i 0))) (fun k => fs.length - k) 0 ⟨rfl, rfl, rfl, rfl, ⟨⟩⟩ (sC sR) ⟨rfl, (by (try dsimp only) <;> omega), (fun i hi => absurd hi (by omega))⟩ ?_)))))))))))))
 rintro k rE _ _ ⟨rfl, hk, hall⟩
 show X _ _ _ _ (envs [(1, ptr b1 0), (16, fsv), (17, ii ((fs.length : Int))), (18, ii ((k : Int)))] rE) _ (cellsH b1 [arv, fsv, lsv] 108 :: L)
 refine qd (qb (cX (qQ rfl rfl (qc (qd ?_)))))
 refine qC (p := (k : Int) < (fs.length : Int)) rfl (fun h3 => ?_) (fun h3 => ?_)
 ·refine qz (qd (qH (qd (qb (qg (ii ((k : Int))) rfl (cX (qt k qf qq rfl rfl rfl hfs.slv (by omega) (Nat.mul_one _) (cX (qj qP rfl (hfs.rd (by omega)) (qh (ii ((k : Int))) rfl (qh (ii (fs.getD k 0)) rfl (qc (qd (qb (qg (ii (fs.getD k 0)) rfl (cX (qQ rfl rfl (qg (.bool (decide ((fs.getD k 0 : Int) < 0))) rfl ?_))))))))))))))))))
  by_cases h4 : (fs.getD k 0 : Int) < 0
  ·refine qp (t := 25) rfl (vT h4) (qp (t := 25) rfl (vT h4) (qp (t := 25) rfl (vT h4) (qp (t := 25) rfl (vT h4) (qp (t := 25) rfl (vT h4) (qp (t := 25) rfl (vT h4) (cX (qO (.bool (true)) (vT h4) rfl (qg (.bool (true)) rfl (qp (t := 33) rfl rfl (qp (t := 33) rfl rfl ?_))))))))))
   refine qp (t := 33) rfl rfl (XL.noU (t := 36) rfl rfl (XL.noU (t := 36) rfl rfl (XL.noU (t := 36) rfl rfl (XL.noU (t := 36) rfl rfl (XL.noU (t := 36) rfl rfl (XL.noU (t := 36) rfl rfl (XL.noU (t := 36) rfl rfl (XL.noU (t := 36) rfl rfl (qp (t := 33) rfl rfl ?_)))))))))
   refine cX (qO (.bool (true)) rfl rfl (qc (jA rfl (qd (qb (qh (.bool (false)) rfl (qc (qw (qD (ql (ql (qD (ql (qr (L' := L) [.bool (false)] (.bool (false)) (.tmp rfl .nil) rfl rF rF (sD sR) ?_))))))))))))))
   exact ⟨(vB (front_no (fun h9 => by have h8 := set_iff.1 h9.2.1 k (by omega); omega))), rfl, rfl⟩
  refine qo (t := 25) rfl (vF h4) (qm (ii (fs.getD k 0)) rfl (qo (t := 25) rfl (vF h4) (qk (0) qy rfl qJ (by decide) rfl rfl (qo (t := 25) rfl (vF h4) (qk (0) ji rfl qA (by decide) rfl rfl (qo (t := 25) rfl (vF h4) (qj qU rfl (Rd.own [] rfl rfl) (qo (t := 25) rfl (vF h4) (qE qf rfl har.slv (qo (t := 25) rfl (vF h4) (jP rfl rfl (cX (qN (.bool (decide ((fs.getD k 0 : Int) ≥ (ar.length : Int)))) (vF h4) rfl (qg (.bool (decide ((fs.getD k 0 : Int) ≥ (ar.length : Int)))) rfl ?_))))))))))))))
  by_cases h5 : (fs.getD k 0 : Int) ≥ (ar.length : Int)
  ·refine qp (t := 33) rfl (vT h5) (qp (t := 33) rfl (vT h5) (qp (t := 33) rfl (vT h5) (XL.noU (t := 36) rfl rfl (XL.noU (t := 36) rfl rfl (XL.noU (t := 36) rfl rfl (XL.noU (t := 36) rfl rfl (XL.noU (t := 36) rfl rfl (XL.noU (t := 36) rfl rfl (XL.noU (t := 36) rfl rfl ?_)))))))))
   refine XL.noU (t := 36) rfl rfl (qp (t := 33) rfl (vT h5) (cX (qO (.bool (true)) (vT h5) rfl (qc (jA rfl (qd (qb (qh (.bool (false)) rfl (qc (qw (qD (ql (ql (qD (ql (qr (L' := L) [.bool (false)] (.bool (false)) (.tmp rfl .nil) rfl rF rF (sD sR) ?_))))))))))))))))
   exact ⟨(vB (front_no (fun h9 => by have h8 := set_iff.1 h9.2.1 k (by omega); omega))), rfl, rfl⟩
  refine qo (t := 33) rfl (vF h5) (qm (ii ((k : Int))) rfl (qo (t := 33) rfl (vF h5) (jG rfl rfl (qo (t := 33) rfl (vF h5) (qm (.bool (decide ((k : Int) > 0))) rfl ?_)))))
  by_cases h6 : (k : Int) > 0
  ·refine qo (t := 36) rfl (vT h6) (qm (ii (fs.getD k 0)) rfl (qo (t := 36) rfl (vT h6) (qk (1) qy rfl qA (by decide) rfl rfl (qo (t := 36) rfl (vT h6) (qj qU rfl (Rd.own [] rfl rfl) (qo (t := 36) rfl (vT h6) (qm (ii ((k : Int))) rfl (qo (t := 36) rfl (vT h6) (je (((k : Int)) - 1) rfl rfl (by omega) (by omega) (qo (t := 36) rfl (vT h6) (qt ((((k : Int)) - 1).toNat) qf qq rfl rfl (by omega) hfs.slv (by omega) (Nat.mul_one _) (qo (t := 36) rfl (vT h6) (qj qP rfl (hfs.rd (by omega)) (qo (t := 36) rfl (vT h6) (XOp.leq rfl rfl (qo (t := 33) rfl (vF h5) (qO (.bool (decide ((fs.getD k 0 : Int) ≤ fs.getD ((((k : Int)) - 1).toNat) 0))) (vT h6) rfl (cX (qN (.bool (decide ((fs.getD k 0 : Int) ≤ fs.getD ((((k : Int)) - 1).toNat) 0))) (vF h5) rfl ?_)))))))))))))))))))
   refine qc ?_
   refine qC (p := (fs.getD k 0 : Int) ≤ fs.getD ((((k : Int)) - 1).toNat) 0) rfl (fun h7 => ?_) (fun h7 => ?_)
   ·refine qd (qb (qh (.bool (false)) rfl (qc (qw (qD (ql (ql (qD (ql (qr (L' := L) [.bool (false)] (.bool (false)) (.tmp rfl .nil) rfl rF rF (sD sR) ?_))))))))))
    exact ⟨(vB (front_no (fun h9 => by have h8 := set_iff.1 h9.2.1 k (by omega); omega))), rfl, rfl⟩
   refine qz (qb (cX (qK (((k + 1 : Nat) : Int)) rfl rfl (by omega) (by omega) (qg (ii (((k + 1 : Nat) : Int))) rfl (qc ?_)))))
   exact ⟨k + 1, _, FLe.refl _, rF, ⟨rfl, rfl, rfl, rfl, ⟨⟩⟩, (sC sR), ⟨rfl, (by (try dsimp only) <;> omega), (fun i hi => (Nat.lt_or_ge i k).elim (fun h => hall i h) (fun h => by obtain rfl : i = k := (by omega); omega))⟩, (by omega)⟩
  refine qp (t := 36) rfl (vF h6) (qp (t := 36) rfl (vF h6) (qp (t := 36) rfl (vF h6) (qp (t := 36) rfl (vF h6) (qp (t := 36) rfl (vF h6) (qp (t := 36) rfl (vF h6) (qp (t := 36) rfl (vF h6) (qp (t := 36) rfl (vF h6) (qo (t := 33) rfl (vF h5) (qN (.bool (false)) (vF h6) rfl (cX (qN (.bool (false)) (vF h5) rfl ?_)))))))))))
  refine qc (jO rfl (qz (qb (cX (qK (((k + 1 : Nat) : Int)) rfl rfl (by omega) (by omega) (qg (ii (((k + 1 : Nat) : Int))) rfl (qc ?_)))))))
  exact ⟨k + 1, _, FLe.refl _, rF, ⟨rfl, rfl, rfl, rfl, ⟨⟩⟩, (sC sR), ⟨rfl, (by (try dsimp only) <;> omega), (fun i hi => (Nat.lt_or_ge i k).elim (fun h => hall i h) (fun h => by obtain rfl : i = k := (by omega); omega))⟩, (by omega)⟩
 refine jg (qv (qv (qM (qd (qb ?_)))))
 have hst : setB fs ar.length = true := set_iff.2 (fun i hi => hall i (by omega))
 have hset : ∀ n ∈ fs, 0 ≤ n ∧ n < (ar.length : Int) := fun n hn => set_mem hst hn
 refine cX (qk (2) qy rfl jm (by decide) rfl rfl (cX (qj jE rfl (Rd.own [] rfl rfl) (cX (XOp.makeFuncL [] [ptr b1 0] rfl rfl (XL.freeze [] _ _ rfl (fun F1 le1 hz1 => ?_)))))))
 replace har := har.mono le1
 replace hfs := hfs.mono le1
 replace hls := hls.mono le1
 have hf1 : FzC F1 b1 [arv, fsv, lsv] := Fz.cells hz1
 refine cX (qn (args := [lsv, .func (.func 160) #[] #[ptr b1 0]]) call159 rfl (ContainsFuncL_spec hls har hfs hls hf1 (hlx := (hll)) (hsig := (by first | assumption | rfl | omega | simp)) (hset := (by first | assumption | rfl | omega | simp)) (hlf := (by first | assumption | rfl | omega | simp)) (hbd := (hlb))) ?_)
 rintro _ _ _ _ ⟨rfl, rfl, rfl⟩
 refine cX (jY rfl (qh (.bool (decide (¬(badG (lineB ar fs) ls ≥ 0)))) rfl (qc (qw (qr (L' := L) [.bool (decide (¬(badG (lineB ar fs) ls ≥ 0)))] (.bool (decide (¬(badG (lineB ar fs) ls ≥ 0)))) (.tmp rfl .nil) rfl rF le1 sR ?_)))))
 exact ⟨(vB (by rw [front_lines hsig hst (by omega)]; have hb := badG_iff (q := lineB ar fs) (l := ls); cases hA : ls.all (lineB ar fs) <;> simp_all <;> omega)), rfl, rfl⟩

/- spec.FrontOk -/
set_option maxHeartbeats 1000000 in
set_option maxRecDepth 20000 in
theorem sFrontOk_spec {F : FH} {L : List HP} {arv : Value} {ar : List Int} (har : IntsF F arv ar) {fsv : Value} {fs : List Int} (hfs : IntsF F fsv fs) {lsv : Value} {ls : List LineT} (hls : LinesF F lsv ls) (hla : ar.length ≤ 4000000) (hlf : fs.length ≤ 4000000) (hll : ls.length ≤ 4000000) (hlb : ∀ i, i < ls.length → (ls.getD i (0, [], [])).2.1.length ≤ 4000000 ∧ (∀ j, j < (ls.getD i (0, [], [])).2.1.length → ((ls.getD i (0, [], [])).2.1.getD j []).length ≤ 4000000) ∧ (ls.getD i (0, [], [])).2.2.length ≤ 4000000) :
    Does prog 58 [.agg #[arv, fsv, lsv]] F (L) (fun v F' L' => (.bool (frontB ar fs ls) : Value) = v ∧ F = F' ∧ L = L') := by
 refine qG func58 rfl rfl rfl (qd (qb (cX (jb [arv, fsv, lsv] rfl rfl ?_))))
 intro b1
 refine qh (.bool (false)) rfl (qc (qd (qd (qb (cX (qk (0) qy rfl qJ (by decide) rfl rfl (cX (qu [arv] jf qJ rfl rfl (Rd.ownN [] rfl rfl) (cX (qn (args := [.agg #[arv]]) call120 rfl (sSigOk_spec har (hla := (by first | assumption | rfl | omega | simp))) ?_))))))))))
 rintro _ _ _ _ ⟨rfl, rfl, rfl⟩
 refine cX (jt rfl (qg (.bool (!(sigOk ar))) rfl ?_))
 by_cases h1 : (!(sigOk ar)) = true
 ·have hsig := Bool.not_inj (y := false) h1
  refine qp (t := 8) rfl (vB h1) (qp (t := 8) rfl (vB h1) (qp (t := 8) rfl (vB h1) (qp (t := 8) rfl (vB h1) (qp (t := 8) rfl (vB h1) (qp (t := 8) rfl (vB h1) (qp (t := 8) rfl (vB h1) (qp (t := 8) rfl (vB h1) (cX (qO (.bool (true)) (vB h1) rfl (qg (.bool (true)) rfl ?_))))))))))
  refine qp (t := 18) rfl rfl (qp (t := 18) rfl rfl (qp (t := 18) rfl rfl (qp (t := 18) rfl rfl (cX (qO (.bool (true)) rfl rfl (qc (jA rfl (qd (qb (qh (.bool (false)) rfl (qc ?_)))))))))))
  refine qw (ql (qr (L' := L) [.bool (false)] (.bool (false)) (.tmp rfl .nil) rfl rF rF (sD sR) ?_))
  exact ⟨(vB (front_no (fun h9 => by first | exact absurd (h9.1.symm.trans hsig) (by decide) | exact absurd (h9.2.1.symm.trans hst) (by decide) | (have h8 := h9.2.2.1; omega)))), rfl, rfl⟩
 rw [Bool.not_eq_true] at h1
 have hsig := Bool.not_inj (y := true) h1
 refine qo (t := 8) rfl (vB h1) (qk (1) qy rfl qA (by decide) rfl rfl (qo (t := 8) rfl (vB h1) (qj qU rfl (Rd.own [] rfl rfl) (qo (t := 8) rfl (vB h1) (qk (0) qy rfl qJ (by decide) rfl rfl (qo (t := 8) rfl (vB h1) (qk (0) ji rfl qA (by decide) rfl rfl (qo (t := 8) rfl (vB h1) (qj qU rfl (Rd.own [] rfl rfl) (qo (t := 8) rfl (vB h1) (qE qf rfl har.slv (qo (t := 8) rfl (vB h1) (qn (args := [fsv, ii ((ar.length : Int))]) call156 rfl (l23Set_spec (n := (ar.length : Int)) hfs (hlf := (by first | assumption | rfl | omega | simp)) (hn := (by first | assumption | rfl | omega | simp))) ?_)))))))))))))
 rintro _ _ _ _ ⟨rfl, rfl, rfl⟩
 refine qo (t := 8) rfl (vB h1) (jt rfl (cX (qN (.bool (!(setB fs ((ar.length : Int))))) (vB h1) rfl (qg (.bool (!(setB fs ((ar.length : Int))))) rfl ?_))))
 by_cases h2 : (!(setB fs ((ar.length : Int)))) = true
 ·have hst := Bool.not_inj (y := false) h2
  refine qp (t := 18) rfl (vB h2) (qp (t := 18) rfl (vB h2) (qp (t := 18) rfl (vB h2) (qp (t := 18) rfl (vB h2) (cX (qO (.bool (true)) (vB h2) rfl (qc (jA rfl (qd (qb (qh (.bool (false)) rfl (qc ?_)))))))))))
  refine qw (ql (qr (L' := L) [.bool (false)] (.bool (false)) (.tmp rfl .nil) rfl rF rF (sD sR) ?_))
  exact ⟨(vB (front_no (fun h9 => by first | exact absurd (h9.1.symm.trans hsig) (by decide) | exact absurd (h9.2.1.symm.trans hst) (by decide) | (have h8 := h9.2.2.1; omega)))), rfl, rfl⟩
 rw [Bool.not_eq_true] at h2
 have hst := Bool.not_inj (y := true) h2
 have hset : ∀ n ∈ fs, 0 ≤ n ∧ n < (ar.length : Int) := fun n hn => set_mem hst hn
 refine qo (t := 18) rfl (vB h2) (qk (2) qy rfl jm (by decide) rfl rfl (qo (t := 18) rfl (vB h2) (qj jE rfl (Rd.own [] rfl rfl) (qo (t := 18) rfl (vB h2) (qE qS rfl hls.slv (qo (t := 18) rfl (vB h2) (jG rfl rfl (cX (qN (.bool (decide (((ls.length : Int) : Int) > 8))) (vB h2) rfl (qc ?_))))))))))
 refine qC (p := ((ls.length : Int) : Int) > 8) rfl (fun h3 => ?_) (fun h3 => ?_)
 ·have hl8 := h3
  refine qd (qb (qh (.bool (false)) rfl (qc (qw (ql (qr (L' := L) [.bool (false)] (.bool (false)) (.tmp rfl .nil) rfl rF rF (sD sR) ?_))))))
  exact ⟨(vB (front_no (fun h9 => by first | exact absurd (h9.1.symm.trans hsig) (by decide) | exact absurd (h9.2.1.symm.trans hst) (by decide) | (have h8 := h9.2.2.1; omega)))), rfl, rfl⟩
 have hl8 := h3
 refine qz (qd (qd (qb (qh (ii (0)) rfl (qc (qH (jn (α := Nat × FH) (fun xQ => [(1, ptr b1 0), (3, ii (((xQ.1 : Nat) : Int)))]) (fun xQ => cellsH b1 [arv, fsv, lsv] 108 :: L) (fun xQ F' => xQ.2 = F' ∧ F ≤ xQ.2 ∧ (xQ.1 ≤ ls.length) ∧ (∀ i, i < xQ.1 → lineB ar fs (ls.getD i (0, [], [])) = true)) (fun xQ => ls.length - xQ.1) (0, F) ⟨rfl, rfl, ⟨⟩⟩ (sC sR) ⟨rfl, FLe.refl _, (by (try dsimp only) <;> omega), (fun i hi => absurd hi (by omega))⟩ ?_)))))))
 rintro ⟨k, G1⟩ rE _ _ ⟨rfl, leG, hk, hall⟩
 show X _ _ _ _ (envs [(1, ptr b1 0), (3, ii ((k : Int)))] rE) _ (cellsH b1 [arv, fsv, lsv] 108 :: L)
 replace leG : F ≤ G1 := leG
 dsimp only at hk hall
 have leG1 := leG
 replace har := har.mono leG1
 replace hfs := hfs.mono leG1
 replace hls := hls.mono leG1
 refine qd (qd (qb (qg (ii ((k : Int))) rfl (cX (qk (2) qy rfl jm (by decide) rfl rfl (cX (qj jE rfl (Rd.own [] rfl rfl) (cX (qE qS rfl hls.slv (cX (qQ rfl rfl (qc ?_))))))))))))
 refine qC (p := (k : Int) < (ls.length : Int)) rfl (fun h4 => ?_) (fun h4 => ?_)
 ·refine qz (qd (qH (qd ?_)))
  obtain ⟨a1, a2, ha1, ha2, hrg1, hq1⟩ := hls.rd (i := k) (by omega)
  refine jx [cellsH b1 [arv, fsv, lsv] 108] L 6 [] [[], [], [1], [], [2, 3], [4]] (phiL [qe (.agg #[arv, fsv, lsv]), qe (ptr b1 2), qe lsv, qe (ii ((k : Int)) : Value), qe (.pointer (some (elemA lsv (k * 3)))), qe (.agg #[ii ((ls.getD k (0, [], [])).1), a1, a2])]) (ownL []) mixed rfl rfl (by kernel_rfl) ?_ ?_
  ·refine pD (fun W R z9 => ?_) ?_
   ·refine qi (qu [arv, fsv, lsv] jj qT rfl rfl (Rd.ownN [] rfl rfl) ?_)
    exact ⟨rfl, rfl, rfl⟩
   refine pD (fun W R z9 => ?_) ?_
   ·refine qi (qk (2) qy rfl jm (by decide) rfl rfl ?_)
    exact ⟨rfl, rfl, rfl⟩
   refine pD (fun W R z9 => ?_) ?_
   ·rw [zA 1 (z9 1 rfl)]
    refine qi (qj jE rfl (Rd.own [] rfl rfl) ?_)
    exact ⟨rfl, rfl, rfl⟩
   refine pD (fun W R z9 => ?_) ?_
   ·refine qi (qm (ii ((k : Int))) rfl ?_)
    exact ⟨rfl, rfl, rfl⟩
   refine pD (fun W R z9 => ?_) ?_
   ·rw [zB 2 3 (z9 2 rfl) (z9 3 rfl)]
    refine qi (qt k qS jl rfl rfl rfl hls.slv (by omega) rfl ?_)
    exact ⟨rfl, rfl, rfl⟩
   refine pD (fun W R z9 => ?_) ?_
   ·rw [zA 4 (z9 4 rfl)]
    refine qi (qu [ii ((ls.getD k (0, [], [])).1), a1, a2] jW jl rfl rfl (Rd.all (hrg1 _)) ?_)
    exact ⟨rfl, rfl, rfl⟩
   exact stepsP.nil
  intro W hphi
  rw [zB 0 5 (hphi 0 (by decide)) (hphi 5 (by decide))]
  show XL _ _ _ _ _ _ _ (cellsH b1 [arv, fsv, lsv] 108 :: L)
  refine cX (qn (args := [.agg #[arv, fsv, lsv], .agg #[ii ((ls.getD k (0, [], [])).1), a1, a2]]) call157 rfl (l26Line_spec har hfs hls ha1 ha2 (hsig := (by first | assumption | rfl | omega | simp)) (hset := (by first | assumption | rfl | omega | simp)) (hlf := (by first | assumption | rfl | omega | simp)) (hpl := ((hlb k (by omega)).1)) (hpz := ((hlb k (by omega)).2.1)) (hbl := ((hlb k (by omega)).2.2)) (hla := (by first | assumption | rfl | omega | simp))) ?_)
  rintro _ _ _ _ ⟨rfl, rfl, rfl⟩
  refine cX (jt rfl (qc ?_))
  refine jF (t := !(lineB ar fs (((ls.getD k (0, [], [])).1), ((ls.getD k (0, [], [])).2.1), ((ls.getD k (0, [], [])).2.2)))) rfl (fun h5 => ?_) (fun h5 => ?_)
  ·have hlk := Bool.not_inj (y := false) h5
   refine qd (qb (qh (.bool (false)) rfl (qc (qw (qD (ql (ql (qD (ql (qr (L' := L) [.bool (false)] (.bool (false)) (.tmp rfl .nil) rfl rF leG1 (sD sR) ?_))))))))))
   exact ⟨(vB (by rw [front_lines hsig hst (by omega)]; exact all_fail ((0, [], []) : LineT) (k := k) (by omega) hlk)), rfl, rfl⟩
  have hlk := Bool.not_inj (y := true) h5
  refine qz (qb (qg (ii ((k : Int))) rfl (cX (qK (((k + 1 : Nat) : Int)) rfl rfl (by omega) (by omega) (qh (ii (((k + 1 : Nat) : Int))) rfl (qc ?_))))))
  exact ⟨(k + 1, G1), _, leG1, rF, ⟨rfl, rfl, ⟨⟩⟩, (sC sR), ⟨rfl, leG1, (by (try dsimp only) <;> omega), (fun i hi => (Nat.lt_or_ge i k).elim (fun h => hall i h) (fun h => by obtain rfl : i = k := (by omega); exact hlk))⟩, (by omega)⟩
 refine jg (qv (qv (qM (qd (qb (qh (.bool (true)) rfl (qc (qw (qr (L' := L) [.bool (true)] (.bool (true)) (.tmp rfl .nil) rfl rF leG1 (sD sR) ?_)))))))))
 exact ⟨(vB (by rw [front_lines hsig hst (by omega), all_getD_iff ((0, [], []) : LineT)]; exact fun i hi => hall i (by omega))), rfl, rfl⟩
end Go.Proofs.YtjpfankibmeaaaaGreat
