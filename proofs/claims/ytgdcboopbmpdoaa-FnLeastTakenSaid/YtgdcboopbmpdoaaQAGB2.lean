/-
  Walks, one after the other (part 3).
-/
import Derived.Test.YtgdcboopbmpdoaaQAGL1
import Derived.Test.YtgdcboopbmpdoaaQAGB1
import Derived.Test.YtgdcboopbmpdoaaQAGB0
set_option linter.unusedSimpArgs false
set_option linter.unusedVariables false
namespace Go.Proofs.Ytgdcboopbmpdoaa
open Go X M Try

/- spec.l1Into -/
theorem l1IntoM_spec {F : FH} {L : List HP} {xsv : Value} {xs : List Int} (hxs : IntsF F xsv xs) {n : Int} (hlx : xs.length ≤ 1000) :
    Does prog 76 [xsv, ii (n)] F (L) (fun v F' L' => ∃ (a : Value), ∃ (os : List Int), (a : Value) = v ∧ (IntsF F' a os) ∧ (∀ x, x ∈ os ↔ x ∈ xs ∨ x = n) ∧ (os.length ≤ xs.length + 1) ∧ L = L') := by
 refine qO func76 rfl rfl rfl (qc (qa (qg (sN) rfl (qb (qc (qa (qg (ii (0)) rfl (qb (qc (qF (jg (α := Nat) (fun k => [(0, xsv), (1, ii (n)), (5, ii ((k : Int)))]) (fun k => L) (fun k F' => F = F' ∧ (k ≤ xs.length)) (fun k => xs.length - k) 0 ⟨rfl, rfl, rfl, ⟨⟩⟩ sR ⟨rfl, (Nat.zero_le _)⟩ ?_)))))))))))
 rintro k rE _ _ ⟨rfl, hk⟩
 show X _ _ _ _ (envs [(0, xsv), (1, ii (n)), (5, ii ((k : Int)))] rE) _ (L)
 refine qc (qc (qa (qd (ii ((k : Int))) rfl (qd (xsv) rfl (cX (qG qf rfl hxs.slv (cX (qV rfl rfl (qd (.bool (decide ((k : Int) < (xs.length : Int)))) rfl ?_)))))))))
 by_cases h1 : (k : Int) < (xs.length : Int)
 ·refine qo (t := 11) rfl (vT h1) (qk (xsv) rfl (qo (t := 11) rfl (vT h1) (qk (ii ((k : Int))) rfl (qo (t := 11) rfl (vT h1) (qy k qf qr rfl rfl rfl hxs.slv (by omega) (Nat.mul_one _) (qo (t := 11) rfl (vT h1) (qi qM rfl (hxs.rd (by omega)) (qo (t := 11) rfl (vT h1) (qk (ii (n)) rfl (qo (t := 11) rfl (vT h1) (qV rfl rfl (cX (qL (.bool (decide ((xs.getD k 0 : Int) < n))) (vT h1) rfl (qb ?_))))))))))))))
  refine qE (p := (xs.getD k 0 : Int) < n) rfl (fun h2 => ?_) (fun h2 => ?_)
  ·refine qx (qF (qa (qd (ii ((k : Int))) rfl (cX (qD (((k + 1 : Nat) : Int)) rfl rfl (by omega) (by omega) (qg (ii (((k + 1 : Nat) : Int))) rfl (qb ?_)))))))
   exact ⟨k + 1, _, FLe.refl _, rF, ⟨rfl, rfl, rfl, ⟨⟩⟩, sR, ⟨rfl, (by (try dsimp only) <;> omega)⟩, (by omega)⟩
  refine jd (qp (qp (qJ (qc (qc (qa (qd (ii ((k : Int))) rfl (qd (xsv) rfl (cX (qG qf rfl hxs.slv (cX (qV rfl rfl (qd (.bool (decide ((k : Int) < (xs.length : Int)))) rfl (qo (t := 25) rfl (vT h1) (qk (xsv) rfl (qo (t := 25) rfl (vT h1) (qk (ii ((k : Int))) rfl (qo (t := 25) rfl (vT h1) (qy k qf qr rfl rfl rfl hxs.slv (by omega) (Nat.mul_one _) ?_)))))))))))))))))))
  refine qo (t := 25) rfl (vT h1) (qi qM rfl (hxs.rd (by omega)) (qo (t := 25) rfl (vT h1) (qk (ii (n)) rfl (qo (t := 25) rfl (vT h1) (jp rfl rfl (cX (qL (.bool (decide ((xs.getD k 0 : Int) = n))) (vT h1) rfl (qb ?_))))))))
  refine qE (p := (xs.getD k 0 : Int) = n) rfl (fun h3 => ?_) (fun h3 => ?_)
  ·have heq := h3
   refine qc (qa (qd (xsv) rfl (qg (xsv) rfl (qb (qC (qn (qv (L' := L) [xsv] (xsv) (.tmp rfl .nil) rfl rF rF sR ?_)))))))
   exact ⟨_, _, rfl, hxs, fun x => ⟨fun h => .inl h, fun h => h.elim id (fun e => by rw [e, ← heq]; rw [List.getD_eq_getElem?_getD, List.getElem?_eq_getElem (by omega)]; exact List.getElem_mem _)⟩, by omega, rfl⟩
  refine qx (qc (qa (qd (xsv) rfl (qd (ii ((k : Int))) rfl (cX (XOp.sliceI 0 k qf qr rfl hxs rfl ⟨_, rfl⟩ (by omega) (by omega) ?_))))))
  intro v1 hv1 hn1
  refine cX (qq (args := [v1]) call31 rfl (l1Copy_spec hv1 (hlt := (by simp; omega))) ?_)
  rintro v2 _ _ _ ⟨rfl, hs1, rfl⟩
  refine qd (ii (n)) rfl (cX (qP (s := 1) [ii (n)] [ii (0)] [(0, [ii (n)])] qf qr jm rfl (by decide) rfl (.cons rfl CellsAre.nil) rfl ?_))
  intro v3 hv2
  refine cX (jL (u := n) [_] _ qf typeInfo2 rfl rfl rfl rfl rfl rfl (SlV.own [] rfl) (Rd.sl [] rfl rfl) (by (try simp only [List.length_append, List.length_nil, List.length_cons, List.length_singleton, List.length_take, List.length_drop]); omega) ?_)
  intro v4 hs2 hn2
  refine qg (v4) rfl (qb (qc (qa (qd (v4) rfl (qd (xsv) rfl (qd (ii ((k : Int))) rfl (cX (XOp.sliceI k ((xs).length) qf qr rfl hxs ⟨_, rfl⟩ rfl (by omega) (by omega) ?_))))))))
  intro v5 hv3 hn3
  refine cX (XOp.appendI [_] _ qf typeInfo2 rfl rfl rfl rfl rfl rfl hv3 (by (try simp only [List.length_append, List.length_nil, List.length_cons, List.length_singleton, List.length_take, List.length_drop]); omega) ?_)
  intro v6 hs3 hn4 hm1
  refine qg (v6) rfl (qb (jf [_] _ _ rfl (fun F1 le1 hz1 => ?_)))
  replace hxs := hxs.mono le1
  have hf1 : IntsF F1 v6 (((((((xs.drop 0).take (k - 0))))) ++ [n]) ++ (((xs.drop k).take (((xs).length) - k)))) := intsH.fz (xs := ((((((xs.drop 0).take (k - 0))))) ++ [n]) ++ (((xs.drop k).take (((xs).length) - k)))) hz1.fz
  refine qC (qv (L' := L) [v6] (v6) (.tmp rfl .nil) rfl le1 rF (sD sR) ?_)
  exact ⟨_, _, rfl, hf1, fun x => by rw [show List.take (xs.length - k) (List.drop k xs) = List.drop k xs from List.take_of_length_le (by rw [List.length_drop]; omega)]; simp only [Nat.sub_zero, List.drop_zero]; exact into_mem, by simp only [List.length_append, List.length_take, List.length_drop, List.length_singleton]; omega, rfl⟩
 refine qm (t := 11) rfl (vF h1) (qm (t := 11) rfl (vF h1) (qm (t := 11) rfl (vF h1) (qm (t := 11) rfl (vF h1) (qm (t := 11) rfl (vF h1) (qm (t := 11) rfl (vF h1) (cX (qQ (.bool (false)) (vF h1) rfl (qb (jG rfl (jd (qp (qp (qJ ?_)))))))))))))
 refine qc (qc (qa (qd (ii ((k : Int))) rfl (qd (xsv) rfl (cX (qG qf rfl hxs.slv (cX (qV rfl rfl (qd (.bool (decide ((k : Int) < (xs.length : Int)))) rfl (qm (t := 25) rfl (vF h1) (qm (t := 25) rfl (vF h1) (qm (t := 25) rfl (vF h1) (qm (t := 25) rfl (vF h1) ?_)))))))))))))
 refine qm (t := 25) rfl (vF h1) (qm (t := 25) rfl (vF h1) (cX (qQ (.bool (false)) (vF h1) rfl (qb (jG rfl (qx (qc (qa (qd (xsv) rfl (qd (ii ((k : Int))) rfl (cX (XOp.sliceI 0 k qf qr rfl hxs rfl ⟨_, rfl⟩ (by omega) (by omega) ?_))))))))))))
 intro v7 hv4 hn5
 refine cX (qq (args := [v7]) call31 rfl (l1Copy_spec hv4 (hlt := (by simp; omega))) ?_)
 rintro v8 _ _ _ ⟨rfl, hs4, rfl⟩
 refine qd (ii (n)) rfl (cX (qP (s := 1) [ii (n)] [ii (0)] [(0, [ii (n)])] qf qr jm rfl (by decide) rfl (.cons rfl CellsAre.nil) rfl ?_))
 intro v9 hv5
 refine cX (jL (u := n) [_] _ qf typeInfo2 rfl rfl rfl rfl rfl rfl (SlV.own [] rfl) (Rd.sl [] rfl rfl) (by (try simp only [List.length_append, List.length_nil, List.length_cons, List.length_singleton, List.length_take, List.length_drop]); omega) ?_)
 intro v10 hs5 hn6
 refine qg (v10) rfl (qb (qc (qa (qd (v10) rfl (qd (xsv) rfl (qd (ii ((k : Int))) rfl (cX (XOp.sliceI k ((xs).length) qf qr rfl hxs ⟨_, rfl⟩ rfl (by omega) (by omega) ?_))))))))
 intro v11 hv6 hn7
 refine cX (XOp.appendI [_] _ qf typeInfo2 rfl rfl rfl rfl rfl rfl hv6 (by (try simp only [List.length_append, List.length_nil, List.length_cons, List.length_singleton, List.length_take, List.length_drop]); omega) ?_)
 intro v12 hs6 hn8 hm2
 refine qg (v12) rfl (qb (jf [_] _ _ rfl (fun F2 le2 hz2 => ?_)))
 have hf2 : IntsF F2 v12 (((((((xs.drop 0).take (k - 0))))) ++ [n]) ++ (((xs.drop k).take (((xs).length) - k)))) := intsH.fz (xs := ((((((xs.drop 0).take (k - 0))))) ++ [n]) ++ (((xs.drop k).take (((xs).length) - k)))) hz2.fz
 refine qC (qv (L' := L) [v12] (v12) (.tmp rfl .nil) rfl le2 rF (sD sR) ?_)
 exact ⟨_, _, rfl, hf2, fun x => by rw [show List.take (xs.length - k) (List.drop k xs) = List.drop k xs from List.take_of_length_le (by rw [List.length_drop]; omega)]; simp only [Nat.sub_zero, List.drop_zero]; exact into_mem, by simp only [List.length_append, List.length_take, List.length_drop, List.length_singleton]; omega, rfl⟩

/- spec.l23Image -/
set_option maxRecDepth 20000 in
theorem l23Image_spec {F : FH} {L : List HP} {n : Int} {rsv : Value} {rs : List TranT} (hrs : TransF F rsv rs) {fiv : Value} {fi : List Int} (hfi : IntsF F fiv fi) {f : Int} {ssv : Value} {ss : List (List Int)} (hss : RowsF F ssv ss) (hA9 : ∃ ar, AutoOk ar n rs fi ∧ (ss.length : Int) = ar.getD f.toNat 0) (hsb : ∀ j, j < ss.length → (ss.getD j []).length ≤ 4000000) (hsl4 : ss.length ≤ 4000000) :
    Does prog 53 [.agg #[ii (n), rsv, fiv], ii (f), ssv] F (L) (fun v F' L' => ∃ (a : Value), ∃ (os : List Int), (a : Value) = v ∧ (IntsF F' a os) ∧ (∀ x, x ∈ os ↔ Leads rs f (fun y9 s9 => s9 ∈ ss.getD y9 []) x) ∧ (os.length ≤ 300) ∧ L = L') := by
 refine qO func53 rfl rfl rfl ?_
 obtain ⟨ar, hA, hsl⟩ := hA9
 have hfw := hA.few
 refine qc (qa (cX (ji [ii (n), rsv, fiv] rfl rfl ?_)))
 intro b1
 refine qg (sN) rfl (qb (qc (qa (cX (qP (s := 1) [] [ii (0)] [] qf qr jm rfl (by decide) rfl CellsAre.nil rfl ?_)))))
 intro v1 hv1
 refine qg (v1) rfl (qb (qc (qc (qa ?_))))
 show XL _ _ _ _ _ _ _ (intsH 2 v1 ([] : List Int) :: cellsH b1 [ii (n), rsv, fiv] 29 :: L)
 refine jz [] _ _ rfl (fun F1 le1 hz1 => ?_)
 replace hrs := hrs.mono le1
 replace hss := hss.mono le1
 have hf1 : IntsF F1 v1 ([]) := intsH.fz (xs := []) hz1.fz
 skip
 refine qg (ii (0)) rfl (qb (qF (jg (α := Nat × Value × List Int × FH) (fun xQ => [(1, ii (f)), (2, ssv), (3, ptr b1 0), (7, xQ.2.1), (8, ii (((xQ.1 : Nat) : Int)))]) (fun xQ => cellsH b1 [ii (n), rsv, fiv] 29 :: L) (fun xQ F' => xQ.2.2.2 = F' ∧ F1 ≤ xQ.2.2.2 ∧ (IntsF xQ.2.2.2 xQ.2.1 xQ.2.2.1) ∧ (xQ.1 ≤ rs.length) ∧ (xQ.2.2.1.length ≤ xQ.1) ∧ (∀ x, x ∈ xQ.2.2.1 ↔ LeadsTo rs f (fun y9 s9 => s9 ∈ ss.getD y9 []) xQ.1 x)) (fun xQ => rs.length - xQ.1) (0, v1, [], F1) ⟨rfl, rfl, rfl, rfl, rfl, ⟨⟩⟩ (sC sR) ⟨rfl, FLe.refl _, (hf1), (Nat.zero_le _), (Nat.le_refl _), (fun x => ⟨fun h => absurd h (by simp), fun ⟨i, hi, _⟩ => absurd hi (by omega)⟩)⟩ ?_)))
 rintro ⟨k, ov, os, G1⟩ rE _ _ ⟨rfl, leG, hov, hk, hol, hb⟩
 show X _ _ _ _ (envs [(1, ii (f)), (2, ssv), (3, ptr b1 0), (7, ov), (8, ii ((k : Int)))] rE) _ (cellsH b1 [ii (n), rsv, fiv] 29 :: L)
 replace leG : F1 ≤ G1 := leG
 dsimp only at hov hk hol hb
 have hTk := fun (h : k < rs.length) => hA.rule k h
 have hlk := fun (h : k < rs.length) => hA.argl h
 have leG1 := leG
 replace hrs := hrs.mono leG1
 replace hss := hss.mono leG1
 refine qc (qc (qa (qd (ii ((k : Int))) rfl (cX (ql (1) qA rfl jh (by decide) rfl rfl (cX (qi jo rfl (Rd.own [] rfl rfl) (cX (qG qR rfl hrs.slv (cX (qV rfl rfl (qb ?_))))))))))))
 refine qE (p := (k : Int) < (rs.length : Int)) rfl (fun h1 => ?_) (fun h1 => ?_)
 ·refine qx (qc (qF (qc (qa (cX (ql (1) qA rfl jh (by decide) rfl rfl (cX (qi jo rfl (Rd.own [] rfl rfl) (qd (ii ((k : Int))) rfl (cX (qy k qR jb rfl rfl rfl hrs.slv (by omega) rfl ?_)))))))))))
  obtain ⟨a1, ha1, hrg1, hq1⟩ := hrs.rd (i := k) (by omega)
  refine cX (qu [ii ((rs.getD k (0, [], 0)).1), a1, ii ((rs.getD k (0, [], 0)).2.2)] jD jb rfl rfl (Rd.all (hrg1 _)) (cX (jt [ii (0), sN, ii (0)] jF rfl ?_)))
  intro b2
  refine cX (qX [] _ [ii ((rs.getD k (0, [], 0)).1), a1, ii ((rs.getD k (0, [], 0)).2.2)] jb rfl rfl rfl (qt rfl (qt (qU (qS ha1)) (qt rfl qZ))) rfl rfl rfl (qb (qc (qa (cX (ql (0) qB rfl qr (by decide) rfl rfl (cX (qi qM rfl (Rd.own [] rfl rfl) (qd (ii (f)) rfl (cX (jp rfl rfl (qg (.bool (decide (((rs.getD k (0, [], 0)).1 : Int) = f))) rfl (qb (qc (qc (qa (qg (ii (0)) rfl (qb (qF ?_)))))))))))))))))))
  refine jg (α := Nat × Bool) (fun xQ => [(1, ii (f)), (2, ssv), (3, ptr b1 0), (7, ov), (8, ii ((k : Int))), (9, ptr b2 0), (10, .bool (xQ.2)), (11, ii (((xQ.1 : Nat) : Int)))]) (fun xQ => cellsH b2 [ii ((rs.getD k (0, [], 0)).1), a1, ii ((rs.getD k (0, [], 0)).2.2)] 68 :: cellsH b1 [ii (n), rsv, fiv] 29 :: L) (fun xQ F' => G1 = F' ∧ (xQ.1 ≤ ss.length) ∧ (xQ.2 = (decide ((rs.getD k (0, [], 0)).1 = f) && fitB (fun y9 s9 => decide (s9 ∈ ss.getD y9 [])) (rs.getD k (0, [], 0)).2.1 xQ.1))) (fun xQ => ss.length - xQ.1) (0, decide ((rs.getD k (0, [], 0)).1 = f)) ⟨rfl, rfl, rfl, rfl, rfl, rfl, rfl, rfl, ⟨⟩⟩ (sC (sC sR)) ⟨rfl, (by (try dsimp only) <;> omega), (by (try dsimp only); rw [show fitB (fun y9 s9 => decide (s9 ∈ ss.getD y9 [])) (rs.getD k (0, [], 0)).2.1 0 = true from rfl, Bool.and_true])⟩ ?_
  rintro ⟨j, b⟩ rE _ _ ⟨rfl, hj, hbf⟩
  show X _ _ _ _ (envs [(1, ii (f)), (2, ssv), (3, ptr b1 0), (7, ov), (8, ii ((k : Int))), (9, ptr b2 0), (10, .bool (b)), (11, ii ((j : Int)))] rE) _ (cellsH b2 [ii ((rs.getD k (0, [], 0)).1), a1, ii ((rs.getD k (0, [], 0)).2.2)] 68 :: cellsH b1 [ii (n), rsv, fiv] 29 :: L)
  dsimp only at hj hbf
  have hT9 := hTk (by omega)
  have hqj := hT9.arg j
  have hsj := hsb j
  have hsl9 : (rs.getD k (0, [], 0)).1 = f → ss.length = (rs.getD k (0, [], 0)).2.1.length := fun h8 => by have := hT9.args; rw [h8] at this; omega
  refine qc (qc (qa (qd (ii ((j : Int))) rfl (qd (ssv) rfl (cX (qG qz rfl hss.slv (cX (qV rfl rfl (qd (.bool (decide ((j : Int) < (ss.length : Int)))) rfl ?_)))))))))
  by_cases h2 : (j : Int) < (ss.length : Int)
  ·refine qo (t := 33) rfl (vT h2) (qk (.bool (b)) rfl (cX (qL (.bool (b)) (vT h2) rfl (qb ?_))))
   refine jr (t := b) rfl (fun h3 => ?_) (fun h3 => ?_)
   ·have hb9 : b = true := h3
    have hsy : (rs.getD k (0, [], 0)).1 = f := by have h8 := hbf; rw [hb9] at h8; have h7 := (Bool.and_eq_true _ _ ▸ h8.symm : _ ∧ _).1; exact of_decide_eq_true h7
    have hln9 := hsl9 hsy
    refine qx (qc (qF ?_))
    obtain ⟨a2, ha2, hr1⟩ := hss.rd (i := j) (by omega)
    refine jq [cellsH b2 [ii ((rs.getD k (0, [], 0)).1), a1, ii ((rs.getD k (0, [], 0)).2.2)] 68, cellsH b1 [ii (n), rsv, fiv] 29] L 9 [] [[], [], [0, 1], [2], [], [4], [], [5, 6], [7]] (phiL [qe ssv, qe (ii ((j : Int)) : Value), qe (.pointer (some (elemA ssv (j)))), qe a2, qe (ptr b2 1), qe a1, qe (ii ((j : Int)) : Value), qe (.pointer (some (elemA a1 (j)))), qe (ii (((rs.getD k (0, [], 0)).2.1).getD j 0))]) (ownL []) mixed rfl rfl (by kernel_rfl) ?_ ?_
    ·refine pD (fun W R z9 => ?_) ?_
     ·refine qh (qk (ssv) rfl ?_)
      exact ⟨rfl, rfl, rfl⟩
     refine pD (fun W R z9 => ?_) ?_
     ·refine qh (qk (ii ((j : Int))) rfl ?_)
      exact ⟨rfl, rfl, rfl⟩
     refine pD (fun W R z9 => ?_) ?_
     ·rw [zB 0 1 (z9 0 rfl) (z9 1 rfl)]
      refine qh (qy j qz qw rfl rfl rfl hss.slv (by omega) (Nat.mul_one _) ?_)
      exact ⟨rfl, rfl, rfl⟩
     refine pD (fun W R z9 => ?_) ?_
     ·rw [zA 2 (z9 2 rfl)]
      refine qh (qi qT rfl (hr1 _) ?_)
      exact ⟨rfl, rfl, rfl⟩
     refine pD (fun W R z9 => ?_) ?_
     ·refine qh (ql (1) qB rfl qw (by decide) rfl rfl ?_)
      exact ⟨rfl, rfl, rfl⟩
     refine pD (fun W R z9 => ?_) ?_
     ·rw [zA 4 (z9 4 rfl)]
      refine qh (qi qT rfl (Rd.own [] rfl rfl) ?_)
      exact ⟨rfl, rfl, rfl⟩
     refine pD (fun W R z9 => ?_) ?_
     ·refine qh (qk (ii ((j : Int))) rfl ?_)
      exact ⟨rfl, rfl, rfl⟩
     refine pD (fun W R z9 => ?_) ?_
     ·rw [zB 5 6 (z9 5 rfl) (z9 6 rfl)]
      refine qh (qy j qf qr rfl rfl rfl ha1.slv (by omega) (Nat.mul_one _) ?_)
      exact ⟨rfl, rfl, rfl⟩
     refine pD (fun W R z9 => ?_) ?_
     ·rw [zA 7 (z9 7 rfl)]
      refine qh (qi qM rfl (ha1.rd (by omega)) ?_)
      exact ⟨rfl, rfl, rfl⟩
     exact stepsP.nil
    intro W hphi
    rw [zB 3 8 (hphi 3 (by decide)) (hphi 8 (by decide))]
    show XL _ _ _ _ _ _ _ (cellsH b2 [ii ((rs.getD k (0, [], 0)).1), a1, ii ((rs.getD k (0, [], 0)).2.2)] 68 :: cellsH b1 [ii (n), rsv, fiv] 29 :: L)
    refine cX (qq (args := [a2, ii (((rs.getD k (0, [], 0)).2.1).getD j 0)]) call71 rfl (l1Has_spec (n := ((rs.getD k (0, [], 0)).2.1).getD j 0) ha2 (hbd := (by have := hsj (by omega); omega))) ?_)
    rintro _ _ _ _ ⟨rfl, rfl, rfl⟩
    refine qg (.bool (decide ((((rs.getD k (0, [], 0)).2.1).getD j 0) ∈ ((ss.getD j []))))) rfl (qb (qa (qd (ii ((j : Int))) rfl (cX (qD (((j + 1 : Nat) : Int)) rfl rfl (by omega) (by omega) (qg (ii (((j + 1 : Nat) : Int))) rfl (qb ?_)))))))
    exact ⟨(j + 1, decide ((((rs.getD k (0, [], 0)).2.1).getD j 0) ∈ ((ss.getD j [])))), _, FLe.refl _, rF, ⟨rfl, rfl, rfl, rfl, rfl, rfl, rfl, rfl, ⟨⟩⟩, (sC (sC sR)), ⟨rfl, (by (try dsimp only) <;> omega), (by (try dsimp only); rw [fitB_next, ← Bool.and_assoc, ← hbf, hb9, Bool.true_and])⟩, (by omega)⟩
   have hb9 : b = false := h3
   have hno9 : ¬ ((rs.getD k (0, [], 0)).1 = f ∧ ∀ y9, y9 < (rs.getD k (0, [], 0)).2.1.length → (fun y9 s9 => s9 ∈ ss.getD y9 []) y9 ((rs.getD k (0, [], 0)).2.1.getD y9 0)) := fun h9 => by have h8 : fitB (fun y9 s9 => decide (s9 ∈ ss.getD y9 [])) (rs.getD k (0, [], 0)).2.1 j = true := fitB_iff.2 (fun y9 hy => decide_eq_true (h9.2 y9 (by have := hsl9 h9.1; omega))); rw [hb9, decide_eq_true h9.1, h8] at hbf; cases hbf
   refine jd (qp (qp (qJ (qc (qa (qd (.bool (b)) rfl (qb (jG (vB h3) (qx (qa (qd (ii ((k : Int))) rfl (cX (qD (((k + 1 : Nat) : Int)) rfl rfl (by omega) (by omega) (qg (ii (((k + 1 : Nat) : Int))) rfl (qb ?_)))))))))))))))
   exact ⟨(k + 1, ov, os, G1), _, leG1, rF, ⟨rfl, rfl, rfl, rfl, rfl, ⟨⟩⟩, (sD (sC sR)), ⟨rfl, leG1, (hov), (by (try dsimp only) <;> omega), (by (try dsimp only); omega), (fun x => by first | exact (hr x).trans ((or_congr_left (hb x)).trans (LeadsTo.put hsy hft)) | exact (hb x).trans (LeadsTo.skip hno9))⟩, (by omega)⟩
  refine qm (t := 33) rfl (vF h2) (cX (qQ (.bool (false)) (vF h2) rfl (qb (jG rfl (jd (qp (qp (qJ (qc (qa (qd (.bool (b)) rfl (qb ?_))))))))))))
  refine jr (t := b) rfl (fun h4 => ?_) (fun h4 => ?_)
  ·have hb9 : b = true := h4
   have hsy : (rs.getD k (0, [], 0)).1 = f := by have h8 := hbf; rw [hb9] at h8; have h7 := (Bool.and_eq_true _ _ ▸ h8.symm : _ ∧ _).1; exact of_decide_eq_true h7
   have hln9 := hsl9 hsy
   have hft : ∀ y9, y9 < (rs.getD k (0, [], 0)).2.1.length → (fun y9 s9 => s9 ∈ ss.getD y9 []) y9 ((rs.getD k (0, [], 0)).2.1.getD y9 0) := fun y9 hy => by have h8 := hbf; rw [hb9] at h8; have h7 := (Bool.and_eq_true _ _ ▸ h8.symm : _ ∧ _).2; exact of_decide_eq_true (fitB_iff.1 h7 y9 (by omega))
   refine qa (qd (ov) rfl (cX (ql (2) qB rfl qr (by decide) rfl rfl (cX (qi qM rfl (Rd.own [] rfl rfl) (cX (qq (args := [ov, ii ((rs.getD k (0, [], 0)).2.2)]) call76 rfl (l1IntoM_spec (n := (rs.getD k (0, [], 0)).2.2) hov (hlx := (by first | assumption | rfl | omega | simp))) ?_)))))))
   rintro _ F2 _ le2 ⟨x1, x2, rfl, hr2, hr3, hr4, rfl⟩
   replace hov := hov.mono le2
   refine qg (x1) rfl (qb (qa (qd (ii ((k : Int))) rfl (cX (qD (((k + 1 : Nat) : Int)) rfl rfl (by omega) (by omega) (qg (ii (((k + 1 : Nat) : Int))) rfl (qb ?_)))))))
   exact ⟨(k + 1, x1, x2, F2), _, (qj leG1 le2), rF, ⟨rfl, rfl, rfl, rfl, rfl, ⟨⟩⟩, (sD (sC sR)), ⟨rfl, (qj leG1 le2), (hr2), (by (try dsimp only) <;> omega), (by (try dsimp only); omega), (fun x => by first | exact (hr3 x).trans ((or_congr_left (hb x)).trans (LeadsTo.put hsy hft)) | exact (hb x).trans (LeadsTo.skip hno9))⟩, (by omega)⟩
  have hb9 : b = false := h4
  have hno9 : ¬ ((rs.getD k (0, [], 0)).1 = f ∧ ∀ y9, y9 < (rs.getD k (0, [], 0)).2.1.length → (fun y9 s9 => s9 ∈ ss.getD y9 []) y9 ((rs.getD k (0, [], 0)).2.1.getD y9 0)) := fun h9 => by have h8 : fitB (fun y9 s9 => decide (s9 ∈ ss.getD y9 [])) (rs.getD k (0, [], 0)).2.1 j = true := fitB_iff.2 (fun y9 hy => decide_eq_true (h9.2 y9 (by have := hsl9 h9.1; omega))); rw [hb9, decide_eq_true h9.1, h8] at hbf; cases hbf
  refine qx (qa (qd (ii ((k : Int))) rfl (cX (qD (((k + 1 : Nat) : Int)) rfl rfl (by omega) (by omega) (qg (ii (((k + 1 : Nat) : Int))) rfl (qb ?_))))))
  exact ⟨(k + 1, ov, os, G1), _, leG1, rF, ⟨rfl, rfl, rfl, rfl, rfl, ⟨⟩⟩, (sD (sC sR)), ⟨rfl, leG1, (hov), (by (try dsimp only) <;> omega), (by (try dsimp only); omega), (fun x => by first | exact (hr3 x).trans ((or_congr_left (hb x)).trans (LeadsTo.put hsy hft)) | exact (hb x).trans (LeadsTo.skip hno9))⟩, (by omega)⟩
 refine jd (qp (qp (qJ (qc (qa (qd (ov) rfl (qg (ov) rfl (qb (qC (qv (L' := L) [ov] (ov) (.tmp rfl .nil) rfl (qj le1 leG1) rF (sD sR) ?_))))))))))
 exact ⟨_, _, rfl, hov, fun x => (hb x).trans ⟨fun ⟨i, hi, h⟩ => ⟨i, by omega, h⟩, fun ⟨i, hi, h⟩ => ⟨i, by omega, h⟩⟩, by omega, rfl⟩

/- spec.l23States -/
set_option maxHeartbeats 1000000 in
set_option maxRecDepth 20000 in
theorem l23States_spec_step {d : Nat} (ih : ∀ m : Nat, m < d → ∀ {F : FH} {L : List HP}  {arv : Value} {ar : List Int} (har : IntsF F arv ar) {n : Int} {rsv : Value} {rs : List TranT} (hrs : TransF F rsv rs) {fiv : Value} {fi : List Int} (hfi : IntsF F fiv fi) {tv : Value} {t : List Int} (ht : IntsF F tv t) {p : Nat} (hA : AutoOk ar n rs fi) (ho : termOk ar t = true) (hp : p < t.length) (hg : ∀ x9 ∈ t, 0 ≤ x9) (hd : (sub ar t p).length ≤ m), Does prog 73 [.agg #[arv], .agg #[ii (n), rsv, fiv], tv, ii ((p : Int))] F L (fun v F' L' => (∃ (a : Value), (a : Value) = v ∧ (SomesF F' a (fun u => (∀ x, x ∈ u ↔ Run ar rs x (sub ar t p)) ∧ u.length ≤ 300))) ∧ L = L')) {F : FH} {L : List HP}  {arv : Value} {ar : List Int} (har : IntsF F arv ar) {n : Int} {rsv : Value} {rs : List TranT} (hrs : TransF F rsv rs) {fiv : Value} {fi : List Int} (hfi : IntsF F fiv fi) {tv : Value} {t : List Int} (ht : IntsF F tv t) {p : Nat} (hA : AutoOk ar n rs fi) (ho : termOk ar t = true) (hp : p < t.length) (hg : ∀ x9 ∈ t, 0 ≤ x9) (hd : (sub ar t p).length ≤ d) :
    Does prog 73 [.agg #[arv], .agg #[ii (n), rsv, fiv], tv, ii ((p : Int))] F (L) (fun v F' L' => (∃ (a : Value), (a : Value) = v ∧ (SomesF F' a (fun u => (∀ x, x ∈ u ↔ Run ar rs x (sub ar t p)) ∧ u.length ≤ 300))) ∧ L = L') := by
 refine qO func73 rfl rfl rfl ?_
 have hW := termW_of ho
 have htl := termOk_len ho
 have hal := argsL_le ho hp
 have hsg9 := sigOk_spec hA.sig
 have hgp : 0 ≤ t.getD p 0 := hg _ (by rw [List.getD_eq_getElem?_getD, List.getElem?_eq_getElem hp]; exact List.getElem_mem hp)
 have hkA : ((argsL ar t p).length : Int) = ar.getD (t.getD p 0).toNat 0 := by have h8 : (argsL ar t p).length = (arity ar (t.getD p 0)).toNat := argsL_len; rw [arity, if_neg (by omega)] at h8; have h9 := (sigOk_spec hA.sig).2.2 (t.getD p 0).toNat (by have := termOk_lt ho hp; omega); omega
 refine qc (qa (cX (ji [arv] rfl rfl ?_)))
 intro b1
 refine cX (ji [ii (n), rsv, fiv] rfl rfl ?_)
 intro b2
 refine qg (sN) rfl (qb (qc (qa (cX (qP (s := 1) [] [sN] [] qz qw ju rfl (by decide) rfl CellsAre.nil rfl ?_)))))
 intro v1 hv1
 refine qg (v1) rfl (qb (qc (qa ?_)))
 have hc1 : RowsC F [] ([] : List (List Int)) := (CO.nil : RowsC F [] [])
 skip
 refine cX (qu [arv] qY qI rfl rfl (Rd.ownN [_, _] rfl rfl) (qd (tv) rfl (qd (ii ((p : Int))) rfl (cX (XOp.frzF <| qq (args := [.agg #[arv], tv, ii (p : Int)]) call92 rfl (l1Args_spec (p := p) har ht (ho := (by first | assumption | rfl | omega | simp)) (hp := (by first | assumption | rfl | omega | simp))) ?_)))))
 rintro v2 _ _ _ ⟨rfl, hs1, rfl⟩
 refine ⟨_, _, rfl, fun F1 le1 hz1 => ?_⟩
 replace har := har.mono le1
 replace hrs := hrs.mono le1
 replace hfi := hfi.mono le1
 replace ht := ht.mono le1
 replace hc1 := hc1.mono le1
 have hf1 : IntsF F1 v2 ((argsL ar t p)) := intsH.fz (xs := (argsL ar t p)) hz1.fz
 refine qg (v2) rfl (qb (qc (qc (qa (qg (ii (0)) rfl (qb (qF (jg (α := Nat × Value × List (List Int) × List Value × Nat × FH) (fun xQ => [(2, tv), (3, ii ((p : Int))), (4, ptr b1 0), (5, ptr b2 0), (9, xQ.2.1), (10, v2), (11, ii (((xQ.1 : Nat) : Int)))]) (fun xQ => slH 24 1 xQ.2.1 xQ.2.2.2.2.1 xQ.2.2.2.1 :: cellsH b2 [ii (n), rsv, fiv] 29 :: cellsH b1 [arv] 26 :: L) (fun xQ F' => xQ.2.2.2.2.2 = F' ∧ F1 ≤ xQ.2.2.2.2.2 ∧ (IsSl xQ.2.1) ∧ (RowsC xQ.2.2.2.2.2 xQ.2.2.2.1 xQ.2.2.1) ∧ (xQ.2.2.2.2.1 = xQ.2.2.1.length) ∧ (xQ.1 ≤ (argsL ar t p).length) ∧ (xQ.2.2.1.length = xQ.1) ∧ (∀ y9, y9 < xQ.1 → (∀ s9, s9 ∈ xQ.2.2.1.getD y9 [] ↔ Run ar rs s9 (sub ar t ((argsL ar t p).getD y9 0).toNat)) ∧ (xQ.2.2.1.getD y9 []).length ≤ 300)) (fun xQ => (argsL ar t p).length - xQ.1) (0, v1, ([] : List (List Int)), [], 0, F1) ⟨rfl, rfl, rfl, rfl, rfl, rfl, rfl, ⟨⟩⟩ (sC (sC (sC sR))) ⟨rfl, FLe.refl _, ((jH hv1)), (hc1), (rfl), (Nat.zero_le _), (rfl), (fun y9 hy => absurd hy (by omega))⟩ ?_))))))))
 rintro ⟨k, ov, os, cs, m, G1⟩ rE _ _ ⟨rfl, leG, hov, hC, hm, hk, hok, hob⟩
 show X _ _ _ _ (envs [(2, tv), (3, ii ((p : Int))), (4, ptr b1 0), (5, ptr b2 0), (9, ov), (10, v2), (11, ii ((k : Int)))] rE) _ (slH 24 1 ov m cs :: cellsH b2 [ii (n), rsv, fiv] 29 :: cellsH b1 [arv] 26 :: L)
 replace leG : F1 ≤ G1 := leG
 dsimp only at hov hC hm hk hok hob
 have hak := fun h => argsT_at hW hp (i := k) h
 have leG1 := leG
 replace har := har.mono leG1
 replace hrs := hrs.mono leG1
 replace hfi := hfi.mono leG1
 replace ht := ht.mono leG1
 replace hf1 := hf1.mono leG1
 refine qc (qc (qa (qd (ii ((k : Int))) rfl (qd (v2) rfl (cX (qG qf rfl hf1.slv (cX (qV rfl rfl (qb ?_)))))))))
 refine qE (p := (k : Int) < ((((argsL ar t p)).length : Nat) : Int)) rfl (fun h1 => ?_) (fun h1 => ?_)
 ·refine qx (qc (qF ?_))
  refine X.drawG [slH 24 1 ov m cs, cellsH b2 [ii (n), rsv, fiv] 29, cellsH b1 [arv] 26] L 10 [[], [], [], [], [], [], [], [], [], [8]] [[], [], [], [], [], [], [4, 5], [6], [1, 2, 3, 7], [8]] [] (phiG [pe ov, pe (.agg #[arv]), pe (.agg #[ii (n), rsv, fiv]), pe tv, pe v2, pe (ii ((k : Int)) : Value), pe (.pointer (some (elemA v2 (k)))), pe (ii (((argsL ar t p)).getD k 0)), fun FF us v => ((v) : Value) = v ∧ (SomesF FF (v) (fun u => (∀ x, x ∈ u ↔ Run ar rs x (sub ar t ((((argsL ar t p)).getD k 0).toNat))) ∧ u.length ≤ 300)), fun FF us v => ∃ b, v = .slice (some ⟨b, 0, none⟩) 1 1]) (ownL [o0, o0, o0, o0, o0, o0, o0, o0, o0, fun us v => [slH 24 1 v 1 [((us.getD 0 undef))]]]) mixed rfl rfl (by kernel_rfl) (by kernel_rfl) (MonoG.get (m1 (m1 (m1 (m1 (m1 (m1 (m1 (m1 (mC (fun le h => ⟨h.1, h.2.mono le⟩) (mC (fun le h => h) MonoG.nil))))))))))) ?_ ?_
  ·refine gD (fun W Fs R lF z9 => ?_) ?_
   ·refine qh (qk (ov) rfl ?_)
    exact ⟨rfl, rfl⟩
   refine gD (fun W Fs R lF z9 => ?_) ?_
   ·replace har := har.mono lF
    replace hrs := hrs.mono lF
    replace hfi := hfi.mono lF
    replace ht := ht.mono lF
    replace hf1 := hf1.mono lF
    replace hC := hC.mono lF
    refine qh (qu [arv] qY qI rfl rfl (Rd.ownN [_, _] rfl rfl) ?_)
    exact ⟨rfl, rfl⟩
   refine gD (fun W Fs R lF z9 => ?_) ?_
   ·replace har := har.mono lF
    replace hrs := hrs.mono lF
    replace hfi := hfi.mono lF
    replace ht := ht.mono lF
    replace hf1 := hf1.mono lF
    replace hC := hC.mono lF
    refine qh (qu [ii (n), rsv, fiv] jc qN rfl rfl (Rd.ownN [_] rfl rfl) ?_)
    exact ⟨rfl, rfl⟩
   refine gD (fun W Fs R lF z9 => ?_) ?_
   ·refine qh (qk (tv) rfl ?_)
    exact ⟨rfl, rfl⟩
   refine gD (fun W Fs R lF z9 => ?_) ?_
   ·refine qh (qk (v2) rfl ?_)
    exact ⟨rfl, rfl⟩
   refine gD (fun W Fs R lF z9 => ?_) ?_
   ·refine qh (qk (ii ((k : Int))) rfl ?_)
    exact ⟨rfl, rfl⟩
   refine gD (fun W Fs R lF z9 => ?_) ?_
   ·replace har := har.mono lF
    replace hrs := hrs.mono lF
    replace hfi := hfi.mono lF
    replace ht := ht.mono lF
    replace hf1 := hf1.mono lF
    replace hC := hC.mono lF
    rw [zB 4 5 (z9 4 rfl) (z9 5 rfl)]
    refine qh (qy k qf qr rfl rfl rfl hf1.slv (by omega) (Nat.mul_one _) ?_)
    exact ⟨rfl, rfl⟩
   refine gD (fun W Fs R lF z9 => ?_) ?_
   ·replace har := har.mono lF
    replace hrs := hrs.mono lF
    replace hfi := hfi.mono lF
    replace ht := ht.mono lF
    replace hf1 := hf1.mono lF
    replace hC := hC.mono lF
    rw [zA 6 (z9 6 rfl)]
    refine qh (qi qM rfl (hf1.rd (by omega)) ?_)
    exact ⟨rfl, rfl⟩
   refine gD (fun W Fs R lF z9 => ?_) ?_
   ·replace har := har.mono lF
    replace hrs := hrs.mono lF
    replace hfi := hfi.mono lF
    replace ht := ht.mono lF
    replace hC := hC.mono lF
    rw [eS (l := [(1, _), (2, _), (3, _), (7, _)]) ⟨z9 1 rfl, z9 2 rfl, z9 3 rfl, z9 7 rfl, ⟨⟩⟩]
    refine qh (qq (args := [.agg #[arv], .agg #[ii (n), rsv, fiv], tv, ii (((((argsL ar t p)).getD k 0).toNat : Nat) : Int)]) call73 (by rw [show (((((argsL ar t p)).getD k 0).toNat : Nat) : Int) = ((argsL ar t p)).getD k 0 from by omega]; rfl) (ih ((sub ar t ((((argsL ar t p)).getD k 0).toNat)).length) (by omega) (p := (((argsL ar t p)).getD k 0).toNat) har hrs hfi ht (hA := (by first | assumption | rfl | omega | simp)) (ho := (by first | assumption | rfl | omega | simp)) (hp := (by first | assumption | rfl | omega | simp)) (hg := (by first | assumption | rfl | omega | simp)) (hd := (by first | assumption | rfl | omega | simp))) ?_)
    rintro _ F3 _ le3 ⟨⟨x2, rfl, hr2⟩, rfl⟩
    replace hrs := hrs.mono le3
    replace hfi := hfi.mono le3
    replace ht := ht.mono le3
    replace hC := hC.mono le3
    exact ⟨⟨rfl, hr2⟩, rfl⟩
   refine gD (fun W Fs R lF z9 => ?_) ?_
   ·obtain ⟨e8, f8_1hp_a⟩ := z9 8 rfl
    obtain ⟨t8X1_a, f8_1hp_a, q8_1_a0, q8_1_a1⟩ := f8_1hp_a
    replace hrs := hrs.mono lF
    replace hfi := hfi.mono lF
    replace ht := ht.mono lF
    replace hC := hC.mono lF
    rw [eS (l := [(8, ((W 8)))]) ⟨(e8).symm, ⟨⟩⟩]
    refine qh (qP (s := 1) [((W 8))] [sN] [(0, [((W 8))])] qz qw ju rfl (by decide) rfl (.cons (cells_one (qS f8_1hp_a)) CellsAre.nil) rfl ?_)
    intro v4 hv3
    exact ⟨hv3, rfl⟩
   exact stepsG.nil
  intro W F4 le4 hphi
  obtain ⟨e8, f8_1hp_a⟩ := hphi 8 (by decide)
  obtain ⟨t8X1_a, f8_1hp_a, q8_1_a0, q8_1_a1⟩ := f8_1hp_a
  have f9 : ∃ b, (W 9) = .slice (some ⟨b, 0, none⟩) 1 1 := hphi 9 (by decide)
  generalize hu1 : ((W 8)) = u1 at e8 f8_1hp_a f9
  generalize huu9 : W 9 = u2 at e8 f8_1hp_a f9
  rw [eS (l := [(0, _), (8, u1), (9, u2)]) ⟨(hphi 0 (by decide)), hu1, huu9, ⟨⟩⟩]
  replace hrs := hrs.mono le4
  replace hfi := hfi.mono le4
  replace ht := ht.mono le4
  replace hC := hC.mono le4
  show XL _ _ _ _ _ _ _ (slH 24 1 u2 1 [u1] :: slH 24 1 ov m cs :: cellsH b2 [ii (n), rsv, fiv] 29 :: cellsH b1 [arv] 26 :: L)
  refine cX (jN (m := 1) (bytes := 24) (cs := cs) [_] _ [u1] qz typeInfo24 rfl rfl rfl rfl rfl rfl rfl (SlV.own [] rfl) rfl (Rd.lit [] rfl) (qt (qU (qS f8_1hp_a)) qZ) (by (try simp only [List.length_append, List.length_nil, List.length_cons, List.length_singleton]); omega) (by (try simp only [List.length_append, List.length_nil, List.length_cons, List.length_singleton]); omega) ?_)
  intro v5 hs2 hn1 hm1
  have hc2 := RowsC.snoc hC f8_1hp_a
  refine qg (v5) rfl (qb (qa (qd (ii ((k : Int))) rfl (cX (qD (((k + 1 : Nat) : Int)) rfl rfl (by omega) (by omega) (qg (ii (((k + 1 : Nat) : Int))) rfl (qb ?_)))))))
  exact ⟨(k + 1, v5, os ++ [t8X1_a], cs ++ [u1], (m) + 1, F4), _, (qj leG1 le4), rF, ⟨rfl, rfl, rfl, rfl, rfl, rfl, rfl, ⟨⟩⟩, (sD (sC (sC (sC sR)))), ⟨rfl, (qj leG1 le4), (hs2), (hc2), (by (try dsimp only); rw [List.length_append]; simp only [List.length_singleton]; omega), (by (try dsimp only) <;> omega), (by (try dsimp only); rw [List.length_append]; simp only [List.length_singleton]; omega), (fun y9 hy => (Nat.lt_or_ge y9 k).elim (fun h => by dsimp only; rw [getD_appL (by omega)]; exact hob y9 h) (fun h => by obtain rfl : y9 = k := (by omega); dsimp only; rw [getD_appR hok]; exact ⟨q8_1_a0, q8_1_a1⟩))⟩, (by omega)⟩
 refine jd (qp (qp (qJ (qc (jf [] _ _ rfl (fun F5 le5 hz2 => ?_))))))
 replace hrs := hrs.mono le5
 replace hfi := hfi.mono le5
 replace ht := ht.mono le5
 replace hC := hC.mono le5
 have hf2 : RowsF F5 ov os := CO.fz hC (by first | rfl | omega | (rw [List.length_set]; omega) | (simp; done) | (rw [List.length_append]; simp only [List.length_singleton]; omega) | ((simp only [List.length_append, List.length_singleton, List.length_nil]) <;> omega)) hz2.fz
 refine jq [cellsH b2 [ii (n), rsv, fiv] 29, cellsH b1 [arv] 26] L 6 [] [[], [], [], [1, 2], [3]] (phiL [qe (.agg #[ii (n), rsv, fiv]), qe tv, qe (ii ((p : Int)) : Value), qe (.pointer (some (elemA tv (p)))), qe (ii (t.getD p 0)), qe ov]) (ownL []) mixed rfl rfl (by kernel_rfl) ?_ ?_
 ·refine pD (fun W R z9 => ?_) ?_
  ·refine qh (qu [ii (n), rsv, fiv] jc qN rfl rfl (Rd.ownN [] rfl rfl) ?_)
   exact ⟨rfl, rfl, rfl⟩
  refine pD (fun W R z9 => ?_) ?_
  ·refine qh (qk (tv) rfl ?_)
   exact ⟨rfl, rfl, rfl⟩
  refine pD (fun W R z9 => ?_) ?_
  ·refine qh (qk (ii ((p : Int))) rfl ?_)
   exact ⟨rfl, rfl, rfl⟩
  refine pD (fun W R z9 => ?_) ?_
  ·rw [zB 1 2 (z9 1 rfl) (z9 2 rfl)]
   refine qh (qy p qf qr rfl rfl rfl ht.slv (by omega) (Nat.mul_one _) ?_)
   exact ⟨rfl, rfl, rfl⟩
  refine pD (fun W R z9 => ?_) ?_
  ·rw [zA 3 (z9 3 rfl)]
   refine qh (qi qM rfl (ht.rd (by omega)) ?_)
   exact ⟨rfl, rfl, rfl⟩
  refine pD (fun W R z9 => ?_) ?_
  ·refine qh (qk (ov) rfl ?_)
   exact ⟨rfl, rfl, rfl⟩
  exact stepsP.nil
 intro W hphi
 rw [eS (l := [(0, _), (4, _), (5, _)]) ⟨(hphi 0 (by decide)), (hphi 4 (by decide)), (hphi 5 (by decide)), ⟨⟩⟩]
 show XL _ _ _ _ _ _ _ (cellsH b2 [ii (n), rsv, fiv] 29 :: cellsH b1 [arv] 26 :: L)
 refine cX (qq (args := [.agg #[ii (n), rsv, fiv], ii (t.getD p 0), ov]) call53 rfl (l23Image_spec (f := t.getD p 0) hrs hfi hf2 (hA9 := (⟨ar, hA, by omega⟩)) (hsb := (fun y9 hy => by have := (hob y9 (by omega)).2; omega)) (hsl4 := (by first | assumption | rfl | omega | simp))) ?_)
 rintro _ F6 _ le6 ⟨x3, x4, rfl, hr3, hr4, hr5, rfl⟩
 refine qg (x3) rfl (qb (qC (qv (L' := L) [x3] (x3) (.tmp rfl .nil) rfl (qj (qj (qj le1 leG1) le5) le6) rF (sD (sD sR)) ?_)))
 exact ⟨⟨_, rfl, ⟨_, hr3, fun x => (hr4 x).trans ((Leads.mono (fun i hi hs y9 hy => (hob y9 (by have h7 := hA.rule i hi; have h8 := h7.args; rw [hs] at h8; omega)).1 _)).trans (run_sub hA ho hp).symm), hr5⟩⟩, rfl⟩

theorem l23States_spec (d : Nat) : ∀ {F : FH} {L : List HP}  {arv : Value} {ar : List Int} (har : IntsF F arv ar) {n : Int} {rsv : Value} {rs : List TranT} (hrs : TransF F rsv rs) {fiv : Value} {fi : List Int} (hfi : IntsF F fiv fi) {tv : Value} {t : List Int} (ht : IntsF F tv t) {p : Nat} (hA : AutoOk ar n rs fi) (ho : termOk ar t = true) (hp : p < t.length) (hg : ∀ x9 ∈ t, 0 ≤ x9) (hd : (sub ar t p).length ≤ d), Does prog 73 [.agg #[arv], .agg #[ii (n), rsv, fiv], tv, ii ((p : Int))] F L (fun v F' L' => (∃ (a : Value), (a : Value) = v ∧ (SomesF F' a (fun u => (∀ x, x ∈ u ↔ Run ar rs x (sub ar t p)) ∧ u.length ≤ 300))) ∧ L = L') := by
  induction d using Nat.strongRecOn with
  | _ d ih =>
    intros
    exact l23States_spec_step ih (by assumption) (by assumption) (by assumption) (by assumption) (by assumption) (by assumption) (by assumption) (by assumption) (by assumption)

/- spec.l23Meets -/
theorem l23Meets_spec {F : FH} {L : List HP} {xsv : Value} {xs : List Int} (hxs : IntsF F xsv xs) {ysv : Value} {ys : List Int} (hys : IntsF F ysv ys) (hlx : xs.length ≤ 4000000) (hly : ys.length ≤ 4000000) :
    Does prog 45 [xsv, ysv] F (L) (fun v F' L' => (.bool (meetsB xs ys) : Value) = v ∧ F = F' ∧ L = L') := by
 refine qO func45 rfl rfl rfl (qc (qa (qg (.bool (false)) rfl (qb (qc (qc (qa (qg (ii (0)) rfl (qb (qF (jg (α := Nat) (fun k => [(0, xsv), (1, ysv), (5, ii ((k : Int)))]) (fun k => L) (fun k F' => F = F' ∧ (k ≤ xs.length) ∧ (∀ i, i < k → xs.getD i 0 ∉ ys)) (fun k => xs.length - k) 0 ⟨rfl, rfl, rfl, ⟨⟩⟩ sR ⟨rfl, (by (try dsimp only) <;> omega), (fun i hi => absurd hi (by omega))⟩ ?_)))))))))))
 rintro k rE _ _ ⟨rfl, hk, hno⟩
 show X _ _ _ _ (envs [(0, xsv), (1, ysv), (5, ii ((k : Int)))] rE) _ (L)
 refine qc (qc (qa (qd (ii ((k : Int))) rfl (qd (xsv) rfl (cX (qG qf rfl hxs.slv (cX (qV rfl rfl (qb ?_)))))))))
 refine qE (p := (k : Int) < (xs.length : Int)) rfl (fun h1 => ?_) (fun h1 => ?_)
 ·refine qx (qc (qF (qc (qa (qd (ysv) rfl (qd (xsv) rfl (qd (ii ((k : Int))) rfl (cX (qy k qf qr rfl rfl rfl hxs.slv (by omega) (Nat.mul_one _) (cX (qi qM rfl (hxs.rd (by omega)) (cX (qq (args := [ysv, ii (xs.getD k 0)]) call71 rfl (l1Has_spec (n := xs.getD k 0) hys (hbd := (by omega))) ?_)))))))))))))
  rintro _ _ _ _ ⟨rfl, rfl, rfl⟩
  refine qb ?_
  refine qE (p := (xs.getD k 0) ∈ ys) rfl (fun h2 => ?_) (fun h2 => ?_)
  ·have hin := h2
   refine qc (qa (qg (.bool (true)) rfl (qb (qC (qK (qn (qn (qK (qn (qv (L' := L) [.bool (true)] (.bool (true)) (.tmp rfl .nil) rfl rF rF sR ?_))))))))))
   exact ⟨(vB (meets_at (k := k) (by omega) hin)), rfl, rfl⟩
  have hin := h2
  refine qx (qa (qd (ii ((k : Int))) rfl (cX (qD (((k + 1 : Nat) : Int)) rfl rfl (by omega) (by omega) (qg (ii (((k + 1 : Nat) : Int))) rfl (qb ?_))))))
  exact ⟨k + 1, _, FLe.refl _, rF, ⟨rfl, rfl, rfl, ⟨⟩⟩, sR, ⟨rfl, (by (try dsimp only) <;> omega), (fun i hi => (Nat.lt_or_ge i k).elim (fun h => hno i h) (fun h => by obtain rfl : i = k := (by omega); exact hin))⟩, (by omega)⟩
 refine jd (qp (qp (qJ (qc (qa (qg (.bool (false)) rfl (qb (qC (qv (L' := L) [.bool (false)] (.bool (false)) (.tmp rfl .nil) rfl rF rF sR ?_)))))))))
 exact ⟨(vB (meets_no (fun i hi => hno i (by omega)))), rfl, rfl⟩

/- spec.StatesOf -/
set_option maxRecDepth 20000 in
theorem StatesOf_spec {F : FH} {L : List HP}  {arv : Value} {ar : List Int} (har : IntsF F arv ar) {n : Int} {rsv : Value} {rs : List TranT} (hrs : TransF F rsv rs) {fiv : Value} {fi : List Int} (hfi : IntsF F fiv fi) {tv : Value} {t : List Int} (ht : IntsF F tv t) (hla : ar.length ≤ 4000000) (hlr : rs.length ≤ 4000000) (hrb : ∀ i, i < rs.length → (rs.getD i (0, [], 0)).2.1.length ≤ 4000000) (hlf : fi.length ≤ 4000000) (hlt : t.length ≤ 4000000) :
    Does prog 46 [.agg #[arv], .agg #[ii (n), rsv, fiv], tv] F (L) (fun v F' L' => (∃ (a : Value), (a : Value) = v ∧ (SomesF F' a (fun u => (∀ x, x ∈ u ↔ (autoB ar n rs fi && groundB ar t) = true ∧ Run ar rs x t) ∧ u.length ≤ 300))) ∧ L = L') := by
 refine qO func46 rfl rfl rfl (qc (qa (cX (ji [arv] rfl rfl ?_))))
 intro b1
 refine cX (ji [ii (n), rsv, fiv] rfl rfl ?_)
 intro b2
 refine qg (sN) rfl (qb (qc (qc (qa (cX (qu [arv] qY qI rfl rfl (Rd.ownN [_] rfl rfl) (cX (qu [ii (n), rsv, fiv] jc qN rfl rfl (Rd.ownN [] rfl rfl) (cX (qq (args := [.agg #[arv], .agg #[ii (n), rsv, fiv]]) call13 rfl (sAutoOk_spec har hrs hfi (hla := (by first | assumption | rfl | omega | simp)) (hlr := (by first | assumption | rfl | omega | simp)) (hrb := (hrb)) (hlf := (by first | assumption | rfl | omega | simp))) ?_))))))))))
 rintro _ _ _ _ ⟨rfl, rfl, rfl⟩
 refine cX (jx rfl (qd (.bool (!(autoB ar n rs fi))) rfl ?_))
 by_cases h1 : (!(autoB ar n rs fi)) = true
 ·have hA : autoB ar n rs fi = false := Bool.not_inj (y := false) h1
  refine qm (t := 11) rfl (vB h1) (qm (t := 11) rfl (vB h1) (qm (t := 11) rfl (vB h1) (qm (t := 11) rfl (vB h1) (cX (qL (.bool (true)) (vB h1) rfl (qb (jA rfl (qc (qa (cX (qP (s := 1) [] [ii (0)] [] qf qr jm rfl (by decide) rfl CellsAre.nil rfl ?_)))))))))))
  intro v1 hv1
  refine qg (v1) rfl (qb ?_)
  show X _ _ _ _ _ _ (intsH 2 v1 ([] : List Int) :: cellsH b2 [ii (n), rsv, fiv] 29 :: cellsH b1 [arv] 26 :: L)
  refine jf [] _ _ rfl (fun F1 le1 hz1 => ?_)
  replace har := har.mono le1
  replace hrs := hrs.mono le1
  replace hfi := hfi.mono le1
  replace ht := ht.mono le1
  have hf1 : IntsF F1 v1 ([]) := intsH.fz (xs := []) hz1.fz
  refine qC (qn (qv (L' := L) [v1] (v1) (.tmp rfl .nil) rfl le1 rF (sD (sD sR)) ?_))
  exact ⟨⟨_, rfl, ⟨_, hf1, fun x => ⟨fun h => absurd h (by simp), fun h => by have h9 := h.1; first | (rw [hA] at h9; cases h9; done) | (rw [hA, hG] at h9; cases h9; done)⟩, by decide⟩⟩, rfl⟩
 rw [Bool.not_eq_true] at h1
 have hA : autoB ar n rs fi = true := Bool.not_inj (y := true) h1
 have hA2 := auto_iff.1 hA
 refine qo (t := 11) rfl (vB h1) (qu [arv] qY qI rfl rfl (Rd.ownN [_] rfl rfl) (qo (t := 11) rfl (vB h1) (qk (tv) rfl (qo (t := 11) rfl (vB h1) (qq (args := [.agg #[arv], tv]) call72 rfl (sGroundIn_spec har ht (hla := (by first | assumption | rfl | omega | simp)) (hlt := (by first | assumption | rfl | omega | simp))) ?_)))))
 rintro _ _ _ _ ⟨rfl, rfl, rfl⟩
 refine qo (t := 11) rfl (vB h1) (jx rfl (cX (qQ (.bool (!(groundB ar t))) (vB h1) rfl (qb ?_))))
 refine jr (t := !(groundB ar t)) rfl (fun h2 => ?_) (fun h2 => ?_)
 ·have hG : groundB ar t = false := Bool.not_inj (y := false) h2
  refine qc (qa (cX (qP (s := 1) [] [ii (0)] [] qf qr jm rfl (by decide) rfl CellsAre.nil rfl ?_)))
  intro v2 hv2
  refine qg (v2) rfl (qb ?_)
  show X _ _ _ _ _ _ (intsH 2 v2 ([] : List Int) :: cellsH b2 [ii (n), rsv, fiv] 29 :: cellsH b1 [arv] 26 :: L)
  refine jf [] _ _ rfl (fun F2 le2 hz2 => ?_)
  replace har := har.mono le2
  replace hrs := hrs.mono le2
  replace hfi := hfi.mono le2
  replace ht := ht.mono le2
  have hf2 : IntsF F2 v2 ([]) := intsH.fz (xs := []) hz2.fz
  refine qC (qn (qv (L' := L) [v2] (v2) (.tmp rfl .nil) rfl le2 rF (sD (sD sR)) ?_))
  exact ⟨⟨_, rfl, ⟨_, hf2, fun x => ⟨fun h => absurd h (by simp), fun h => by have h9 := h.1; first | (rw [hA] at h9; cases h9; done) | (rw [hA, hG] at h9; cases h9; done)⟩, by decide⟩⟩, rfl⟩
 have hG : groundB ar t = true := Bool.not_inj (y := true) h2
 have hG2 := ground_iff.1 hG
 have htl := termOk_len hG2.1
 refine qx (qc (qa (cX (qu [arv] qY qI rfl rfl (Rd.ownN [_] rfl rfl) (cX (qu [ii (n), rsv, fiv] jc qN rfl rfl (Rd.ownN [] rfl rfl) (qd (tv) rfl (cX (qq (args := [.agg #[arv], .agg #[ii (n), rsv, fiv], tv, ii ((0 : Nat) : Int)]) call73 rfl (l23States_spec ((sub ar t 0).length) (p := 0) har hrs hfi ht (hA := (hA2)) (ho := (hG2.1)) (hp := (by omega)) (hg := (hG2.2)) (hd := (Nat.le_refl _))) ?_)))))))))
 rintro _ F3 _ le3 ⟨⟨x1, rfl, hr1⟩, rfl⟩
 obtain ⟨t1, hr1, q1, q2⟩ := hr1
 show XL _ _ _ _ _ _ _ (cellsH b2 [ii (n), rsv, fiv] 29 :: cellsH b1 [arv] 26 :: L)
 refine qg (x1) rfl (qb (qC (qv (L' := L) [x1] (x1) (.tmp rfl .nil) rfl le3 rF (sD (sD sR)) ?_)))
 exact ⟨⟨_, rfl, ⟨_, hr1, fun x => by have h9 := q1 x; rw [sub_zero' hG2.1] at h9; rw [hA, hG]; exact ⟨fun h => ⟨rfl, h9.1 h⟩, fun h => h9.2 h.2⟩, q2⟩⟩, rfl⟩

/- spec.AcceptsIn -/
set_option maxRecDepth 20000 in
theorem sAcceptsIn_spec {F : FH} {L : List HP} {arv : Value} {ar : List Int} (har : IntsF F arv ar) {n : Int} {rsv : Value} {rs : List TranT} (hrs : TransF F rsv rs) {fiv : Value} {fi : List Int} (hfi : IntsF F fiv fi) {tv : Value} {t : List Int} (ht : IntsF F tv t) (hla : ar.length ≤ 4000000) (hlr : rs.length ≤ 4000000) (hrb : ∀ i, i < rs.length → (rs.getD i (0, [], 0)).2.1.length ≤ 4000000) (hlf : fi.length ≤ 4000000) (hlt : t.length ≤ 4000000) :
    Does prog 14 [.agg #[arv], .agg #[ii (n), rsv, fiv], tv] F (L) (fun v F' L' => (.bool ((autoB ar n rs fi && groundB ar t && accT ar rs fi t)) : Value) = v ∧ L = L') := by
 refine qO func14 rfl rfl rfl (qc (qa (cX (ji [arv] rfl rfl ?_))))
 intro b1
 refine cX (ji [ii (n), rsv, fiv] rfl rfl ?_)
 intro b2
 refine qg (.bool (false)) rfl (qb (qc ?_))
 refine X.drawG [cellsH b2 [ii (n), rsv, fiv] 29, cellsH b1 [arv] 26] L 6 [] [[], [], [], [0, 1, 2], [], [4]] [] (phiG [pe (.agg #[arv]), pe (.agg #[ii (n), rsv, fiv]), pe tv, fun FF us v => ((v) : Value) = v ∧ (SomesF FF (v) (fun u => (∀ x, x ∈ u ↔ (autoB ar n rs fi && groundB ar t) = true ∧ Run ar rs x t) ∧ u.length ≤ 300)), pe (ptr b2 2), pe fiv]) (ownL []) mixed rfl rfl (by kernel_rfl) (by kernel_rfl) (MonoG.get (m1 (m1 (m1 (mC (fun le h => ⟨h.1, h.2.mono le⟩) (m1 (m1 MonoG.nil))))))) ?_ ?_
 ·refine gD (fun W Fs R lF z9 => ?_) ?_
  ·replace har := har.mono lF
   replace hrs := hrs.mono lF
   replace hfi := hfi.mono lF
   replace ht := ht.mono lF
   refine qh (qu [arv] qY qI rfl rfl (Rd.ownN [_] rfl rfl) ?_)
   exact ⟨rfl, rfl⟩
  refine gD (fun W Fs R lF z9 => ?_) ?_
  ·replace har := har.mono lF
   replace hrs := hrs.mono lF
   replace hfi := hfi.mono lF
   replace ht := ht.mono lF
   refine qh (qu [ii (n), rsv, fiv] jc qN rfl rfl (Rd.ownN [] rfl rfl) ?_)
   exact ⟨rfl, rfl⟩
  refine gD (fun W Fs R lF z9 => ?_) ?_
  ·refine qh (qk (tv) rfl ?_)
   exact ⟨rfl, rfl⟩
  refine gD (fun W Fs R lF z9 => ?_) ?_
  ·replace har := har.mono lF
   replace hrs := hrs.mono lF
   replace hfi := hfi.mono lF
   replace ht := ht.mono lF
   rw [eS (l := [(0, _), (1, _), (2, _)]) ⟨z9 0 rfl, z9 1 rfl, z9 2 rfl, ⟨⟩⟩]
   refine qh (qq (args := [.agg #[arv], .agg #[ii (n), rsv, fiv], tv]) call46 rfl (StatesOf_spec har hrs hfi ht (hla := (by first | assumption | rfl | omega | simp)) (hlr := (by first | assumption | rfl | omega | simp)) (hrb := (hrb)) (hlf := (by first | assumption | rfl | omega | simp)) (hlt := (by first | assumption | rfl | omega | simp))) ?_)
   rintro _ F2 _ le2 ⟨⟨x2, rfl, hr2⟩, rfl⟩
   replace har := har.mono le2
   replace hfi := hfi.mono le2
   exact ⟨⟨rfl, hr2⟩, rfl⟩
  refine gD (fun W Fs R lF z9 => ?_) ?_
  ·refine qh (ql (2) qA rfl qw (by decide) rfl rfl ?_)
   exact ⟨rfl, rfl⟩
  refine gD (fun W Fs R lF z9 => ?_) ?_
  ·replace har := har.mono lF
   replace hfi := hfi.mono lF
   rw [zA 4 (z9 4 rfl)]
   refine qh (qi qT rfl (Rd.own [] rfl rfl) ?_)
   exact ⟨rfl, rfl⟩
  exact stepsG.nil
 intro W F3 le3 hphi
 obtain ⟨e3, f3_1hp_a⟩ := hphi 3 (by decide)
 obtain ⟨t3X1_a, f3_1hp_a, q3_1_a0, q3_1_a1⟩ := f3_1hp_a
 generalize hu1 : ((W 3)) = u1 at e3 f3_1hp_a
 rw [eS (l := [(3, u1), (5, _)]) ⟨hu1, (hphi 5 (by decide)), ⟨⟩⟩]
 replace hfi := hfi.mono le3
 show XL _ _ _ _ _ _ _ (cellsH b2 [ii (n), rsv, fiv] 29 :: cellsH b1 [arv] 26 :: L)
 refine cX (qq (args := [u1, fiv]) call45 rfl (l23Meets_spec f3_1hp_a hfi (hlx := (by first | assumption | rfl | omega | simp)) (hly := (by first | assumption | rfl | omega | simp))) ?_)
 rintro _ _ _ _ ⟨rfl, rfl, rfl⟩
 refine qg (.bool (meetsB t3X1_a fi)) rfl (qb (qC (qv (L' := L) [.bool (meetsB t3X1_a fi)] (.bool (meetsB t3X1_a fi)) (.tmp rfl .nil) rfl le3 rF (sD (sD sR)) ?_)))
 exact ⟨congrArg Value.bool (acc_meets q3_1_a0).symm, rfl⟩

/- spec.l1Min -/
theorem l1MinC_spec {F : FH} {L : List HP} {a : Int} {b : Int} :
    Does prog 35 [ii (a), ii (b)] F (L) (fun v F' L' => (ii (min a b) : Value) = v ∧ F = F' ∧ L = L') := by
 refine qO func35 rfl rfl rfl (qc (qa (qg (ii (0)) rfl (qb (qc (qc (qa (qd (ii (a)) rfl (qd (ii (b)) rfl (cX (qV rfl rfl (qb ?_))))))))))))
 refine qE (p := (a : Int) < b) rfl (fun h1 => ?_) (fun h1 => ?_)
 ·refine qc (qa (qd (ii (a)) rfl (qg (ii (a)) rfl (qb (qC (qn (qv (L' := L) [ii (a)] (ii (a)) (.tmp rfl .nil) rfl rF rF sR ?_)))))))
  exact ⟨(vI (by omega)), rfl, rfl⟩
 refine qx (qc (qa (qd (ii (b)) rfl (qg (ii (b)) rfl (qb (qC (qv (L' := L) [ii (b)] (ii (b)) (.tmp rfl .nil) rfl rF rF sR ?_)))))))
 exact ⟨(vI (by omega)), rfl, rfl⟩

/- spec.l23Times -/
theorem l23Times_spec {F : FH} {L : List HP} {a : Int} {b : Int} (hb : 0 ≤ a * b ∧ a * b ≤ 1000000000000000000) :
    Does prog 67 [ii (a), ii (b)] F (L) (fun v F' L' => (ii (min (a * b) 1000000000) : Value) = v ∧ F = F' ∧ L = L') := by
 refine qO func67 rfl rfl rfl (qc (qa (qg (ii (0)) rfl (qb (qc (qa (qd (ii (a)) rfl (qd (ii (b)) rfl (cX (XOp.mulR (a * b) rfl rfl (by omega) (by omega) (cX (qq (args := [ii (a * b), ii (1000000000)]) call35 rfl (l1MinC_spec (a := a * b) (b := 1000000000)) ?_))))))))))))
 rintro _ _ _ _ ⟨rfl, rfl, rfl⟩
 refine qg (ii (min (a * b) 1000000000)) rfl (qb (qC (qv (L' := L) [ii (min (a * b) 1000000000)] (ii (min (a * b) 1000000000)) (.tmp rfl .nil) rfl rF rF sR ?_)))
 exact ⟨rfl, rfl, rfl⟩

/- spec.l23Ways -/
set_option maxRecDepth 20000 in
theorem l23Ways_spec_step {d : Nat} (ih : ∀ m : Nat, m < d → ∀ {F : FH} {L : List HP} {mv : Value} {mm : List (List Int)} {mcs : List Value} {mn : Nat} (hmv : IsSl mv) (hMC : RowsC F mcs mm) (hmn : mn = mm.length) {qsv : Value} {qs : List Int} (hqs : IntsF F qsv qs) {n : Nat} (hnm : n < mm.length) (hm4 : mm.length ≤ 4000000) (hql4 : qs.length ≤ 4000000) (hqb : ∀ i, i < qs.length → 0 ≤ qs.getD i 0 ∧ ∀ j, j < mm.length → (qs.getD i 0).toNat < (mm.getD j []).length) (hcb : BndC (cM mm)) (hd : qs.length ≤ m), Does prog 36 [mv, qsv, ii ((n : Int))] F (slH 24 1 mv mn mcs :: L) (fun v F' L' => (F = F' ∧ (ii (waysF (cM mm) qs n) : Value) = v) ∧ slH 24 1 mv mn mcs :: L = L')) {F : FH} {L : List HP} {mv : Value} {mm : List (List Int)} {mcs : List Value} {mn : Nat} (hmv : IsSl mv) (hMC : RowsC F mcs mm) (hmn : mn = mm.length) {qsv : Value} {qs : List Int} (hqs : IntsF F qsv qs) {n : Nat} (hnm : n < mm.length) (hm4 : mm.length ≤ 4000000) (hql4 : qs.length ≤ 4000000) (hqb : ∀ i, i < qs.length → 0 ≤ qs.getD i 0 ∧ ∀ j, j < mm.length → (qs.getD i 0).toNat < (mm.getD j []).length) (hcb : BndC (cM mm)) (hd : qs.length ≤ d) :
    Does prog 36 [mv, qsv, ii ((n : Int))] F (slH 24 1 mv mn mcs :: L) (fun v F' L' => (F = F' ∧ (ii (waysF (cM mm) qs n) : Value) = v) ∧ slH 24 1 mv mn mcs :: L = L') := by
 refine qO func36 rfl rfl rfl (qc (qa (qg (ii (0)) rfl (qb (qc (qc (qa (qd (qsv) rfl (cX (qG qf rfl hqs.slv (cX (jp rfl rfl (qb ?_)))))))))))))
 refine qE (p := ((qs.length : Int) : Int) = 0) rfl (fun h1 => ?_) (fun h1 => ?_)
 ·have hq0 : qs = [] := List.length_eq_zero_iff.1 (by omega)
  refine qc (qa (qd (ii ((n : Int))) rfl (cX (jp rfl rfl (cX (qq (args := [.bool (decide ((n : Int) = 0))]) call66 rfl (l1Flag_spec (q := decide ((n : Int) = 0))) ?_))))))
  rintro _ _ _ _ ⟨rfl, rfl, rfl⟩
  refine qg (ii (if (decide ((n : Int) = 0)) = true then 1 else 0)) rfl (qb (qC (qn (qv (L' := slH 24 1 mv mn mcs :: L) [ii (if (decide ((n : Int) = 0)) = true then 1 else 0)] (ii (if (decide ((n : Int) = 0)) = true then 1 else 0)) (.tmp rfl .nil) rfl rF rF (sC sR) ?_))))
  exact ⟨⟨rfl, congrArg (Value.int .i64) (by rw [hq0]; show (if n = 0 then (1 : Int) else 0) = _; by_cases h9 : n = 0 <;> simp [h9])⟩, rfl⟩
 have hq0 : qs ≠ [] := fun e => by rw [e] at h1; exact h1 rfl
 have hql : 0 < qs.length := List.length_pos_iff.2 hq0
 have hq9 := hqb 0 hql
 have htd : (qs.drop 1).take (qs.length - 1) = qs.drop 1 := List.take_of_length_le (by rw [List.length_drop]; exact Nat.le_refl _)
 have htl9 : ((qs.drop 1).take (qs.length - 1)).length = qs.length - 1 := by rw [htd, List.length_drop]
 refine qx (qc (qa (qg (ii (0)) rfl (qb (qc (qc (qa (qg (ii (1)) rfl (qb (qF (jg (α := Nat × Int) (fun xQ => [(0, mv), (1, qsv), (2, ii ((n : Int))), (7, ii (xQ.2)), (8, ii (((xQ.1 + 1 : Nat) : Int)))]) (fun xQ => slH 24 1 mv mn mcs :: L) (fun xQ F' => F = F' ∧ (xQ.1 ≤ n) ∧ (xQ.2 = waysGo (cM mm) (waysF (cM mm) (qs.drop 1)) (qs.getD 0 0) n xQ.1) ∧ (0 ≤ xQ.2 ∧ xQ.2 ≤ 1000000000)) (fun xQ => n - xQ.1) (0, 0) ⟨rfl, rfl, rfl, rfl, rfl, ⟨⟩⟩ (sC sR) ⟨rfl, (Nat.zero_le _), (rfl), (by decide)⟩ ?_)))))))))))
 rintro ⟨k, s⟩ rE _ _ ⟨rfl, hk, hs, hsb⟩
 show X _ _ _ _ (envs [(0, mv), (1, qsv), (2, ii ((n : Int))), (7, ii (s)), (8, ii (((k + 1 : Nat) : Int)))] rE) _ (slH 24 1 mv mn mcs :: L)
 dsimp only at hk hs hsb
 refine qc (qc (qa (qd (ii (((k + 1 : Nat) : Int))) rfl (qd (ii ((n : Int))) rfl (cX (XOp.leq rfl rfl (qb ?_)))))))
 refine qE (p := (((k + 1 : Nat) : Int) : Int) ≤ (n : Int)) rfl (fun h2 => ?_) (fun h2 => ?_)
 ·have hq8 := hq9.2 (k + 1) (by omega)
  refine qx (qc (qF (qc ?_)))
  obtain ⟨a1, ha1, he1⟩ := hMC.get (i := k + 1) (by omega)
  refine jq [slH 24 1 mv mn mcs] L 7 [] [[], [], [0, 1], [2], [], [4], [5]] (phiL [qe mv, qe (ii (((k + 1 : Nat) : Int)) : Value), qe (.pointer (some (elemA mv (k + 1)))), qe a1, qe qsv, qe (.pointer (some (elemA qsv (0)))), qe (ii (qs.getD 0 0))]) (ownL []) mixed rfl rfl (by kernel_rfl) ?_ ?_
  ·refine pD (fun W R z9 => ?_) ?_
   ·refine qh (qk (mv) rfl ?_)
    exact ⟨rfl, rfl, rfl⟩
   refine pD (fun W R z9 => ?_) ?_
   ·refine qh (qk (ii (((k + 1 : Nat) : Int))) rfl ?_)
    exact ⟨rfl, rfl, rfl⟩
   refine pD (fun W R z9 => ?_) ?_
   ·rw [zB 0 1 (z9 0 rfl) (z9 1 rfl)]
    refine qh (qy (k + 1) qz qw rfl rfl rfl (SlV.own [] rfl) (by omega) (Nat.mul_one _) ?_)
    exact ⟨rfl, rfl, rfl⟩
   refine pD (fun W R z9 => ?_) ?_
   ·rw [zA 2 (z9 2 rfl)]
    refine qh (qi qT rfl (Rd.sl [] rfl he1) ?_)
    exact ⟨rfl, rfl, rfl⟩
   refine pD (fun W R z9 => ?_) ?_
   ·refine qh (qk (qsv) rfl ?_)
    exact ⟨rfl, rfl, rfl⟩
   refine pD (fun W R z9 => ?_) ?_
   ·rw [zA 4 (z9 4 rfl)]
    refine qh (qy 0 qf qr rfl rfl rfl hqs.slv (by omega) (Nat.mul_one _) ?_)
    exact ⟨rfl, rfl, rfl⟩
   refine pD (fun W R z9 => ?_) ?_
   ·rw [zA 5 (z9 5 rfl)]
    refine qh (qi qM rfl (hqs.rd (by omega)) ?_)
    exact ⟨rfl, rfl, rfl⟩
   exact stepsP.nil
  intro W hphi
  rw [zB 3 6 (hphi 3 (by decide)) (hphi 6 (by decide))]
  show XL _ _ _ _ _ _ _ (slH 24 1 mv mn mcs :: L)
  refine cX (qy ((qs.getD 0 0).toNat) qf qr rfl rfl (by omega) ha1.slv (by omega) (Nat.mul_one _) (cX (qi qM rfl (ha1.rd (by omega)) (cX (jw rfl rfl (qb ?_))))))
  refine qE (p := (((mm.getD (k + 1) [])).getD ((qs.getD 0 0).toNat) 0 : Int) > 0) rfl (fun h3 => ?_) (fun h3 => ?_)
  ·have hpo : 0 < (cM mm (k + 1) (qs.getD 0 0)) := h3
   have hmb := mul_bnd (hcb (k + 1) (qs.getD 0 0)) (waysF_bnd (c := cM mm) hcb (qs.drop 1) (n - (k + 1)))
   have hmb9 : 0 ≤ (mm.getD (k + 1) []).getD (qs.getD 0 0).toNat 0 * waysF (cM mm) ((qs.drop 1).take (qs.length - 1)) (n - (k + 1)) ∧ (mm.getD (k + 1) []).getD (qs.getD 0 0).toNat 0 * waysF (cM mm) ((qs.drop 1).take (qs.length - 1)) (n - (k + 1)) ≤ 1000000000000000000 := by rw [htd]; exact hmb
   refine X.drawG [slH 24 1 mv mn mcs] L 18 [] [[], [], [], [1, 2], [3], [], [5], [6], [4, 7], [8], [], [], [11], [], [], [13, 14], [10, 12, 15], [9, 16]] [] (phiG [pe (ii (s)), pe mv, pe (ii (((k + 1 : Nat) : Int)) : Value), pe (.pointer (some (elemA mv (k + 1)))), pe a1, pe qsv, pe (.pointer (some (elemA qsv (0)))), pe (ii (qs.getD 0 0)), pe (.pointer (some (elemA a1 ((qs.getD 0 0).toNat)))), pe (ii (((mm.getD (k + 1) [])).getD ((qs.getD 0 0).toNat) 0)), pe mv, pe qsv, fun FF us v => (v : Value) = v ∧ (IntsF FF v ((qs.drop 1).take (((qs).length) - 1))) ∧ (isNil v = isNil qsv), pe (ii ((n : Int)) : Value), pe (ii (((k + 1 : Nat) : Int)) : Value), pe (ii (((n - (k + 1) : Nat) : Int)) : Value), fun FF us v => (ii (waysF (cM mm) (((qs.drop 1).take (((qs).length) - 1))) (n - (k + 1))) : Value) = v, pe (ii (min ((((mm.getD (k + 1) [])).getD ((qs.getD 0 0).toNat) 0) * (waysF (cM mm) (((qs.drop 1).take (((qs).length) - 1))) (n - (k + 1)))) 1000000000))]) (ownL []) mixed rfl rfl (by kernel_rfl) (by kernel_rfl) (MonoG.get (m1 (m1 (m1 (m1 (m1 (m1 (m1 (m1 (m1 (m1 (m1 (m1 (mC (fun le h => ⟨h.1, h.2.1.mono le, h.2.2⟩) (m1 (m1 (m1 (mC (fun le h => h) (m1 MonoG.nil))))))))))))))))))) ?_ ?_
   ·refine gD (fun W Fs R lF z9 => ?_) ?_
    ·refine qh (qk (ii (s)) rfl ?_)
     exact ⟨rfl, rfl⟩
    refine gD (fun W Fs R lF z9 => ?_) ?_
    ·refine qh (qk (mv) rfl ?_)
     exact ⟨rfl, rfl⟩
    refine gD (fun W Fs R lF z9 => ?_) ?_
    ·refine qh (qk (ii (((k + 1 : Nat) : Int))) rfl ?_)
     exact ⟨rfl, rfl⟩
    refine gD (fun W Fs R lF z9 => ?_) ?_
    ·replace hMC := hMC.mono lF
     replace hqs := hqs.mono lF
     replace ha1 := ha1.mono lF
     rw [zB 1 2 (z9 1 rfl) (z9 2 rfl)]
     refine qh (qy (k + 1) qz qw rfl rfl rfl (SlV.own [] rfl) (by omega) (Nat.mul_one _) ?_)
     exact ⟨rfl, rfl⟩
    refine gD (fun W Fs R lF z9 => ?_) ?_
    ·replace hMC := hMC.mono lF
     replace hqs := hqs.mono lF
     replace ha1 := ha1.mono lF
     rw [zA 3 (z9 3 rfl)]
     refine qh (qi qT rfl (Rd.sl [] rfl he1) ?_)
     exact ⟨rfl, rfl⟩
    refine gD (fun W Fs R lF z9 => ?_) ?_
    ·refine qh (qk (qsv) rfl ?_)
     exact ⟨rfl, rfl⟩
    refine gD (fun W Fs R lF z9 => ?_) ?_
    ·replace hMC := hMC.mono lF
     replace hqs := hqs.mono lF
     replace ha1 := ha1.mono lF
     rw [zA 5 (z9 5 rfl)]
     refine qh (qy 0 qf qr rfl rfl rfl hqs.slv (by omega) (Nat.mul_one _) ?_)
     exact ⟨rfl, rfl⟩
    refine gD (fun W Fs R lF z9 => ?_) ?_
    ·replace hMC := hMC.mono lF
     replace hqs := hqs.mono lF
     replace ha1 := ha1.mono lF
     rw [zA 6 (z9 6 rfl)]
     refine qh (qi qM rfl (hqs.rd (by omega)) ?_)
     exact ⟨rfl, rfl⟩
    refine gD (fun W Fs R lF z9 => ?_) ?_
    ·replace hMC := hMC.mono lF
     replace hqs := hqs.mono lF
     replace ha1 := ha1.mono lF
     rw [zB 4 7 (z9 4 rfl) (z9 7 rfl)]
     refine qh (qy ((qs.getD 0 0).toNat) qf qr rfl rfl (by omega) ha1.slv (by omega) (Nat.mul_one _) ?_)
     exact ⟨rfl, rfl⟩
    refine gD (fun W Fs R lF z9 => ?_) ?_
    ·replace hMC := hMC.mono lF
     replace hqs := hqs.mono lF
     replace ha1 := ha1.mono lF
     rw [zA 8 (z9 8 rfl)]
     refine qh (qi qM rfl (ha1.rd (by omega)) ?_)
     exact ⟨rfl, rfl⟩
    refine gD (fun W Fs R lF z9 => ?_) ?_
    ·refine qh (qk (mv) rfl ?_)
     exact ⟨rfl, rfl⟩
    refine gD (fun W Fs R lF z9 => ?_) ?_
    ·refine qh (qk (qsv) rfl ?_)
     exact ⟨rfl, rfl⟩
    refine gD (fun W Fs R lF z9 => ?_) ?_
    ·replace hMC := hMC.mono lF
     replace hqs := hqs.mono lF
     rw [zA 11 (z9 11 rfl)]
     refine qh (XOp.sliceI 1 ((qs).length) qf qr rfl hqs ⟨_, rfl⟩ rfl (by omega) (by omega) ?_)
     intro v2 hv2 hn2
     exact ⟨⟨rfl, hv2, hn2⟩, rfl⟩
    refine gD (fun W Fs R lF z9 => ?_) ?_
    ·refine qh (qk (ii ((n : Int))) rfl ?_)
     exact ⟨rfl, rfl⟩
    refine gD (fun W Fs R lF z9 => ?_) ?_
    ·refine qh (qk (ii (((k + 1 : Nat) : Int))) rfl ?_)
     exact ⟨rfl, rfl⟩
    refine gD (fun W Fs R lF z9 => ?_) ?_
    ·rw [zB 13 14 (z9 13 rfl) (z9 14 rfl)]
     refine qh (js (((n - (k + 1) : Nat) : Int)) rfl rfl (by omega) (by omega) ?_)
     exact ⟨rfl, rfl⟩
    refine gD (fun W Fs R lF z9 => ?_) ?_
    ·obtain ⟨e12, f12_2hv, f12_2hn⟩ := z9 12 rfl
     replace hMC := hMC.mono lF
     rw [eS (l := [(10, _), (12, (W 12)), (15, _)]) ⟨z9 10 rfl, (e12).symm, z9 15 rfl, ⟨⟩⟩]
     refine qh (qq (args := [mv, (W 12), ii ((n - (k + 1) : Nat) : Int)]) call36 rfl (jl [] (ih ((((qs.drop 1).take (((qs).length) - 1))).length) (by omega) (mm := mm) (mcs := mcs) (mn := mn) (n := n - (k + 1)) hmv hMC (by first | rfl | assumption | omega) f12_2hv (hnm := (by omega)) (hm4 := (by first | assumption | rfl | omega | simp)) (hql4 := (by omega)) (hqb := (fun i hi => by rw [htl9] at hi; rw [htd]; have h9 := hqb (i + 1) (by omega); simpa [List.getD, Nat.add_comm] using h9)) (hcb := (hcb)) (hd := (Nat.le_refl _)))) ?_)
     rintro _ _ _ _ ⟨⟨rfl, rfl⟩, rfl⟩
     exact ⟨rfl, rfl⟩
    refine gD (fun W Fs R lF z9 => ?_) ?_
    ·have e16 : (ii (waysF (cM mm) (((qs.drop 1).take (((qs).length) - 1))) (n - (k + 1))) : Value) = (W 16) := z9 16 rfl
     rw [eS (l := [(9, _), (16, (ii (waysF (cM mm) (((qs.drop 1).take (((qs).length) - 1))) (n - (k + 1)))))]) ⟨z9 9 rfl, (e16).symm, ⟨⟩⟩]
     refine qh (qq (args := [ii (((mm.getD (k + 1) [])).getD ((qs.getD 0 0).toNat) 0), ii (waysF (cM mm) (((qs.drop 1).take (((qs).length) - 1))) (n - (k + 1)))]) call67 rfl (l23Times_spec (a := ((mm.getD (k + 1) [])).getD ((qs.getD 0 0).toNat) 0) (b := waysF (cM mm) (((qs.drop 1).take (((qs).length) - 1))) (n - (k + 1))) (hb := (hmb9))) ?_)
     rintro _ _ _ _ ⟨rfl, rfl, rfl⟩
     exact ⟨rfl, rfl⟩
    exact stepsG.nil
   intro W F3 le3 hphi
   obtain ⟨e12, f12_2hv, f12_2hn⟩ := hphi 12 (by decide)
   have e16 : (ii (waysF (cM mm) (((qs.drop 1).take (((qs).length) - 1))) (n - (k + 1))) : Value) = (W 16) := hphi 16 (by decide)
   generalize hu1 : (W 12) = u1 at e12 f12_2hv f12_2hn e16
   rw [zB 0 17 (hphi 0 (by decide)) (hphi 17 (by decide))]
   show XL _ _ _ _ _ _ _ (slH 24 1 mv mn mcs :: L)
   refine cX (qD (s + (min ((((mm.getD (k + 1) [])).getD ((qs.getD 0 0).toNat) 0) * (waysF (cM mm) (((qs.drop 1).take (((qs).length) - 1))) (n - (k + 1)))) 1000000000)) rfl rfl (by omega) (by omega) (cX (qq (args := [ii (s + (min ((((mm.getD (k + 1) [])).getD ((qs.getD 0 0).toNat) 0) * (waysF (cM mm) (((qs.drop 1).take (((qs).length) - 1))) (n - (k + 1)))) 1000000000)), ii (1000000000)]) call35 rfl (l1MinC_spec (a := s + (min ((((mm.getD (k + 1) [])).getD ((qs.getD 0 0).toNat) 0) * (waysF (cM mm) (((qs.drop 1).take (((qs).length) - 1))) (n - (k + 1)))) 1000000000)) (b := 1000000000)) ?_)))
   rintro _ _ _ _ ⟨rfl, rfl, rfl⟩
   refine qg (ii (min (s + (min ((((mm.getD (k + 1) [])).getD ((qs.getD 0 0).toNat) 0) * (waysF (cM mm) (((qs.drop 1).take (((qs).length) - 1))) (n - (k + 1)))) 1000000000)) 1000000000)) rfl (qb (qa (qd (ii (((k + 1 : Nat) : Int))) rfl (cX (qD ((((k + 1) + 1 : Nat) : Int)) rfl rfl (by omega) (by omega) (qg (ii ((((k + 1) + 1 : Nat) : Int))) rfl (qb ?_)))))))
   exact ⟨(k + 1, min (s + (min ((((mm.getD (k + 1) [])).getD ((qs.getD 0 0).toNat) 0) * (waysF (cM mm) (((qs.drop 1).take (((qs).length) - 1))) (n - (k + 1)))) 1000000000)) 1000000000), _, FLe.refl _, le3, ⟨rfl, rfl, rfl, rfl, rfl, ⟨⟩⟩, (sC sR), ⟨rfl, (by (try dsimp only) <;> omega), (by (try dsimp only); rw [waysGo]; first | (rw [if_pos hpo, ← hs, htd]; show min (s + min (cM mm (k + 1) (qs.getD 0 0) * _) _) _ = _; omega) | (rw [if_neg hpo, ← hs])), (by (try dsimp only); omega)⟩, (by omega)⟩
  have hpo : ¬ 0 < (cM mm (k + 1) (qs.getD 0 0)) := h3
  refine qx (qa (qd (ii (((k + 1 : Nat) : Int))) rfl (cX (qD ((((k + 1) + 1 : Nat) : Int)) rfl rfl (by omega) (by omega) (qg (ii ((((k + 1) + 1 : Nat) : Int))) rfl (qb ?_))))))
  exact ⟨(k + 1, s), _, FLe.refl _, rF, ⟨rfl, rfl, rfl, rfl, rfl, ⟨⟩⟩, (sC sR), ⟨rfl, (by (try dsimp only) <;> omega), (by (try dsimp only); rw [waysGo]; first | (rw [if_pos hpo, ← hs, htd]; show min (s + min (cM mm (k + 1) (qs.getD 0 0) * _) _) _ = _; omega) | (rw [if_neg hpo, ← hs])), (by (try dsimp only); omega)⟩, (by omega)⟩
 refine jd (qp (qp (qJ (qc (qa (qd (ii (s)) rfl (qg (ii (s)) rfl (qb (qC (qv (L' := slH 24 1 mv mn mcs :: L) [ii (s)] (ii (s)) (.tmp rfl .nil) rfl rF rF (sC sR) ?_))))))))))
 exact ⟨⟨rfl, congrArg (Value.int .i64) (by rw [waysF_at hq0, hs, show k = n from by omega])⟩, rfl⟩

theorem l23Ways_spec (d : Nat) : ∀ {F : FH} {L : List HP} {mv : Value} {mm : List (List Int)} {mcs : List Value} {mn : Nat} (hmv : IsSl mv) (hMC : RowsC F mcs mm) (hmn : mn = mm.length) {qsv : Value} {qs : List Int} (hqs : IntsF F qsv qs) {n : Nat} (hnm : n < mm.length) (hm4 : mm.length ≤ 4000000) (hql4 : qs.length ≤ 4000000) (hqb : ∀ i, i < qs.length → 0 ≤ qs.getD i 0 ∧ ∀ j, j < mm.length → (qs.getD i 0).toNat < (mm.getD j []).length) (hcb : BndC (cM mm)) (hd : qs.length ≤ d), Does prog 36 [mv, qsv, ii ((n : Int))] F (slH 24 1 mv mn mcs :: L) (fun v F' L' => (F = F' ∧ (ii (waysF (cM mm) qs n) : Value) = v) ∧ slH 24 1 mv mn mcs :: L = L') := by
  induction d using Nat.strongRecOn with
  | _ d ih =>
    intros
    exact l23Ways_spec_step ih (by assumption) (by assumption) (by assumption) (by assumption) (by assumption) (by assumption) (by assumption) (by assumption) (by assumption) (by assumption)

/- spec.CountTaken -/
set_option maxHeartbeats 2000000 in
set_option maxRecDepth 20000 in
theorem sCountTaken_spec {F : FH} {L : List HP} {arv : Value} {ar : List Int} (har : IntsF F arv ar) {n : Int} {rsv : Value} {rs : List TranT} (hrs : TransF F rsv rs) {fiv : Value} {fi : List Int} (hfi : IntsF F fiv fi) {z : Int} (hla : ar.length ≤ 4000000) (hlr : rs.length ≤ 4000000) (hrb : ∀ i, i < rs.length → (rs.getD i (0, [], 0)).2.1.length ≤ 4000000) (hlf : fi.length ≤ 4000000) :
    Does prog 10 [.agg #[arv], .agg #[ii (n), rsv, fiv], ii (z)] F (L) (fun v F' L' => (ii (cntZ ar n rs fi z) : Value) = v ∧ F = F' ∧ L = L') := by
 refine qO func10 rfl rfl rfl (qc (qa (cX (ji [arv] rfl rfl ?_))))
 intro b1
 refine cX (ji [ii (n), rsv, fiv] rfl rfl ?_)
 intro b2
 refine qg (ii (0)) rfl (qb (qc (qc (qa (cX (qu [arv] qY qI rfl rfl (Rd.ownN [_] rfl rfl) (cX (qu [ii (n), rsv, fiv] jc qN rfl rfl (Rd.ownN [] rfl rfl) (cX (qq (args := [.agg #[arv], .agg #[ii (n), rsv, fiv]]) call16 rfl (sSureIn_spec har hrs hfi (hla := (by first | assumption | rfl | omega | simp)) (hlr := (by first | assumption | rfl | omega | simp)) (hrb := (hrb)) (hlf := (by first | assumption | rfl | omega | simp))) ?_))))))))))
 rintro _ _ _ _ ⟨rfl, rfl, rfl⟩
 refine cX (jx rfl (qd (.bool (!((autoB ar n rs fi && surB rs)))) rfl ?_))
 by_cases h1 : (!((autoB ar n rs fi && surB rs))) = true
 ·have hno : ¬ ((autoB ar n rs fi && surB rs) = true ∧ 1 ≤ z ∧ z ≤ 60) := fun h9 => by have h8 := h9.1; rw [Bool.not_inj (y := false) h1] at h8; cases h8
  refine qm (t := 18) rfl (vB h1) (qm (t := 18) rfl (vB h1) (qm (t := 18) rfl (vB h1) (cX (qL (.bool (true)) (vB h1) rfl (qb (jA rfl (qc (qa (qg (ii (-1)) rfl (qb (qC (qn (qv (L' := L) [ii (-1)] (ii (-1)) (.tmp rfl .nil) rfl rF rF (sD (sD sR)) ?_)))))))))))))
  exact ⟨(vI (cntZ_no hno)), rfl, rfl⟩
 rw [Bool.not_eq_true] at h1
 have hsu : (autoB ar n rs fi && surB rs) = true := Bool.not_inj (y := true) h1
 have hA : AutoOk ar n rs fi := auto_iff.1 ((Bool.and_eq_true _ _ ▸ hsu : _ ∧ _).1)
 have hfw := hA.few
 have hn1 := hA.n1
 have hn16 := hA.n16
 have hfl := hA.sizes
 refine qo (t := 18) rfl (vB h1) (qk (ii (z)) rfl (qo (t := 18) rfl (vB h1) (qq (args := [ii (z), ii (1), ii (60)]) call34 rfl (l1In_spec (n := z) (a := 1) (b := 60)) ?_)))
 rintro _ _ _ _ ⟨rfl, rfl, rfl⟩
 refine qo (t := 18) rfl (vB h1) (XOp.notD rfl (cX (qQ (.bool (decide (¬(1 ≤ z ∧ z ≤ 60)))) (vB h1) rfl (qb ?_))))
 refine qE (p := ¬(1 ≤ z ∧ z ≤ 60)) rfl (fun h2 => ?_) (fun h2 => ?_)
 ·have hno : ¬ ((autoB ar n rs fi && surB rs) = true ∧ 1 ≤ z ∧ z ≤ 60) := fun h9 => h2 ⟨h9.2.1, h9.2.2⟩
  refine qc (qa (qg (ii (-1)) rfl (qb (qC (qn (qv (L' := L) [ii (-1)] (ii (-1)) (.tmp rfl .nil) rfl rF rF (sD (sD sR)) ?_))))))
  exact ⟨(vI (cntZ_no hno)), rfl, rfl⟩
 have hz9 : 1 ≤ z ∧ z ≤ 60 := by omega
 refine qx (qc (qa (cX (ql (0) qA rfl qr (by decide) rfl rfl (cX (qi qM rfl (Rd.own [] rfl rfl) (cX (XOp.makeSlice (n := (n).toNat) (bytes := 8) [ii (0)] qf qr typeInfo2 rfl jm rfl rfl (vI (show n = (((n).toNat : Nat) : Int) from by omega)) (vI (show n = (((n).toNat : Nat) : Int) from by omega)) (by omega) (by omega) ?_))))))))
 intro v1 hv1
 rw [intsH_zeros]
 refine cX (qP (s := 1) [v1] [sN] [(0, [v1])] qz qw ju rfl (by decide) rfl (.cons (cells_one (jH hv1)) CellsAre.nil) rfl ?_)
 intro v2 hv2
 refine qg (v2) rfl (qb (qc (qc (qa (jz [_] _ _ rfl (fun F1 le1 hz1 => ?_))))))
 replace har := har.mono le1
 replace hrs := hrs.mono le1
 replace hfi := hfi.mono le1
 have hf1 : IntsF F1 v1 ((List.replicate ((n).toNat) 0)) := intsH.fz (xs := (List.replicate ((n).toNat) 0)) hz1.fz
 have hc1 : RowsC F1 [v1] ([(List.replicate ((n).toNat) 0)] : List (List Int)) := (RowsC.snoc (CO.nil : RowsC F1 [] []) hf1)
 have hrp := TabOk.start (rs := rs) hn1
 refine qg (ii (1)) rfl (qb (qF (jg (α := Nat × Value × List (List Int) × List Value × Nat × FH) (fun xQ => [(2, ii (z)), (4, ptr b2 0), (7, xQ.2.1), (8, ii (((xQ.1 + 1 : Nat) : Int)))]) (fun xQ => slH 24 1 xQ.2.1 xQ.2.2.2.2.1 xQ.2.2.2.1 :: cellsH b2 [ii (n), rsv, fiv] 29 :: cellsH b1 [arv] 26 :: L) (fun xQ F' => xQ.2.2.2.2.2 = F' ∧ F1 ≤ xQ.2.2.2.2.2 ∧ (IsSl xQ.2.1) ∧ (RowsC xQ.2.2.2.2.2 xQ.2.2.2.1 xQ.2.2.1) ∧ (xQ.2.2.2.2.1 = xQ.2.2.1.length) ∧ ((xQ.1 : Int) ≤ z) ∧ (TabOk rs n xQ.1 xQ.2.2.1)) (fun xQ => z.toNat - xQ.1) (0, v2, ([(List.replicate ((n).toNat) 0)] : List (List Int)), [v1], 1, F1) ⟨rfl, rfl, rfl, rfl, ⟨⟩⟩ (sC (sC (sC sR))) ⟨rfl, FLe.refl _, ((jH hv2)), (hc1), (rfl), (by (try dsimp only) <;> omega), (hrp)⟩ ?_)))
 rintro ⟨k, ov, mm, cs, m, G1⟩ rE _ _ ⟨rfl, leG, hov, hC, hm, hk, ht⟩
 show X _ _ _ _ (envs [(2, ii (z)), (4, ptr b2 0), (7, ov), (8, ii (((k + 1 : Nat) : Int)))] rE) _ (slH 24 1 ov m cs :: cellsH b2 [ii (n), rsv, fiv] 29 :: cellsH b1 [arv] 26 :: L)
 replace leG : F1 ≤ G1 := leG
 dsimp only at hov hC hm hk ht
 have htl := ht.len
 have leG1 := leG
 replace har := har.mono leG1
 replace hrs := hrs.mono leG1
 replace hfi := hfi.mono leG1
 refine qc (qc (qa (qd (ii (((k + 1 : Nat) : Int))) rfl (qd (ii (z)) rfl (cX (XOp.leq rfl rfl (qb ?_)))))))
 refine qE (p := (((k + 1 : Nat) : Int) : Int) ≤ z) rfl (fun h3 => ?_) (fun h3 => ?_)
 ·refine qx (qc (qF (qc (qa (cX (ql (0) qA rfl qr (by decide) rfl rfl (cX (qi qM rfl (Rd.own [_] rfl rfl) (cX (XOp.makeSlice (n := (n).toNat) (bytes := 8) [ii (0)] qf qr typeInfo2 rfl jm rfl rfl (vI (show n = (((n).toNat : Nat) : Int) from by omega)) (vI (show n = (((n).toNat : Nat) : Int) from by omega)) (by omega) (by omega) ?_))))))))))
  intro v3 hv3
  rw [intsH_zeros]
  refine qg (v3) rfl (qb (qc (qc (qa (qg (ii (0)) rfl (qb (qF (jg (α := Nat × List Int) (fun xQ => [(2, ii (z)), (4, ptr b2 0), (7, ov), (8, ii (((k + 1 : Nat) : Int))), (9, v3), (10, ii (((xQ.1 : Nat) : Int)))]) (fun xQ => intsH 2 v3 xQ.2 :: slH 24 1 ov m cs :: cellsH b2 [ii (n), rsv, fiv] 29 :: cellsH b1 [arv] 26 :: L) (fun xQ F' => G1 = F' ∧ (xQ.1 ≤ rs.length) ∧ (RowOk rs n k xQ.1 xQ.2)) (fun xQ => rs.length - xQ.1) (0, (List.replicate ((n).toNat) 0)) ⟨rfl, rfl, rfl, rfl, rfl, rfl, ⟨⟩⟩ (sC (sC (sC (sC sR)))) ⟨rfl, (Nat.zero_le _), (RowOk.start)⟩ ?_))))))))
  rintro ⟨i, xs⟩ rE _ _ ⟨rfl, hi, hr⟩
  show X _ _ _ _ (envs [(2, ii (z)), (4, ptr b2 0), (7, ov), (8, ii (((k + 1 : Nat) : Int))), (9, v3), (10, ii ((i : Int)))] rE) _ (intsH 2 v3 xs :: slH 24 1 ov m cs :: cellsH b2 [ii (n), rsv, fiv] 29 :: cellsH b1 [arv] 26 :: L)
  dsimp only at hi hr
  have hTi := fun (h : i < rs.length) => hA.rule i h
  have hxl := hr.1
  have hbi := hrb i
  refine qc (qc (qa (qd (ii ((i : Int))) rfl (cX (ql (1) qA rfl jh (by decide) rfl rfl (cX (qi jo rfl (Rd.own [_, _] rfl rfl) (cX (qG qR rfl hrs.slv (cX (qV rfl rfl (qb ?_))))))))))))
  refine qE (p := (i : Int) < (rs.length : Int)) rfl (fun h4 => ?_) (fun h4 => ?_)
  ·refine qx (qc (qF (qc (qa (cX (ql (1) qA rfl jh (by decide) rfl rfl (cX (qi jo rfl (Rd.own [_, _] rfl rfl) (qd (ii ((i : Int))) rfl (cX (qy i qR jb rfl rfl rfl hrs.slv (by omega) rfl ?_)))))))))))
   obtain ⟨a1, ha1, hrg1, hq1⟩ := hrs.rd (i := i) (by omega)
   refine cX (qu [ii ((rs.getD i (0, [], 0)).1), a1, ii ((rs.getD i (0, [], 0)).2.2)] jD jb rfl rfl (Rd.all (hrg1 _)) (cX (jt [ii (0), sN, ii (0)] jF rfl ?_)))
   intro b3
   refine cX (qX [] _ [ii ((rs.getD i (0, [], 0)).1), a1, ii ((rs.getD i (0, [], 0)).2.2)] jb rfl rfl rfl (qt rfl (qt (qU (qS ha1)) (qt rfl qZ))) rfl rfl rfl ?_)
   have hT9 := hTi (by omega)
   have hto9 := hT9.to
   have hag9 := hA.argl (show i < rs.length by omega)
   have hrb9 := hr.bnd (q := (rs.getD i (0, [], 0)).2.2) hto9.1 hto9.2
   have hwb9 := waysF_bnd (ht.bnd hn1) (rs.getD i (0, [], 0)).2.1 k
   refine qb ?_
   refine X.drawG [cellsH b3 [ii ((rs.getD i (0, [], 0)).1), a1, ii ((rs.getD i (0, [], 0)).2.2)] 68, intsH 2 v3 xs, slH 24 1 ov m cs, cellsH b2 [ii (n), rsv, fiv] 29, cellsH b1 [arv] 26] L 16 [] [[], [], [1], [], [], [4], [3, 5], [6], [], [], [9], [], [11], [8, 10, 12], [7, 13], [14]] [] (phiG [pe v3, pe (ptr b3 2), pe (ii ((rs.getD i (0, [], 0)).2.2)), pe v3, pe (ptr b3 2), pe (ii ((rs.getD i (0, [], 0)).2.2)), pe (.pointer (some (elemA v3 (((rs.getD i (0, [], 0)).2.2).toNat)))), pe (ii (xs.getD (((rs.getD i (0, [], 0)).2.2).toNat) 0)), pe ov, pe (ptr b3 1), pe a1, pe (ii (((k + 1 : Nat) : Int)) : Value), pe (ii ((k : Int)) : Value), fun FF us v => (ii (waysF (cM mm) ((rs.getD i (0, [], 0)).2.1) k) : Value) = v, pe (ii ((xs.getD (((rs.getD i (0, [], 0)).2.2).toNat) 0) + (waysF (cM mm) ((rs.getD i (0, [], 0)).2.1) k))), pe (ii (min ((xs.getD (((rs.getD i (0, [], 0)).2.2).toNat) 0) + (waysF (cM mm) ((rs.getD i (0, [], 0)).2.1) k)) 1000000000))]) (ownL []) mixed rfl rfl (by kernel_rfl) (by kernel_rfl) (MonoG.get (m1 (m1 (m1 (m1 (m1 (m1 (m1 (m1 (m1 (m1 (m1 (m1 (m1 (mC (fun le h => h) (m1 (m1 MonoG.nil))))))))))))))))) ?_ ?_
   ·refine gD (fun W Fs R lF z9 => ?_) ?_
    ·refine qh (qk (v3) rfl ?_)
     exact ⟨rfl, rfl⟩
    refine gD (fun W Fs R lF z9 => ?_) ?_
    ·refine qh (ql (2) qB rfl qr (by decide) rfl rfl ?_)
     exact ⟨rfl, rfl⟩
    refine gD (fun W Fs R lF z9 => ?_) ?_
    ·replace har := har.mono lF
     replace hfi := hfi.mono lF
     replace hC := hC.mono lF
     replace ha1 := ha1.mono lF
     rw [zA 1 (z9 1 rfl)]
     refine qh (qi qM rfl (Rd.own [] rfl rfl) ?_)
     exact ⟨rfl, rfl⟩
    refine gD (fun W Fs R lF z9 => ?_) ?_
    ·refine qh (qk (v3) rfl ?_)
     exact ⟨rfl, rfl⟩
    refine gD (fun W Fs R lF z9 => ?_) ?_
    ·refine qh (ql (2) qB rfl qr (by decide) rfl rfl ?_)
     exact ⟨rfl, rfl⟩
    refine gD (fun W Fs R lF z9 => ?_) ?_
    ·replace har := har.mono lF
     replace hfi := hfi.mono lF
     replace hC := hC.mono lF
     replace ha1 := ha1.mono lF
     rw [zA 4 (z9 4 rfl)]
     refine qh (qi qM rfl (Rd.own [] rfl rfl) ?_)
     exact ⟨rfl, rfl⟩
    refine gD (fun W Fs R lF z9 => ?_) ?_
    ·replace har := har.mono lF
     replace hfi := hfi.mono lF
     replace hC := hC.mono lF
     replace ha1 := ha1.mono lF
     rw [zB 3 5 (z9 3 rfl) (z9 5 rfl)]
     refine qh (qy (((rs.getD i (0, [], 0)).2.2).toNat) qf qr rfl rfl (by omega) (intsH.slv [_] rfl) (by omega) (Nat.mul_one _) ?_)
     exact ⟨rfl, rfl⟩
    refine gD (fun W Fs R lF z9 => ?_) ?_
    ·replace har := har.mono lF
     replace hfi := hfi.mono lF
     replace hC := hC.mono lF
     replace ha1 := ha1.mono lF
     rw [zA 6 (z9 6 rfl)]
     refine qh (qi qM rfl (intsH.rd [_] rfl (by omega)) ?_)
     exact ⟨rfl, rfl⟩
    refine gD (fun W Fs R lF z9 => ?_) ?_
    ·refine qh (qk (ov) rfl ?_)
     exact ⟨rfl, rfl⟩
    refine gD (fun W Fs R lF z9 => ?_) ?_
    ·refine qh (ql (1) qB rfl qw (by decide) rfl rfl ?_)
     exact ⟨rfl, rfl⟩
    refine gD (fun W Fs R lF z9 => ?_) ?_
    ·replace har := har.mono lF
     replace hfi := hfi.mono lF
     replace hC := hC.mono lF
     replace ha1 := ha1.mono lF
     rw [zA 9 (z9 9 rfl)]
     refine qh (qi qT rfl (Rd.own [] rfl rfl) ?_)
     exact ⟨rfl, rfl⟩
    refine gD (fun W Fs R lF z9 => ?_) ?_
    ·refine qh (qk (ii (((k + 1 : Nat) : Int))) rfl ?_)
     exact ⟨rfl, rfl⟩
    refine gD (fun W Fs R lF z9 => ?_) ?_
    ·rw [zA 11 (z9 11 rfl)]
     refine qh (js ((k : Int)) rfl rfl (by omega) (by omega) ?_)
     exact ⟨rfl, rfl⟩
    refine gD (fun W Fs R lF z9 => ?_) ?_
    ·replace har := har.mono lF
     replace hfi := hfi.mono lF
     replace hC := hC.mono lF
     replace ha1 := ha1.mono lF
     rw [eS (l := [(8, _), (10, _), (12, _)]) ⟨z9 8 rfl, z9 10 rfl, z9 12 rfl, ⟨⟩⟩]
     refine qh (qq (args := [ov, a1, ii (k : Int)]) call36 rfl (jl [_, _] (l23Ways_spec (((rs.getD i (0, [], 0)).2.1).length) (mm := mm) (mcs := cs) (mn := m) (n := k) hov hC (by first | rfl | assumption | omega) ha1 (hnm := (by omega)) (hm4 := (by omega)) (hql4 := (by omega)) (hqb := (fun y hy => ⟨(hT9.arg y hy).1, fun j hj => by rw [ht.row j hj]; have := hT9.arg y hy; omega⟩)) (hcb := (ht.bnd hn1)) (hd := (Nat.le_refl _)))) ?_)
     rintro _ _ _ _ ⟨⟨rfl, rfl⟩, rfl⟩
     exact ⟨rfl, rfl⟩
    refine gD (fun W Fs R lF z9 => ?_) ?_
    ·have e13 : (ii (waysF (cM mm) ((rs.getD i (0, [], 0)).2.1) k) : Value) = (W 13) := z9 13 rfl
     rw [eS (l := [(7, _), (13, (ii (waysF (cM mm) ((rs.getD i (0, [], 0)).2.1) k)))]) ⟨z9 7 rfl, (e13).symm, ⟨⟩⟩]
     refine qh (qD ((xs.getD (((rs.getD i (0, [], 0)).2.2).toNat) 0) + (waysF (cM mm) ((rs.getD i (0, [], 0)).2.1) k)) rfl rfl (by omega) (by omega) ?_)
     exact ⟨rfl, rfl⟩
    refine gD (fun W Fs R lF z9 => ?_) ?_
    ·replace har := har.mono lF
     replace hfi := hfi.mono lF
     replace hC := hC.mono lF
     rw [zA 14 (z9 14 rfl)]
     refine qh (qq (args := [ii ((xs.getD (((rs.getD i (0, [], 0)).2.2).toNat) 0) + (waysF (cM mm) ((rs.getD i (0, [], 0)).2.1) k)), ii (1000000000)]) call35 rfl (l1MinC_spec (a := (xs.getD (((rs.getD i (0, [], 0)).2.2).toNat) 0) + (waysF (cM mm) ((rs.getD i (0, [], 0)).2.1) k)) (b := 1000000000)) ?_)
     rintro _ _ _ _ ⟨rfl, rfl, rfl⟩
     exact ⟨rfl, rfl⟩
    exact stepsG.nil
   intro W F4 le4 hphi
   have e13 : (ii (waysF (cM mm) ((rs.getD i (0, [], 0)).2.1) k) : Value) = (W 13) := hphi 13 (by decide)
   rw [eS (l := [(0, _), (2, _), (15, _)]) ⟨(hphi 0 (by decide)), (hphi 2 (by decide)), (hphi 15 (by decide)), ⟨⟩⟩]
   replace hfi := hfi.mono le4
   replace hC := hC.mono le4
   show XL _ _ _ _ _ _ _ (cellsH b3 [ii ((rs.getD i (0, [], 0)).1), a1, ii ((rs.getD i (0, [], 0)).2.2)] 68 :: intsH 2 v3 xs :: slH 24 1 ov m cs :: cellsH b2 [ii (n), rsv, fiv] 29 :: cellsH b1 [arv] 26 :: L)
   refine cX (qy (((rs.getD i (0, [], 0)).2.2).toNat) qf qr rfl rfl (by omega) (intsH.slv [_] rfl) (by omega) (Nat.mul_one _) (cX (intsH.storeX (i := ((rs.getD i (0, [], 0)).2.2).toNat) (v := v3) [_] _ (xs.set (((rs.getD i (0, [], 0)).2.2).toNat) (min ((xs.getD (((rs.getD i (0, [], 0)).2.2).toNat) 0) + (waysF (cM mm) ((rs.getD i (0, [], 0)).2.1) k)) 1000000000)) qr rfl rfl rfl (by omega) rfl (qb (qa (qd (ii ((i : Int))) rfl (cX (qD (((i + 1 : Nat) : Int)) rfl rfl (by omega) (by omega) (qg (ii (((i + 1 : Nat) : Int))) rfl (qb ?_))))))))))
   exact ⟨(i + 1, (xs.set (((rs.getD i (0, [], 0)).2.2).toNat) (min ((xs.getD (((rs.getD i (0, [], 0)).2.2).toNat) 0) + (waysF (cM mm) ((rs.getD i (0, [], 0)).2.1) k)) 1000000000))), _, FLe.refl _, le4, ⟨rfl, rfl, rfl, rfl, rfl, rfl, ⟨⟩⟩, (sD (sC (sC (sC (sC sR))))), ⟨rfl, (by (try dsimp only) <;> omega), (hr.next hA ht (by omega))⟩, (by omega)⟩
  refine jd (qp (qp (qJ (qa (qd (ov) rfl (qd (v3) rfl (cX (qP (s := 1) [v3] [sN] [(0, [v3])] qz qw ju rfl (by decide) rfl (.cons (cells_one (jH hv3)) CellsAre.nil) rfl ?_))))))))
  intro v4 hv4
  refine jz [_] _ _ rfl (fun F5 le5 hz2 => ?_)
  replace hfi := hfi.mono le5
  replace hC := hC.mono le5
  have hf2 : IntsF F5 v3 xs := intsH.fz (xs := xs) hz2.fz
  refine cX (jN (m := 1) (bytes := 24) (cs := cs) [_] _ [v3] qz typeInfo24 rfl rfl rfl rfl rfl rfl rfl (SlV.own [] rfl) rfl (Rd.lit [] rfl) (qt (qU (qS hf2)) qZ) (by (try simp only [List.length_append, List.length_nil, List.length_cons, List.length_singleton]); omega) (by (try simp only [List.length_append, List.length_nil, List.length_cons, List.length_singleton]); omega) ?_)
  intro v5 hs1 hn1 hm1
  have hc2 := RowsC.snoc hC hf2
  refine qg (v5) rfl (qb (qa (qd (ii (((k + 1 : Nat) : Int))) rfl (cX (qD ((((k + 1) + 1 : Nat) : Int)) rfl rfl (by omega) (by omega) (qg (ii ((((k + 1) + 1 : Nat) : Int))) rfl (qb ?_)))))))
  exact ⟨(k + 1, v5, mm ++ [xs], cs ++ [v3], (m) + 1, F5), _, (qj leG1 le5), rF, ⟨rfl, rfl, rfl, rfl, ⟨⟩⟩, (sD (sC (sC (sC sR)))), ⟨rfl, (qj leG1 le5), (hs1), (hc2), (by (try dsimp only); rw [List.length_append]; simp only [List.length_singleton]; omega), (by (try dsimp only) <;> omega), (ht.next (by rw [show rs.length = i from by omega]; exact hr))⟩, (by omega)⟩
 refine jd (qp (qp (qJ (qc (qa (qg (ii (0)) rfl (qb (qc (qc (qa (qg (ii (0)) rfl (qb (qF (jg (α := Nat × Int) (fun xQ => [(2, ii (z)), (4, ptr b2 0), (7, ov), (12, ii (xQ.2)), (13, ii (((xQ.1 : Nat) : Int)))]) (fun xQ => slH 24 1 ov m cs :: cellsH b2 [ii (n), rsv, fiv] 29 :: cellsH b1 [arv] 26 :: L) (fun xQ F' => G1 = F' ∧ (xQ.1 ≤ fi.length) ∧ (xQ.2 = sumGo rs fi z.toNat xQ.1)) (fun xQ => fi.length - xQ.1) (0, 0) ⟨rfl, rfl, rfl, rfl, rfl, ⟨⟩⟩ (sC (sC (sC sR))) ⟨rfl, (Nat.zero_le _), (rfl)⟩ ?_))))))))))))))
 rintro ⟨i, s⟩ rE _ _ ⟨rfl, hi, hs⟩
 show X _ _ _ _ (envs [(2, ii (z)), (4, ptr b2 0), (7, ov), (12, ii (s)), (13, ii ((i : Int)))] rE) _ (slH 24 1 ov m cs :: cellsH b2 [ii (n), rsv, fiv] 29 :: cellsH b1 [arv] 26 :: L)
 dsimp only at hi hs
 have hsb := sumGo_bnd (rs := rs) (fi := fi) (n := z.toNat) i
 have hfi9 := fun (h : i < fi.length) => hA.fin i h
 refine qc (qc (qa (qd (ii ((i : Int))) rfl (cX (ql (2) qA rfl qw (by decide) rfl rfl (cX (qi qT rfl (Rd.own [_] rfl rfl) (cX (qG qf rfl hfi.slv (cX (qV rfl rfl (qb ?_))))))))))))
 refine qE (p := (i : Int) < (fi.length : Int)) rfl (fun h5 => ?_) (fun h5 => ?_)
 ·have hf9 := hfi9 (by omega)
  have hk9 : k = z.toNat := by omega
  have hcv : (mm.getD z.toNat []).getD (fi.getD i 0).toNat 0 = cntT rs z.toNat z.toNat (fi.getD i 0) := by have h9 := ht.at hf9.1 hf9.2; rw [hk9] at h9; exact h9
  have hcb9 := cntT_bnd (rs := rs) z.toNat z.toNat (fi.getD i 0)
  have hrl9 := ht.row z.toNat (by omega)
  rw [← hcv] at hcb9
  rw [← hs] at hsb
  refine qx (qc (qF ?_))
  obtain ⟨a2, ha2, he1⟩ := hC.get (i := (z).toNat) (by omega)
  refine jq [slH 24 1 ov m cs, cellsH b2 [ii (n), rsv, fiv] 29, cellsH b1 [arv] 26] L 12 [] [[], [], [], [1, 2], [3], [], [5], [], [6, 7], [8], [4, 9], [10]] (phiL [qe (ii (s)), qe ov, qe (ii (z)), qe (.pointer (some (elemA ov ((z).toNat)))), qe a2, qe (ptr b2 2), qe fiv, qe (ii ((i : Int)) : Value), qe (.pointer (some (elemA fiv (i)))), qe (ii (fi.getD i 0)), qe (.pointer (some (elemA a2 ((fi.getD i 0).toNat)))), qe (ii (((mm.getD ((z).toNat) [])).getD ((fi.getD i 0).toNat) 0))]) (ownL []) mixed rfl rfl (by kernel_rfl) ?_ ?_
  ·refine pD (fun W R z9 => ?_) ?_
   ·refine qh (qk (ii (s)) rfl ?_)
    exact ⟨rfl, rfl, rfl⟩
   refine pD (fun W R z9 => ?_) ?_
   ·refine qh (qk (ov) rfl ?_)
    exact ⟨rfl, rfl, rfl⟩
   refine pD (fun W R z9 => ?_) ?_
   ·refine qh (qk (ii (z)) rfl ?_)
    exact ⟨rfl, rfl, rfl⟩
   refine pD (fun W R z9 => ?_) ?_
   ·rw [zB 1 2 (z9 1 rfl) (z9 2 rfl)]
    refine qh (qy ((z).toNat) qz qw rfl rfl (by omega) (SlV.own [] rfl) (by omega) (Nat.mul_one _) ?_)
    exact ⟨rfl, rfl, rfl⟩
   refine pD (fun W R z9 => ?_) ?_
   ·rw [zA 3 (z9 3 rfl)]
    refine qh (qi qT rfl (Rd.sl [] rfl he1) ?_)
    exact ⟨rfl, rfl, rfl⟩
   refine pD (fun W R z9 => ?_) ?_
   ·refine qh (ql (2) qA rfl qw (by decide) rfl rfl ?_)
    exact ⟨rfl, rfl, rfl⟩
   refine pD (fun W R z9 => ?_) ?_
   ·rw [zA 5 (z9 5 rfl)]
    refine qh (qi qT rfl (Rd.own [_] rfl rfl) ?_)
    exact ⟨rfl, rfl, rfl⟩
   refine pD (fun W R z9 => ?_) ?_
   ·refine qh (qk (ii ((i : Int))) rfl ?_)
    exact ⟨rfl, rfl, rfl⟩
   refine pD (fun W R z9 => ?_) ?_
   ·rw [zB 6 7 (z9 6 rfl) (z9 7 rfl)]
    refine qh (qy i qf qr rfl rfl rfl hfi.slv (by omega) (Nat.mul_one _) ?_)
    exact ⟨rfl, rfl, rfl⟩
   refine pD (fun W R z9 => ?_) ?_
   ·rw [zA 8 (z9 8 rfl)]
    refine qh (qi qM rfl (hfi.rd (by omega)) ?_)
    exact ⟨rfl, rfl, rfl⟩
   refine pD (fun W R z9 => ?_) ?_
   ·rw [zB 4 9 (z9 4 rfl) (z9 9 rfl)]
    refine qh (qy ((fi.getD i 0).toNat) qf qr rfl rfl (by omega) ha2.slv (by omega) (Nat.mul_one _) ?_)
    exact ⟨rfl, rfl, rfl⟩
   refine pD (fun W R z9 => ?_) ?_
   ·rw [zA 10 (z9 10 rfl)]
    refine qh (qi qM rfl (ha2.rd (by omega)) ?_)
    exact ⟨rfl, rfl, rfl⟩
   exact stepsP.nil
  intro W hphi
  rw [zB 0 11 (hphi 0 (by decide)) (hphi 11 (by decide))]
  show XL _ _ _ _ _ _ _ (slH 24 1 ov m cs :: cellsH b2 [ii (n), rsv, fiv] 29 :: cellsH b1 [arv] 26 :: L)
  refine cX (qD (s + (((mm.getD ((z).toNat) [])).getD ((fi.getD i 0).toNat) 0)) rfl rfl (by omega) (by omega) (cX (qq (args := [ii (s + (((mm.getD ((z).toNat) [])).getD ((fi.getD i 0).toNat) 0)), ii (1000000000)]) call35 rfl (l1MinC_spec (a := s + (((mm.getD ((z).toNat) [])).getD ((fi.getD i 0).toNat) 0)) (b := 1000000000)) ?_)))
  rintro _ _ _ _ ⟨rfl, rfl, rfl⟩
  refine qg (ii (min (s + (((mm.getD ((z).toNat) [])).getD ((fi.getD i 0).toNat) 0)) 1000000000)) rfl (qb (qa (qd (ii ((i : Int))) rfl (cX (qD (((i + 1 : Nat) : Int)) rfl rfl (by omega) (by omega) (qg (ii (((i + 1 : Nat) : Int))) rfl (qb ?_)))))))
  exact ⟨(i + 1, min (s + (((mm.getD ((z).toNat) [])).getD ((fi.getD i 0).toNat) 0)) 1000000000), _, FLe.refl _, rF, ⟨rfl, rfl, rfl, rfl, rfl, ⟨⟩⟩, (sC (sC (sC sR))), ⟨rfl, (by (try dsimp only) <;> omega), (by (try dsimp only); rw [sumGo, ← hs, hcv])⟩, (by omega)⟩
 refine jd (qp (qp (qJ (qc (qa (qd (ii (s)) rfl (qg (ii (s)) rfl (qb (qC (qv (L' := L) [ii (s)] (ii (s)) (.tmp rfl .nil) rfl rF (qj le1 leG1) (sD (sD (sD sR))) ?_))))))))))
 exact ⟨(vI (by rw [cntZ_yes ⟨hsu, hz9⟩, hs, show fi.length = i from by omega])), rfl, rfl⟩
theorem zeroCounts : ∀ w, (zeroValue 66).run prog w = .ok (.agg (i64s (List.replicate 976 0)).toArray) w := fun w => by
  rw [zeroValue66]; exact congrArg (fun z => Result.ok (Value.agg z) w) (by kernel_rfl)

/- (*impl.counts).ways -/
set_option maxRecDepth 20000 in
theorem ways_step {d : Nat} (ih : ∀ m : Nat, m < d → ∀ {F : FH} {L : List HP} {cb : Nat} {zs : List Int} (hzl : zs.length = 976) (hcb : BndC (cA zs)) {qsv : Value} {qs : List Int} (hqs : IntsF F qsv qs) {n : Nat} (hn : n ≤ 60) (hql4 : qs.length ≤ 4000000) (hqb : ∀ i, i < qs.length → 0 ≤ qs.getD i 0 ∧ qs.getD i 0 < 16) (hd : qs.length ≤ m), Does prog 33 [ptr cb 0, qsv, ii (n : Int)] F (cellsH cb (i64s zs) 66 :: L) (fun v F' L' => (F = F' ∧ (ii (waysF (cA zs) qs n) : Value) = v) ∧ cellsH cb (i64s zs) 66 :: L = L')) {F : FH} {L : List HP} {cb : Nat} {zs : List Int} (hzl : zs.length = 976) (hcb : BndC (cA zs)) {qsv : Value} {qs : List Int} (hqs : IntsF F qsv qs) {n : Nat} (hn : n ≤ 60) (hql4 : qs.length ≤ 4000000) (hqb : ∀ i, i < qs.length → 0 ≤ qs.getD i 0 ∧ qs.getD i 0 < 16) (hd : qs.length ≤ d) :
    Does prog 33 [ptr cb 0, qsv, ii ((n : Int))] F (cellsH cb (i64s zs) 66 :: L) (fun v F' L' => (F = F' ∧ (ii (waysF (cA zs) qs n) : Value) = v) ∧ cellsH cb (i64s zs) 66 :: L = L') := by
 refine qO func33 rfl rfl rfl (qc (qa (qg (ii (0)) rfl (qb (qc (qc (qa (qd (qsv) rfl (cX (qG qf rfl hqs.slv (cX (jp rfl rfl (qb ?_)))))))))))))
 refine qE (p := ((qs.length : Int) : Int) = 0) rfl (fun h1 => ?_) (fun h1 => ?_)
 ·have hq0 : qs = [] := List.length_eq_zero_iff.1 (by omega)
  refine qc (qc (qa (qd (ii ((n : Int))) rfl (cX (jp rfl rfl (qb ?_))))))
  refine qE (p := (n : Int) = 0) rfl (fun h2 => ?_) (fun h2 => ?_)
  ·refine qc (qa (qg (ii (1)) rfl (qb (qC (qn (qn (qv (L' := cellsH cb (i64s zs) 66 :: L) [ii (1)] (ii (1)) (.tmp rfl .nil) rfl rF rF (sC sR) ?_)))))))
   exact ⟨⟨rfl, congrArg (Value.int .i64) (by rw [hq0]; show (if n = 0 then (1 : Int) else 0) = _; rw [if_pos (by omega)])⟩, rfl⟩
  refine qx (qc (qa (qg (ii (0)) rfl (qb (qC (qn (qv (L' := cellsH cb (i64s zs) 66 :: L) [ii (0)] (ii (0)) (.tmp rfl .nil) rfl rF rF (sC sR) ?_)))))))
  exact ⟨⟨rfl, congrArg (Value.int .i64) (by rw [hq0]; show (if n = 0 then (1 : Int) else 0) = _; rw [if_neg (by omega)])⟩, rfl⟩
 have hq0 : qs ≠ [] := fun e => by rw [e] at h1; exact h1 rfl
 have hql : 0 < qs.length := List.length_pos_iff.2 hq0
 have hq9 := hqb 0 hql
 have htd : (qs.drop 1).take (qs.length - 1) = qs.drop 1 := List.take_of_length_le (by rw [List.length_drop]; exact Nat.le_refl _)
 have htl9 : ((qs.drop 1).take (qs.length - 1)).length = qs.length - 1 := by rw [htd, List.length_drop]
 refine qx (qc (qa (qg (ii (0)) rfl (qb (qc (qc (qa (qg (ii (1)) rfl (qb (qF (jg (α := Nat × Int) (fun xQ => [(0, ptr cb 0), (1, qsv), (2, ii ((n : Int))), (7, ii (xQ.2)), (8, ii (((xQ.1 + 1 : Nat) : Int)))]) (fun xQ => cellsH cb (i64s zs) 66 :: L) (fun xQ F' => F = F' ∧ (xQ.1 ≤ n) ∧ (xQ.2 = waysGo (cA zs) (waysF (cA zs) (qs.drop 1)) (qs.getD 0 0) n xQ.1) ∧ (0 ≤ xQ.2 ∧ xQ.2 ≤ 1000000000)) (fun xQ => n - xQ.1) (0, 0) ⟨rfl, rfl, rfl, rfl, rfl, ⟨⟩⟩ (sC sR) ⟨rfl, (Nat.zero_le _), (rfl), (by decide)⟩ ?_)))))))))))
 rintro ⟨k, s⟩ rE _ _ ⟨rfl, hk, hs, hsb⟩
 show X _ _ _ _ (envs [(0, ptr cb 0), (1, qsv), (2, ii ((n : Int))), (7, ii (s)), (8, ii (((k + 1 : Nat) : Int)))] rE) _ (cellsH cb (i64s zs) 66 :: L)
 dsimp only at hk hs hsb
 refine qc (qc (qa (qd (ii (((k + 1 : Nat) : Int))) rfl (qd (ii ((n : Int))) rfl (cX (XOp.leq rfl rfl (qb ?_)))))))
 refine qE (p := (((k + 1 : Nat) : Int) : Int) ≤ (n : Int)) rfl (fun h3 => ?_) (fun h3 => ?_)
 ·refine qx (qc (qF (qc ?_)))
  refine jq [cellsH cb (i64s zs) 66] L 7 [] [[], [], [1], [2], [], [0], [3, 5]] (phiL [qe (ptr cb 0), qe qsv, qe (.pointer (some (elemA qsv (0)))), qe (ii (qs.getD 0 0)), qe (ii (((k + 1 : Nat) : Int)) : Value), qe (ptr cb 0), qe (ptr cb (((qs.getD 0 0).toNat) * 61))]) (ownL []) mixed rfl rfl (by kernel_rfl) ?_ ?_
  ·refine pD (fun W R z9 => ?_) ?_
   ·refine qh (qk (ptr cb 0) rfl ?_)
    exact ⟨rfl, rfl, rfl⟩
   refine pD (fun W R z9 => ?_) ?_
   ·refine qh (qk (qsv) rfl ?_)
    exact ⟨rfl, rfl, rfl⟩
   refine pD (fun W R z9 => ?_) ?_
   ·rw [zA 1 (z9 1 rfl)]
    refine qh (qy 0 qf qr rfl rfl rfl hqs.slv (by omega) (Nat.mul_one _) ?_)
    exact ⟨rfl, rfl, rfl⟩
   refine pD (fun W R z9 => ?_) ?_
   ·rw [zA 2 (z9 2 rfl)]
    refine qh (qi qM rfl (hqs.rd (by omega)) ?_)
    exact ⟨rfl, rfl, rfl⟩
   refine pD (fun W R z9 => ?_) ?_
   ·refine qh (qk (ii (((k + 1 : Nat) : Int))) rfl ?_)
    exact ⟨rfl, rfl, rfl⟩
   refine pD (fun W R z9 => ?_) ?_
   ·rw [zA 0 (z9 0 rfl)]
    refine qh (jk rfl ?_)
    exact ⟨rfl, rfl, rfl⟩
   refine pD (fun W R z9 => ?_) ?_
   ·rw [zB 3 5 (z9 3 rfl) (z9 5 rfl)]
    refine qh (jy (i := qs.getD 0 0) ((qs.getD 0 0).toNat) (((qs.getD 0 0).toNat) * 61) runUnderlying66 sizeOf64 rfl rfl (by omega) (by omega) (by omega) ?_)
    exact ⟨rfl, rfl, rfl⟩
   exact stepsP.nil
  intro W hphi
  rw [zB 4 6 (hphi 4 (by decide)) (hphi 6 (by decide))]
  show XL _ _ _ _ _ _ _ (cellsH cb (i64s zs) 66 :: L)
  refine cX (jy (i := ((k + 1 : Nat) : Int)) (k + 1) (((qs.getD 0 0).toNat) * 61 + (k + 1)) runUnderlying64 qr rfl rfl rfl (by omega) (by omega) (cX (qi qM rfl (Rd.own [] rfl (i64s_get (by have := hzl; omega))) (qg (ii (zs.getD (((qs.getD 0 0).toNat) * 61 + (k + 1)) 0)) rfl (qb (qc (qa (qd (ii (zs.getD (((qs.getD 0 0).toNat) * 61 + (k + 1)) 0)) rfl (cX (jw rfl rfl (qb ?_)))))))))))
  refine qE (p := (zs.getD (((qs.getD 0 0).toNat) * 61 + (k + 1)) 0 : Int) > 0) rfl (fun h4 => ?_) (fun h4 => ?_)
  ·have hpo : 0 < (cA zs (k + 1) (qs.getD 0 0)) := h4
   have hmb := mul_bnd (hcb (k + 1) (qs.getD 0 0)) (waysF_bnd (c := cA zs) hcb (qs.drop 1) (n - (k + 1)))
   have hmb9 : 0 ≤ zs.getD ((qs.getD 0 0).toNat * 61 + (k + 1)) 0 * waysF (cA zs) ((qs.drop 1).take (qs.length - 1)) (n - (k + 1)) ∧ zs.getD ((qs.getD 0 0).toNat * 61 + (k + 1)) 0 * waysF (cA zs) ((qs.drop 1).take (qs.length - 1)) (n - (k + 1)) ≤ 1000000000000000000 := by rw [htd]; exact hmb
   refine qa (qd (ii (s)) rfl (qd (ii (zs.getD (((qs.getD 0 0).toNat) * 61 + (k + 1)) 0)) rfl (qd (ptr cb 0) rfl (qd (qsv) rfl (cX (XOp.sliceI 1 ((qs).length) qf qr rfl hqs ⟨_, rfl⟩ rfl (by omega) (by omega) ?_))))))
   intro v1 hv1 hn1
   refine qd (ii ((n : Int))) rfl (qd (ii (((k + 1 : Nat) : Int))) rfl (cX (js (((n - (k + 1) : Nat) : Int)) rfl rfl (by omega) (by omega) (cX (qq (args := [ptr cb 0, v1, ii ((n - (k + 1) : Nat) : Int)]) call33 rfl (jl [] (ih (((qs.drop 1).take (((qs).length) - 1))).length (by omega) (zs := zs) hzl hcb hv1 (n := n - (k + 1)) (hn := by omega) (hql4 := by omega) (hqb := fun i hi => by rw [htl9] at hi; rw [htd]; have h9 := hqb (i + 1) (by omega); simpa [List.getD, Nat.add_comm] using h9) (hd := Nat.le_refl _))) ?_)))))
   rintro _ _ _ _ ⟨⟨rfl, rfl⟩, rfl⟩
   show XL _ _ _ _ _ _ _ (cellsH cb (i64s zs) 66 :: L)
   refine cX (XOp.mulR ((zs.getD (((qs.getD 0 0).toNat) * 61 + (k + 1)) 0) * (waysF (cA zs) (((qs.drop 1).take (((qs).length) - 1))) (n - (k + 1)))) rfl rfl (by omega) (by omega) (cX (qD (s + ((zs.getD (((qs.getD 0 0).toNat) * 61 + (k + 1)) 0) * (waysF (cA zs) (((qs.drop 1).take (((qs).length) - 1))) (n - (k + 1))))) rfl rfl (by omega) (by omega) (cX (XOp.min2R (a := s + ((zs.getD (((qs.getD 0 0).toNat) * 61 + (k + 1)) 0) * (waysF (cA zs) (((qs.drop 1).take (((qs).length) - 1))) (n - (k + 1))))) (b := 1000000000) (min (s + ((zs.getD (((qs.getD 0 0).toNat) * 61 + (k + 1)) 0) * (waysF (cA zs) (((qs.drop 1).take (((qs).length) - 1))) (n - (k + 1))))) 1000000000) rfl rfl (by omega) (qg (ii (min (s + ((zs.getD (((qs.getD 0 0).toNat) * 61 + (k + 1)) 0) * (waysF (cA zs) (((qs.drop 1).take (((qs).length) - 1))) (n - (k + 1))))) 1000000000)) rfl (qb (qa (qd (ii (((k + 1 : Nat) : Int))) rfl (cX (qD ((((k + 1) + 1 : Nat) : Int)) rfl rfl (by omega) (by omega) (qg (ii ((((k + 1) + 1 : Nat) : Int))) rfl (qb ?_)))))))))))))
   exact ⟨(k + 1, min (s + ((zs.getD (((qs.getD 0 0).toNat) * 61 + (k + 1)) 0) * (waysF (cA zs) (((qs.drop 1).take (((qs).length) - 1))) (n - (k + 1))))) 1000000000), _, FLe.refl _, rF, ⟨rfl, rfl, rfl, rfl, rfl, ⟨⟩⟩, (sC sR), ⟨rfl, (by (try dsimp only) <;> omega), (by (try dsimp only); rw [waysGo]; first | (rw [if_pos hpo, ← hs, htd]; rfl) | (rw [if_neg hpo, ← hs])), (by (try dsimp only); omega)⟩, (by omega)⟩
  have hpo : ¬ 0 < (cA zs (k + 1) (qs.getD 0 0)) := h4
  refine qx (qa (qd (ii (((k + 1 : Nat) : Int))) rfl (cX (qD ((((k + 1) + 1 : Nat) : Int)) rfl rfl (by omega) (by omega) (qg (ii ((((k + 1) + 1 : Nat) : Int))) rfl (qb ?_))))))
  exact ⟨(k + 1, s), _, FLe.refl _, rF, ⟨rfl, rfl, rfl, rfl, rfl, ⟨⟩⟩, (sC sR), ⟨rfl, (by (try dsimp only) <;> omega), (by (try dsimp only); rw [waysGo]; first | (rw [if_pos hpo, ← hs, htd]; rfl) | (rw [if_neg hpo, ← hs])), (by (try dsimp only); omega)⟩, (by omega)⟩
 refine jd (qp (qp (qJ (qc (qa (qd (ii (s)) rfl (qg (ii (s)) rfl (qb (qC (qv (L' := cellsH cb (i64s zs) 66 :: L) [ii (s)] (ii (s)) (.tmp rfl .nil) rfl rF rF (sC sR) ?_))))))))))
 exact ⟨⟨rfl, congrArg (Value.int .i64) (by rw [waysF_at hq0, hs, show k = n from by omega])⟩, rfl⟩

theorem ways_spec (d : Nat) : ∀ {F : FH} {L : List HP} {cb : Nat} {zs : List Int} (hzl : zs.length = 976) (hcb : BndC (cA zs)) {qsv : Value} {qs : List Int} (hqs : IntsF F qsv qs) {n : Nat} (hn : n ≤ 60) (hql4 : qs.length ≤ 4000000) (hqb : ∀ i, i < qs.length → 0 ≤ qs.getD i 0 ∧ qs.getD i 0 < 16) (hd : qs.length ≤ d), Does prog 33 [ptr cb 0, qsv, ii (n : Int)] F (cellsH cb (i64s zs) 66 :: L) (fun v F' L' => (F = F' ∧ (ii (waysF (cA zs) qs n) : Value) = v) ∧ cellsH cb (i64s zs) 66 :: L = L') := by
  induction d using Nat.strongRecOn with
  | _ d ih =>
    intros
    exact ways_step ih (by assumption) (by assumption) (by assumption) (by assumption) (by assumption) (by assumption) (by assumption)

/- impl.CountTaken -/
set_option maxHeartbeats 2000000 in
set_option maxRecDepth 20000 in
theorem CountTaken_spec {F : FH} {L : List HP} {arv : Value} {ar : List Int} (har : IntsF F arv ar) {n : Int} {rsv : Value} {rs : List TranT} (hrs : TransF F rsv rs) {fiv : Value} {fi : List Int} (hfi : IntsF F fiv fi) {z : Int} (hlf : fi.length ≤ 4000000) :
    Does prog 8 [.agg #[arv], .agg #[ii (n), rsv, fiv], ii (z)] F (L) (fun v F' L' => (ii (cntZ ar n rs fi z) : Value) = v ∧ F = F' ∧ L = L') := by
 refine qO func8 rfl rfl rfl (qc (qa (cX (ji [arv] rfl rfl ?_))))
 intro b1
 refine cX (ji [ii (n), rsv, fiv] rfl rfl ?_)
 intro b2
 refine qg (ii (0)) rfl (qb (qc (qc (qa (cX (qu [arv] qY qI rfl rfl (Rd.ownN [_] rfl rfl) (cX (qu [ii (n), rsv, fiv] jc qN rfl rfl (Rd.ownN [] rfl rfl) (cX (qq (args := [.agg #[arv], .agg #[ii (n), rsv, fiv]]) call32 rfl (SureIn_spec har hrs hfi (hlf := (by first | assumption | rfl | omega | simp))) ?_))))))))))
 rintro _ _ _ _ ⟨rfl, rfl, rfl⟩
 refine cX (jx rfl (qd (.bool (!((autoB ar n rs fi && surB rs)))) rfl ?_))
 by_cases h1 : (!((autoB ar n rs fi && surB rs))) = true
 ·have hno : ¬ ((autoB ar n rs fi && surB rs) = true ∧ 1 ≤ z ∧ z ≤ 60) := fun h9 => by have h8 := h9.1; rw [Bool.not_inj (y := false) h1] at h8; cases h8
  refine qm (t := 18) rfl (vB h1) (qm (t := 18) rfl (vB h1) (cX (qL (.bool (true)) (vB h1) rfl (qd (.bool (true)) rfl (qm (t := 22) rfl rfl (qm (t := 22) rfl rfl (cX (qL (.bool (true)) rfl rfl (qb (jA rfl (qc (qa ?_))))))))))))
  refine qg (ii (-1)) rfl (qb (qC (qn (qv (L' := L) [ii (-1)] (ii (-1)) (.tmp rfl .nil) rfl rF rF (sD (sD sR)) ?_))))
  exact ⟨(vI (cntZ_no hno)), rfl, rfl⟩
 rw [Bool.not_eq_true] at h1
 have hsu : (autoB ar n rs fi && surB rs) = true := Bool.not_inj (y := true) h1
 have hA : AutoOk ar n rs fi := auto_iff.1 ((Bool.and_eq_true _ _ ▸ hsu : _ ∧ _).1)
 have hfw := hA.few
 have hn1 := hA.n1
 have hn16 := hA.n16
 have hfl := hA.sizes
 refine qo (t := 18) rfl (vB h1) (qk (ii (z)) rfl (qo (t := 18) rfl (vB h1) (qV rfl rfl (cX (qQ (.bool (decide ((z : Int) < 1))) (vB h1) rfl (qd (.bool (decide ((z : Int) < 1))) rfl ?_))))))
 by_cases h2 : (z : Int) < 1
 ·have hno : ¬ ((autoB ar n rs fi && surB rs) = true ∧ 1 ≤ z ∧ z ≤ 60) := fun h9 => by omega
  refine qm (t := 22) rfl (vT h2) (qm (t := 22) rfl (vT h2) (cX (qL (.bool (true)) (vT h2) rfl (qb (jA rfl (qc (qa (qg (ii (-1)) rfl (qb (qC (qn (qv (L' := L) [ii (-1)] (ii (-1)) (.tmp rfl .nil) rfl rF rF (sD (sD sR)) ?_))))))))))))
  exact ⟨(vI (cntZ_no hno)), rfl, rfl⟩
 refine qo (t := 22) rfl (vF h2) (qk (ii (z)) rfl (qo (t := 22) rfl (vF h2) (jw rfl rfl (cX (qQ (.bool (decide ((z : Int) > 60))) (vF h2) rfl (qb ?_))))))
 refine qE (p := (z : Int) > 60) rfl (fun h3 => ?_) (fun h3 => ?_)
 ·have hno : ¬ ((autoB ar n rs fi && surB rs) = true ∧ 1 ≤ z ∧ z ≤ 60) := fun h9 => by omega
  refine qc (qa (qg (ii (-1)) rfl (qb (qC (qn (qv (L' := L) [ii (-1)] (ii (-1)) (.tmp rfl .nil) rfl rF rF (sD (sD sR)) ?_))))))
  exact ⟨(vI (cntZ_no hno)), rfl, rfl⟩
 refine qx (qc (qa (cX (jt (i64s (List.replicate 976 0)) zeroCounts rfl ?_))))
 intro b3
 have hl1 : (List.replicate 976 (0 : Int)).length = 976 := List.length_replicate
 refine qb (qc (qc (qa (qg (ii (1)) rfl (qb (qF (jg (α := Nat × List Int) (fun xQ => [(2, ii (z)), (4, ptr b2 0), (7, ptr b3 0), (8, ii (((xQ.1 + 1 : Nat) : Int)))]) (fun xQ => cellsH b3 (i64s xQ.2) 66 :: cellsH b2 [ii (n), rsv, fiv] 29 :: cellsH b1 [arv] 26 :: L) (fun xQ F' => F = F' ∧ ((xQ.1 : Int) ≤ z) ∧ (TabA rs xQ.1 0 xQ.2)) (fun xQ => z.toNat - xQ.1) (0, (List.replicate 976 0)) ⟨rfl, rfl, rfl, rfl, ⟨⟩⟩ (sC (sC (sC sR))) ⟨rfl, (by (try dsimp only) <;> omega), (TabA.start)⟩ ?_)))))))
 rintro ⟨k, zs⟩ rE _ _ ⟨rfl, hk, ht⟩
 show X _ _ _ _ (envs [(2, ii (z)), (4, ptr b2 0), (7, ptr b3 0), (8, ii (((k + 1 : Nat) : Int)))] rE) _ (cellsH b3 (i64s zs) 66 :: cellsH b2 [ii (n), rsv, fiv] 29 :: cellsH b1 [arv] 26 :: L)
 dsimp only at hk ht
 refine qc (qc (qa (qd (ii (((k + 1 : Nat) : Int))) rfl (qd (ii (z)) rfl (cX (XOp.leq rfl rfl (qb ?_)))))))
 refine qE (p := (((k + 1 : Nat) : Int) : Int) ≤ z) rfl (fun h4 => ?_) (fun h4 => ?_)
 ·refine qx (qc (qF (qc (qa (cX (ql (1) qA rfl jh (by decide) rfl rfl (cX (qi jo rfl (Rd.own [_] rfl rfl) (cX (qG qR rfl hrs.slv (qd (ii (0)) rfl (qb (qF (jg (α := Nat × List Int) (fun xQ => [(2, ii (z)), (4, ptr b2 0), (7, ptr b3 0), (8, ii (((k + 1 : Nat) : Int))), (32, rsv), (33, ii ((rs.length : Int))), (34, ii (((xQ.1 : Nat) : Int)))]) (fun xQ => cellsH b3 (i64s xQ.2) 66 :: cellsH b2 [ii (n), rsv, fiv] 29 :: cellsH b1 [arv] 26 :: L) (fun xQ F' => F = F' ∧ (xQ.1 ≤ rs.length) ∧ (TabA rs k xQ.1 xQ.2)) (fun xQ => rs.length - xQ.1) (0, zs) ⟨rfl, rfl, rfl, rfl, rfl, rfl, rfl, ⟨⟩⟩ (sC (sC (sC sR))) ⟨rfl, (Nat.zero_le _), (ht)⟩ ?_))))))))))))))
  rintro ⟨i, xs⟩ rE _ _ ⟨rfl, hi, hr⟩
  show X _ _ _ _ (envs [(2, ii (z)), (4, ptr b2 0), (7, ptr b3 0), (8, ii (((k + 1 : Nat) : Int))), (32, rsv), (33, ii ((rs.length : Int))), (34, ii ((i : Int)))] rE) _ (cellsH b3 (i64s xs) 66 :: cellsH b2 [ii (n), rsv, fiv] 29 :: cellsH b1 [arv] 26 :: L)
  dsimp only at hi hr
  have hTi := fun (h : i < rs.length) => hA.rule i h
  have hxl := hr.len
  refine qc (qa (cX (qV rfl rfl (qb (qc ?_)))))
  refine qE (p := (i : Int) < (rs.length : Int)) rfl (fun h5 => ?_) (fun h5 => ?_)
  ·refine qx (qc (qF (qc (qa (cX (qy i qR jb rfl rfl rfl hrs.slv (by omega) rfl ?_))))))
   obtain ⟨a1, ha1, hrg1, hq1⟩ := hrs.rd (i := i) (by omega)
   refine cX (qu [ii ((rs.getD i (0, [], 0)).1), a1, ii ((rs.getD i (0, [], 0)).2.2)] jD jb rfl rfl (Rd.all (hrg1 _)) (cX (jt [ii (0), sN, ii (0)] jF rfl ?_)))
   intro b4
   refine cX (qX [] _ [ii ((rs.getD i (0, [], 0)).1), a1, ii ((rs.getD i (0, [], 0)).2.2)] jb rfl rfl rfl (qt rfl (qt (qU (qS ha1)) (qt rfl qZ))) rfl rfl rfl ?_)
   have hT9 := hTi (by omega)
   have hto9 := hT9.to
   have hag9 := hA.argl (show i < rs.length by omega)
   have hrb9 := hr.bnd ((rs.getD i (0, [], 0)).2.2.toNat * 61 + (k + 1))
   have hwb9 := waysF_bnd hr.bc (rs.getD i (0, [], 0)).2.1 k
   refine qb ?_
   refine X.drawG [cellsH b4 [ii ((rs.getD i (0, [], 0)).1), a1, ii ((rs.getD i (0, [], 0)).2.2)] 68, cellsH b3 (i64s xs) 66, cellsH b2 [ii (n), rsv, fiv] 29, cellsH b1 [arv] 26] L 17 [] [[], [0], [], [], [3], [], [4], [5, 6], [7], [], [9], [], [11], [10, 12], [8, 13], [14], [1]] [] (phiG [pe (ptr b4 2), pe (ii ((rs.getD i (0, [], 0)).2.2)), pe (ii (((k + 1 : Nat) : Int)) : Value), pe (ptr b4 2), pe (ii ((rs.getD i (0, [], 0)).2.2)), pe (ii (((k + 1 : Nat) : Int)) : Value), pe (ptr b3 ((((rs.getD i (0, [], 0)).2.2).toNat) * 61)), pe (ptr b3 ((((rs.getD i (0, [], 0)).2.2).toNat) * 61 + (k + 1))), pe (ii (xs.getD ((((rs.getD i (0, [], 0)).2.2).toNat) * 61 + (k + 1)) 0)), pe (ptr b4 1), pe a1, pe (ii (((k + 1 : Nat) : Int)) : Value), pe (ii ((k : Int)) : Value), fun FF us v => (ii (waysF (cA xs) ((rs.getD i (0, [], 0)).2.1) k) : Value) = v, pe (ii ((xs.getD ((((rs.getD i (0, [], 0)).2.2).toNat) * 61 + (k + 1)) 0) + (waysF (cA xs) ((rs.getD i (0, [], 0)).2.1) k))), pe (ii (min ((xs.getD ((((rs.getD i (0, [], 0)).2.2).toNat) * 61 + (k + 1)) 0) + (waysF (cA xs) ((rs.getD i (0, [], 0)).2.1) k)) 1000000000)), pe (ptr b3 ((((rs.getD i (0, [], 0)).2.2).toNat) * 61))]) (ownL []) mixed rfl rfl (by kernel_rfl) (by kernel_rfl) (MonoG.get (m1 (m1 (m1 (m1 (m1 (m1 (m1 (m1 (m1 (m1 (m1 (m1 (m1 (mC (fun le h => h) (m1 (m1 (m1 MonoG.nil)))))))))))))))))) ?_ ?_
   ·refine gD (fun W Fs R lF z9 => ?_) ?_
    ·refine qh (ql (2) qB rfl qr (by decide) rfl rfl ?_)
     exact ⟨rfl, rfl⟩
    refine gD (fun W Fs R lF z9 => ?_) ?_
    ·replace har := har.mono lF
     replace hfi := hfi.mono lF
     replace ha1 := ha1.mono lF
     rw [zA 0 (z9 0 rfl)]
     refine qh (qi qM rfl (Rd.own [] rfl rfl) ?_)
     exact ⟨rfl, rfl⟩
    refine gD (fun W Fs R lF z9 => ?_) ?_
    ·refine qh (qk (ii (((k + 1 : Nat) : Int))) rfl ?_)
     exact ⟨rfl, rfl⟩
    refine gD (fun W Fs R lF z9 => ?_) ?_
    ·refine qh (ql (2) qB rfl qr (by decide) rfl rfl ?_)
     exact ⟨rfl, rfl⟩
    refine gD (fun W Fs R lF z9 => ?_) ?_
    ·replace har := har.mono lF
     replace hfi := hfi.mono lF
     replace ha1 := ha1.mono lF
     rw [zA 3 (z9 3 rfl)]
     refine qh (qi qM rfl (Rd.own [] rfl rfl) ?_)
     exact ⟨rfl, rfl⟩
    refine gD (fun W Fs R lF z9 => ?_) ?_
    ·refine qh (qk (ii (((k + 1 : Nat) : Int))) rfl ?_)
     exact ⟨rfl, rfl⟩
    refine gD (fun W Fs R lF z9 => ?_) ?_
    ·replace har := har.mono lF
     replace hfi := hfi.mono lF
     replace ha1 := ha1.mono lF
     rw [zA 4 (z9 4 rfl)]
     refine qh (jy (i := (rs.getD i (0, [], 0)).2.2) (((rs.getD i (0, [], 0)).2.2).toNat) ((((rs.getD i (0, [], 0)).2.2).toNat) * 61) runUnderlying66 sizeOf64 rfl rfl (by omega) (by omega) (by omega) ?_)
     exact ⟨rfl, rfl⟩
    refine gD (fun W Fs R lF z9 => ?_) ?_
    ·replace har := har.mono lF
     replace hfi := hfi.mono lF
     replace ha1 := ha1.mono lF
     rw [zB 5 6 (z9 5 rfl) (z9 6 rfl)]
     refine qh (jy (i := ((k + 1 : Nat) : Int)) (k + 1) ((((rs.getD i (0, [], 0)).2.2).toNat) * 61 + (k + 1)) runUnderlying64 qr rfl rfl rfl (by omega) (by omega) ?_)
     exact ⟨rfl, rfl⟩
    refine gD (fun W Fs R lF z9 => ?_) ?_
    ·replace har := har.mono lF
     replace hfi := hfi.mono lF
     replace ha1 := ha1.mono lF
     rw [zA 7 (z9 7 rfl)]
     refine qh (qi qM rfl (Rd.own [_] rfl (i64s_get (by have := hr.len; omega))) ?_)
     exact ⟨rfl, rfl⟩
    refine gD (fun W Fs R lF z9 => ?_) ?_
    ·refine qh (ql (1) qB rfl qw (by decide) rfl rfl ?_)
     exact ⟨rfl, rfl⟩
    refine gD (fun W Fs R lF z9 => ?_) ?_
    ·replace har := har.mono lF
     replace hfi := hfi.mono lF
     replace ha1 := ha1.mono lF
     rw [zA 9 (z9 9 rfl)]
     refine qh (qi qT rfl (Rd.own [] rfl rfl) ?_)
     exact ⟨rfl, rfl⟩
    refine gD (fun W Fs R lF z9 => ?_) ?_
    ·refine qh (qk (ii (((k + 1 : Nat) : Int))) rfl ?_)
     exact ⟨rfl, rfl⟩
    refine gD (fun W Fs R lF z9 => ?_) ?_
    ·rw [zA 11 (z9 11 rfl)]
     refine qh (js ((k : Int)) rfl rfl (by omega) (by omega) ?_)
     exact ⟨rfl, rfl⟩
    refine gD (fun W Fs R lF z9 => ?_) ?_
    ·replace har := har.mono lF
     replace hfi := hfi.mono lF
     replace ha1 := ha1.mono lF
     rw [zB 10 12 (z9 10 rfl) (z9 12 rfl)]
     refine qh (qq (args := [ptr b3 0, a1, ii (k : Int)]) call33 rfl (jl [_] (ways_spec ((rs.getD i (0, [], 0)).2.1).length (zs := xs) hr.len hr.bc ha1 (n := k) (hn := by omega) (hql4 := by omega) (hqb := fun y hy => by have := hT9.arg y hy; omega) (hd := Nat.le_refl _))) ?_)
     rintro _ _ _ _ ⟨⟨rfl, rfl⟩, rfl⟩
     exact ⟨rfl, rfl⟩
    refine gD (fun W Fs R lF z9 => ?_) ?_
    ·have e13 : (ii (waysF (cA xs) ((rs.getD i (0, [], 0)).2.1) k) : Value) = (W 13) := z9 13 rfl
     rw [eS (l := [(8, _), (13, (ii (waysF (cA xs) ((rs.getD i (0, [], 0)).2.1) k)))]) ⟨z9 8 rfl, (e13).symm, ⟨⟩⟩]
     refine qh (qD ((xs.getD ((((rs.getD i (0, [], 0)).2.2).toNat) * 61 + (k + 1)) 0) + (waysF (cA xs) ((rs.getD i (0, [], 0)).2.1) k)) rfl rfl (by omega) (by omega) ?_)
     exact ⟨rfl, rfl⟩
    refine gD (fun W Fs R lF z9 => ?_) ?_
    ·replace har := har.mono lF
     replace hfi := hfi.mono lF
     rw [zA 14 (z9 14 rfl)]
     refine qh (XOp.min2R (a := (xs.getD ((((rs.getD i (0, [], 0)).2.2).toNat) * 61 + (k + 1)) 0) + (waysF (cA xs) ((rs.getD i (0, [], 0)).2.1) k)) (b := 1000000000) (min ((xs.getD ((((rs.getD i (0, [], 0)).2.2).toNat) * 61 + (k + 1)) 0) + (waysF (cA xs) ((rs.getD i (0, [], 0)).2.1) k)) 1000000000) rfl rfl (by omega) ?_)
     exact ⟨rfl, rfl⟩
    refine gD (fun W Fs R lF z9 => ?_) ?_
    ·replace har := har.mono lF
     replace hfi := hfi.mono lF
     rw [zA 1 (z9 1 rfl)]
     refine qh (jy (i := (rs.getD i (0, [], 0)).2.2) (((rs.getD i (0, [], 0)).2.2).toNat) ((((rs.getD i (0, [], 0)).2.2).toNat) * 61) runUnderlying66 sizeOf64 rfl rfl (by omega) (by omega) (by omega) ?_)
     exact ⟨rfl, rfl⟩
    exact stepsG.nil
   intro W F1 le1 hphi
   have e13 : (ii (waysF (cA xs) ((rs.getD i (0, [], 0)).2.1) k) : Value) = (W 13) := hphi 13 (by decide)
   rw [eS (l := [(2, _), (15, _), (16, _)]) ⟨(hphi 2 (by decide)), (hphi 15 (by decide)), (hphi 16 (by decide)), ⟨⟩⟩]
   replace hfi := hfi.mono le1
   show XL _ _ _ _ _ _ _ (cellsH b4 [ii ((rs.getD i (0, [], 0)).1), a1, ii ((rs.getD i (0, [], 0)).2.2)] 68 :: cellsH b3 (i64s xs) 66 :: cellsH b2 [ii (n), rsv, fiv] 29 :: cellsH b1 [arv] 26 :: L)
   refine cX (jy (i := ((k + 1 : Nat) : Int)) (k + 1) ((((rs.getD i (0, [], 0)).2.2).toNat) * 61 + (k + 1)) runUnderlying64 qr rfl rfl rfl (by omega) (by omega) ?_)
   have hl2 : (xs.set ((((rs.getD i (0, [], 0)).2.2).toNat) * 61 + (k + 1)) (min ((xs.getD ((((rs.getD i (0, [], 0)).2.2).toNat) * 61 + (k + 1)) 0) + (waysF (cA xs) ((rs.getD i (0, [], 0)).2.1) k)) 1000000000)).length = 976 := by rw [List.length_set]; exact hr.len
   refine cX (jC [_] _ (i64s (xs.set ((((rs.getD i (0, [], 0)).2.2).toNat) * 61 + (k + 1)) (min ((xs.getD ((((rs.getD i (0, [], 0)).2.2).toNat) * 61 + (k + 1)) 0) + (waysF (cA xs) ((rs.getD i (0, [], 0)).2.1) k)) 1000000000))) qr rfl rfl rfl rfl (i64s_blt (by have := hr.len; omega)) i64s_set (qb (qa (cX (qD (((i + 1 : Nat) : Int)) rfl rfl (by omega) (by omega) (qd (ii (((i + 1 : Nat) : Int))) rfl (qb ?_)))))))
   exact ⟨(i + 1, (xs.set ((((rs.getD i (0, [], 0)).2.2).toNat) * 61 + (k + 1)) (min ((xs.getD ((((rs.getD i (0, [], 0)).2.2).toNat) * 61 + (k + 1)) 0) + (waysF (cA xs) ((rs.getD i (0, [], 0)).2.1) k)) 1000000000))), _, FLe.refl _, le1, ⟨rfl, rfl, rfl, rfl, rfl, rfl, rfl, ⟨⟩⟩, (sD (sC (sC (sC sR)))), ⟨rfl, (by (try dsimp only) <;> omega), (hr.next hA (by omega) (by omega) rfl)⟩, (by omega)⟩
  refine jd (qp (qp (qJ (qa (qd (ii (((k + 1 : Nat) : Int))) rfl (cX (qD ((((k + 1) + 1 : Nat) : Int)) rfl rfl (by omega) (by omega) (qg (ii ((((k + 1) + 1 : Nat) : Int))) rfl (qb ?_)))))))))
  exact ⟨(k + 1, xs), _, FLe.refl _, rF, ⟨rfl, rfl, rfl, rfl, ⟨⟩⟩, (sC (sC (sC sR))), ⟨rfl, (by (try dsimp only) <;> omega), (TabA.turn (by rw [show rs.length = i from by omega]; exact hr))⟩, (by omega)⟩
 refine jd (qp (qp (qJ (qc (qa (qg (ii (0)) rfl (qb (qc (qc (qa (cX (ql (2) qA rfl qw (by decide) rfl rfl (cX (qi qT rfl (Rd.own [_] rfl rfl) (cX (qG qf rfl hfi.slv (qd (ii (0)) rfl (qb (qF (jg (α := Nat × Int) (fun xQ => [(2, ii (z)), (7, ptr b3 0), (11, ii (xQ.2)), (58, fiv), (59, ii ((fi.length : Int))), (60, ii (((xQ.1 : Nat) : Int)))]) (fun xQ => cellsH b3 (i64s zs) 66 :: cellsH b2 [ii (n), rsv, fiv] 29 :: cellsH b1 [arv] 26 :: L) (fun xQ F' => F = F' ∧ (xQ.1 ≤ fi.length) ∧ (xQ.2 = sumGo rs fi z.toNat xQ.1)) (fun xQ => fi.length - xQ.1) (0, 0) ⟨rfl, rfl, rfl, rfl, rfl, rfl, ⟨⟩⟩ (sC (sC (sC sR))) ⟨rfl, (Nat.zero_le _), (rfl)⟩ ?_))))))))))))))))))))
 rintro ⟨i, s⟩ rE _ _ ⟨rfl, hi, hs⟩
 show X _ _ _ _ (envs [(2, ii (z)), (7, ptr b3 0), (11, ii (s)), (58, fiv), (59, ii ((fi.length : Int))), (60, ii ((i : Int)))] rE) _ (cellsH b3 (i64s zs) 66 :: cellsH b2 [ii (n), rsv, fiv] 29 :: cellsH b1 [arv] 26 :: L)
 dsimp only at hi hs
 have hsb := sumGo_bnd (rs := rs) (fi := fi) (n := z.toNat) i
 have hfi9 := fun (h : i < fi.length) => hA.fin i h
 have hzl9 := ht.len
 refine qc (qa (cX (qV rfl rfl (qb (qc ?_)))))
 refine qE (p := (i : Int) < (fi.length : Int)) rfl (fun h6 => ?_) (fun h6 => ?_)
 ·have hf9 := hfi9 (by omega)
  have hk9 : k = z.toNat := by omega
  have hcv : zs.getD ((fi.getD i 0).toNat * 61 + z.toNat) 0 = cntT rs z.toNat z.toNat (fi.getD i 0) := by have h9 := ht.at (q := fi.getD i 0) (by omega) hf9.1 (by omega); rw [hk9] at h9; exact h9
  have hcb9 := cntT_bnd (rs := rs) z.toNat z.toNat (fi.getD i 0)
  rw [← hcv] at hcb9
  rw [← hs] at hsb
  refine qx (qc (qF (qc (qa (cX (qy i qf qr rfl rfl rfl hfi.slv (by omega) (Nat.mul_one _) (cX (qi qM rfl (hfi.rd (by omega)) (qg (ii (fi.getD i 0)) rfl (qb (qa (qd (ii (s)) rfl (qd (ii (fi.getD i 0)) rfl (qd (ii (z)) rfl (cX (jy (i := fi.getD i 0) ((fi.getD i 0).toNat) (((fi.getD i 0).toNat) * 61) runUnderlying66 sizeOf64 rfl rfl (by omega) (by omega) (by omega) (cX (jy (i := z) ((z).toNat) (((fi.getD i 0).toNat) * 61 + ((z).toNat)) runUnderlying64 qr rfl rfl (by omega) (by omega) (by omega) ?_))))))))))))))))))
  refine cX (qi qM rfl (Rd.own [] rfl (i64s_get (by have := ht.len; omega))) (cX (qD (s + (zs.getD (((fi.getD i 0).toNat) * 61 + ((z).toNat)) 0)) rfl rfl (by omega) (by omega) (cX (XOp.min2R (a := s + (zs.getD (((fi.getD i 0).toNat) * 61 + ((z).toNat)) 0)) (b := 1000000000) (min (s + (zs.getD (((fi.getD i 0).toNat) * 61 + ((z).toNat)) 0)) 1000000000) rfl rfl (by omega) (qg (ii (min (s + (zs.getD (((fi.getD i 0).toNat) * 61 + ((z).toNat)) 0)) 1000000000)) rfl (qb (qa (cX (qD (((i + 1 : Nat) : Int)) rfl rfl (by omega) (by omega) (qd (ii (((i + 1 : Nat) : Int))) rfl (qb ?_))))))))))))
  exact ⟨(i + 1, min (s + (zs.getD (((fi.getD i 0).toNat) * 61 + ((z).toNat)) 0)) 1000000000), _, FLe.refl _, rF, ⟨rfl, rfl, rfl, rfl, rfl, rfl, ⟨⟩⟩, (sC (sC (sC sR))), ⟨rfl, (by (try dsimp only) <;> omega), (by (try dsimp only); rw [sumGo, ← hs, hcv])⟩, (by omega)⟩
 refine jd (qp (qp (qJ (qc (qa (qd (ii (s)) rfl (qg (ii (s)) rfl (qb (qC (qv (L' := L) [ii (s)] (ii (s)) (.tmp rfl .nil) rfl rF rF (sD (sD (sD sR))) ?_))))))))))
 exact ⟨(vI (by rw [cntZ_yes ⟨hsu, by omega⟩, hs, show fi.length = i from by omega])), rfl, rfl⟩

/- spec.l23Least -/
set_option maxHeartbeats 2000000 in
set_option maxRecDepth 20000 in
theorem l23Least_spec {F : FH} {L : List HP}  {n : Int} {rsv : Value} {rs : List TranT} (hrs : TransF F rsv rs) {fiv : Value} {fi : List Int} (hfi : IntsF F fiv fi) {ar : List Int} (hA : AutoOk ar n rs fi) :
    Does prog 30 [.agg #[ii (n), rsv, fiv]] F (L) (fun v F' L' => (∃ (b : Value), (b : Value) = v ∧ (SomeRowsF F' b (fun mm => BestOk ar rs n mm ∧ ClosedT rs mm rs.length))) ∧ L = L') := by
 refine qO func30 rfl rfl rfl ?_
 have hfw := hA.few
 have hn1 := hA.n1
 have hn16 := hA.n16
 refine qc (qa (cX (ji [ii (n), rsv, fiv] rfl rfl ?_)))
 intro b1
 refine qg (sN) rfl (qb (qc (qa (cX (ql (0) qA rfl qr (by decide) rfl rfl (cX (qi qM rfl (Rd.own [] rfl rfl) (cX (XOp.makeSlice (n := (n).toNat) (bytes := 24) [sN] qz qw typeInfo24 rfl ju rfl rfl (vI (show n = (((n).toNat : Nat) : Int) from by omega)) (vI (show n = (((n).toNat : Nat) : Int) from by omega)) (by omega) (by omega) ?_)))))))))
 intro v1 hv1
 rw [nils]
 have hc1 : RowsC F _ _ := RowsC.nils ((n).toNat)
 refine qg (v1) rfl (qb (qc (qc (qa (qg (.bool (true)) rfl (qb (qF (jg (α := Value × List (List Int) × List Value × Nat × Bool × FH) (fun xQ => [(1, ptr b1 0), (3, xQ.1), (4, .bool (xQ.2.2.2.2.1))]) (fun xQ => slH 24 1 xQ.1 xQ.2.2.2.1 xQ.2.2.1 :: cellsH b1 [ii (n), rsv, fiv] 29 :: L) (fun xQ F' => xQ.2.2.2.2.2 = F' ∧ F ≤ xQ.2.2.2.2.2 ∧ (IsSl xQ.1) ∧ (RowsC xQ.2.2.2.2.2 xQ.2.2.1 xQ.2.1) ∧ (xQ.2.2.2.1 = xQ.2.1.length) ∧ (BestOk ar rs n xQ.2.1) ∧ (xQ.2.2.2.2.1 = false → ClosedT rs xQ.2.1 rs.length)) (fun xQ => 2 * muB xQ.2.1 + (if xQ.2.2.2.2.1 = true then 1 else 0)) (v1, (List.replicate ((n).toNat) [] : List (List Int)), (List.replicate ((n).toNat) (sN)), (n).toNat, true, F) ⟨rfl, rfl, rfl, ⟨⟩⟩ (sC (sC sR)) ⟨rfl, FLe.refl _, ((jH hv1)), (hc1), (by (try dsimp only); rw [List.length_replicate]), (BestOk.start), (fun (h : true = false) => by cases h)⟩ ?_))))))))
 rintro ⟨ov, mm, cs, m, b, G1⟩ rE _ _ ⟨rfl, leG, hov, hC, hm, hB, hcl⟩
 show X _ _ _ _ (envs [(1, ptr b1 0), (3, ov), (4, .bool (b))] rE) _ (slH 24 1 ov m cs :: cellsH b1 [ii (n), rsv, fiv] 29 :: L)
 replace leG : F ≤ G1 := leG
 dsimp only at hov hC hm hB hcl
 have leG1 := leG
 replace hrs := hrs.mono leG1
 refine qc (qc (qa (qd (.bool (b)) rfl (qb ?_))))
 refine jr (t := b) rfl (fun h1 => ?_) (fun h1 => ?_)
 ·have hbt : b = true := h1
  refine qx (qF (qc (qa (qg (.bool (false)) rfl (qb (qc (qa (qg (ii (0)) rfl (qb (qF (jg (α := Nat × Value × List (List Int) × List Value × Nat × Bool × FH) (fun xQ => [(1, ptr b1 0), (3, xQ.2.1), (4, .bool (xQ.2.2.2.2.2.1)), (5, ii (((xQ.1 : Nat) : Int)))]) (fun xQ => slH 24 1 xQ.2.1 xQ.2.2.2.2.1 xQ.2.2.2.1 :: cellsH b1 [ii (n), rsv, fiv] 29 :: L) (fun xQ F' => xQ.2.2.2.2.2.2 = F' ∧ G1 ≤ xQ.2.2.2.2.2.2 ∧ (IsSl xQ.2.1) ∧ (RowsC xQ.2.2.2.2.2.2 xQ.2.2.2.1 xQ.2.2.1) ∧ (xQ.2.2.2.2.1 = xQ.2.2.1.length) ∧ (xQ.1 ≤ rs.length) ∧ (BestOk ar rs n xQ.2.2.1) ∧ (xQ.2.2.2.2.2.1 = true → muB xQ.2.2.1 < muB mm) ∧ (xQ.2.2.2.2.2.1 = false → xQ.2.2.1 = mm ∧ ClosedT rs mm xQ.1) ∧ (muB xQ.2.2.1 ≤ muB mm)) (fun xQ => rs.length - xQ.1) (0, ov, mm, cs, m, false, G1) ⟨rfl, rfl, rfl, rfl, ⟨⟩⟩ (sC (sC sR)) ⟨rfl, FLe.refl _, (hov), (hC), (hm), (Nat.zero_le _), (hB), (fun (h : false = true) => by cases h), (fun _ => ⟨rfl, fun i hi => absurd hi (by omega)⟩), (Nat.le_refl _)⟩ ?_)))))))))))
  rintro ⟨k, ow, mm1, cs1, m1, bw, G2⟩ rE _ _ ⟨rfl, leG, how, hC1, hm1, hk, hB1, hye1, hno1, hle1⟩
  show X _ _ _ _ (envs [(1, ptr b1 0), (3, ow), (4, .bool (bw)), (5, ii ((k : Int)))] rE) _ (slH 24 1 ow m1 cs1 :: cellsH b1 [ii (n), rsv, fiv] 29 :: L)
  replace leG : G1 ≤ G2 := leG
  dsimp only at how hC1 hm1 hk hB1 hye1 hno1 hle1
  have hTk := fun (h : k < rs.length) => hA.rule k h
  have hlk := fun (h : k < rs.length) => hA.argl h
  have hml1 := hB1.len
  have leG2 := leG
  replace hrs := hrs.mono leG2
  replace hC := hC.mono leG2
  refine qc (qc (qa (qd (ii ((k : Int))) rfl (cX (ql (1) qA rfl jh (by decide) rfl rfl (cX (qi jo rfl (Rd.own [_] rfl rfl) (cX (qG qR rfl hrs.slv (cX (qV rfl rfl (qb ?_))))))))))))
  refine qE (p := (k : Int) < (rs.length : Int)) rfl (fun h2 => ?_) (fun h2 => ?_)
  ·refine qx (qc (qF (qc (qa (cX (ql (1) qA rfl jh (by decide) rfl rfl (cX (qi jo rfl (Rd.own [_] rfl rfl) (qd (ii ((k : Int))) rfl (cX (qy k qR jb rfl rfl rfl hrs.slv (by omega) rfl ?_)))))))))))
   obtain ⟨a1, ha1, hrg1, hq1⟩ := hrs.rd (i := k) (by omega)
   refine cX (qu [ii ((rs.getD k (0, [], 0)).1), a1, ii ((rs.getD k (0, [], 0)).2.2)] jD jb rfl rfl (Rd.all (hrg1 _)) (cX (jt [ii (0), sN, ii (0)] jF rfl ?_)))
   intro b2
   refine cX (qX [] _ [ii ((rs.getD k (0, [], 0)).1), a1, ii ((rs.getD k (0, [], 0)).2.2)] jb rfl rfl rfl (qt rfl (qt (qU (qS ha1)) (qt rfl qZ))) rfl rfl rfl (qb (qc (qa (cX (ql (0) qB rfl qr (by decide) rfl rfl (cX (qi qM rfl (Rd.own [] rfl rfl) (cX (qP (s := 1) [ii ((rs.getD k (0, [], 0)).1)] [ii (0)] [(0, [ii ((rs.getD k (0, [], 0)).1)])] qf qr jm rfl (by decide) rfl (.cons rfl CellsAre.nil) rfl ?_))))))))))
   intro v2 hv2
   refine qg (v2) rfl (qb (qc (qa (qg (.bool (true)) rfl (qb (qc (qc (qa ?_))))))))
   show XL _ _ _ _ _ _ _ (intsH 2 v2 ([(rs.getD k (0, [], 0)).1] : List Int) :: cellsH b2 [ii ((rs.getD k (0, [], 0)).1), a1, ii ((rs.getD k (0, [], 0)).2.2)] 68 :: slH 24 1 ow m1 cs1 :: cellsH b1 [ii (n), rsv, fiv] 29 :: L)
   skip
   refine qg (ii (0)) rfl (qb (qF (jg (α := Nat × Value × List Int × Bool × FH) (fun xQ => [(1, ptr b1 0), (3, ow), (4, .bool (bw)), (5, ii ((k : Int))), (6, ptr b2 0), (7, xQ.2.1), (8, .bool (xQ.2.2.2.1)), (9, ii (((xQ.1 : Nat) : Int)))]) (fun xQ => intsH 2 xQ.2.1 xQ.2.2.1 :: cellsH b2 [ii ((rs.getD k (0, [], 0)).1), a1, ii ((rs.getD k (0, [], 0)).2.2)] 68 :: slH 24 1 ow m1 cs1 :: cellsH b1 [ii (n), rsv, fiv] 29 :: L) (fun xQ F' => xQ.2.2.2.2 = F' ∧ G2 ≤ xQ.2.2.2.2 ∧ (IsSl xQ.2.1) ∧ (xQ.1 ≤ (rs.getD k (0, [], 0)).2.1.length) ∧ (xQ.2.2.2.1 = true → xQ.2.2.1 = (rs.getD k (0, [], 0)).1 :: catB mm1 (rs.getD k (0, [], 0)).2.1 xQ.1 ∧ ∀ i, i < xQ.1 → mm1.getD ((rs.getD k (0, [], 0)).2.1.getD i 0).toNat [] ≠ []) ∧ (xQ.2.2.2.1 = false → ¬ ((∀ i, i < (rs.getD k (0, [], 0)).2.1.length → mm1.getD ((rs.getD k (0, [], 0)).2.1.getD i 0).toNat [] ≠ []) ∧ (tmB mm1 (rs.getD k (0, [], 0))).length ≤ 60)) ∧ (xQ.2.2.1.length ≤ 60)) (fun xQ => (rs.getD k (0, [], 0)).2.1.length - xQ.1) (0, v2, [(rs.getD k (0, [], 0)).1], true, G2) ⟨rfl, rfl, rfl, rfl, rfl, rfl, rfl, rfl, ⟨⟩⟩ (sC (sC (sC (sC sR)))) ⟨rfl, FLe.refl _, ((jH hv2)), (Nat.zero_le _), (fun _ => ⟨rfl, fun i hi => absurd hi (by omega)⟩), (fun (h : true = false) => by cases h), (by (try dsimp only); simp only [List.length_singleton]; omega)⟩ ?_)))
   rintro ⟨j, tv, ts, bx, G3⟩ rE _ _ ⟨rfl, leG, htv, hj, hgo2, hbad, hts6⟩
   show X _ _ _ _ (envs [(1, ptr b1 0), (3, ow), (4, .bool (bw)), (5, ii ((k : Int))), (6, ptr b2 0), (7, tv), (8, .bool (bx)), (9, ii ((j : Int)))] rE) _ (intsH 2 tv ts :: cellsH b2 [ii ((rs.getD k (0, [], 0)).1), a1, ii ((rs.getD k (0, [], 0)).2.2)] 68 :: slH 24 1 ow m1 cs1 :: cellsH b1 [ii (n), rsv, fiv] 29 :: L)
   replace leG : G2 ≤ G3 := leG
   dsimp only at htv hj hgo2 hbad hts6
   have hT9 := hTk (by omega)
   have hqj := hT9.arg j
   have leG3 := leG
   replace hC := hC.mono leG3
   replace hC1 := hC1.mono leG3
   replace ha1 := ha1.mono leG3
   refine qc (qc (qa (qd (ii ((j : Int))) rfl (cX (ql (1) qB rfl qw (by decide) rfl rfl (cX (qi qT rfl (Rd.own [_] rfl rfl) (cX (qG qf rfl ha1.slv (cX (qV rfl rfl (qd (.bool (decide ((j : Int) < ((((rs.getD k (0, [], 0)).2.1).length : Nat) : Int)))) rfl ?_))))))))))))
   by_cases h3 : (j : Int) < ((((rs.getD k (0, [], 0)).2.1).length : Nat) : Int)
   ·refine qo (t := 34) rfl (vT h3) (qk (.bool (bx)) rfl (cX (qL (.bool (bx)) (vT h3) rfl (qb ?_))))
    refine jr (t := bx) rfl (fun h4 => ?_) (fun h4 => ?_)
    ·obtain ⟨hte, hnz⟩ := hgo2 h4
     have hq9 := hqj (by omega)
     have hlb9 := hB1.lens hq9.1 hq9.2
     refine qx (qc (qF (qc (qa (qd (ow) rfl (cX (ql (1) qB rfl qw (by decide) rfl rfl (cX (qi qT rfl (Rd.own [_] rfl rfl) (qd (ii ((j : Int))) rfl (cX (qy j qf qr rfl rfl rfl ha1.slv (by omega) (Nat.mul_one _) (cX (qi qM rfl (ha1.rd (by omega)) (cX (qy ((((rs.getD k (0, [], 0)).2.1).getD j 0).toNat) qz qw rfl rfl (by omega) (SlV.own [_, _] rfl) (by omega) (Nat.mul_one _) ?_))))))))))))))))
     obtain ⟨a2, ha2, he1⟩ := hC1.get (i := (((rs.getD k (0, [], 0)).2.1).getD j 0).toNat) (by omega)
     refine cX (qi qT rfl (Rd.sl [_, _] rfl he1) (cX (qG qf rfl ha2.slv (cX (jw rfl rfl (qd (.bool (decide ((((((mm1.getD ((((rs.getD k (0, [], 0)).2.1).getD j 0).toNat) [])).length : Nat) : Int) : Int) > 0))) rfl ?_))))))
     by_cases h5 : (((((mm1.getD ((((rs.getD k (0, [], 0)).2.1).getD j 0).toNat) [])).length : Nat) : Int) : Int) > 0
     ·have hne9 : (mm1.getD ((rs.getD k (0, [], 0)).2.1.getD j 0).toNat []) ≠ [] := fun e => by rw [e] at h5; exact absurd h5 (by decide)
      refine qo (t := 49) rfl (vT h5) (qk (tv) rfl (qo (t := 49) rfl (vT h5) (qG qf rfl (intsH.slv [] rfl) (qo (t := 49) rfl (vT h5) (qk (ow) rfl (qo (t := 49) rfl (vT h5) (ql (1) qB rfl qw (by decide) rfl rfl (qo (t := 49) rfl (vT h5) (qi qT rfl (Rd.own [_] rfl rfl) (qo (t := 49) rfl (vT h5) (qk (ii ((j : Int))) rfl (qo (t := 49) rfl (vT h5) (qy j qf qr rfl rfl rfl ha1.slv (by omega) (Nat.mul_one _) (qo (t := 49) rfl (vT h5) (qi qM rfl (ha1.rd (by omega)) (qo (t := 49) rfl (vT h5) (qy ((((rs.getD k (0, [], 0)).2.1).getD j 0).toNat) qz qw rfl rfl (by omega) (SlV.own [_, _] rfl) (by omega) (Nat.mul_one _) (qo (t := 49) rfl (vT h5) (qi qT rfl (Rd.sl [_, _] rfl he1) ?_)))))))))))))))))))
      refine qo (t := 49) rfl (vT h5) (qG qf rfl ha2.slv (qo (t := 49) rfl (vT h5) (qD (((((ts).length) + (((mm1.getD ((((rs.getD k (0, [], 0)).2.1).getD j 0).toNat) [])).length) : Nat) : Int)) rfl rfl (by omega) (by omega) (qo (t := 49) rfl (vT h5) (XOp.leq rfl rfl (cX (qL (.bool (decide ((((((ts).length) + (((mm1.getD ((((rs.getD k (0, [], 0)).2.1).getD j 0).toNat) [])).length) : Nat) : Int) : Int) ≤ 60))) (vT h5) rfl (qg (.bool (decide ((((((ts).length) + (((mm1.getD ((((rs.getD k (0, [], 0)).2.1).getD j 0).toNat) [])).length) : Nat) : Int) : Int) ≤ 60))) rfl (qb (qc (qa (qd (.bool (decide ((((((ts).length) + (((mm1.getD ((((rs.getD k (0, [], 0)).2.1).getD j 0).toNat) [])).length) : Nat) : Int) : Int) ≤ 60))) rfl (qb ?_)))))))))))))
      refine qE (p := (((((ts).length) + (((mm1.getD ((((rs.getD k (0, [], 0)).2.1).getD j 0).toNat) [])).length) : Nat) : Int) : Int) ≤ 60) rfl (fun h6 => ?_) (fun h6 => ?_)
      ·have hstep : ts ++ (mm1.getD ((rs.getD k (0, [], 0)).2.1.getD j 0).toNat []) = (rs.getD k (0, [], 0)).1 :: catB mm1 (rs.getD k (0, [], 0)).2.1 (j + 1) ∧ ∀ i, i < j + 1 → mm1.getD ((rs.getD k (0, [], 0)).2.1.getD i 0).toNat [] ≠ [] := ⟨by rw [catB_next (by omega), hte]; rfl, fun i hi => (Nat.lt_or_ge i j).elim (fun h => hnz i h) (fun h => by obtain rfl : i = j := (by omega); exact hne9)⟩
       have hnot : ¬ decide ((((((ts).length) + (((mm1.getD ((((rs.getD k (0, [], 0)).2.1).getD j 0).toNat) [])).length) : Nat) : Int) : Int) ≤ 60) = false := by rw [decide_eq_true h6]; decide
       refine qa (qd (tv) rfl (qd (ow) rfl (cX (ql (1) qB rfl qw (by decide) rfl rfl (cX (qi qT rfl (Rd.own [_] rfl rfl) (qd (ii ((j : Int))) rfl (cX (qy j qf qr rfl rfl rfl ha1.slv (by omega) (Nat.mul_one _) (cX (qi qM rfl (ha1.rd (by omega)) (cX (qy ((((rs.getD k (0, [], 0)).2.1).getD j 0).toNat) qz qw rfl rfl (by omega) (SlV.own [_, _] rfl) (by omega) (Nat.mul_one _) (cX (qi qT rfl (Rd.sl [_, _] rfl he1) ?_)))))))))))))))
       refine cX (XOp.appendI [] _ qf typeInfo2 rfl rfl rfl rfl rfl rfl ha2 (by (try simp only [List.length_append, List.length_nil, List.length_cons, List.length_singleton, List.length_take, List.length_drop]); omega) ?_)
       intro v3 hs1 hn1 hm1
       refine qg (v3) rfl (qb (qa (qd (ii ((j : Int))) rfl (cX (qD (((j + 1 : Nat) : Int)) rfl rfl (by omega) (by omega) (qg (ii (((j + 1 : Nat) : Int))) rfl (qb ?_)))))))
       exact ⟨(j + 1, v3, ts ++ ((mm1.getD ((((rs.getD k (0, [], 0)).2.1).getD j 0).toNat) [])), decide ((((((ts).length) + (((mm1.getD ((((rs.getD k (0, [], 0)).2.1).getD j 0).toNat) [])).length) : Nat) : Int) : Int) ≤ 60), G3), _, leG3, rF, ⟨rfl, rfl, rfl, rfl, rfl, rfl, rfl, rfl, ⟨⟩⟩, (sC (sC (sC (sC sR)))), ⟨rfl, leG3, (hs1), (by (try dsimp only) <;> omega), (fun h8 => by first | exact hstep | (cases h8; done) | exact absurd h8 hnot), (fun h8 => by first | exact hbad9 | exact absurd h8 hnot), (by (try dsimp only); (try rw [List.length_append]); omega)⟩, (by omega)⟩
      have hbad9 : ¬ ((∀ i, i < (rs.getD k (0, [], 0)).2.1.length → mm1.getD ((rs.getD k (0, [], 0)).2.1.getD i 0).toNat [] ≠ []) ∧ (tmB mm1 (rs.getD k (0, [], 0))).length ≤ 60) := fun h9 => bad_len (r := (rs.getD k (0, [], 0))) (mm := mm1) (j := j) (by omega) (by have h7 := congrArg List.length hte; rw [List.length_cons] at h7; omega) h9.2
      have hnot : ¬ decide ((((((ts).length) + (((mm1.getD ((((rs.getD k (0, [], 0)).2.1).getD j 0).toNat) [])).length) : Nat) : Int) : Int) ≤ 60) = true := by rw [decide_eq_false h6]; decide
      refine qx (qa (qd (ii ((j : Int))) rfl (cX (qD (((j + 1 : Nat) : Int)) rfl rfl (by omega) (by omega) (qg (ii (((j + 1 : Nat) : Int))) rfl (qb ?_))))))
      exact ⟨(j + 1, tv, ts, decide ((((((ts).length) + (((mm1.getD ((((rs.getD k (0, [], 0)).2.1).getD j 0).toNat) [])).length) : Nat) : Int) : Int) ≤ 60), G3), _, leG3, rF, ⟨rfl, rfl, rfl, rfl, rfl, rfl, rfl, rfl, ⟨⟩⟩, (sC (sC (sC (sC sR)))), ⟨rfl, leG3, (htv), (by (try dsimp only) <;> omega), (fun h8 => by first | exact hstep | (cases h8; done) | exact absurd h8 hnot), (fun h8 => by first | exact hbad9 | exact absurd h8 hnot), (by (try dsimp only); (try rw [List.length_append]); omega)⟩, (by omega)⟩
     have hbad9 : ¬ ((∀ i, i < (rs.getD k (0, [], 0)).2.1.length → mm1.getD ((rs.getD k (0, [], 0)).2.1.getD i 0).toNat [] ≠ []) ∧ (tmB mm1 (rs.getD k (0, [], 0))).length ≤ 60) := fun h9 => h9.1 j (by omega) (List.length_eq_zero_iff.1 (by omega))
     refine qm (t := 49) rfl (vF h5) (qm (t := 49) rfl (vF h5) (qm (t := 49) rfl (vF h5) (qm (t := 49) rfl (vF h5) (qm (t := 49) rfl (vF h5) (qm (t := 49) rfl (vF h5) (qm (t := 49) rfl (vF h5) (qm (t := 49) rfl (vF h5) (qm (t := 49) rfl (vF h5) (qm (t := 49) rfl (vF h5) ?_)))))))))
     refine qm (t := 49) rfl (vF h5) (qm (t := 49) rfl (vF h5) (qm (t := 49) rfl (vF h5) (cX (qQ (.bool (false)) (vF h5) rfl (qg (.bool (false)) rfl (qb (qc (qa (qd (.bool (false)) rfl (qb (jG rfl (qx (qa ?_)))))))))))))
     refine qd (ii ((j : Int))) rfl (cX (qD (((j + 1 : Nat) : Int)) rfl rfl (by omega) (by omega) (qg (ii (((j + 1 : Nat) : Int))) rfl (qb ?_))))
     exact ⟨(j + 1, tv, ts, false, G3), _, leG3, rF, ⟨rfl, rfl, rfl, rfl, rfl, rfl, rfl, rfl, ⟨⟩⟩, (sC (sC (sC (sC sR)))), ⟨rfl, leG3, (htv), (by (try dsimp only) <;> omega), (fun h8 => by first | exact hstep | (cases h8; done) | exact absurd h8 hnot), (fun h8 => by first | exact hbad9 | exact absurd h8 hnot), (by (try dsimp only); (try rw [List.length_append]); omega)⟩, (by omega)⟩
    have hkeep : (∀ i, i < (rs.getD k (0, [], 0)).2.1.length → mm1.getD ((rs.getD k (0, [], 0)).2.1.getD i 0).toNat [] ≠ []) → (tmB mm1 (rs.getD k (0, [], 0))).length ≤ 60 → (mm1.getD (rs.getD k (0, [], 0)).2.2.toNat []) ≠ [] ∧ ¬ ltT (tmB mm1 (rs.getD k (0, [], 0))) (mm1.getD (rs.getD k (0, [], 0)).2.2.toNat []) := fun h1 h2 => (hbad h4 ⟨h1, h2⟩).elim
    refine jd (qp (qp (qJ (qc (qa (jz [] _ _ rfl (fun F1 le1 hz1 => ?_)))))))
    replace hC := hC.mono le1
    replace hC1 := hC1.mono le1
    have hf1 : IntsF F1 tv ts := intsH.fz (xs := ts) hz1.fz
    skip
    refine qd (.bool (bx)) rfl (qd (.bool (bx)) rfl (qm (t := 76) rfl (vB h4) (qm (t := 76) rfl (vB h4) (qm (t := 76) rfl (vB h4) (qm (t := 76) rfl (vB h4) (qm (t := 76) rfl (vB h4) (qm (t := 76) rfl (vB h4) (qm (t := 76) rfl (vB h4) (qm (t := 76) rfl (vB h4) ?_)))))))))
    refine jE (t := 84) rfl rfl (jE (t := 84) rfl rfl (jE (t := 84) rfl rfl (jE (t := 84) rfl rfl (jE (t := 84) rfl rfl (jE (t := 84) rfl rfl (jE (t := 84) rfl rfl (qm (t := 76) rfl (vB h4) (cX (qQ (.bool (false)) (vB h4) rfl (qb ?_))))))))))
    refine jG rfl (qx (qa (qd (ii ((k : Int))) rfl (cX (qD (((k + 1 : Nat) : Int)) rfl rfl (by omega) (by omega) (qg (ii (((k + 1 : Nat) : Int))) rfl (qb ?_)))))))
    exact ⟨(k + 1, ow, mm1, cs1, m1, bw, F1), _, (qj (qj leG2 leG3) le1), rF, ⟨rfl, rfl, rfl, rfl, ⟨⟩⟩, (sD (sC (sC sR))), ⟨rfl, (qj (qj leG2 leG3) le1), (how), (hC1), (by (try dsimp only); (try rw [List.length_set]); exact hm1), (by (try dsimp only) <;> omega), (by first | exact hput.1 | exact hB1), (fun h8 => by first | exact Nat.lt_of_lt_of_le hput.2 hle1 | exact hye1 h8), (fun h8 => by first | exact ⟨(hno1 h8).1, fun i hi => (Nat.lt_or_ge i k).elim (fun h => (hno1 h8).2 i h) (fun h => by obtain rfl : i = k := (by omega); rw [← (hno1 h8).1]; exact hkeep)⟩ | (cases h8; done)), (by first | exact Nat.le_of_lt (Nat.lt_of_lt_of_le hput.2 hle1) | exact hle1)⟩, (by omega)⟩
   refine qm (t := 34) rfl (vF h3) (cX (qQ (.bool (false)) (vF h3) rfl (qb (jG rfl (jd (qp (qp (qJ (qc (qa (jz [] _ _ rfl (fun F2 le2 hz2 => ?_))))))))))))
   replace hC := hC.mono le2
   replace hC1 := hC1.mono le2
   have hf2 : IntsF F2 tv ts := intsH.fz (xs := ts) hz2.fz
   skip
   refine qd (.bool (bx)) rfl (qd (.bool (bx)) rfl ?_)
   by_cases h7 : (bx) = true
   ·obtain ⟨hte, hnz⟩ := hgo2 h7
    have htm : ts = tmB mm1 (rs.getD k (0, [], 0)) := by rw [hte, show j = (rs.getD k (0, [], 0)).2.1.length from by omega]; rfl
    have hto9 := (hTk (by omega)).to
    have hlb9 := hB1.lens hto9.1 hto9.2
    have hbt9 := best_term hA hB1 (show k < rs.length by omega) (fun i hi => hnz i (by omega)) (by rw [← htm]; exact hts6)
    rw [← htm] at hbt9
    refine qo (t := 76) rfl (vB h7) (qk (ow) rfl (qo (t := 76) rfl (vB h7) (ql (2) qB rfl qr (by decide) rfl rfl (qo (t := 76) rfl (vB h7) (qi qM rfl (Rd.own [] rfl rfl) (qo (t := 76) rfl (vB h7) (qy (((rs.getD k (0, [], 0)).2.2).toNat) qz qw rfl rfl (by omega) (SlV.own [_] rfl) (by omega) (Nat.mul_one _) ?_)))))))
    obtain ⟨a3, ha3, he2⟩ := hC1.get (i := ((rs.getD k (0, [], 0)).2.2).toNat) (by omega)
    refine qo (t := 76) rfl (vB h7) (qi qT rfl (Rd.sl [_] rfl he2) (qo (t := 76) rfl (vB h7) (qG qf rfl ha3.slv (qo (t := 76) rfl (vB h7) (jp rfl rfl (qo (t := 76) rfl (vB h7) (qk (.bool (decide ((((((mm1.getD (((rs.getD k (0, [], 0)).2.2).toNat) [])).length : Nat) : Int) : Int) = 0))) rfl ?_)))))))
    by_cases h8 : (((((mm1.getD (((rs.getD k (0, [], 0)).2.2).toNat) [])).length : Nat) : Int) : Int) = 0
    ·have hem : (mm1.getD (rs.getD k (0, [], 0)).2.2.toNat []) = [] := List.length_eq_zero_iff.1 (by omega)
     have hput : BestOk ar rs n (mm1.set (rs.getD k (0, [], 0)).2.2.toNat ts) ∧ muB (mm1.set (rs.getD k (0, [], 0)).2.2.toNat ts) < muB mm1 := ⟨hB1.put hto9.1 hto9.2 hbt9.1 hbt9.2, best_better hB1 hto9.1 hto9.2 hbt9.1 (.inl hem)⟩
     refine qm (t := 84) rfl (vT h8) (qm (t := 84) rfl (vT h8) (qm (t := 84) rfl (vT h8) (qm (t := 84) rfl (vT h8) (qm (t := 84) rfl (vT h8) (qm (t := 84) rfl (vT h8) (qm (t := 84) rfl (vT h8) (qo (t := 76) rfl (vB h7) (qL (.bool (true)) (vT h8) rfl (cX (qL (.bool (true)) (vB h7) rfl (qb ?_)))))))))))
     refine jA rfl (qc (qa (qd (ow) rfl (cX (ql (2) qB rfl qr (by decide) rfl rfl (cX (qi qM rfl (Rd.own [] rfl rfl) (qd (tv) rfl (cX (qy (((rs.getD k (0, [], 0)).2.2).toNat) qz qw rfl rfl (by omega) (SlV.own [_] rfl) (by omega) (Nat.mul_one _) (cX (XOp.storeS (i := ((rs.getD k (0, [], 0)).2.2).toNat) (cs := cs1) [_] _ qw rfl rfl (qU (qS hf2)) rfl (by have h9 := CO.len hC1; (try simp only [List.length_set, List.length_replicate] at h9 ⊢) <;> omega) ?_))))))))))))
     have hc2 := hC1.set (((rs.getD k (0, [], 0)).2.2).toNat) hf2
     refine qb (qa (qg (.bool (true)) rfl (qb (qa (qd (ii ((k : Int))) rfl (cX (qD (((k + 1 : Nat) : Int)) rfl rfl (by omega) (by omega) (qg (ii (((k + 1 : Nat) : Int))) rfl (qb ?_)))))))))
     exact ⟨(k + 1, ow, (mm1.set (((rs.getD k (0, [], 0)).2.2).toNat) ts), (cs1.set (((rs.getD k (0, [], 0)).2.2).toNat) tv), m1, true, F2), _, (qj (qj leG2 leG3) le2), rF, ⟨rfl, rfl, rfl, rfl, ⟨⟩⟩, (sD (sC (sC sR))), ⟨rfl, (qj (qj leG2 leG3) le2), (how), (hc2), (by (try dsimp only); (try rw [List.length_set]); exact hm1), (by (try dsimp only) <;> omega), (by first | exact hput.1 | exact hB1), (fun h8 => by first | exact Nat.lt_of_lt_of_le hput.2 hle1 | exact hye1 h8), (fun h8 => by first | exact ⟨(hno1 h8).1, fun i hi => (Nat.lt_or_ge i k).elim (fun h => (hno1 h8).2 i h) (fun h => by obtain rfl : i = k := (by omega); rw [← (hno1 h8).1]; exact hkeep)⟩ | (cases h8; done)), (by first | exact Nat.le_of_lt (Nat.lt_of_lt_of_le hput.2 hle1) | exact hle1)⟩, (by omega)⟩
    have hem : (mm1.getD (rs.getD k (0, [], 0)).2.2.toNat []) ≠ [] := fun e => by rw [e] at h8; exact absurd rfl h8
    refine qo (t := 84) rfl (vF h8) (qk (tv) rfl (qo (t := 84) rfl (vF h8) (qk (ow) rfl (qo (t := 84) rfl (vF h8) (ql (2) qB rfl qr (by decide) rfl rfl (qo (t := 84) rfl (vF h8) (qi qM rfl (Rd.own [] rfl rfl) (qo (t := 84) rfl (vF h8) (qy (((rs.getD k (0, [], 0)).2.2).toNat) qz qw rfl rfl (by omega) (SlV.own [_] rfl) (by omega) (Nat.mul_one _) (qo (t := 84) rfl (vF h8) (qi qT rfl (Rd.sl [_] rfl he2) (qo (t := 84) rfl (vF h8) (qq (args := [tv, a3]) call15 rfl (LessTerm_spec hf2 ha3 (hlt := (by first | assumption | rfl | omega | simp)) (hlu := (by first | assumption | rfl | omega | simp))) ?_)))))))))))))
    rintro _ _ _ _ ⟨rfl, rfl, rfl⟩
    refine qo (t := 76) rfl (vB h7) (qQ (.bool (lessB ts ((mm1.getD (((rs.getD k (0, [], 0)).2.2).toNat) [])))) (vF h8) rfl (cX (qL (.bool (lessB ts ((mm1.getD (((rs.getD k (0, [], 0)).2.2).toNat) [])))) (vB h7) rfl (qb ?_))))
    refine jr (t := lessB ts ((mm1.getD (((rs.getD k (0, [], 0)).2.2).toNat) []))) rfl (fun h9 => ?_) (fun h9 => ?_)
    ·have hls := less_iff.1 h9
     have hput : BestOk ar rs n (mm1.set (rs.getD k (0, [], 0)).2.2.toNat ts) ∧ muB (mm1.set (rs.getD k (0, [], 0)).2.2.toNat ts) < muB mm1 := ⟨hB1.put hto9.1 hto9.2 hbt9.1 hbt9.2, best_better hB1 hto9.1 hto9.2 hbt9.1 (.inr hls)⟩
     refine qc (qa (qd (ow) rfl (cX (ql (2) qB rfl qr (by decide) rfl rfl (cX (qi qM rfl (Rd.own [] rfl rfl) (qd (tv) rfl (cX (qy (((rs.getD k (0, [], 0)).2.2).toNat) qz qw rfl rfl (by omega) (SlV.own [_] rfl) (by omega) (Nat.mul_one _) (cX (XOp.storeS (i := ((rs.getD k (0, [], 0)).2.2).toNat) (cs := cs1) [_] _ qw rfl rfl (qU (qS hf2)) rfl (by have h9 := CO.len hC1; (try simp only [List.length_set, List.length_replicate] at h9 ⊢) <;> omega) ?_)))))))))))
     have hc3 := hC1.set (((rs.getD k (0, [], 0)).2.2).toNat) hf2
     refine qb (qa (qg (.bool (true)) rfl (qb (qa (qd (ii ((k : Int))) rfl (cX (qD (((k + 1 : Nat) : Int)) rfl rfl (by omega) (by omega) (qg (ii (((k + 1 : Nat) : Int))) rfl (qb ?_)))))))))
     exact ⟨(k + 1, ow, (mm1.set (((rs.getD k (0, [], 0)).2.2).toNat) ts), (cs1.set (((rs.getD k (0, [], 0)).2.2).toNat) tv), m1, true, F2), _, (qj (qj leG2 leG3) le2), rF, ⟨rfl, rfl, rfl, rfl, ⟨⟩⟩, (sD (sC (sC sR))), ⟨rfl, (qj (qj leG2 leG3) le2), (how), (hc3), (by (try dsimp only); (try rw [List.length_set]); exact hm1), (by (try dsimp only) <;> omega), (by first | exact hput.1 | exact hB1), (fun h8 => by first | exact Nat.lt_of_lt_of_le hput.2 hle1 | exact hye1 h8), (fun h8 => by first | exact ⟨(hno1 h8).1, fun i hi => (Nat.lt_or_ge i k).elim (fun h => (hno1 h8).2 i h) (fun h => by obtain rfl : i = k := (by omega); rw [← (hno1 h8).1]; exact hkeep)⟩ | (cases h8; done)), (by first | exact Nat.le_of_lt (Nat.lt_of_lt_of_le hput.2 hle1) | exact hle1)⟩, (by omega)⟩
    have hkeep : (∀ i, i < (rs.getD k (0, [], 0)).2.1.length → mm1.getD ((rs.getD k (0, [], 0)).2.1.getD i 0).toNat [] ≠ []) → (tmB mm1 (rs.getD k (0, [], 0))).length ≤ 60 → (mm1.getD (rs.getD k (0, [], 0)).2.2.toNat []) ≠ [] ∧ ¬ ltT (tmB mm1 (rs.getD k (0, [], 0))) (mm1.getD (rs.getD k (0, [], 0)).2.2.toNat []) := fun _ _ => ⟨hem, fun hz9 => by rw [← htm] at hz9; have hz8 := less_iff.2 hz9; rw [h9] at hz8; cases hz8⟩
    refine qx (qa (qd (ii ((k : Int))) rfl (cX (qD (((k + 1 : Nat) : Int)) rfl rfl (by omega) (by omega) (qg (ii (((k + 1 : Nat) : Int))) rfl (qb ?_))))))
    exact ⟨(k + 1, ow, mm1, cs1, m1, bw, F2), _, (qj (qj leG2 leG3) le2), rF, ⟨rfl, rfl, rfl, rfl, ⟨⟩⟩, (sD (sC (sC sR))), ⟨rfl, (qj (qj leG2 leG3) le2), (how), (hC1), (by (try dsimp only); (try rw [List.length_set]); exact hm1), (by (try dsimp only) <;> omega), (by first | exact hput.1 | exact hB1), (fun h8 => by first | exact Nat.lt_of_lt_of_le hput.2 hle1 | exact hye1 h8), (fun h8 => by first | exact ⟨(hno1 h8).1, fun i hi => (Nat.lt_or_ge i k).elim (fun h => (hno1 h8).2 i h) (fun h => by obtain rfl : i = k := (by omega); rw [← (hno1 h8).1]; exact hkeep)⟩ | (cases h8; done)), (by first | exact Nat.le_of_lt (Nat.lt_of_lt_of_le hput.2 hle1) | exact hle1)⟩, (by omega)⟩
   rw [Bool.not_eq_true] at h7
   have hkeep : (∀ i, i < (rs.getD k (0, [], 0)).2.1.length → mm1.getD ((rs.getD k (0, [], 0)).2.1.getD i 0).toNat [] ≠ []) → (tmB mm1 (rs.getD k (0, [], 0))).length ≤ 60 → (mm1.getD (rs.getD k (0, [], 0)).2.2.toNat []) ≠ [] ∧ ¬ ltT (tmB mm1 (rs.getD k (0, [], 0))) (mm1.getD (rs.getD k (0, [], 0)).2.2.toNat []) := fun h1 h2 => (hbad h7 ⟨h1, h2⟩).elim
   refine qm (t := 76) rfl (vB h7) (qm (t := 76) rfl (vB h7) (qm (t := 76) rfl (vB h7) (qm (t := 76) rfl (vB h7) (qm (t := 76) rfl (vB h7) (qm (t := 76) rfl (vB h7) (qm (t := 76) rfl (vB h7) (qm (t := 76) rfl (vB h7) (jE (t := 84) rfl rfl (jE (t := 84) rfl rfl ?_)))))))))
   refine jE (t := 84) rfl rfl (jE (t := 84) rfl rfl (jE (t := 84) rfl rfl (jE (t := 84) rfl rfl (jE (t := 84) rfl rfl (qm (t := 76) rfl (vB h7) (cX (qQ (.bool (false)) (vB h7) rfl (qb (jG rfl (qx (qa ?_)))))))))))
   refine qd (ii ((k : Int))) rfl (cX (qD (((k + 1 : Nat) : Int)) rfl rfl (by omega) (by omega) (qg (ii (((k + 1 : Nat) : Int))) rfl (qb ?_))))
   exact ⟨(k + 1, ow, mm1, cs1, m1, bw, F2), _, (qj (qj leG2 leG3) le2), rF, ⟨rfl, rfl, rfl, rfl, ⟨⟩⟩, (sD (sC (sC sR))), ⟨rfl, (qj (qj leG2 leG3) le2), (how), (hC1), (by (try dsimp only); (try rw [List.length_set]); exact hm1), (by (try dsimp only) <;> omega), (by first | exact hput.1 | exact hB1), (fun h8 => by first | exact Nat.lt_of_lt_of_le hput.2 hle1 | exact hye1 h8), (fun h8 => by first | exact ⟨(hno1 h8).1, fun i hi => (Nat.lt_or_ge i k).elim (fun h => (hno1 h8).2 i h) (fun h => by obtain rfl : i = k := (by omega); rw [← (hno1 h8).1]; exact hkeep)⟩ | (cases h8; done)), (by first | exact Nat.le_of_lt (Nat.lt_of_lt_of_le hput.2 hle1) | exact hle1)⟩, (by omega)⟩
  refine jd (qp (qp (qJ ?_)))
  exact ⟨(ow, mm1, cs1, m1, bw, G2), _, (qj leG1 leG2), rF, ⟨rfl, rfl, rfl, ⟨⟩⟩, (sC (sC sR)), ⟨rfl, (qj leG1 leG2), (how), (hC1), (hm1), (hB1), (fun h8 => by have h7 := hno1 h8; rw [h7.1]; exact fun i hi => h7.2 i (by omega))⟩, (by (try dsimp only); rw [hbt]; cases hb9 : bw with | true => (have h7 := hye1 hb9; simp; omega) | false => (have h7 := (hno1 hb9).1; rw [h7]; simp))⟩
 have hbt : b = false := h1
 refine jd (qp (qp (qJ (qc (qa (qd (ov) rfl (qg (ov) rfl (qb (jf [] _ _ rfl (fun F3 le3 hz3 => ?_))))))))))
 replace hC := hC.mono le3
 have hf3 : RowsF F3 ov mm := CO.fz hC (by first | rfl | omega | (rw [List.length_set]; omega) | (simp; done) | (rw [List.length_append]; simp only [List.length_singleton]; omega) | ((simp only [List.length_append, List.length_singleton, List.length_nil]) <;> omega)) hz3.fz
 refine qC (qv (L' := L) [ov] (ov) (.tmp rfl .nil) rfl (qj leG1 le3) rF (sD sR) ?_)
 exact ⟨⟨_, rfl, ⟨_, hf3, hB, hcl hbt⟩⟩, rfl⟩

/- spec.LeastIn -/
set_option maxRecDepth 20000 in
theorem sLeastIn_spec {F : FH} {L : List HP}  {arv : Value} {ar : List Int} (har : IntsF F arv ar) {n : Int} {rsv : Value} {rs : List TranT} (hrs : TransF F rsv rs) {fiv : Value} {fi : List Int} (hfi : IntsF F fiv fi) (hla : ar.length ≤ 4000000) (hlr : rs.length ≤ 4000000) (hrb : ∀ i, i < rs.length → (rs.getD i (0, [], 0)).2.1.length ≤ 4000000) (hlf : fi.length ≤ 4000000) :
    Does prog 7 [.agg #[arv], .agg #[ii (n), rsv, fiv]] F (L) (fun v F' L' => (∃ (a : Value), ∃ (ok : Bool), (.tuple #[a, .bool (ok)] : Value) = v ∧ (SomesF F' a (fun u => LeastR ar n rs fi u ok ∧ u.length ≤ 60))) ∧ L = L') := by
 refine qO func7 rfl rfl rfl (qc (qa (cX (ji [arv] rfl rfl ?_))))
 intro b1
 refine cX (ji [ii (n), rsv, fiv] rfl rfl ?_)
 intro b2
 refine qg (sN) rfl (qg (.bool (false)) rfl (qb (qc (qc (qa (cX (qu [arv] qY qI rfl rfl (Rd.ownN [_] rfl rfl) (cX (qu [ii (n), rsv, fiv] jc qN rfl rfl (Rd.ownN [] rfl rfl) (cX (qq (args := [.agg #[arv], .agg #[ii (n), rsv, fiv]]) call13 rfl (sAutoOk_spec har hrs hfi (hla := (by first | assumption | rfl | omega | simp)) (hlr := (by first | assumption | rfl | omega | simp)) (hrb := (hrb)) (hlf := (by first | assumption | rfl | omega | simp))) ?_)))))))))))
 rintro _ _ _ _ ⟨rfl, rfl, rfl⟩
 refine cX (jx rfl (qb ?_))
 refine jr (t := !(autoB ar n rs fi)) rfl (fun h1 => ?_) (fun h1 => ?_)
 ·have hA : autoB ar n rs fi = false := Bool.not_inj (y := false) h1
  refine qc (qa (cX (qP (s := 1) [] [ii (0)] [] qf qr jm rfl (by decide) rfl CellsAre.nil rfl ?_)))
  intro v1 hv1
  refine qg (v1) rfl (qg (.bool (false)) rfl (qb ?_))
  show X _ _ _ _ _ _ (intsH 2 v1 ([] : List Int) :: cellsH b2 [ii (n), rsv, fiv] 29 :: cellsH b1 [arv] 26 :: L)
  refine jf [] _ _ rfl (fun F1 le1 hz1 => ?_)
  replace hrs := hrs.mono le1
  replace hfi := hfi.mono le1
  have hf1 : IntsF F1 v1 ([]) := intsH.fz (xs := []) hz1.fz
  refine qC (qn (qv (L' := L) [v1, .bool (false)] (.tuple #[v1, .bool (false)]) (.tmp rfl (.tmp rfl .nil)) rfl le1 rF (sD (sD sR)) ?_))
  exact ⟨⟨_, _, rfl, ⟨_, hf1, LeastR.no hA, by decide⟩⟩, rfl⟩
 have hA : autoB ar n rs fi = true := Bool.not_inj (y := true) h1
 have hA2 := auto_iff.1 hA
 have hfl9 := hA2.sizes
 refine qx (qc (qa (cX (qu [ii (n), rsv, fiv] jc qN rfl rfl (Rd.ownN [] rfl rfl) (cX (qq (args := [.agg #[ii (n), rsv, fiv]]) call30 rfl (l23Least_spec (ar := ar) hrs hfi (hA := (hA2))) ?_))))))
 rintro _ F2 _ le2 ⟨⟨x1, rfl, hr1⟩, rfl⟩
 obtain ⟨t1, hr1, q1, q2⟩ := hr1
 replace hfi := hfi.mono le2
 show XL _ _ _ _ _ _ _ (cellsH b2 [ii (n), rsv, fiv] 29 :: cellsH b1 [arv] 26 :: L)
 refine qg (x1) rfl (qb (qc (qa (cX (qP (s := 1) [] [ii (0)] [] qf qr jm rfl (by decide) rfl CellsAre.nil rfl ?_)))))
 intro v2 hv2
 refine qg (v2) rfl (qb (qc (qc (qa ?_))))
 show XL _ _ _ _ _ _ _ (intsH 2 v2 ([] : List Int) :: cellsH b2 [ii (n), rsv, fiv] 29 :: cellsH b1 [arv] 26 :: L)
 refine jz [] _ _ rfl (fun F3 le3 hz2 => ?_)
 replace hfi := hfi.mono le3
 replace hr1 := hr1.mono le3
 have hf2 : IntsF F3 v2 ([]) := intsH.fz (xs := []) hz2.fz
 skip
 refine qg (ii (0)) rfl (qb (qF (jg (α := Nat × Value × List Int × FH) (fun xQ => [(3, ptr b2 0), (6, x1), (7, xQ.2.1), (8, ii (((xQ.1 : Nat) : Int)))]) (fun xQ => cellsH b2 [ii (n), rsv, fiv] 29 :: cellsH b1 [arv] 26 :: L) (fun xQ F' => xQ.2.2.2 = F' ∧ F3 ≤ xQ.2.2.2 ∧ (IntsF xQ.2.2.2 xQ.2.1 xQ.2.2.1) ∧ (xQ.1 ≤ fi.length) ∧ (OutOk t1 fi xQ.1 xQ.2.2.1) ∧ (xQ.2.2.1.length ≤ 60)) (fun xQ => fi.length - xQ.1) (0, v2, [], F3) ⟨rfl, rfl, rfl, rfl, ⟨⟩⟩ (sC (sC sR)) ⟨rfl, FLe.refl _, (hf2), (Nat.zero_le _), (OutOk.start), (Nat.zero_le _)⟩ ?_)))
 rintro ⟨k, ov, os, G1⟩ rE _ _ ⟨rfl, leG, hov, hk, hot, ho6⟩
 show X _ _ _ _ (envs [(3, ptr b2 0), (6, x1), (7, ov), (8, ii ((k : Int)))] rE) _ (cellsH b2 [ii (n), rsv, fiv] 29 :: cellsH b1 [arv] 26 :: L)
 replace leG : F3 ≤ G1 := leG
 dsimp only at hov hk hot ho6
 have hff := fun (h : k < fi.length) => hA2.fin k h
 have hbl := q1.len
 have hfb := fun (h : k < fi.length) => q1.lens (hA2.fin k h).1 (hA2.fin k h).2
 have leG1 := leG
 replace hfi := hfi.mono leG1
 replace hr1 := hr1.mono leG1
 refine qc (qc (qa (qd (ii ((k : Int))) rfl (cX (ql (2) qA rfl qw (by decide) rfl rfl (cX (qi qT rfl (Rd.own [] rfl rfl) (cX (qG qf rfl hfi.slv (cX (qV rfl rfl (qb ?_))))))))))))
 refine qE (p := (k : Int) < (fi.length : Int)) rfl (fun h2 => ?_) (fun h2 => ?_)
 ·refine qx (qc (qF (qc (qa (qd (x1) rfl (cX (ql (2) qA rfl qw (by decide) rfl rfl (cX (qi qT rfl (Rd.own [] rfl rfl) (qd (ii ((k : Int))) rfl (cX (qy k qf qr rfl rfl rfl hfi.slv (by omega) (Nat.mul_one _) (cX (qi qM rfl (hfi.rd (by omega)) (cX (qy ((fi.getD k 0).toNat) qz qw rfl rfl (by omega) hr1.slv (by omega) (Nat.mul_one _) ?_))))))))))))))))
  obtain ⟨a1, ha1, hr2⟩ := hr1.rd (i := (fi.getD k 0).toNat) (by omega)
  refine cX (qi qT rfl (hr2 _) (qg (a1) rfl (qb (qc (qa (qd (a1) rfl (cX (qG qf rfl ha1.slv (cX (jw rfl rfl (qd (.bool (decide ((((((t1.getD ((fi.getD k 0).toNat) [])).length : Nat) : Int) : Int) > 0))) rfl ?_)))))))))))
  by_cases h3 : (((((t1.getD ((fi.getD k 0).toNat) [])).length : Nat) : Int) : Int) > 0
  ·have hne9 : (t1.getD (fi.getD k 0).toNat []) ≠ [] := fun e => by rw [e] at h3; exact absurd h3 (by decide)
   refine qo (t := 36) rfl (vT h3) (qk (ov) rfl (qo (t := 36) rfl (vT h3) (qG qf rfl hov.slv (qo (t := 36) rfl (vT h3) (jp rfl rfl (qo (t := 36) rfl (vT h3) (qk (.bool (decide (((os.length : Int) : Int) = 0))) rfl ?_)))))))
   by_cases h4 : ((os.length : Int) : Int) = 0
   ·have hpt : os = [] ∨ ltT (t1.getD (fi.getD k 0).toNat []) os := .inl (List.length_eq_zero_iff.1 (by omega))
    refine qm (t := 40) rfl (vT h4) (qm (t := 40) rfl (vT h4) (qm (t := 40) rfl (vT h4) (qo (t := 36) rfl (vT h3) (qL (.bool (true)) (vT h4) rfl (cX (qL (.bool (true)) (vT h3) rfl (qb (jA rfl (qa (qd (a1) rfl (qg (a1) rfl ?_)))))))))))
    refine qb (qa (qd (ii ((k : Int))) rfl (cX (qD (((k + 1 : Nat) : Int)) rfl rfl (by omega) (by omega) (qg (ii (((k + 1 : Nat) : Int))) rfl (qb ?_))))))
    exact ⟨(k + 1, a1, (t1.getD ((fi.getD k 0).toNat) []), G1), _, leG1, rF, ⟨rfl, rfl, rfl, rfl, ⟨⟩⟩, (sC (sC sR)), ⟨rfl, leG1, (ha1), (by (try dsimp only) <;> omega), (by first | exact hot.put hne9 hpt | exact hot.skip hsk), (by (try dsimp only); first | exact ho6 | exact hfb (by omega))⟩, (by omega)⟩
   have hoe : os ≠ [] := fun e => by rw [e] at h4; exact absurd rfl h4
   refine qo (t := 40) rfl (vF h4) (qk (a1) rfl (qo (t := 40) rfl (vF h4) (qk (ov) rfl (qo (t := 40) rfl (vF h4) (qq (args := [a1, ov]) call15 rfl (LessTerm_spec ha1 hov (hlt := (by first | assumption | rfl | omega | simp)) (hlu := (by first | assumption | rfl | omega | simp))) ?_)))))
   rintro _ _ _ _ ⟨rfl, rfl, rfl⟩
   refine qo (t := 36) rfl (vT h3) (qQ (.bool (lessB ((t1.getD ((fi.getD k 0).toNat) [])) os)) (vF h4) rfl (cX (qL (.bool (lessB ((t1.getD ((fi.getD k 0).toNat) [])) os)) (vT h3) rfl (qb ?_))))
   refine jr (t := lessB ((t1.getD ((fi.getD k 0).toNat) [])) os) rfl (fun h5 => ?_) (fun h5 => ?_)
   ·have hpt : os = [] ∨ ltT (t1.getD (fi.getD k 0).toNat []) os := .inr (less_iff.1 h5)
    refine qa (qd (a1) rfl (qg (a1) rfl (qb (qa (qd (ii ((k : Int))) rfl (cX (qD (((k + 1 : Nat) : Int)) rfl rfl (by omega) (by omega) (qg (ii (((k + 1 : Nat) : Int))) rfl (qb ?_)))))))))
    exact ⟨(k + 1, a1, (t1.getD ((fi.getD k 0).toNat) []), G1), _, leG1, rF, ⟨rfl, rfl, rfl, rfl, ⟨⟩⟩, (sC (sC sR)), ⟨rfl, leG1, (ha1), (by (try dsimp only) <;> omega), (by first | exact hot.put hne9 hpt | exact hot.skip hsk), (by (try dsimp only); first | exact ho6 | exact hfb (by omega))⟩, (by omega)⟩
   have hsk : (t1.getD (fi.getD k 0).toNat []) = [] ∨ os ≠ [] ∧ ¬ ltT (t1.getD (fi.getD k 0).toNat []) os := .inr ⟨hoe, fun hz9 => by have hz8 := less_iff.2 hz9; rw [h5] at hz8; cases hz8⟩
   refine qx (qa (qd (ii ((k : Int))) rfl (cX (qD (((k + 1 : Nat) : Int)) rfl rfl (by omega) (by omega) (qg (ii (((k + 1 : Nat) : Int))) rfl (qb ?_))))))
   exact ⟨(k + 1, ov, os, G1), _, leG1, rF, ⟨rfl, rfl, rfl, rfl, ⟨⟩⟩, (sC (sC sR)), ⟨rfl, leG1, (hov), (by (try dsimp only) <;> omega), (by first | exact hot.put hne9 hpt | exact hot.skip hsk), (by (try dsimp only); first | exact ho6 | exact hfb (by omega))⟩, (by omega)⟩
  have hsk : (t1.getD (fi.getD k 0).toNat []) = [] ∨ os ≠ [] ∧ ¬ ltT (t1.getD (fi.getD k 0).toNat []) os := .inl (List.length_eq_zero_iff.1 (by omega))
  refine qm (t := 36) rfl (vF h3) (qm (t := 36) rfl (vF h3) (qm (t := 36) rfl (vF h3) (qm (t := 36) rfl (vF h3) (jE (t := 40) rfl rfl (jE (t := 40) rfl rfl (jE (t := 40) rfl rfl (qm (t := 36) rfl (vF h3) (cX (qQ (.bool (false)) (vF h3) rfl (qb ?_))))))))))
  refine jG rfl (qx (qa (qd (ii ((k : Int))) rfl (cX (qD (((k + 1 : Nat) : Int)) rfl rfl (by omega) (by omega) (qg (ii (((k + 1 : Nat) : Int))) rfl (qb ?_)))))))
  exact ⟨(k + 1, ov, os, G1), _, leG1, rF, ⟨rfl, rfl, rfl, rfl, ⟨⟩⟩, (sC (sC sR)), ⟨rfl, leG1, (hov), (by (try dsimp only) <;> omega), (by first | exact hot.put hne9 hpt | exact hot.skip hsk), (by (try dsimp only); first | exact ho6 | exact hfb (by omega))⟩, (by omega)⟩
 refine jd (qp (qp (qJ (qc (qa (qd (ov) rfl (cX (XOp.frzF <| qq (args := [ov]) call31 rfl (l1Copy_spec hov (hlt := (by first | assumption | rfl | omega | simp))) ?_))))))))
 rintro v3 _ _ _ ⟨rfl, hs1, rfl⟩
 refine ⟨_, _, rfl, fun F4 le4 hz3 => ?_⟩
 replace hov := hov.mono le4
 have hf3 : IntsF F4 v3 ((os)) := intsH.fz (xs := (os)) hz3.fz
 refine qd (ov) rfl (cX (qG qf rfl hov.slv (cX (jw rfl rfl (qg (v3) rfl (qg (.bool (decide (((os.length : Int) : Int) > 0))) rfl (qb (qC (qv (L' := L) [v3, .bool (decide (((os.length : Int) : Int) > 0))] (.tuple #[v3, .bool (decide (((os.length : Int) : Int) > 0))]) (.tmp rfl (.tmp rfl .nil)) rfl (qj (qj (qj le2 le3) leG1) le4) rF (sD (sD sR)) ?_)))))))))
 exact ⟨⟨_, _, rfl, ⟨_, hf3, OutOk.least hA2 hA q1 q2 (by rw [show fi.length = k from by omega]; exact hot) (by rw [decide_eq_true_iff]; exact ⟨fun h7 e => by rw [e] at h7; exact absurd h7 (by decide), fun h7 => by have := List.length_pos_iff.2 h7; omega⟩), ho6⟩⟩, rfl⟩

/- spec.l28Insert -/
theorem l28Insert_spec {F : FH} {L : List HP}  {xsv : Value} {xs : List (List Int)} (hxs : RowsF F xsv xs) {tv : Value} {t : List Int} (ht : IntsF F tv t) (hxl : xs.length ≤ 4000000) (hxb : ∀ i, i < xs.length → (xs.getD i []).length ≤ 4000000) (htl : t.length ≤ 4000000) :
    Does prog 41 [xsv, tv] F (L) (fun v F' L' => (∃ (b : Value), (b : Value) = v ∧ (SomeRowsF F' b (fun os => os.Perm (t :: xs)))) ∧ L = L') := by
 refine qO func41 rfl rfl rfl (qc (qa (qg (sN) rfl (qb (qc (qa (qd (xsv) rfl (cX (qG qz rfl hxs.slv (qg (ii ((xs.length : Int))) rfl (qb (qc (qF (jg (α := Nat) (fun k => [(0, xsv), (1, tv), (5, ii ((k : Int)))]) (fun k => L) (fun k F' => F = F' ∧ (k ≤ xs.length)) (fun k => k) xs.length ⟨rfl, rfl, rfl, ⟨⟩⟩ sR ⟨rfl, (Nat.le_refl _)⟩ ?_))))))))))))))
 rintro k rE _ _ ⟨rfl, hk⟩
 show X _ _ _ _ (envs [(0, xsv), (1, tv), (5, ii ((k : Int)))] rE) _ (L)
 have hxk := hxb (k - 1)
 refine qc (qc (qa (qd (ii ((k : Int))) rfl (cX (jw rfl rfl (qd (.bool (decide ((k : Int) > 0))) rfl ?_))))))
 by_cases h1 : (k : Int) > 0
 ·refine qo (t := 11) rfl (vT h1) (qk (tv) rfl (qo (t := 11) rfl (vT h1) (qk (xsv) rfl (qo (t := 11) rfl (vT h1) (qk (ii ((k : Int))) rfl (qo (t := 11) rfl (vT h1) (js (((k - 1 : Nat) : Int)) rfl rfl (by omega) (by omega) (qo (t := 11) rfl (vT h1) (qy (k - 1) qz qw rfl rfl rfl hxs.slv (by omega) (Nat.mul_one _) ?_)))))))))
  obtain ⟨a1, ha1, hr1⟩ := hxs.rd (i := k - 1) (by omega)
  refine qo (t := 11) rfl (vT h1) (qi qT rfl (hr1 _) (qo (t := 11) rfl (vT h1) (qq (args := [tv, a1]) call15 rfl (LessTerm_spec ht ha1 (hlt := (by first | assumption | rfl | omega | simp)) (hlu := (by first | assumption | rfl | omega | simp))) ?_)))
  rintro _ _ _ _ ⟨rfl, rfl, rfl⟩
  refine cX (qL (.bool (lessB t ((xs.getD (k - 1) [])))) (vT h1) rfl (qb ?_))
  refine jr (t := lessB t ((xs.getD (k - 1) []))) rfl (fun h2 => ?_) (fun h2 => ?_)
  ·refine qx (qF (qa (qd (ii ((k : Int))) rfl (cX (js (((k - 1 : Nat) : Int)) rfl rfl (by omega) (by omega) (qg (ii (((k - 1 : Nat) : Int))) rfl (qb ?_)))))))
   exact ⟨k - 1, _, FLe.refl _, rF, ⟨rfl, rfl, (vI (by first | rfl | omega)), ⟨⟩⟩, sR, ⟨rfl, (by (try dsimp only) <;> omega)⟩, (by (try dsimp only); omega)⟩
  refine jd (qp (qp (qJ (qc (qa ?_)))))
  have hA9 : (xs.take k).length = k := by rw [List.length_take]; omega
  have hB9 : ((xs.drop k).take (xs.length - k)).length = xs.length - k := by rw [List.length_take, List.length_drop]; omega
  refine cX (qP (s := 1) [] [sN] [] qz qw ju rfl (by decide) rfl CellsAre.nil rfl ?_)
  intro v1 hv1
  refine qd (xsv) rfl (qd (ii ((k : Int))) rfl (cX (XOp.sliceC 0 k qz qw rfl hxs rfl ⟨_, rfl⟩ (by omega) (by omega) ?_)))
  intro v2 hv2
  replace hv2 : RowsF F v2 (xs.take k) := hv2
  have hc1 : RowsC F [] ([] : List (List Int)) := (CO.nil : RowsC F [] [])
  refine cX (XOp.appendRows (bytes := 24) (cs := []) [] _ qz typeInfo24 rfl rfl rfl rfl rfl rfl rfl hc1 hv2 (by omega) (by omega) ?_)
  intro v3 ds1 hs1 hc2
  refine qg (v3) rfl (qb (qc (qa (qd (v3) rfl (qd (tv) rfl (cX (qP (s := 1) [tv] [sN] [(0, [tv])] qz qw ju rfl (by decide) rfl (.cons (cells_one (qS ht)) CellsAre.nil) rfl ?_)))))))
  intro v4 hv3
  refine cX (jN (m := 1) (bytes := 24) (cs := ([] ++ ds1)) [_] _ [tv] qz typeInfo24 rfl rfl rfl rfl rfl rfl rfl (SlV.own [] rfl) rfl (Rd.lit [] rfl) (qt (qU (qS ht)) qZ) (by (try simp only [List.length_append, List.length_nil, List.length_cons, List.length_singleton]); omega) (by (try simp only [List.length_append, List.length_nil, List.length_cons, List.length_singleton]); omega) ?_)
  intro v5 hs2 hn1 hm1
  have hc3 := RowsC.snoc hc2 ht
  refine qg (v5) rfl (qb (qc (qa (qd (v5) rfl (qd (xsv) rfl (qd (ii ((k : Int))) rfl (cX (XOp.sliceC k ((xs).length) qz qw rfl hxs ⟨_, rfl⟩ rfl (by omega) (by omega) ?_))))))))
  intro v6 hv4
  replace hv4 : RowsF F v6 ((xs.drop k).take (((xs).length) - k)) := hv4
  refine cX (XOp.appendRows (bytes := 24) (cs := (([] ++ ds1)) ++ [tv]) [_] _ qz typeInfo24 rfl rfl rfl rfl rfl rfl rfl hc3 hv4 (by omega) (by omega) ?_)
  intro v7 ds2 hs3 hc4
  refine qg (v7) rfl (qb (jf [_] _ _ rfl (fun F1 le1 hz1 => ?_)))
  replace hxs := hxs.mono le1
  replace ht := ht.mono le1
  replace hc4 := hc4.mono le1
  have hf1 : RowsF F1 v7 ((((([] : List (List Int)) ++ (xs.take k))) ++ [t] ++ ((xs.drop k).take (((xs).length) - k)))) := CO.fz hc4 (by first | rfl | omega | (rw [List.length_set]; omega) | (simp; done) | (rw [List.length_append]; simp only [List.length_singleton]; omega) | ((simp only [List.length_append, List.length_singleton, List.length_nil]) <;> omega)) hz1.fz
  refine qC (qv (L' := L) [v7] (v7) (.tmp rfl .nil) rfl le1 rF (sD sR) ?_)
  exact ⟨⟨_, rfl, ⟨_, hf1, by have h9 := ins_perm (xs := xs) (t := t) (k := k) (by omega); rw [show List.take (xs.length - k) (List.drop k xs) = List.drop k xs from List.take_of_length_le (by rw [List.length_drop]; omega), List.nil_append]; exact h9⟩⟩, rfl⟩
 refine qm (t := 11) rfl (vF h1) (qm (t := 11) rfl (vF h1) (qm (t := 11) rfl (vF h1) (qm (t := 11) rfl (vF h1) (qm (t := 11) rfl (vF h1) (qm (t := 11) rfl (vF h1) (qm (t := 11) rfl (vF h1) (cX (qQ (.bool (false)) (vF h1) rfl (qb (jG rfl ?_))))))))))
 refine jd (qp (qp (qJ (qc (qa ?_)))))
 have hA9 : (xs.take k).length = k := by rw [List.length_take]; omega
 have hB9 : ((xs.drop k).take (xs.length - k)).length = xs.length - k := by rw [List.length_take, List.length_drop]; omega
 refine cX (qP (s := 1) [] [sN] [] qz qw ju rfl (by decide) rfl CellsAre.nil rfl ?_)
 intro v8 hv5
 refine qd (xsv) rfl (qd (ii ((k : Int))) rfl (cX (XOp.sliceC 0 k qz qw rfl hxs rfl ⟨_, rfl⟩ (by omega) (by omega) ?_)))
 intro v9 hv6
 replace hv6 : RowsF F v9 (xs.take k) := hv6
 have hc5 : RowsC F [] ([] : List (List Int)) := (CO.nil : RowsC F [] [])
 refine cX (XOp.appendRows (bytes := 24) (cs := []) [] _ qz typeInfo24 rfl rfl rfl rfl rfl rfl rfl hc5 hv6 (by omega) (by omega) ?_)
 intro v10 ds3 hs4 hc6
 refine qg (v10) rfl (qb (qc (qa (qd (v10) rfl (qd (tv) rfl (cX (qP (s := 1) [tv] [sN] [(0, [tv])] qz qw ju rfl (by decide) rfl (.cons (cells_one (qS ht)) CellsAre.nil) rfl ?_)))))))
 intro v11 hv7
 refine cX (jN (m := 1) (bytes := 24) (cs := ([] ++ ds3)) [_] _ [tv] qz typeInfo24 rfl rfl rfl rfl rfl rfl rfl (SlV.own [] rfl) rfl (Rd.lit [] rfl) (qt (qU (qS ht)) qZ) (by (try simp only [List.length_append, List.length_nil, List.length_cons, List.length_singleton]); omega) (by (try simp only [List.length_append, List.length_nil, List.length_cons, List.length_singleton]); omega) ?_)
 intro v12 hs5 hn2 hm2
 have hc7 := RowsC.snoc hc6 ht
 refine qg (v12) rfl (qb (qc (qa (qd (v12) rfl (qd (xsv) rfl (qd (ii ((k : Int))) rfl (cX (XOp.sliceC k ((xs).length) qz qw rfl hxs ⟨_, rfl⟩ rfl (by omega) (by omega) ?_))))))))
 intro v13 hv8
 replace hv8 : RowsF F v13 ((xs.drop k).take (((xs).length) - k)) := hv8
 refine cX (XOp.appendRows (bytes := 24) (cs := (([] ++ ds3)) ++ [tv]) [_] _ qz typeInfo24 rfl rfl rfl rfl rfl rfl rfl hc7 hv8 (by omega) (by omega) ?_)
 intro v14 ds4 hs6 hc8
 refine qg (v14) rfl (qb (jf [_] _ _ rfl (fun F2 le2 hz2 => ?_)))
 replace hc8 := hc8.mono le2
 have hf2 : RowsF F2 v14 ((((([] : List (List Int)) ++ (xs.take k))) ++ [t] ++ ((xs.drop k).take (((xs).length) - k)))) := CO.fz hc8 (by first | rfl | omega | (rw [List.length_set]; omega) | (simp; done) | (rw [List.length_append]; simp only [List.length_singleton]; omega) | ((simp only [List.length_append, List.length_singleton, List.length_nil]) <;> omega)) hz2.fz
 refine qC (qv (L' := L) [v14] (v14) (.tmp rfl .nil) rfl le2 rF (sD sR) ?_)
 exact ⟨⟨_, rfl, ⟨_, hf2, by have h9 := ins_perm (xs := xs) (t := t) (k := k) (by omega); rw [show List.take (xs.length - k) (List.drop k xs) = List.drop k xs from List.take_of_length_le (by rw [List.length_drop]; omega), List.nil_append]; exact h9⟩⟩, rfl⟩

/- spec.l25Rows -/
set_option maxHeartbeats 2000000 in
set_option maxRecDepth 20000 in
theorem l25Rows_spec_step {d : Nat} (ih : ∀ m : Nat, m < d → ∀ {F : FH} {L : List HP} {mv : Value} {mm : List (List (List Int))} {mcs : List Value} {mn : Nat} (hmv : IsSl mv) (hMC : LevelsC F mcs mm) (hmn : mn = mm.length) {a : Nat} {n : Nat} (hd : a ≤ m) (ha3 : a ≤ 3) (hn6 : n ≤ 60) (hnm : n < mm.length) (hm4 : mm.length ≤ 4000000) (hsz : SizedL (fun k9 => mm.getD k9 [])) (hmm9 : ∀ k, k < mm.length → (mm.getD k []).length ≤ 4000000), Does prog 40 [mv, ii ((a : Int)), ii ((n : Int))] F (slH 37 1 mv mn mcs :: L) (fun v F' L' => (∃ (b : Value), (b : Value) = v ∧ (SomeRowsF F' b (fun os => RowsT (fun k9 => mm.getD k9 []) a n os))) ∧ slH 37 1 mv mn mcs :: L = L')) {F : FH} {L : List HP} {mv : Value} {mm : List (List (List Int))} {mcs : List Value} {mn : Nat} (hmv : IsSl mv) (hMC : LevelsC F mcs mm) (hmn : mn = mm.length) {a : Nat} {n : Nat} (hd : a ≤ d) (ha3 : a ≤ 3) (hn6 : n ≤ 60) (hnm : n < mm.length) (hm4 : mm.length ≤ 4000000) (hsz : SizedL (fun k9 => mm.getD k9 [])) (hmm9 : ∀ k, k < mm.length → (mm.getD k []).length ≤ 4000000) :
    Does prog 40 [mv, ii ((a : Int)), ii ((n : Int))] F (slH 37 1 mv mn mcs :: L) (fun v F' L' => (∃ (b : Value), (b : Value) = v ∧ (SomeRowsF F' b (fun os => RowsT (fun k9 => mm.getD k9 []) a n os))) ∧ slH 37 1 mv mn mcs :: L = L') := by
 refine qO func40 rfl rfl rfl (qc (qa (qg (sN) rfl (qb (qc (qc (qa (qd (ii ((a : Int))) rfl (cX (jp rfl rfl (qb ?_)))))))))))
 refine qE (p := (a : Int) = 0) rfl (fun h1 => ?_) (fun h1 => ?_)
 ·have ha0 : a = 0 := by omega
  refine qc (qc (qa (qd (ii ((n : Int))) rfl (cX (jp rfl rfl (qb ?_))))))
  refine qE (p := (n : Int) = 0) rfl (fun h2 => ?_) (fun h2 => ?_)
  ·refine qc (qa (cX (qP (s := 1) [] [ii (0)] [] qf qr jm rfl (by decide) rfl CellsAre.nil rfl ?_)))
   intro v1 hv1
   refine cX (qP (s := 1) [v1] [sN] [(0, [v1])] qz qw ju rfl (by decide) rfl (.cons (cells_one (jH hv1)) CellsAre.nil) rfl ?_)
   intro v2 hv2
   show XL _ _ _ _ _ _ _ (slH 24 1 v2 1 [v1] :: intsH 2 v1 ([] : List Int) :: slH 37 1 mv mn mcs :: L)
   refine jz [_] _ _ rfl (fun F1 le1 hz1 => ?_)
   replace hMC := hMC.mono le1
   have hf1 : IntsF F1 v1 ([]) := intsH.fz (xs := []) hz1.fz
   have hc1 : RowsC F1 [v1] ([[]] : List (List Int)) := (RowsC.snoc (CO.nil : RowsC F1 [] []) hf1)
   skip
   refine qg (v2) rfl (qb (jf [] _ _ rfl (fun F2 le2 hz2 => ?_)))
   replace hMC := hMC.mono le2
   replace hc1 := hc1.mono le2
   have hf2 : RowsF F2 v2 (([[]] : List (List Int))) := CO.fz hc1 (by first | rfl | omega | (rw [List.length_set]; omega) | (simp; done) | (rw [List.length_append]; simp only [List.length_singleton]; omega) | ((simp only [List.length_append, List.length_singleton, List.length_nil]) <;> omega)) hz2.fz
   refine qC (qn (qn (qv (L' := slH 37 1 mv mn mcs :: L) [v2] (v2) (.tmp rfl .nil) rfl (qj le1 le2) rF (sC sR) ?_)))
   exact ⟨⟨_, rfl, ⟨_, hf2, by first | (rw [ha0, show n = 0 from by omega]; exact rows_zero) | (rw [ha0]; exact rows_nil (by omega)) | (have h9 := hK; rw [show k = n from by omega] at h9; have h8 := h9.all; rw [show a - 1 + 1 = a from by omega] at h8; exact h8)⟩⟩, rfl⟩
  refine qx (qc (qa (cX (qP (s := 1) [] [sN] [] qz qw ju rfl (by decide) rfl CellsAre.nil rfl ?_))))
  intro v3 hv3
  refine qg (v3) rfl (qb ?_)
  have hc2 : RowsC F [] ([] : List (List Int)) := (CO.nil : RowsC F [] [])
  refine jf [] _ _ rfl (fun F3 le3 hz3 => ?_)
  replace hMC := hMC.mono le3
  replace hc2 := hc2.mono le3
  have hf3 : RowsF F3 v3 (([] : List (List Int))) := CO.fz hc2 (by first | rfl | omega | (rw [List.length_set]; omega) | (simp; done) | (rw [List.length_append]; simp only [List.length_singleton]; omega) | ((simp only [List.length_append, List.length_singleton, List.length_nil]) <;> omega)) hz3.fz
  refine qC (qn (qv (L' := slH 37 1 mv mn mcs :: L) [v3] (v3) (.tmp rfl .nil) rfl le3 rF (sC sR) ?_))
  exact ⟨⟨_, rfl, ⟨_, hf3, by first | (rw [ha0, show n = 0 from by omega]; exact rows_zero) | (rw [ha0]; exact rows_nil (by omega)) | (have h9 := hK; rw [show k = n from by omega] at h9; have h8 := h9.all; rw [show a - 1 + 1 = a from by omega] at h8; exact h8)⟩⟩, rfl⟩
 have ha0 : a ≠ 0 := by omega
 refine qx (qc (qa (cX (qP (s := 1) [] [sN] [] qz qw ju rfl (by decide) rfl CellsAre.nil rfl ?_))))
 intro v4 hv4
 refine qg (v4) rfl (qb (qc (qc (qa ?_))))
 have hc3 : RowsC F [] ([] : List (List Int)) := (CO.nil : RowsC F [] [])
 skip
 refine qg (ii (1)) rfl (qb (qF (jg (α := Nat × Value × List (List Int) × List Value × Nat × FH) (fun xQ => [(0, mv), (1, ii ((a : Int))), (2, ii ((n : Int))), (7, xQ.2.1), (8, ii (((xQ.1 + 1 : Nat) : Int)))]) (fun xQ => slH 24 1 xQ.2.1 xQ.2.2.2.2.1 xQ.2.2.2.1 :: slH 37 1 mv mn mcs :: L) (fun xQ F' => xQ.2.2.2.2.2 = F' ∧ F ≤ xQ.2.2.2.2.2 ∧ (IsSl xQ.2.1) ∧ (RowsC xQ.2.2.2.2.2 xQ.2.2.2.1 xQ.2.2.1) ∧ (xQ.2.2.2.2.1 = xQ.2.2.1.length) ∧ (xQ.1 ≤ n) ∧ (RowsK (fun k9 => mm.getD k9 []) (a - 1) n xQ.1 xQ.2.2.1)) (fun xQ => n - xQ.1) (0, v4, ([] : List (List Int)), [], 0, F) ⟨rfl, rfl, rfl, rfl, rfl, ⟨⟩⟩ (sC (sC sR)) ⟨rfl, FLe.refl _, ((jH hv4)), (hc3), (rfl), (Nat.zero_le _), (RowsK.start)⟩ ?_)))
 rintro ⟨k, ov, os, cs, m, G1⟩ rE _ _ ⟨rfl, leG, hov, hC, hm, hk, hK⟩
 show X _ _ _ _ (envs [(0, mv), (1, ii ((a : Int))), (2, ii ((n : Int))), (7, ov), (8, ii (((k + 1 : Nat) : Int)))] rE) _ (slH 24 1 ov m cs :: slH 37 1 mv mn mcs :: L)
 replace leG : F ≤ G1 := leG
 dsimp only at hov hC hm hk hK
 have leG1 := leG
 replace hMC := hMC.mono leG1
 refine qc (qc (qa (qd (ii (((k + 1 : Nat) : Int))) rfl (qd (ii ((n : Int))) rfl (cX (XOp.leq rfl rfl (qb ?_)))))))
 refine qE (p := (((k + 1 : Nat) : Int) : Int) ≤ (n : Int)) rfl (fun h3 => ?_) (fun h3 => ?_)
 ·have hkm := hmm9 (k + 1) (by omega)
  refine qx (qc (qF (qc (qc (qa (qd (mv) rfl (qd (ii (((k + 1 : Nat) : Int))) rfl (cX (qy (k + 1) runUnderlying75 sizeOf37 rfl rfl rfl (SlV.own [_] rfl) (by omega) (Nat.mul_one _) ?_)))))))))
  obtain ⟨a1, ha1, he1⟩ := hMC.get (i := k + 1) (by omega)
  refine cX (qi isAgg37 rfl (Rd.sl [_] rfl he1) (cX (qG qz rfl ha1.slv (cX (jp rfl rfl (qb ?_))))))
  refine qE (p := (((((mm.getD (k + 1) [])).length : Nat) : Int) : Int) = 0) rfl (fun h4 => ?_) (fun h4 => ?_)
  ·have hemp : (mm.getD (k + 1) []).length = 0 := by omega
   refine jd (qp (qJ (qa (qd (ii (((k + 1 : Nat) : Int))) rfl (cX (qD ((((k + 1) + 1 : Nat) : Int)) rfl rfl (by omega) (by omega) (qg (ii ((((k + 1) + 1 : Nat) : Int))) rfl (qb ?_))))))))
   exact ⟨(k + 1, ov, os, cs, m, G1), _, leG1, rF, ⟨rfl, rfl, rfl, rfl, rfl, ⟨⟩⟩, (sC (sC sR)), ⟨rfl, leG1, (hov), (hC), (by (try dsimp only); exact hm), (by (try dsimp only) <;> omega), (by first | exact hK.skip hemp | exact hI.close hT9 hnem (by omega))⟩, (by omega)⟩
  have hnem : (mm.getD (k + 1) []).length ≠ 0 := by omega
  refine qx (qc (qa (qd (mv) rfl (qd (ii ((a : Int))) rfl (cX (js (((a - 1 : Nat) : Int)) rfl rfl (by omega) (by omega) (qd (ii ((n : Int))) rfl (qd (ii (((k + 1 : Nat) : Int))) rfl (cX (js (((n - (k + 1) : Nat) : Int)) rfl rfl (by omega) (by omega) (cX (qq (args := [mv, ii ((a - 1 : Nat) : Int), ii ((n - (k + 1) : Nat) : Int)]) call40 rfl (jl [_] (ih ((a - 1)) (by omega) (mm := mm) (mcs := mcs) (mn := mn) (a := a - 1) (n := n - (k + 1)) hmv hMC (by first | rfl | assumption | omega) (hd := (Nat.le_refl _)) (ha3 := (by first | assumption | rfl | omega | simp)) (hn6 := (by first | assumption | rfl | omega | simp)) (hnm := (by first | assumption | rfl | omega | simp)) (hm4 := (by first | assumption | rfl | omega | simp)) (hsz := (hsz)) (hmm9 := (hmm9)))) ?_))))))))))))
  rintro _ F4 _ le4 ⟨⟨x1, rfl, hr1⟩, rfl⟩
  obtain ⟨t1, hr1, q1⟩ := hr1
  replace hMC := hMC.mono le4
  replace hC := hC.mono le4
  show XL _ _ _ _ _ _ _ (slH 24 1 ov m cs :: slH 37 1 mv mn mcs :: L)
  refine qg (x1) rfl ?_
  have hT9 := q1
  refine qb (qc (qa (qg (ii (0)) rfl (qb (qF (jg (α := Nat × Value × List (List Int) × List Value × Nat × FH) (fun xQ => [(0, mv), (1, ii ((a : Int))), (2, ii ((n : Int))), (7, xQ.2.1), (8, ii (((k + 1 : Nat) : Int))), (9, x1), (10, ii (((xQ.1 : Nat) : Int)))]) (fun xQ => slH 24 1 xQ.2.1 xQ.2.2.2.2.1 xQ.2.2.2.1 :: slH 37 1 mv mn mcs :: L) (fun xQ F' => xQ.2.2.2.2.2 = F' ∧ F4 ≤ xQ.2.2.2.2.2 ∧ (IsSl xQ.2.1) ∧ (RowsC xQ.2.2.2.2.2 xQ.2.2.2.1 xQ.2.2.1) ∧ (xQ.2.2.2.2.1 = xQ.2.2.1.length) ∧ (xQ.1 ≤ (mm.getD (k + 1) []).length) ∧ (RowsI (fun k9 => mm.getD k9 []) (a - 1) n k xQ.1 t1 xQ.2.2.1)) (fun xQ => (mm.getD (k + 1) []).length - xQ.1) (0, ov, os, cs, m, F4) ⟨rfl, rfl, rfl, rfl, rfl, rfl, rfl, ⟨⟩⟩ (sC (sC sR)) ⟨rfl, FLe.refl _, (hov), (hC), (hm), (Nat.zero_le _), (hK.open)⟩ ?_))))))
  rintro ⟨i, ow, os1, cs1, e1, G2⟩ rE _ _ ⟨rfl, leG, how, hC1, hm1, hi, hI⟩
  show X _ _ _ _ (envs [(0, mv), (1, ii ((a : Int))), (2, ii ((n : Int))), (7, ow), (8, ii (((k + 1 : Nat) : Int))), (9, x1), (10, ii ((i : Int)))] rE) _ (slH 24 1 ow e1 cs1 :: slH 37 1 mv mn mcs :: L)
  replace leG : F4 ≤ G2 := leG
  dsimp only at how hC1 hm1 hi hI
  have leG2 := leG
  replace hMC := hMC.mono leG2
  replace hC := hC.mono leG2
  replace hr1 := hr1.mono leG2
  refine qc (qc (qa (qd (ii ((i : Int))) rfl (qd (mv) rfl (qd (ii (((k + 1 : Nat) : Int))) rfl (cX (qy (k + 1) runUnderlying75 sizeOf37 rfl rfl rfl (SlV.own [_] rfl) (by omega) (Nat.mul_one _) ?_)))))))
  obtain ⟨a2, ha2, he2⟩ := hMC.get (i := k + 1) (by omega)
  refine cX (qi isAgg37 rfl (Rd.sl [_] rfl he2) (cX (qG qz rfl ha2.slv (cX (qV rfl rfl (qd (.bool (decide ((i : Int) < ((((mm.getD (k + 1) [])).length : Nat) : Int)))) rfl ?_))))))
  by_cases h5 : (i : Int) < ((((mm.getD (k + 1) [])).length : Nat) : Int)
  ·refine qo (t := 45) rfl (vT h5) (qk (ow) rfl (qo (t := 45) rfl (vT h5) (qG qz rfl (SlV.own [] rfl) (qo (t := 45) rfl (vT h5) (XOp.leq rfl rfl (cX (qL (.bool (decide ((e1 : Int) ≤ 200))) (vT h5) rfl (qb ?_))))))))
   refine qE (p := (e1 : Int) ≤ 200) rfl (fun h6 => ?_) (fun h6 => ?_)
   ·refine qx (qc (qF (qc (qa (qg (ii (0)) rfl (qb (qF (jg (α := Nat × Value × List (List Int) × List Value × Nat × FH) (fun xQ => [(0, mv), (1, ii ((a : Int))), (2, ii ((n : Int))), (7, xQ.2.1), (8, ii (((k + 1 : Nat) : Int))), (9, x1), (10, ii ((i : Int))), (11, ii (((xQ.1 : Nat) : Int)))]) (fun xQ => slH 24 1 xQ.2.1 xQ.2.2.2.2.1 xQ.2.2.2.1 :: slH 37 1 mv mn mcs :: L) (fun xQ F' => xQ.2.2.2.2.2 = F' ∧ G2 ≤ xQ.2.2.2.2.2 ∧ (IsSl xQ.2.1) ∧ (RowsC xQ.2.2.2.2.2 xQ.2.2.2.1 xQ.2.2.1) ∧ (xQ.2.2.2.2.1 = xQ.2.2.1.length) ∧ (xQ.1 ≤ t1.length) ∧ (RowsX (fun k9 => mm.getD k9 []) (a - 1) n k i xQ.1 t1 xQ.2.2.1)) (fun xQ => t1.length - xQ.1) (0, ow, os1, cs1, e1, G2) ⟨rfl, rfl, rfl, rfl, rfl, rfl, rfl, rfl, ⟨⟩⟩ (sC (sC sR)) ⟨rfl, FLe.refl _, (how), (hC1), (hm1), (Nat.zero_le _), (hI.open)⟩ ?_))))))))
    rintro ⟨x, ou, os2, cs2, e2, G3⟩ rE _ _ ⟨rfl, leG, hou, hC2, hm2, hx, hX⟩
    show X _ _ _ _ (envs [(0, mv), (1, ii ((a : Int))), (2, ii ((n : Int))), (7, ou), (8, ii (((k + 1 : Nat) : Int))), (9, x1), (10, ii ((i : Int))), (11, ii ((x : Int)))] rE) _ (slH 24 1 ou e2 cs2 :: slH 37 1 mv mn mcs :: L)
    replace leG : G2 ≤ G3 := leG
    dsimp only at hou hC2 hm2 hx hX
    have hT1 := hT9.1
    have hy9 : ((mm.getD (k + 1) []).getD i []).length = k + 1 := hsz.at (lv := (fun k9 => mm.getD k9 [])) (by (try dsimp only); omega)
    have hxr := fun (h : x < t1.length) => hT9.2.2 _ (by rw [List.getD_eq_getElem?_getD, List.getElem?_eq_getElem h]; exact List.getElem_mem h : t1.getD x [] ∈ t1)
    have leG3 := leG
    replace hMC := hMC.mono leG3
    replace hC := hC.mono leG3
    replace hr1 := hr1.mono leG3
    replace hC1 := hC1.mono leG3
    refine qc (qc (qa (qd (ii ((x : Int))) rfl (qd (x1) rfl (cX (qG qz rfl hr1.slv (cX (qV rfl rfl (qd (.bool (decide ((x : Int) < (t1.length : Int)))) rfl ?_)))))))))
    by_cases h7 : (x : Int) < (t1.length : Int)
    ·refine qo (t := 56) rfl (vT h7) (qk (ou) rfl (qo (t := 56) rfl (vT h7) (qG qz rfl (SlV.own [] rfl) (qo (t := 56) rfl (vT h7) (XOp.leq rfl rfl (cX (qL (.bool (decide ((e2 : Int) ≤ 200))) (vT h7) rfl (qb ?_))))))))
     refine qE (p := (e2 : Int) ≤ 200) rfl (fun h8 => ?_) (fun h8 => ?_)
     ·refine qx (qc (qF ?_))
      obtain ⟨a3, ha3, he3⟩ := hMC.get (i := k + 1) (by omega)
      obtain ⟨a4, ha4, hr2⟩ := ha3.rd (i := i) (by omega)
      obtain ⟨a5, ha5, hr3⟩ := hr1.rd (i := x) (by omega)
      refine X.drawG [slH 24 1 ou e2 cs2, slH 37 1 mv mn mcs] L 15 [[], [], [], [], [], [], [], [], [], [], [], [], [], [], [13]] [[], [], [], [1, 2], [3], [], [4, 5], [6], [7], [], [], [9, 10], [11], [8, 12], [13]] [[], [], [], [], [], [], [], [], [], [], [], [], [], [8]] (phiG [pe ou, pe mv, pe (ii (((k + 1 : Nat) : Int)) : Value), pe (.pointer (some (elemA mv (k + 1)))), pe a3, pe (ii ((i : Int)) : Value), pe (.pointer (some (elemA a3 (i)))), pe a4, fun FF us v => (v : Value) = v ∧ (IsSl v), pe x1, pe (ii ((x : Int)) : Value), pe (.pointer (some (elemA x1 (x)))), pe a5, fun FF us v => (v : Value) = v ∧ (IntsF FF v (((((((mm.getD (k + 1) [])).getD i [])))) ++ ((t1.getD x [])))), fun FF us v => ∃ b, v = .slice (some ⟨b, 0, none⟩) 1 1]) (ownL [o0, o0, o0, o0, o0, o0, o0, o0, fun us v => [intsH 2 (v) ((((((mm.getD (k + 1) [])).getD i []))))], o0, o0, o0, o0, o0, fun us v => [slH 24 1 v 1 [(us.getD 0 undef)]]]) mixed rfl rfl (by kernel_rfl) (by kernel_rfl) (MonoG.get (m1 (m1 (m1 (m1 (m1 (m1 (m1 (m1 (mC (fun le h => ⟨h.1, h.2⟩) (m1 (m1 (m1 (m1 (mC (fun le h => ⟨h.1, h.2.mono le⟩) (mC (fun le h => h) MonoG.nil)))))))))))))))) ?_ ?_
      ·refine gD (fun W Fs R lF z9 => ?_) ?_
       ·refine qh (qk (ou) rfl ?_)
        exact ⟨rfl, rfl⟩
       refine gD (fun W Fs R lF z9 => ?_) ?_
       ·refine qh (qk (mv) rfl ?_)
        exact ⟨rfl, rfl⟩
       refine gD (fun W Fs R lF z9 => ?_) ?_
       ·refine qh (qk (ii (((k + 1 : Nat) : Int))) rfl ?_)
        exact ⟨rfl, rfl⟩
       refine gD (fun W Fs R lF z9 => ?_) ?_
       ·replace hMC := hMC.mono lF
        replace hC := hC.mono lF
        replace hr1 := hr1.mono lF
        replace hC1 := hC1.mono lF
        replace hC2 := hC2.mono lF
        replace ha3 := ha3.mono lF
        replace ha4 := ha4.mono lF
        replace ha5 := ha5.mono lF
        replace hr2 := Rd.monoA hr2 lF
        replace hr3 := Rd.monoA hr3 lF
        rw [zB 1 2 (z9 1 rfl) (z9 2 rfl)]
        refine qh (qy (k + 1) runUnderlying75 sizeOf37 rfl rfl rfl (SlV.own [_] rfl) (by omega) (Nat.mul_one _) ?_)
        exact ⟨rfl, rfl⟩
       refine gD (fun W Fs R lF z9 => ?_) ?_
       ·replace hMC := hMC.mono lF
        replace hC := hC.mono lF
        replace hr1 := hr1.mono lF
        replace hC1 := hC1.mono lF
        replace hC2 := hC2.mono lF
        replace ha3 := ha3.mono lF
        replace ha4 := ha4.mono lF
        replace ha5 := ha5.mono lF
        replace hr2 := Rd.monoA hr2 lF
        replace hr3 := Rd.monoA hr3 lF
        rw [zA 3 (z9 3 rfl)]
        refine qh (qi isAgg37 rfl (Rd.sl [_] rfl he3) ?_)
        exact ⟨rfl, rfl⟩
       refine gD (fun W Fs R lF z9 => ?_) ?_
       ·refine qh (qk (ii ((i : Int))) rfl ?_)
        exact ⟨rfl, rfl⟩
       refine gD (fun W Fs R lF z9 => ?_) ?_
       ·replace hMC := hMC.mono lF
        replace hC := hC.mono lF
        replace hr1 := hr1.mono lF
        replace hC1 := hC1.mono lF
        replace hC2 := hC2.mono lF
        replace ha3 := ha3.mono lF
        replace ha4 := ha4.mono lF
        replace ha5 := ha5.mono lF
        replace hr2 := Rd.monoA hr2 lF
        replace hr3 := Rd.monoA hr3 lF
        rw [zB 4 5 (z9 4 rfl) (z9 5 rfl)]
        refine qh (qy i qz qw rfl rfl rfl ha3.slv (by omega) (Nat.mul_one _) ?_)
        exact ⟨rfl, rfl⟩
       refine gD (fun W Fs R lF z9 => ?_) ?_
       ·replace hMC := hMC.mono lF
        replace hC := hC.mono lF
        replace hr1 := hr1.mono lF
        replace hC1 := hC1.mono lF
        replace hC2 := hC2.mono lF
        replace ha4 := ha4.mono lF
        replace ha5 := ha5.mono lF
        replace hr2 := Rd.monoA hr2 lF
        replace hr3 := Rd.monoA hr3 lF
        rw [zA 6 (z9 6 rfl)]
        refine qh (qi qT rfl (hr2 _) ?_)
        exact ⟨rfl, rfl⟩
       refine gD (fun W Fs R lF z9 => ?_) ?_
       ·replace hMC := hMC.mono lF
        replace hC := hC.mono lF
        replace hr1 := hr1.mono lF
        replace hC1 := hC1.mono lF
        replace hC2 := hC2.mono lF
        replace ha4 := ha4.mono lF
        replace ha5 := ha5.mono lF
        replace hr3 := Rd.monoA hr3 lF
        rw [zA 7 (z9 7 rfl)]
        refine qh (qq (args := [a4]) call31 rfl (l1Copy_spec ha4 (hlt := (by omega))) ?_)
        rintro v7 _ _ _ ⟨rfl, hs2, rfl⟩
        exact ⟨⟨rfl, hs2⟩, rfl⟩
       refine gD (fun W Fs R lF z9 => ?_) ?_
       ·refine qh (qk (x1) rfl ?_)
        exact ⟨rfl, rfl⟩
       refine gD (fun W Fs R lF z9 => ?_) ?_
       ·refine qh (qk (ii ((x : Int))) rfl ?_)
        exact ⟨rfl, rfl⟩
       refine gD (fun W Fs R lF z9 => ?_) ?_
       ·replace hMC := hMC.mono lF
        replace hC := hC.mono lF
        replace hr1 := hr1.mono lF
        replace hC1 := hC1.mono lF
        replace hC2 := hC2.mono lF
        replace ha5 := ha5.mono lF
        replace hr3 := Rd.monoA hr3 lF
        rw [zB 9 10 (z9 9 rfl) (z9 10 rfl)]
        refine qh (qy x qz qw rfl rfl rfl hr1.slv (by omega) (Nat.mul_one _) ?_)
        exact ⟨rfl, rfl⟩
       refine gD (fun W Fs R lF z9 => ?_) ?_
       ·replace hMC := hMC.mono lF
        replace hC := hC.mono lF
        replace hC1 := hC1.mono lF
        replace hC2 := hC2.mono lF
        replace ha5 := ha5.mono lF
        replace hr3 := Rd.monoA hr3 lF
        rw [zA 11 (z9 11 rfl)]
        refine qh (qi qT rfl (hr3 _) ?_)
        exact ⟨rfl, rfl⟩
       refine gD (fun W Fs R lF z9 => ?_) ?_
       ·obtain ⟨e8, f8_1sl⟩ := z9 8 rfl
        replace hC := hC.mono lF
        replace hC1 := hC1.mono lF
        replace hC2 := hC2.mono lF
        replace ha5 := ha5.mono lF
        rw [eS (l := [(8, (W 8)), (12, _)]) ⟨(e8).symm, z9 12 rfl, ⟨⟩⟩]
        show XG _ _ _ _ _ (intsH 2 ((W 8)) ((((((mm.getD (k + 1) [])).getD i [])))) :: ([slH 24 1 ou e2 cs2, slH 37 1 mv mn mcs] ++ R)) _
        refine qh (XOp.frzF <| XOp.appendI [] _ qf typeInfo2 rfl rfl rfl rfl rfl rfl ha5 (by have h9 := hxr (by omega); omega) ?_)
        intro v8 hs3 hn1 hm1
        refine ⟨_, _, rfl, fun F5 le5 hz4 => ?_⟩
        replace hC := hC.mono le5
        replace hC1 := hC1.mono le5
        replace hC2 := hC2.mono le5
        have hf4 : IntsF F5 v8 (((((((mm.getD (k + 1) [])).getD i [])))) ++ ((t1.getD x []))) := intsH.fz (xs := ((((((mm.getD (k + 1) [])).getD i [])))) ++ ((t1.getD x []))) hz4.fz
        exact ⟨⟨rfl, hf4⟩, rfl⟩
       refine gD (fun W Fs R lF z9 => ?_) ?_
       ·obtain ⟨e13, f13_1ap⟩ := z9 13 rfl
        replace hC := hC.mono lF
        replace hC1 := hC1.mono lF
        replace hC2 := hC2.mono lF
        rw [eS (l := [(13, (W 13))]) ⟨(e13).symm, ⟨⟩⟩]
        refine qh (qP (s := 1) [(W 13)] [sN] [(0, [(W 13)])] qz qw ju rfl (by decide) rfl (.cons (cells_one (qS f13_1ap)) CellsAre.nil) rfl ?_)
        intro v9 hv6
        exact ⟨hv6, rfl⟩
       exact stepsG.nil
      intro W F6 le6 hphi
      obtain ⟨e8, f8_1sl⟩ := hphi 8 (by decide)
      obtain ⟨e13, f13_1ap⟩ := hphi 13 (by decide)
      have f14 : ∃ b, (W 14) = .slice (some ⟨b, 0, none⟩) 1 1 := hphi 14 (by decide)
      generalize hu1 : (W 8) = u1 at e8 f8_1sl e13 f13_1ap f14
      generalize hu2 : (W 13) = u2 at e8 f8_1sl e13 f13_1ap f14
      generalize huu14 : W 14 = u3 at e8 f8_1sl e13 f13_1ap f14
      rw [eS (l := [(0, _), (8, u1), (13, u2), (14, u3)]) ⟨(hphi 0 (by decide)), hu1, hu2, huu14, ⟨⟩⟩]
      replace hC := hC.mono le6
      replace hC1 := hC1.mono le6
      replace hC2 := hC2.mono le6
      show XL _ _ _ _ _ _ _ (slH 24 1 u3 1 [u2] :: slH 24 1 ou e2 cs2 :: slH 37 1 mv mn mcs :: L)
      refine cX (jN (m := 1) (bytes := 24) (cs := cs2) [_] _ [u2] qz typeInfo24 rfl rfl rfl rfl rfl rfl rfl (SlV.own [] rfl) rfl (Rd.lit [] rfl) (qt (qU (qS f13_1ap)) qZ) (by (try simp only [List.length_append, List.length_nil, List.length_cons, List.length_singleton]); omega) (by (try simp only [List.length_append, List.length_nil, List.length_cons, List.length_singleton]); omega) ?_)
      intro v10 hs4 hn2 hm2
      have hc4 := RowsC.snoc hC2 f13_1ap
      refine qg (v10) rfl (qb (qa (qd (ii ((x : Int))) rfl (cX (qD (((x + 1 : Nat) : Int)) rfl rfl (by omega) (by omega) (qg (ii (((x + 1 : Nat) : Int))) rfl (qb ?_)))))))
      exact ⟨(x + 1, v10, os2 ++ [((((((mm.getD (k + 1) [])).getD i [])))) ++ ((t1.getD x []))], cs2 ++ [u2], (e2) + 1, F6), _, (qj leG3 le6), rF, ⟨rfl, rfl, rfl, rfl, rfl, rfl, rfl, rfl, ⟨⟩⟩, (sD (sC (sC sR))), ⟨rfl, (qj leG3 le6), (hs4), (hc4), (by (try dsimp only); rw [List.length_append]; simp only [List.length_singleton]; omega), (by (try dsimp only) <;> omega), (hX.next hsz hT9.2.2 (by omega) (by omega) (by omega) (by omega))⟩, (by omega)⟩
     refine jd (qp (qp (qJ (qa (qd (ii ((i : Int))) rfl (cX (qD (((i + 1 : Nat) : Int)) rfl rfl (by omega) (by omega) (qg (ii (((i + 1 : Nat) : Int))) rfl (qb ?_)))))))))
     exact ⟨(i + 1, ou, os2, cs2, e2, G3), _, (qj leG2 leG3), rF, ⟨rfl, rfl, rfl, rfl, rfl, rfl, rfl, ⟨⟩⟩, (sC (sC sR)), ⟨rfl, (qj leG2 leG3), (hou), (hC2), (by (try dsimp only); exact hm2), (by (try dsimp only) <;> omega), (hX.close (by omega) (by omega))⟩, (by omega)⟩
    refine qm (t := 56) rfl (vF h7) (qm (t := 56) rfl (vF h7) (qm (t := 56) rfl (vF h7) (cX (qQ (.bool (false)) (vF h7) rfl (qb (jG rfl (jd (qp (qp (qJ (qa (qd (ii ((i : Int))) rfl (cX (qD (((i + 1 : Nat) : Int)) rfl rfl (by omega) (by omega) ?_))))))))))))))
    refine qg (ii (((i + 1 : Nat) : Int))) rfl (qb ?_)
    exact ⟨(i + 1, ou, os2, cs2, e2, G3), _, (qj leG2 leG3), rF, ⟨rfl, rfl, rfl, rfl, rfl, rfl, rfl, ⟨⟩⟩, (sC (sC sR)), ⟨rfl, (qj leG2 leG3), (hou), (hC2), (by (try dsimp only); exact hm2), (by (try dsimp only) <;> omega), (hX.close (by omega) (by omega))⟩, (by omega)⟩
   refine jd (qp (qp (qJ (qa (qd (ii (((k + 1 : Nat) : Int))) rfl (cX (qD ((((k + 1) + 1 : Nat) : Int)) rfl rfl (by omega) (by omega) (qg (ii ((((k + 1) + 1 : Nat) : Int))) rfl (qb ?_)))))))))
   exact ⟨(k + 1, ow, os1, cs1, e1, G2), _, (qj (qj leG1 le4) leG2), rF, ⟨rfl, rfl, rfl, rfl, rfl, ⟨⟩⟩, (sC (sC sR)), ⟨rfl, (qj (qj leG1 le4) leG2), (how), (hC1), (by (try dsimp only); exact hm1), (by (try dsimp only) <;> omega), (by first | exact hK.skip hemp | exact hI.close hT9 hnem (by omega))⟩, (by omega)⟩
  refine qm (t := 45) rfl (vF h5) (qm (t := 45) rfl (vF h5) (qm (t := 45) rfl (vF h5) (cX (qQ (.bool (false)) (vF h5) rfl (qb (jG rfl (jd (qp (qp (qJ (qa (qd (ii (((k + 1 : Nat) : Int))) rfl (cX (qD ((((k + 1) + 1 : Nat) : Int)) rfl rfl (by omega) (by omega) ?_))))))))))))))
  refine qg (ii ((((k + 1) + 1 : Nat) : Int))) rfl (qb ?_)
  exact ⟨(k + 1, ow, os1, cs1, e1, G2), _, (qj (qj leG1 le4) leG2), rF, ⟨rfl, rfl, rfl, rfl, rfl, ⟨⟩⟩, (sC (sC sR)), ⟨rfl, (qj (qj leG1 le4) leG2), (how), (hC1), (by (try dsimp only); exact hm1), (by (try dsimp only) <;> omega), (by first | exact hK.skip hemp | exact hI.close hT9 hnem (by omega))⟩, (by omega)⟩
 refine jd (qp (qp (qJ (qc (qa (qd (ov) rfl (qg (ov) rfl (qb (jf [] _ _ rfl (fun F7 le7 hz5 => ?_))))))))))
 replace hC := hC.mono le7
 have hf5 : RowsF F7 ov os := CO.fz hC (by first | rfl | omega | (rw [List.length_set]; omega) | (simp; done) | (rw [List.length_append]; simp only [List.length_singleton]; omega) | ((simp only [List.length_append, List.length_singleton, List.length_nil]) <;> omega)) hz5.fz
 refine qC (qv (L' := slH 37 1 mv mn mcs :: L) [ov] (ov) (.tmp rfl .nil) rfl (qj leG1 le7) rF (sC sR) ?_)
 exact ⟨⟨_, rfl, ⟨_, hf5, by first | (rw [ha0, show n = 0 from by omega]; exact rows_zero) | (rw [ha0]; exact rows_nil (by omega)) | (have h9 := hK; rw [show k = n from by omega] at h9; have h8 := h9.all; rw [show a - 1 + 1 = a from by omega] at h8; exact h8)⟩⟩, rfl⟩

theorem l25Rows_spec (d : Nat) : ∀ {F : FH} {L : List HP} {mv : Value} {mm : List (List (List Int))} {mcs : List Value} {mn : Nat} (hmv : IsSl mv) (hMC : LevelsC F mcs mm) (hmn : mn = mm.length) {a : Nat} {n : Nat} (hd : a ≤ d) (ha3 : a ≤ 3) (hn6 : n ≤ 60) (hnm : n < mm.length) (hm4 : mm.length ≤ 4000000) (hsz : SizedL (fun k9 => mm.getD k9 [])) (hmm9 : ∀ k, k < mm.length → (mm.getD k []).length ≤ 4000000), Does prog 40 [mv, ii ((a : Int)), ii ((n : Int))] F (slH 37 1 mv mn mcs :: L) (fun v F' L' => (∃ (b : Value), (b : Value) = v ∧ (SomeRowsF F' b (fun os => RowsT (fun k9 => mm.getD k9 []) a n os))) ∧ slH 37 1 mv mn mcs :: L = L') := by
  induction d using Nat.strongRecOn with
  | _ d ih =>
    intros
    exact l25Rows_spec_step ih (by assumption) (by assumption) (by assumption) (by assumption) (by assumption) (by assumption) (by assumption) (by assumption) (by assumption) (by assumption)

/- spec.GroundsOf -/
set_option maxHeartbeats 2000000 in
set_option maxRecDepth 20000 in
theorem GroundsOf_spec {F : FH} {L : List HP}  {arv : Value} {ar : List Int} (har : IntsF F arv ar) {z : Int} (hla : ar.length ≤ 4000000) :
    Does prog 12 [.agg #[arv], ii (z)] F (L) (fun v F' L' => (∃ (a : Value), ∃ (ok : Bool), (.tuple #[a, .bool (ok)] : Value) = v ∧ (SomeRowsF F' a (fun os => GrT ar z os ok))) ∧ L = L') := by
 refine qO func12 rfl rfl rfl (qc (qa (cX (ji [arv] rfl rfl ?_))))
 intro b1
 refine qg (sN) rfl (qg (.bool (false)) rfl (qb (qc (qc (qa (cX (qu [arv] qY qI rfl rfl (Rd.ownN [] rfl rfl) (cX (qq (args := [.agg #[arv]]) call39 rfl (sSigOk_spec har (hla := (by first | assumption | rfl | omega | simp))) ?_)))))))))
 rintro _ _ _ _ ⟨rfl, rfl, rfl⟩
 refine cX (jx rfl (qd (.bool (!(sigOk ar))) rfl ?_))
 by_cases h1 : (!(sigOk ar)) = true
 ·refine qm (t := 16) rfl (vB h1) (qm (t := 16) rfl (vB h1) (qm (t := 16) rfl (vB h1) (cX (qL (.bool (true)) (vB h1) rfl (qb (jA rfl (qc (qa (cX (qP (s := 1) [] [sN] [] qz qw ju rfl (by decide) rfl CellsAre.nil rfl ?_))))))))))
  intro v1 hv1
  have hc1 : RowsC F [] ([] : List (List Int)) := (CO.nil : RowsC F [] [])
  refine jz [] _ _ rfl (fun F1 le1 hz1 => ?_)
  replace har := har.mono le1
  replace hc1 := hc1.mono le1
  have hf1 : RowsF F1 v1 (([] : List (List Int))) := CO.fz hc1 (by first | rfl | omega | (rw [List.length_set]; omega) | (simp; done) | (rw [List.length_append]; simp only [List.length_singleton]; omega) | ((simp only [List.length_append, List.length_singleton, List.length_nil]) <;> omega)) hz1.fz
  skip
  refine qg (v1) rfl (qg (.bool (false)) rfl (qb (qC (qn (qv (L' := L) [v1, .bool (false)] (.tuple #[v1, .bool (false)]) (.tmp rfl (.tmp rfl .nil)) rfl le1 rF (sD sR) ?_)))))
  exact ⟨⟨_, _, rfl, ⟨_, hf1, GrT.no⟩⟩, rfl⟩
 rw [Bool.not_eq_true] at h1
 have hs9 : sigOk ar = true := by simpa using h1
 have hl8 := (sigOk_spec hs9).2.1
 refine qo (t := 16) rfl (vB h1) (qk (ii (z)) rfl (qo (t := 16) rfl (vB h1) (qq (args := [ii (z), ii (1), ii (60)]) call34 rfl (l1In_spec (n := z) (a := 1) (b := 60)) ?_)))
 rintro _ _ _ _ ⟨rfl, rfl, rfl⟩
 refine qo (t := 16) rfl (vB h1) (XOp.notD rfl (cX (qQ (.bool (decide (¬(1 ≤ z ∧ z ≤ 60)))) (vB h1) rfl (qb ?_))))
 refine qE (p := ¬(1 ≤ z ∧ z ≤ 60)) rfl (fun h2 => ?_) (fun h2 => ?_)
 ·refine qc (qa (cX (qP (s := 1) [] [sN] [] qz qw ju rfl (by decide) rfl CellsAre.nil rfl ?_)))
  intro v2 hv2
  have hc2 : RowsC F [] ([] : List (List Int)) := (CO.nil : RowsC F [] [])
  refine jz [] _ _ rfl (fun F2 le2 hz2 => ?_)
  replace har := har.mono le2
  replace hc2 := hc2.mono le2
  have hf2 : RowsF F2 v2 (([] : List (List Int))) := CO.fz hc2 (by first | rfl | omega | (rw [List.length_set]; omega) | (simp; done) | (rw [List.length_append]; simp only [List.length_singleton]; omega) | ((simp only [List.length_append, List.length_singleton, List.length_nil]) <;> omega)) hz2.fz
  skip
  refine qg (v2) rfl (qg (.bool (false)) rfl (qb (qC (qn (qv (L' := L) [v2, .bool (false)] (.tuple #[v2, .bool (false)]) (.tmp rfl (.tmp rfl .nil)) rfl le2 rF (sD sR) ?_)))))
  exact ⟨⟨_, _, rfl, ⟨_, hf2, GrT.no⟩⟩, rfl⟩
 refine qx (qc (qa (cX (qP (s := 1) [] [sN] [] qz qw ju rfl (by decide) rfl CellsAre.nil rfl ?_))))
 intro v3 hv3
 refine cX (qP (s := 1) [v3] [sN] [(0, [v3])] runUnderlying75 sizeOf37 zeroValue37 rfl (by decide) rfl (.cons (cells_one (jH hv3)) CellsAre.nil) rfl ?_)
 intro v4 hv4
 have hc3 : RowsC F [] ([] : List (List Int)) := (CO.nil : RowsC F [] [])
 refine jz [_] _ _ rfl (fun F3 le3 hz3 => ?_)
 replace har := har.mono le3
 replace hc3 := hc3.mono le3
 have hf3 : RowsF F3 v3 (([] : List (List Int))) := CO.fz hc3 (by first | rfl | omega | (rw [List.length_set]; omega) | (simp; done) | (rw [List.length_append]; simp only [List.length_singleton]; omega) | ((simp only [List.length_append, List.length_singleton, List.length_nil]) <;> omega)) hz3.fz
 skip
 refine qg (v4) rfl (qb (qc (qa ?_)))
 have hc4 : LevelsC F3 [v3] ([([] : List (List Int))] : List (List (List Int))) := (LevelsC.snoc (CO.nil : LevelsC F3 [] []) hf3)
 skip
 refine cX (qP (s := 1) [] [sN] [] qz qw ju rfl (by decide) rfl CellsAre.nil rfl ?_)
 intro v5 hv5
 refine qg (v5) rfl (qb (qc (qc (qa ?_))))
 have hc5 : RowsC F3 [] ([] : List (List Int)) := (CO.nil : RowsC F3 [] [])
 skip
 refine qg (ii (1)) rfl (qb (qF (jg (α := Nat × Value × List (List (List Int)) × List Value × Nat × Value × List (List Int) × List Value × Nat × FH) (fun xQ => [(1, ii (z)), (2, ptr b1 0), (6, xQ.2.1), (7, xQ.2.2.2.2.2.1), (8, ii (((xQ.1 + 1 : Nat) : Int)))]) (fun xQ => slH 37 1 xQ.2.1 xQ.2.2.2.2.1 xQ.2.2.2.1 :: slH 24 1 xQ.2.2.2.2.2.1 xQ.2.2.2.2.2.2.2.2.1 xQ.2.2.2.2.2.2.2.1 :: cellsH b1 [arv] 26 :: L) (fun xQ F' => xQ.2.2.2.2.2.2.2.2.2 = F' ∧ F3 ≤ xQ.2.2.2.2.2.2.2.2.2 ∧ (IsSl xQ.2.1) ∧ (IsSl xQ.2.2.2.2.2.1) ∧ (LevelsC xQ.2.2.2.2.2.2.2.2.2 xQ.2.2.2.1 xQ.2.2.1) ∧ (RowsC xQ.2.2.2.2.2.2.2.2.2 xQ.2.2.2.2.2.2.2.1 xQ.2.2.2.2.2.2.1) ∧ (xQ.2.2.2.2.1 = xQ.2.2.1.length) ∧ (xQ.2.2.2.2.2.2.2.2.1 = xQ.2.2.2.2.2.2.1.length) ∧ ((xQ.1 : Int) ≤ z) ∧ (GrK ar xQ.1 xQ.2.2.1 xQ.2.2.2.2.2.2.1)) (fun xQ => z.toNat - xQ.1) (0, v4, ([([] : List (List Int))] : List (List (List Int))), [v3], 1, v5, ([] : List (List Int)), [], 0, F3) ⟨rfl, rfl, rfl, rfl, rfl, ⟨⟩⟩ (jj (je (A := [_, _])) (jj (je (A := [_])) (jj (je (A := [_, _])) (sC (sC (sC sR)))))) ⟨rfl, FLe.refl _, ((jH hv4)), ((jH hv5)), (hc4), (hc5), (rfl), (rfl), (by (try dsimp only) <;> omega), (GrK.start)⟩ ?_)))
 rintro ⟨k, mv, mm, mcs, mn, ov, os, cs, m, G1⟩ rE _ _ ⟨rfl, leG, hmv, hov, hMC, hC, hmn, hm, hk, hK⟩
 show X _ _ _ _ (envs [(1, ii (z)), (2, ptr b1 0), (6, mv), (7, ov), (8, ii (((k + 1 : Nat) : Int)))] rE) _ (slH 37 1 mv mn mcs :: slH 24 1 ov m cs :: cellsH b1 [arv] 26 :: L)
 replace leG : F3 ≤ G1 := leG
 dsimp only at hmv hov hMC hC hmn hm hk hK
 have hml := hK.len
 have hos := hK.small
 have hsz9 := hK.sized
 have hfe := hK.few
 have leG1 := leG
 replace har := har.mono leG1
 refine qc (qc (qa (qd (ii (((k + 1 : Nat) : Int))) rfl (qd (ii (z)) rfl (cX (XOp.leq rfl rfl (qb ?_)))))))
 refine qE (p := (((k + 1 : Nat) : Int) : Int) ≤ z) rfl (fun h3 => ?_) (fun h3 => ?_)
 ·refine qx (qc (qF (qc (qa (cX (qP (s := 1) [] [sN] [] qz qw ju rfl (by decide) rfl CellsAre.nil rfl ?_))))))
  intro v6 hv6
  refine qg (v6) rfl (qb (qc (qc (qa ?_))))
  have hc6 : RowsC G1 [] ([] : List (List Int)) := (CO.nil : RowsC G1 [] [])
  refine jz [] _ _ rfl (fun F4 le4 hz4 => ?_)
  replace har := har.mono le4
  replace hMC := hMC.mono le4
  replace hC := hC.mono le4
  replace hc6 := hc6.mono le4
  have hf4 : RowsF F4 v6 (([] : List (List Int))) := CO.fz hc6 (by first | rfl | omega | (rw [List.length_set]; omega) | (simp; done) | (rw [List.length_append]; simp only [List.length_singleton]; omega) | ((simp only [List.length_append, List.length_singleton, List.length_nil]) <;> omega)) hz4.fz
  skip
  refine qg (ii (0)) rfl (qb (qF (jg (α := Nat × Value × List (List Int) × FH) (fun xQ => [(1, ii (z)), (2, ptr b1 0), (6, mv), (7, ov), (8, ii (((k + 1 : Nat) : Int))), (9, xQ.2.1), (10, ii (((xQ.1 : Nat) : Int)))]) (fun xQ => slH 37 1 mv mn mcs :: slH 24 1 ov m cs :: cellsH b1 [arv] 26 :: L) (fun xQ F' => xQ.2.2.2 = F' ∧ F4 ≤ xQ.2.2.2 ∧ (RowsF xQ.2.2.2 xQ.2.1 xQ.2.2.1) ∧ (xQ.1 ≤ ar.length) ∧ (LvI ar (lvOf mm) k xQ.1 xQ.2.2.1)) (fun xQ => ar.length - xQ.1) (0, v6, ([] : List (List Int)), F4) ⟨rfl, rfl, rfl, rfl, rfl, rfl, rfl, ⟨⟩⟩ (sC (sC (sC sR))) ⟨rfl, FLe.refl _, (hf4), (Nat.zero_le _), (LvI.start)⟩ ?_)))
  rintro ⟨f, lv, ls, G2⟩ rE _ _ ⟨rfl, leG, hlv, hf, hI⟩
  show X _ _ _ _ (envs [(1, ii (z)), (2, ptr b1 0), (6, mv), (7, ov), (8, ii (((k + 1 : Nat) : Int))), (9, lv), (10, ii ((f : Int)))] rE) _ (slH 37 1 mv mn mcs :: slH 24 1 ov m cs :: cellsH b1 [arv] 26 :: L)
  replace leG : F4 ≤ G2 := leG
  dsimp only at hlv hf hI
  have hI3 := hI.2.2
  have hay := fun (h : f < ar.length) => (sigOk_spec hs9).2.2 f h
  have leG2 := leG
  replace har := har.mono leG2
  replace hMC := hMC.mono leG2
  replace hC := hC.mono leG2
  refine qc (qc (qa (qd (ii ((f : Int))) rfl (cX (ql (0) ja rfl qw (by decide) rfl rfl (cX (qi qT rfl (Rd.own [_, _] rfl rfl) (cX (qG qf rfl har.slv (cX (qV rfl rfl (qb ?_))))))))))))
  refine qE (p := (f : Int) < (ar.length : Int)) rfl (fun h4 => ?_) (fun h4 => ?_)
  ·refine qx (qc (qF (qc (qa (qd (mv) rfl (cX (ql (0) ja rfl qw (by decide) rfl rfl (cX (qi qT rfl (Rd.own [_, _] rfl rfl) (qd (ii ((f : Int))) rfl (cX (qy f qf qr rfl rfl rfl har.slv (by omega) (Nat.mul_one _) (cX (qi qM rfl (har.rd (by omega)) (qd (ii (((k + 1 : Nat) : Int))) rfl (cX (js ((k : Int)) rfl rfl (by omega) (by omega) (cX (qq (args := [mv, ii (((ar.getD f 0).toNat : Nat) : Int), ii (k : Int)]) call40 (by rw [show (((ar.getD f 0).toNat : Nat) : Int) = ar.getD f 0 from by omega]; rfl) (jl [] (l25Rows_spec (((ar.getD f 0).toNat)) (mm := mm) (mcs := mcs) (mn := mn) (a := (ar.getD f 0).toNat) (n := k) hmv hMC (by first | rfl | assumption | omega) (hd := (Nat.le_refl _)) (ha3 := (by have := hay (by omega); omega)) (hn6 := (by omega)) (hnm := (by omega)) (hm4 := (by first | assumption | rfl | omega | simp)) (hsz := (hsz9)) (hmm9 := (fun j hj => Nat.le_trans (hfe j) (by decide))))) ?_)))))))))))))))))))
   rintro _ F5 _ le5 ⟨⟨x1, rfl, hr1⟩, rfl⟩
   obtain ⟨t1, hr1, q1⟩ := hr1
   replace hMC := hMC.mono le5
   replace hC := hC.mono le5
   replace hlv := hlv.mono le5
   show XL _ _ _ _ _ _ _ (slH 37 1 mv mn mcs :: slH 24 1 ov m cs :: cellsH b1 [arv] 26 :: L)
   refine qg (x1) rfl ?_
   have hT9 := q1
   refine qb (qc (qa (qg (ii (0)) rfl (qb (qF (jg (α := Nat × Value × List (List Int) × FH) (fun xQ => [(1, ii (z)), (2, ptr b1 0), (6, mv), (7, ov), (8, ii (((k + 1 : Nat) : Int))), (9, xQ.2.1), (10, ii ((f : Int))), (11, x1), (12, ii (((xQ.1 : Nat) : Int)))]) (fun xQ => slH 37 1 mv mn mcs :: slH 24 1 ov m cs :: cellsH b1 [arv] 26 :: L) (fun xQ F' => xQ.2.2.2 = F' ∧ F5 ≤ xQ.2.2.2 ∧ (RowsF xQ.2.2.2 xQ.2.1 xQ.2.2.1) ∧ (xQ.1 ≤ t1.length) ∧ (LvX ar (lvOf mm) k f xQ.1 t1 xQ.2.2.1)) (fun xQ => t1.length - xQ.1) (0, lv, ls, F5) ⟨rfl, rfl, rfl, rfl, rfl, rfl, rfl, rfl, rfl, ⟨⟩⟩ (sC (sC (sC sR))) ⟨rfl, FLe.refl _, (hlv), (Nat.zero_le _), (hI.open)⟩ ?_))))))
   rintro ⟨i, lw, ls1, G3⟩ rE _ _ ⟨rfl, leG, hlw, hi, hX⟩
   show X _ _ _ _ (envs [(1, ii (z)), (2, ptr b1 0), (6, mv), (7, ov), (8, ii (((k + 1 : Nat) : Int))), (9, lw), (10, ii ((f : Int))), (11, x1), (12, ii ((i : Int)))] rE) _ (slH 37 1 mv mn mcs :: slH 24 1 ov m cs :: cellsH b1 [arv] 26 :: L)
   replace leG : F5 ≤ G3 := leG
   dsimp only at hlw hi hX
   have hX3 := hX.2.2
   have hT1 := hT9.1
   have hxl := hX.2.1
   have hxb9 : ∀ i, i < ls1.length → (ls1.getD i []).length ≤ 4000000 := fun j hj => by rw [hxl _ (by rw [List.getD_eq_getElem?_getD, List.getElem?_eq_getElem hj]; exact List.getElem_mem hj)]; omega
   have hru := fun (h : i < t1.length) => hT9.2.2 _ (by rw [List.getD_eq_getElem?_getD, List.getElem?_eq_getElem h]; exact List.getElem_mem h : t1.getD i [] ∈ t1)
   have leG3 := leG
   replace hMC := hMC.mono leG3
   replace hC := hC.mono leG3
   replace hlv := hlv.mono leG3
   replace hr1 := hr1.mono leG3
   refine qc (qc (qa (qd (ii ((i : Int))) rfl (qd (x1) rfl (cX (qG qz rfl hr1.slv (cX (qV rfl rfl (qb ?_)))))))))
   refine qE (p := (i : Int) < (t1.length : Int)) rfl (fun h5 => ?_) (fun h5 => ?_)
   ·refine qx (qc (qF (qa (qd (lw) rfl (qd (ii ((f : Int))) rfl (cX (qP (s := 1) [ii ((f : Int))] [ii (0)] [(0, [ii ((f : Int))])] qf qr jm rfl (by decide) rfl (.cons rfl CellsAre.nil) rfl ?_)))))))
    intro v7 hv7
    refine qd (x1) rfl (qd (ii ((i : Int))) rfl (cX (qy i qz qw rfl rfl rfl hr1.slv (by omega) (Nat.mul_one _) ?_)))
    obtain ⟨a1, ha1, hr2⟩ := hr1.rd (i := i) (by omega)
    refine cX (qi qT rfl (hr2 _) ?_)
    show XL _ _ _ _ _ _ _ (intsH 2 v7 ([(f : Int)] : List Int) :: slH 37 1 mv mn mcs :: slH 24 1 ov m cs :: cellsH b1 [arv] 26 :: L)
    refine cX (XOp.appendI [] _ qf typeInfo2 rfl rfl rfl rfl rfl rfl ha1 (by have h9 := hru (by omega); simp only [List.length_singleton]; omega) ?_)
    intro v8 hs1 hn1 hm1
    refine jz [] _ _ rfl (fun F6 le6 hz5 => ?_)
    replace hMC := hMC.mono le6
    replace hC := hC.mono le6
    replace hlv := hlv.mono le6
    replace hlw := hlw.mono le6
    have hf5 : IntsF F6 v8 (([(f : Int)]) ++ ((t1.getD i []))) := intsH.fz (xs := ([(f : Int)]) ++ ((t1.getD i []))) hz5.fz
    refine cX (qq (args := [lw, v8]) call41 rfl (l28Insert_spec hlw hf5 (hxl := (by omega)) (hxb := (hxb9)) (htl := (by have h9 := hru (by omega); (try rw [List.length_append]); simp only [List.length_singleton]; omega))) ?_)
    rintro _ F7 _ le7 ⟨⟨x2, rfl, hr3⟩, rfl⟩
    obtain ⟨t2, hr3, q2⟩ := hr3
    replace hMC := hMC.mono le7
    replace hC := hC.mono le7
    replace hlv := hlv.mono le7
    replace hlw := hlw.mono le7
    show XL _ _ _ _ _ _ _ (slH 37 1 mv mn mcs :: slH 24 1 ov m cs :: cellsH b1 [arv] 26 :: L)
    refine qg (x2) rfl (qb (qa (qd (ii ((i : Int))) rfl (cX (qD (((i + 1 : Nat) : Int)) rfl rfl (by omega) (by omega) (qg (ii (((i + 1 : Nat) : Int))) rfl (qb ?_)))))))
    exact ⟨(i + 1, x2, t2, F7), _, (qj (qj leG3 le6) le7), rF, ⟨rfl, rfl, rfl, rfl, rfl, rfl, rfl, rfl, rfl, ⟨⟩⟩, (sC (sC (sC sR))), ⟨rfl, (qj (qj leG3 le6) le7), (hr3), (by (try dsimp only) <;> omega), (hX.next hT9.2.2 (by omega) q2)⟩, (by omega)⟩
   refine jd (qp (qp (qJ (qa (qd (ii ((f : Int))) rfl (cX (qD (((f + 1 : Nat) : Int)) rfl rfl (by omega) (by omega) (qg (ii (((f + 1 : Nat) : Int))) rfl (qb ?_)))))))))
   exact ⟨(f + 1, lw, ls1, G3), _, (qj (qj leG2 le5) leG3), rF, ⟨rfl, rfl, rfl, rfl, rfl, rfl, rfl, ⟨⟩⟩, (sC (sC (sC sR))), ⟨rfl, (qj (qj leG2 le5) leG3), (hlw), (by (try dsimp only) <;> omega), (hX.close (hT9) (by omega) (by omega))⟩, (by omega)⟩
  refine jd (qp (qp (qJ (qc (qa (qd (mv) rfl (qd (lv) rfl (cX (qP (s := 1) [lv] [sN] [(0, [lv])] runUnderlying75 sizeOf37 zeroValue37 rfl (by decide) rfl (.cons (cells_one (RowsF.isSl hlv)) CellsAre.nil) rfl ?_)))))))))
  intro v9 hv8
  refine cX (jN (m := 1) (bytes := 24) (cs := mcs) [_] _ [lv] runUnderlying75 typeInfo37 rfl rfl rfl rfl rfl rfl rfl (SlV.own [] rfl) rfl (Rd.lit [] rfl) (qt (qU (RowsF.isSl hlv)) qZ) (by (try simp only [List.length_append, List.length_nil, List.length_cons, List.length_singleton]); omega) (by (try simp only [List.length_append, List.length_nil, List.length_cons, List.length_singleton]); omega) ?_)
  intro v10 hs2 hn2 hm2
  have hc7 := LevelsC.snoc hMC hlv
  refine qg (v10) rfl (qb (qc (qa (qd (ov) rfl (qd (lv) rfl (cX (XOp.appendRows (bytes := 24) (cs := cs) [_, _] _ qz typeInfo24 rfl rfl rfl rfl rfl rfl rfl hC hlv (by omega) (by omega) ?_)))))))
  intro v11 ds1 hs3 hc8
  refine qg (v11) rfl (qb (qc (qa (qd (v11) rfl (cX (qG qz rfl (SlV.own [_, _] rfl) (cX (jw rfl rfl (qb ?_)))))))))
  refine qE (p := ((((m) + ls.length : Nat) : Int) : Int) > 200) rfl (fun h6 => ?_) (fun h6 => ?_)
  ·refine qc (qa (cX (qP (s := 1) [] [sN] [] qz qw ju rfl (by decide) rfl CellsAre.nil rfl ?_)))
   intro v12 hv9
   have hc9 : RowsC G2 [] ([] : List (List Int)) := (CO.nil : RowsC G2 [] [])
   refine jz [] _ _ rfl (fun F8 le8 hz6 => ?_)
   replace hC := hC.mono le8
   replace hc7 := hc7.mono le8
   replace hc8 := hc8.mono le8
   replace hc9 := hc9.mono le8
   have hf6 : RowsF F8 v12 (([] : List (List Int))) := CO.fz hc9 (by first | rfl | omega | (rw [List.length_set]; omega) | (simp; done) | (rw [List.length_append]; simp only [List.length_singleton]; omega) | ((simp only [List.length_append, List.length_singleton, List.length_nil]) <;> omega)) hz6.fz
   skip
   refine qg (v12) rfl (qg (.bool (false)) rfl (qb (qC (qK (qn (qn (qK (qn (qv (L' := L) [v12, .bool (false)] (.tuple #[v12, .bool (false)]) (.tmp rfl (.tmp rfl .nil)) rfl (qj (qj (qj (qj le3 leG1) le4) leG2) le8) rF (sD (sD (sD (sD sR)))) ?_)))))))))
   exact ⟨⟨_, _, rfl, ⟨_, hf6, GrT.no⟩⟩, rfl⟩
  have hK1 := hK.next hI (by omega) (by omega) (by rw [List.length_append]; omega)
  refine qx (qa (qd (ii (((k + 1 : Nat) : Int))) rfl (cX (qD ((((k + 1) + 1 : Nat) : Int)) rfl rfl (by omega) (by omega) (qg (ii ((((k + 1) + 1 : Nat) : Int))) rfl (qb ?_))))))
  exact ⟨(k + 1, v10, mm ++ [ls], mcs ++ [lv], (mn) + 1, v11, (os ++ ls), (cs ++ ds1), (m) + ls.length, G2), _, (qj (qj leG1 le4) leG2), rF, ⟨rfl, rfl, rfl, rfl, rfl, ⟨⟩⟩, (sD (sC (sC (sC sR)))), ⟨rfl, (qj (qj leG1 le4) leG2), (hs2), (hs3), (hc7), (hc8), (by (try dsimp only); (try rw [List.length_append]); simp only [List.length_singleton]; omega), (by (try dsimp only); (try rw [List.length_append]); omega), (by (try dsimp only) <;> omega), (hK1)⟩, (by omega)⟩
 refine jd (qp (qp (qJ (qc (qa (qd (ov) rfl (qg (ov) rfl (qg (.bool (true)) rfl (qb (jf [_] _ _ rfl (fun F9 le9 hz7 => ?_)))))))))))
 replace hC := hC.mono le9
 have hf7 : RowsF F9 ov os := CO.fz hC (by first | rfl | omega | (rw [List.length_set]; omega) | (simp; done) | (rw [List.length_append]; simp only [List.length_singleton]; omega) | ((simp only [List.length_append, List.length_singleton, List.length_nil]) <;> omega)) hz7.fz
 refine qC (qv (L' := L) [ov, .bool (true)] (.tuple #[ov, .bool (true)]) (.tmp rfl (.tmp rfl .nil)) rfl (qj (qj le3 leG1) le9) rF (sD (sD sR)) ?_)
 exact ⟨⟨_, _, rfl, ⟨_, hf7, hK.told hs9 (by omega)⟩⟩, rfl⟩
end Go.Proofs.Ytgdcboopbmpdoaa
