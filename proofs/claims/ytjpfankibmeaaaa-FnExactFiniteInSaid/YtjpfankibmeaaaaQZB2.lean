/-
  Walks, one after the other (part 3).
-/
import Derived.Test.YtjpfankibmeaaaaQZL1
import Derived.Test.YtjpfankibmeaaaaQZB1
set_option linter.unusedSimpArgs false
set_option linter.unusedVariables false
namespace Go.Proofs.Ytjpfankibmeaaaa
open Go X M Try

/- spec.l9Next -/
set_option maxRecDepth 20000 in
theorem l9Next_spec {F : FH} {L : List HP} {arv : Value} {ar : List Int} (har : IntsF F arv ar) {rsv : Value} {rs : List (List Int × List Int)} (hrs : PairsF F rsv rs) {lvv : Value} {lv : List (List Int)} (hlv : RowsF F lvv lv) (hsys : sysOk ar rs = true) (hok : OkRows ar lv) (hll : lv.length ≤ 60) :
    Does prog 32 [.agg #[arv, rsv], lvv] F (L) (fun v F' L' => ∃ (a : Value), (.tuple #[a, .bool (nextB ar rs lv)] : Value) = v ∧ (RowsF F' a (nextD ar rs lv)) ∧ L = L') := by
 refine qA func32 rfl rfl rfl ?_
 have hrl := (sysOk_iff.1 hsys).2.1
 have hsig := (sysOk_iff.1 hsys).1
 have hsl := sigOk_spec hsig
 refine qc (qa (cX (qO [arv, rsv] rfl rfl ?_)))
 intro b1
 refine qf (sN) rfl (qf (.bool (false)) rfl (qb (qc (qa (cX (qN (s := 1) [] [sN] [] qr qx js rfl (by decide) rfl CellsAre.nil rfl ?_))))))
 intro v1 hv1
 refine qf (v1) rfl (qb (qc (qc (qa (qf (ii (0)) rfl (qb (qC (je (α := Nat × Value × RowL × List Value × Nat × FH) (fun xQ => [(1, lvv), (2, ptr b1 0), (6, xQ.2.1), (7, ii (((xQ.1 : Nat) : Int)))]) (fun xQ => slH 22 1 xQ.2.1 xQ.2.2.2.2.1 xQ.2.2.2.1 :: cellsH b1 [arv, rsv] 33 :: L) (fun xQ F' => xQ.2.2.2.2.2 = F' ∧ F ≤ xQ.2.2.2.2.2 ∧ (IsSl xQ.2.1) ∧ (RowsC xQ.2.2.2.2.2 xQ.2.2.2.1 xQ.2.2.1) ∧ (xQ.2.2.2.2.1 = xQ.2.2.1.length) ∧ (xQ.1 ≤ lv.length) ∧ (xQ.2.2.1.length ≤ 60) ∧ (OkRows ar xQ.2.2.1) ∧ (nextGo ar rs lv [] = nextGo ar rs (lv.drop xQ.1) xQ.2.2.1)) (fun xQ => lv.length - xQ.1) (0, v1, [], [], 0, F) ⟨rfl, rfl, rfl, rfl, ⟨⟩⟩ (sC (sC sR)) ⟨rfl, FLe.refl _, ((isSl_lit hv1)), (CO.nil), (rfl), (Nat.zero_le _), (by simp), (OkRows.nil), (rfl)⟩ ?_))))))))
 rintro ⟨q, nv, nx, ncs, nn, G1⟩ rE _ _ ⟨rfl, leG, hnv, hNC, hnn, hq, hnl, hnok, hgo1⟩
 show X _ _ _ _ (envs [(1, lvv), (2, ptr b1 0), (6, nv), (7, ii ((q : Int)))] rE) _ (slH 22 1 nv nn ncs :: cellsH b1 [arv, rsv] 33 :: L)
 replace leG : F ≤ G1 := leG
 dsimp only at hnv hNC hnn hq hnl hnok hgo1
 have hqo := fun h : q < lv.length => hok q h
 have hql := fun h : q < lv.length => termOk_len (hok q h)
 have leG1 := leG
 replace har := har.mono leG1
 replace hrs := hrs.mono leG1
 replace hlv := hlv.mono leG1
 refine qc (qc (qa (qd (ii ((q : Int))) rfl (qd (lvv) rfl (cX (qv qr rfl hlv.slv (cX (qL rfl rfl (qb ?_)))))))))
 refine qt (p := (q : Int) < (lv.length : Int)) rfl (fun h1 => ?_) (fun h1 => ?_)
 ·refine qs (qc (qC (qc ?_)))
  obtain ⟨a1, ha1, hr1⟩ := hlv.rd (i := q) (by omega)
  refine X.draw [slH 22 1 nv nn ncs, cellsH b1 [arv, rsv] 33] L 5 [] [[], [], [], [1, 2], [3]] (phiL [qe (.agg #[arv, rsv]), qe lvv, qe (ii ((q : Int)) : Value), qe (.pointer (some (elemA lvv (q)))), qe a1]) (ownL []) mixed rfl rfl (by kernel_rfl) ?_ ?_
  ·refine pD (fun W R z9 => ?_) ?_
   ·refine qk (qw [arv, rsv] isAgg33 jo rfl rfl (Rd.ownN [_] rfl rfl) ?_)
    exact ⟨rfl, rfl, rfl⟩
   refine pD (fun W R z9 => ?_) ?_
   ·refine qk (qp (lvv) rfl ?_)
    exact ⟨rfl, rfl, rfl⟩
   refine pD (fun W R z9 => ?_) ?_
   ·refine qk (qp (ii ((q : Int))) rfl ?_)
    exact ⟨rfl, rfl, rfl⟩
   refine pD (fun W R z9 => ?_) ?_
   ·rw [eS (l := [(1, _), (2, _)]) ⟨z9 1 rfl, z9 2 rfl, ⟨⟩⟩]
    refine qk (qB q qr qx rfl rfl rfl hlv.slv (by omega) (Nat.mul_one _) ?_)
    exact ⟨rfl, rfl, rfl⟩
   refine pD (fun W R z9 => ?_) ?_
   ·rw [eS (l := [(3, _)]) ⟨z9 3 rfl, ⟨⟩⟩]
    refine qk (qi qJ rfl (hr1 _) ?_)
    exact ⟨rfl, rfl, rfl⟩
   exact stepsP.nil
  intro W hphi
  rw [eS (l := [(0, _), (4, _)]) ⟨(hphi 0 (by decide)), (hphi 4 (by decide)), ⟨⟩⟩]
  show XL _ _ _ _ _ _ _ (slH 22 1 nv nn ncs :: cellsH b1 [arv, rsv] 33 :: L)
  refine cX (qn (args := [.agg #[arv, rsv], a1]) call71 rfl (l7Steps_spec har hrs ha1 (hsys := (hsys)) (ho := (hqo (by omega)))) ?_)
  rintro _ F1 _ le1 ⟨x1, rfl, hr2, rfl⟩
  replace har := har.mono le1
  replace hrs := hrs.mono le1
  replace hlv := hlv.mono le1
  replace hNC := hNC.mono le1
  replace ha1 := ha1.mono le1
  replace hr1 := Rd.monoA hr1 le1
  refine qf (x1) rfl (qb (qc (qc ?_)))
  refine X.draw [slH 22 1 nv nn ncs, cellsH b1 [arv, rsv] 33] L 8 [] [[], [0], [], [], [], [3, 4], [5], [2, 6]] (phiL [qe x1, qe (ii ((((stepsL ar rs ((lv.getD q []))).length : Nat) : Int)) : Value), qe (.agg #[arv, rsv]), qe lvv, qe (ii ((q : Int)) : Value), qe (.pointer (some (elemA lvv (q)))), qe a1, qe (ii (((cntP ar rs ((lv.getD q [])) ((lv.getD q [])).length : Nat) : Int)) : Value)]) (ownL []) mixed rfl rfl (by kernel_rfl) ?_ ?_
  ·refine pD (fun W R z9 => ?_) ?_
   ·refine qk (qp (x1) rfl ?_)
    exact ⟨rfl, rfl, rfl⟩
   refine pD (fun W R z9 => ?_) ?_
   ·rw [eS (l := [(0, _)]) ⟨z9 0 rfl, ⟨⟩⟩]
    refine qk (qv jp rfl hr2.slv ?_)
    exact ⟨rfl, rfl, rfl⟩
   refine pD (fun W R z9 => ?_) ?_
   ·refine qk (qw [arv, rsv] isAgg33 jo rfl rfl (Rd.ownN [_] rfl rfl) ?_)
    exact ⟨rfl, rfl, rfl⟩
   refine pD (fun W R z9 => ?_) ?_
   ·refine qk (qp (lvv) rfl ?_)
    exact ⟨rfl, rfl, rfl⟩
   refine pD (fun W R z9 => ?_) ?_
   ·refine qk (qp (ii ((q : Int))) rfl ?_)
    exact ⟨rfl, rfl, rfl⟩
   refine pD (fun W R z9 => ?_) ?_
   ·rw [eS (l := [(3, _), (4, _)]) ⟨z9 3 rfl, z9 4 rfl, ⟨⟩⟩]
    refine qk (qB q qr qx rfl rfl rfl hlv.slv (by omega) (Nat.mul_one _) ?_)
    exact ⟨rfl, rfl, rfl⟩
   refine pD (fun W R z9 => ?_) ?_
   ·rw [eS (l := [(5, _)]) ⟨z9 5 rfl, ⟨⟩⟩]
    refine qk (qi qJ rfl (hr1 _) ?_)
    exact ⟨rfl, rfl, rfl⟩
   refine pD (fun W R z9 => ?_) ?_
   ·rw [eS (l := [(2, _), (6, _)]) ⟨z9 2 rfl, z9 6 rfl, ⟨⟩⟩]
    refine qk (qn (args := [.agg #[arv, rsv], a1]) call72 rfl (l7Redexes_spec har hrs ha1 (hsys := (hsys)) (ho := (hqo (by omega)))) ?_)
    rintro _ _ _ _ ⟨rfl, rfl, rfl⟩
    exact ⟨rfl, rfl, rfl⟩
   exact stepsP.nil
  intro W hphi
  rw [eS (l := [(1, _), (7, _)]) ⟨(hphi 1 (by decide)), (hphi 7 (by decide)), ⟨⟩⟩]
  show XL _ _ _ _ _ _ _ (slH 22 1 nv nn ncs :: cellsH b1 [arv, rsv] 33 :: L)
  refine cX (qL rfl rfl (qb ?_))
  refine qt (p := ((((stepsL ar rs ((lv.getD q []))).length : Nat) : Int) : Int) < ((cntP ar rs ((lv.getD q [])) ((lv.getD q [])).length : Nat) : Int)) rfl (fun h2 => ?_) (fun h2 => ?_)
  ·have hlo : longL ar rs (lv.getD q []) = true := long_cnt.1 h2
   refine qc (qa (cX (qN (s := 1) [] [sN] [] qr qx js rfl (by decide) rfl CellsAre.nil rfl ?_)))
   intro v2 hv2
   refine qf (v2) rfl (qf (.bool (false)) rfl (qb ?_))
   have hc1 : RowsC F1 [] ([] : List (List Int)) := (CO.nil : RowsC F1 [] [])
   refine jq [] _ _ rfl (fun F2 le2 hz1 => ?_)
   replace hNC := hNC.mono le2
   replace hr2 := hr2.mono le2
   replace hc1 := hc1.mono le2
   have hf1 : RowsF F2 v2 (([] : List (List Int))) := CO.fz hc1 (by first | rfl | omega | (rw [List.length_set]; omega) | (simp; done)) hz1.fz
   refine qq (qh (qy (qh (qh (qy (qh (qm (L' := L) [v2, .bool (false)] (.tuple #[v2, .bool (false)]) (.tmp rfl (.tmp rfl .nil)) rfl (ql (ql leG1 le1) le2) rF (sD (sD sR)) ?_)))))))
   obtain ⟨e1, e2⟩ := next_no (hgo1.trans (next_long (by omega) hlo))
   rw [e1, e2]
   exact ⟨_, rfl, hf1, rfl⟩
  have hlo : longL ar rs (lv.getD q []) = false := by rw [Bool.eq_false_iff]; exact fun h9 => h2 (long_cnt.2 h9)
  refine qs (qc (qc (qa (qf (ii (0)) rfl (qb (qC (je (α := Nat × Value × RowL × List Value × Nat × FH) (fun xQ => [(1, lvv), (2, ptr b1 0), (6, xQ.2.1), (7, ii ((q : Int))), (8, x1), (9, ii (((xQ.1 : Nat) : Int)))]) (fun xQ => slH 22 1 xQ.2.1 xQ.2.2.2.2.1 xQ.2.2.2.1 :: cellsH b1 [arv, rsv] 33 :: L) (fun xQ F' => xQ.2.2.2.2.2 = F' ∧ F1 ≤ xQ.2.2.2.2.2 ∧ (IsSl xQ.2.1) ∧ (RowsC xQ.2.2.2.2.2 xQ.2.2.2.1 xQ.2.2.1) ∧ (xQ.2.2.2.2.1 = xQ.2.2.1.length) ∧ (xQ.1 ≤ (stepsL ar rs (lv.getD q [])).length) ∧ (xQ.2.2.1.length ≤ 60 + xQ.1) ∧ (OkRows ar xQ.2.2.1) ∧ (addN (stepsL ar rs (lv.getD q [])) nx = addN ((stepsL ar rs (lv.getD q [])).drop xQ.1) xQ.2.2.1)) (fun xQ => (stepsL ar rs (lv.getD q [])).length - xQ.1) (0, nv, nx, ncs, nn, F1) ⟨rfl, rfl, rfl, rfl, rfl, rfl, ⟨⟩⟩ (sC (sC sR)) ⟨rfl, FLe.refl _, (hnv), (hNC), (hnn), (Nat.zero_le _), (by (try dsimp only) <;> omega), (hnok), (rfl)⟩ ?_)))))))
  rintro ⟨j, pv, px, pcs, pn, G2⟩ rE _ _ ⟨rfl, leG, hpv, hPC, hpn, hj, hpl, hpok, hadd⟩
  show X _ _ _ _ (envs [(1, lvv), (2, ptr b1 0), (6, pv), (7, ii ((q : Int))), (8, x1), (9, ii ((j : Int)))] rE) _ (slH 22 1 pv pn pcs :: cellsH b1 [arv, rsv] 33 :: L)
  replace leG : F1 ≤ G2 := leG
  dsimp only at hpv hPC hpn hj hpl hpok hadd
  have hnl9 : (stepsL ar rs (lv.getD q [])).length ≤ 1000 := by have h9 := stepsTo_len (ar := ar) (t := (lv.getD q [])) (rs := rs) hrl (lv.getD q []).length; have h8 := hql (by omega); show (stepsTo ar rs (lv.getD q []) (lv.getD q []).length).length ≤ 1000; omega
  have hso := fun h : j < (stepsL ar rs (lv.getD q [])).length => steps_ok hsys (hqo (by omega)) h
  have hsl9 := fun h : j < (stepsL ar rs (lv.getD q [])).length => termOk_len (hso h)
  have hpl9 : ∀ i, i < px.length → (px.getD i []).length ≤ 60 := fun i hi => (termOk_len (hpok i hi)).2
  have leG2 := leG
  replace hNC := hNC.mono leG2
  replace hr2 := hr2.mono leG2
  refine qc (qc (qa (qd (ii ((j : Int))) rfl (qd (x1) rfl (cX (qv jp rfl hr2.slv (cX (qL rfl rfl (qb ?_)))))))))
  refine qt (p := (j : Int) < (((stepsL ar rs ((lv.getD q []))).length : Nat) : Int)) rfl (fun h3 => ?_) (fun h3 => ?_)
  ·refine qs (qc (qC (qc (qa ?_))))
   have hs8 := hsl9 (by omega)
   refine qd (pv) rfl (qd (x1) rfl (qd (ii ((j : Int))) rfl (cX (qB j jp sizeOf113 rfl rfl rfl hr2.slv (by omega) rfl (cX (XOp.fieldE (j * 3 + 2) runUnderlying113 rfl qx (by decide) rfl rfl ?_))))))
   obtain ⟨a2, ha2, hr3, hr4, hr5⟩ := hr2.rd (i := j) (by omega)
   refine cX (qi qJ rfl (hr5 _) (cX (XOp.lend [] _ _ rfl (fun F3 le3 hz2 => ?_))))
   have hf2 : RowsF _ pv px := (CO.fz (RowsC.mono hPC (ql le3 rF)) (by first | rfl | assumption | omega | (rw [List.length_append]; simp only [List.length_singleton]; omega)) hz2 : RowsF _ pv px)
   refine id (qn (args := [pv, a2]) call73 rfl (l1TermPlace_spec hf2 ((ha2.mono le3)) (hlt := (by omega)) (htb := (fun i hi => by have := hpl9 i hi; omega)) (hlx := (by omega))) ?_)
   rintro _ _ _ _ ⟨rfl, rfl, rfl⟩
   show XL _ _ _ _ _ _ _ (slH 22 1 pv pn pcs :: cellsH b1 [arv, rsv] 33 :: L)
   refine cX (qL rfl rfl (qb ?_))
   refine qt (p := (badG (fun y => !decide (y = (((stepsL ar rs ((lv.getD q []))).getD j (0, 0, [])).2.2))) px : Int) < 0) rfl (fun h4 => ?_) (fun h4 => ?_)
   ·have hin : ((stepsL ar rs (lv.getD q [])).getD j (0, 0, [])).2.2 ∉ px := badG_out h4
    refine qa (qd (pv) rfl (qd (x1) rfl (qd (ii ((j : Int))) rfl (cX (qB j jp sizeOf113 rfl rfl rfl hr2.slv (by omega) rfl (cX (XOp.fieldE (j * 3 + 2) runUnderlying113 rfl qx (by decide) rfl rfl (cX (qi qJ rfl (hr5 _) (cX (qN (s := 1) [a2] [sN] [(0, [a2])] qr qx js rfl (by decide) rfl (.cons (cells_one (qK ha2)) CellsAre.nil) rfl ?_)))))))))))
    intro v3 hv3
    refine cX (XOp.append (m := 1) (bytes := 24) (cs := pcs) [_] _ [a2] qr typeInfo22 rfl rfl rfl rfl rfl rfl rfl (SlV.own [] rfl) rfl (Rd.lit [] rfl) (qI (qW (qK ha2)) qY) (by (try simp only [List.length_append, List.length_nil, List.length_cons, List.length_singleton]); omega) (by (try simp only [List.length_append, List.length_nil, List.length_cons, List.length_singleton]); omega) ?_)
    intro v4 hs1 hn1 hm1
    have hc2 := RowsC.snoc hPC ha2
    refine qf (v4) rfl (qb (qa (qd (ii ((j : Int))) rfl (cX (qD (((j + 1 : Nat) : Int)) rfl rfl (by omega) (by omega) (qf (ii (((j + 1 : Nat) : Int))) rfl (qb ?_)))))))
    exact ⟨(j + 1, v4, px ++ [((stepsL ar rs ((lv.getD q []))).getD j (0, 0, [])).2.2], pcs ++ [a2], (pn) + 1, G2), _, leG2, rF, ⟨rfl, rfl, rfl, rfl, rfl, rfl, ⟨⟩⟩, (sD (sC (sC sR))), ⟨rfl, leG2, (hs1), (hc2), (by (try dsimp only); (try rw [List.length_append, List.length_singleton]); omega), (by (try dsimp only) <;> omega), (by (try dsimp only); (try rw [List.length_append, List.length_singleton]); omega), (hpok.snoc (hso (by omega))), (by (try dsimp only); rw [hadd, addN_new (by omega) hin])⟩, (by omega)⟩
   have hin : ((stepsL ar rs (lv.getD q [])).getD j (0, 0, [])).2.2 ∈ px := badG_in h4
   refine qs (qa (qd (ii ((j : Int))) rfl (cX (qD (((j + 1 : Nat) : Int)) rfl rfl (by omega) (by omega) (qf (ii (((j + 1 : Nat) : Int))) rfl (qb ?_))))))
   exact ⟨(j + 1, pv, px, pcs, pn, G2), _, leG2, rF, ⟨rfl, rfl, rfl, rfl, rfl, rfl, ⟨⟩⟩, (sC (sC sR)), ⟨rfl, leG2, (hpv), (hPC), (by (try dsimp only); (try rw [List.length_append, List.length_singleton]); omega), (by (try dsimp only) <;> omega), (by (try dsimp only); (try rw [List.length_append, List.length_singleton]); omega), (hpok), (by (try dsimp only); rw [hadd, addN_in (by omega) hin])⟩, (by omega)⟩
  refine qZ (qo (qo (qF (qc (qa ?_)))))
  have haq : addN (stepsL ar rs (lv.getD q [])) nx = px := hadd.trans (addN_end (by omega))
  refine qd (pv) rfl (cX (qv qr rfl (SlV.own [] rfl) (cX (XOp.gtr rfl rfl (qb ?_)))))
  refine qt (p := (((pn : Nat) : Int) : Int) > 60) rfl (fun h5 => ?_) (fun h5 => ?_)
  ·refine qc (qa (cX (qN (s := 1) [] [sN] [] qr qx js rfl (by decide) rfl CellsAre.nil rfl ?_)))
   intro v5 hv4
   refine qf (v5) rfl (qf (.bool (false)) rfl (qb ?_))
   have hc3 : RowsC G2 [] ([] : List (List Int)) := (CO.nil : RowsC G2 [] [])
   refine jq [] _ _ rfl (fun F4 le4 hz3 => ?_)
   replace hNC := hNC.mono le4
   replace hPC := hPC.mono le4
   replace hc3 := hc3.mono le4
   have hf3 : RowsF F4 v5 (([] : List (List Int))) := CO.fz hc3 (by first | rfl | omega | (rw [List.length_set]; omega) | (simp; done)) hz3.fz
   refine qq (qy (qh (qh (qy (qh (qm (L' := L) [v5, .bool (false)] (.tuple #[v5, .bool (false)]) (.tmp rfl (.tmp rfl .nil)) rfl (ql (ql (ql leG1 le1) leG2) le4) rF (sD (sD sR)) ?_))))))
   obtain ⟨e1, e2⟩ := next_no (hgo1.trans (next_many (by omega) hlo (by rw [haq]; omega)))
   rw [e1, e2]
   exact ⟨_, rfl, hf3, rfl⟩
  refine qs (qa (qd (ii ((q : Int))) rfl (cX (qD (((q + 1 : Nat) : Int)) rfl rfl (by omega) (by omega) (qf (ii (((q + 1 : Nat) : Int))) rfl (qb ?_))))))
  exact ⟨(q + 1, pv, px, pcs, pn, G2), _, (ql (ql leG1 le1) leG2), rF, ⟨rfl, rfl, rfl, rfl, ⟨⟩⟩, (sC (sC sR)), ⟨rfl, (ql (ql leG1 le1) leG2), (hpv), (hPC), (hpn), (by (try dsimp only) <;> omega), (by (try dsimp only); omega), (hpok), (by (try dsimp only); rw [hgo1, next_go (by omega) hlo (by rw [haq]; omega), haq])⟩, (by omega)⟩
 refine qZ (qo (qo (qF (qc (qa (qd (nv) rfl (qf (nv) rfl (qf (.bool (true)) rfl (qb (jq [] _ _ rfl (fun F5 le5 hz4 => ?_)))))))))))
 replace hNC := hNC.mono le5
 have hf4 : RowsF F5 nv nx := CO.fz hNC (by first | rfl | omega | (rw [List.length_set]; omega) | (simp; done)) hz4.fz
 refine qq (qm (L' := L) [nv, .bool (true)] (.tuple #[nv, .bool (true)]) (.tmp rfl (.tmp rfl .nil)) rfl (ql leG1 le5) rF (sD sR) ?_)
 obtain ⟨e1, e2⟩ := next_yes (hgo1.trans (next_end (by omega)))
 rw [e1, e2]
 exact ⟨_, rfl, hf4, rfl⟩

/- spec.LongestOf -/
set_option maxRecDepth 20000 in
theorem sLongestOf_spec {F : FH} {L : List HP} {arv : Value} {ar : List Int} (har : IntsF F arv ar) {rsv : Value} {rs : List (List Int × List Int)} (hrs : PairsF F rsv rs) {tv : Value} {t : List Int} (ht : IntsF F tv t) {n : Int} (hla : ar.length ≤ 4000000) (hlr : rs.length ≤ 4000000) (hrb : ∀ i, i < rs.length → (rs.getD i ([], [])).1.length ≤ 4000000 ∧ (rs.getD i ([], [])).2.length ≤ 4000000) (hlt : t.length ≤ 4000000) :
    Does prog 7 [.agg #[arv, rsv], tv, ii (n)] F (L) (fun v F' L' => (ii (longestF ar rs t n) : Value) = v ∧ L = L') := by
 refine qA func7 rfl rfl rfl (qc (qa (cX (qO [arv, rsv] rfl rfl ?_))))
 intro b1
 refine qf (ii (0)) rfl (qb (qc (qc (qa (cX (qw [arv, rsv] isAgg33 jo rfl rfl (Rd.ownN [] rfl rfl) (qd (tv) rfl (qd (ii (n)) rfl (cX (qn (args := [.agg #[arv, rsv], tv, ii (n)]) call30 rfl (l9Right_spec (n := n) har hrs ht (hla := (by first | assumption | rfl | omega | simp)) (hlr := (by first | assumption | rfl | omega | simp)) (hrb := (by first | assumption | rfl | omega | simp)) (hlt := (by first | assumption | rfl | omega | simp))) ?_))))))))))
 rintro _ _ _ _ ⟨rfl, rfl, rfl⟩
 refine cX (jn rfl (qb ?_))
 refine X.cond (t := !(reachOkL ar rs n [t])) rfl (fun h1 => ?_) (fun h1 => ?_)
 ·have hro : reachOkL ar rs n [t] = false := by simpa using h1
  refine qc (qa (qf (ii (-1)) rfl (qb (qq (qh (qm (L' := L) [ii (-1)] (ii (-1)) (.tmp rfl .nil) rfl rF rF (sD sR) ?_))))))
  rw [longestF_no hro]
  exact ⟨rfl, rfl⟩
 have hro : reachOkL ar rs n [t] = true := by simpa using h1
 have hr3 := reachOk_iff.1 hro
 have hsys := hr3.1.1
 have ho := hr3.1.2
 have hn20 := hr3.2
 have htl := termOk_len ho
 refine qs (qc (qa (qd (tv) rfl (cX (XOp.frzF <| qn (args := [tv]) call31 rfl (l1Copy_spec ht (hlt := (by first | assumption | rfl | omega | simp))) ?_)))))
 rintro v1 _ _ _ ⟨rfl, hs1, rfl⟩
 refine ⟨_, _, rfl, fun F1 le1 hz1 => ?_⟩
 replace har := har.mono le1
 replace hrs := hrs.mono le1
 have hf1 : IntsF F1 v1 ((t)) := intsH.fz (xs := (t)) hz1.fz
 refine cX (qN (s := 1) [v1] [sN] [(0, [v1])] qr qx js rfl (by decide) rfl (.cons (cells_one (qK hf1)) CellsAre.nil) rfl ?_)
 intro v2 hv1
 refine qf (v2) rfl (qb (qc (qc (qa (qf (ii (0)) rfl (qb (qC ?_)))))))
 have hc1 : RowsC F1 [v1] ([(t)] : List (List Int)) := (RowsC.snoc (CO.nil : RowsC F1 [] []) hf1)
 refine jq [] _ _ rfl (fun F2 le2 hz2 => ?_)
 replace har := har.mono le2
 replace hrs := hrs.mono le2
 replace hc1 := hc1.mono le2
 have hf2 : RowsF F2 v2 (([(t)] : List (List Int))) := CO.fz hc1 (by first | rfl | omega | (rw [List.length_set]; omega) | (simp; done)) hz2.fz
 refine je (α := Nat × Value × RowL × FH) (fun xQ => [(2, ii (n)), (3, ptr b1 0), (7, xQ.2.1), (8, ii (((xQ.1 : Nat) : Int)))]) (fun xQ => cellsH b1 [arv, rsv] 33 :: L) (fun xQ F' => xQ.2.2.2 = F' ∧ F2 ≤ xQ.2.2.2 ∧ (RowsF xQ.2.2.2 xQ.2.1 xQ.2.2.1) ∧ ((xQ.1 : Int) ≤ n + 1) ∧ (OkRows ar xQ.2.2.1) ∧ (xQ.2.2.1.length ≤ 60) ∧ (longestL ar rs t n = longestGo ar rs (n.toNat + 1 - xQ.1) (xQ.1 : Int) xQ.2.2.1)) (fun xQ => n.toNat + 1 - xQ.1) (0, v2, ([(t)] : List (List Int)), F2) ⟨rfl, rfl, rfl, rfl, ⟨⟩⟩ (sC sR) ⟨rfl, FLe.refl _, (hf2), (by (try dsimp only) <;> omega), (OkRows.one ho), (by simp), (rfl)⟩ ?_
 rintro ⟨k, lvv, lv, G1⟩ rE _ _ ⟨rfl, leG, hlv, hkn, hok, hll, hgo⟩
 show X _ _ _ _ (envs [(2, ii (n)), (3, ptr b1 0), (7, lvv), (8, ii ((k : Int)))] rE) _ (cellsH b1 [arv, rsv] 33 :: L)
 replace leG : F2 ≤ G1 := leG
 dsimp only at hlv hkn hok hll hgo
 have leG1 := leG
 replace har := har.mono leG1
 replace hrs := hrs.mono leG1
 refine qc (qc (qa (qd (ii ((k : Int))) rfl (qd (ii (n)) rfl (cX (XOp.leq rfl rfl (qb ?_)))))))
 refine qt (p := (k : Int) ≤ n) rfl (fun h2 => ?_) (fun h2 => ?_)
 ·refine qs (qc (qC (qc (qa (cX (qw [arv, rsv] isAgg33 jo rfl rfl (Rd.ownN [] rfl rfl) (qd (lvv) rfl (cX (qn (args := [.agg #[arv, rsv], lvv]) call32 rfl (l9Next_spec har hrs hlv (hsys := (hsys)) (hok := (hok)) (hll := (hll))) ?_)))))))))
  rintro _ F3 _ le3 ⟨x1, rfl, hr1, rfl⟩
  refine qd (.tuple #[x1, .bool (nextB ar rs lv)]) rfl (cX (jb (x1) rfl rfl (cX (jb (.bool (nextB ar rs lv)) rfl rfl (qf (x1) rfl (qf (.bool (nextB ar rs lv)) rfl (qb (qc (qc (qa (qd (.bool (nextB ar rs lv)) rfl (cX (jn rfl (qb ?_))))))))))))))
  refine X.cond (t := !(nextB ar rs lv)) rfl (fun h3 => ?_) (fun h3 => ?_)
  ·have hnx := nextB_no (ar := ar) (rs := rs) (lv := lv) (by simpa using h3)
   refine qc (qa (qf (ii (-1)) rfl (qb (qq (qh (qy (qh (qh (qy (qh (qm (L' := L) [ii (-1)] (ii (-1)) (.tmp rfl .nil) rfl (ql (ql (ql le1 le2) leG1) le3) rF (sD sR) ?_)))))))))))
   have e9 : longestF ar rs t n = -1 := (longestF_yes hro).trans (hgo.trans (longest_none (by omega) hnx))
   rw [e9]
   exact ⟨rfl, rfl⟩
  have hxb : nextB ar rs lv = true := by simpa using h3
  have hnx := nextB_yes hxb
  obtain ⟨hxok, hxl⟩ := nextD_ok hsys hok hxb
  refine qs (qc (qc (qa (qd (x1) rfl (cX (qv qr rfl hr1.slv (cX (XOp.eql rfl rfl (qb ?_)))))))))
  refine qt (p := ((((nextD ar rs lv).length : Nat) : Int) : Int) = 0) rfl (fun h4 => ?_) (fun h4 => ?_)
  ·refine qc (qa (qd (ii ((k : Int))) rfl (qf (ii ((k : Int))) rfl (qb (qq (qh (qy (qh (qh (qy (qh (qm (L' := L) [ii ((k : Int))] (ii ((k : Int))) (.tmp rfl .nil) rfl (ql (ql (ql le1 le2) leG1) le3) rF (sD sR) ?_))))))))))))
   have e9 : longestF ar rs t n = (k : Int) := (longestF_yes hro).trans (hgo.trans (longest_done (by omega) (by rw [hnx, List.eq_nil_of_length_eq_zero (show (nextD ar rs lv).length = 0 by omega)])))
   rw [e9]
   exact ⟨rfl, rfl⟩
  refine qs (qa ?_)
  have hnn9 : nextD ar rs lv ≠ [] := fun e9 => by simp_all
  refine qd (x1) rfl (qf (x1) rfl (qb (qa (qd (ii ((k : Int))) rfl (cX (qD (((k + 1 : Nat) : Int)) rfl rfl (by omega) (by omega) (qf (ii (((k + 1 : Nat) : Int))) rfl (qb ?_))))))))
  exact ⟨(k + 1, x1, nextD ar rs lv, F3), _, (ql leG1 le3), rF, ⟨rfl, rfl, rfl, rfl, ⟨⟩⟩, (sC sR), ⟨rfl, (ql leG1 le3), (hr1), (by (try dsimp only) <;> omega), (hxok), (hxl), (by (try dsimp only); rw [hgo, longest_next (by omega) hnx hnn9, show n.toNat + 1 - k - 1 = n.toNat + 1 - (k + 1) from by omega]; rfl)⟩, (by omega)⟩
 refine qZ (qo (qo (qF (qc (qa (qf (ii (-1)) rfl (qb (qq (qm (L' := L) [ii (-1)] (ii (-1)) (.tmp rfl .nil) rfl (ql (ql le1 le2) leG1) rF (sD sR) ?_)))))))))
 have e9 : longestF ar rs t n = -1 := (longestF_yes hro).trans (hgo.trans (by rw [show n.toNat + 1 - k = 0 from by omega]; rfl))
 rw [e9]
 exact ⟨rfl, rfl⟩

/- impl.LongestOf -/
theorem LongestOf_spec {F : FH} {L : List HP} {arv : Value} {ar : List Int} (har : IntsF F arv ar) {rsv : Value} {rs : List (List Int × List Int)} (hrs : PairsF F rsv rs) {tv : Value} {t : List Int} (ht : IntsF F tv t) {n : Int} (hlt9 : t.length ≤ 4000000) :
    Does prog 10 [.agg #[arv, rsv], tv, ii (n)] F (L) (fun v F' L' => (ii (longestF ar rs t n) : Value) = v ∧ L = L') := by
 refine qA func10 rfl rfl rfl (qc (qa (cX (qO [arv, rsv] rfl rfl ?_))))
 intro b1
 refine qf (ii (0)) rfl (qb (qc (qc (qa (cX (qw [arv, rsv] isAgg33 jo rfl rfl (Rd.ownN [] rfl rfl) (qd (ii (n)) rfl (qd (tv) rfl (cX (qN (s := 1) [tv] [sN] [(0, [tv])] qr qx js rfl (by decide) rfl (.cons (cells_one (qK ht)) CellsAre.nil) rfl ?_))))))))))
 intro v1 hv1
 have hc1 : RowsC F [tv] ([t] : List (List Int)) := (RowsC.snoc (CO.nil : RowsC F [] []) ht)
 refine XL.freezeF [] _ _ rfl (fun F1 le1 hz1 => ?_)
 replace har := har.mono le1
 replace hrs := hrs.mono le1
 replace ht := ht.mono le1
 replace hc1 := hc1.mono le1
 have hf1 : RowsF F1 v1 (([t] : List (List Int))) := CO.fz hc1 (by first | rfl | omega | (rw [List.length_set]; omega) | (simp; done)) hz1.fz
 refine cX (qn (args := [.agg #[arv, rsv], ii (n), v1]) call35 rfl (reachOk_spec (n := n) har hrs hf1 (hlt := (by first | assumption | rfl | omega | simp))) ?_)
 rintro _ _ _ _ ⟨rfl, rfl, rfl⟩
 refine cX (jn rfl (qb ?_))
 refine X.cond (t := !(reachOkL ar rs n (([t] : List (List Int))))) rfl (fun h1 => ?_) (fun h1 => ?_)
 ·have hro : reachOkL ar rs n [t] = false := by simpa using h1
  refine qc (qa (qf (ii (-1)) rfl (qb (qq (qh (qm (L' := L) [ii (-1)] (ii (-1)) (.tmp rfl .nil) rfl le1 rF (sD sR) ?_))))))
  rw [longestF_no hro]
  exact ⟨rfl, rfl⟩
 have hro : reachOkL ar rs n [t] = true := by simpa using h1
 have hr3 := reachOk_iff.1 hro
 have hsys := hr3.1.1
 have ho := hr3.1.2
 have hn20 := hr3.2
 have htl := termOk_len ho
 refine qs (qc (qa (cX (qw [arv, rsv] isAgg33 jo rfl rfl (Rd.ownN [] rfl rfl) (qd (tv) rfl (qd (ii (n)) rfl (cX (qn (args := [.agg #[arv, rsv], tv, ii (n)]) call36 rfl (longest_spec (n := n) har hrs ht (hsys := (hsys)) (ho := (ho)) (hn20 := (hn20))) ?_))))))))
 rintro _ F2 _ le2 ⟨rfl, rfl⟩
 refine qf (ii (longestL ar rs t n)) rfl (qb (qq (qm (L' := L) [ii (longestL ar rs t n)] (ii (longestL ar rs t n)) (.tmp rfl .nil) rfl (ql le1 le2) rF (sD sR) ?_)))
 rw [longestF_yes hro]
 exact ⟨rfl, rfl⟩

/- impl.FiniteIn -/
theorem FiniteIn_spec {F : FH} {L : List HP} {arv : Value} {ar : List Int} (har : IntsF F arv ar) {rsv : Value} {rs : List (List Int × List Int)} (hrs : PairsF F rsv rs) {tv : Value} {t : List Int} (ht : IntsF F tv t) {n : Int} (hlt9 : t.length ≤ 4000000) :
    Does prog 14 [.agg #[arv, rsv], tv, ii (n)] F (L) (fun v F' L' => (.bool (finF ar rs t n) : Value) = v ∧ L = L') := by
 refine qA func14 rfl rfl rfl (qc (qa (cX (qO [arv, rsv] rfl rfl ?_))))
 intro b1
 refine qf (.bool (false)) rfl (qb (qc (qa (cX (qw [arv, rsv] isAgg33 jo rfl rfl (Rd.ownN [] rfl rfl) (qd (tv) rfl (qd (ii (n)) rfl (cX (qn (args := [.agg #[arv, rsv], tv, ii (n)]) call10 rfl (LongestOf_spec (n := n) har hrs ht (hlt9 := (by first | assumption | rfl | omega | simp))) ?_)))))))))
 rintro _ F1 _ le1 ⟨rfl, rfl⟩
 refine cX (XOp.geq rfl rfl (qf (.bool (decide ((longestF ar rs t n : Int) ≥ 0))) rfl (qb (qq (qm (L' := L) [.bool (decide ((longestF ar rs t n : Int) ≥ 0))] (.bool (decide ((longestF ar rs t n : Int) ≥ 0))) (.tmp rfl .nil) rfl le1 rF (sD sR) ?_)))))
 exact ⟨rfl, rfl⟩

/- spec.FiniteIn -/
theorem sFiniteIn_spec {F : FH} {L : List HP} {arv : Value} {ar : List Int} (har : IntsF F arv ar) {rsv : Value} {rs : List (List Int × List Int)} (hrs : PairsF F rsv rs) {tv : Value} {t : List Int} (ht : IntsF F tv t) {n : Int} (hla : ar.length ≤ 4000000) (hlr : rs.length ≤ 4000000) (hrb : ∀ i, i < rs.length → (rs.getD i ([], [])).1.length ≤ 4000000 ∧ (rs.getD i ([], [])).2.length ≤ 4000000) (hlt : t.length ≤ 4000000) :
    Does prog 13 [.agg #[arv, rsv], tv, ii (n)] F (L) (fun v F' L' => (.bool (finF ar rs t n) : Value) = v ∧ L = L') := by
 refine qA func13 rfl rfl rfl (qc (qa (cX (qO [arv, rsv] rfl rfl ?_))))
 intro b1
 refine qf (.bool (false)) rfl (qb (qc (qa (cX (qw [arv, rsv] isAgg33 jo rfl rfl (Rd.ownN [] rfl rfl) (qd (tv) rfl (qd (ii (n)) rfl (cX (qn (args := [.agg #[arv, rsv], tv, ii (n)]) call7 rfl (sLongestOf_spec (n := n) har hrs ht (hla := (by first | assumption | rfl | omega | simp)) (hlr := (by first | assumption | rfl | omega | simp)) (hrb := (by first | assumption | rfl | omega | simp)) (hlt := (by first | assumption | rfl | omega | simp))) ?_)))))))))
 rintro _ F1 _ le1 ⟨rfl, rfl⟩
 refine cX (XOp.neq rfl rfl (qf (.bool (decide ((longestF ar rs t n : Int) ≠ -1))) rfl (qb (qq (qm (L' := L) [.bool (decide ((longestF ar rs t n : Int) ≠ -1))] (.bool (decide ((longestF ar rs t n : Int) ≠ -1))) (.tmp rfl .nil) rfl le1 rF (sD sR) ?_)))))
 exact ⟨congrArg Value.bool finF_ne.symm, rfl⟩

/- laws.FnExactFiniteIn -/
set_option maxRecDepth 20000 in
theorem FnExactFiniteIn_does {F : FH} {L : List HP} {arv : Value} {ar : List Int} (har : IntsF F arv ar) {rsv : Value} {rs : List (List Int × List Int)} (hrs : PairsF F rsv rs) {tv : Value} {t : List Int} (ht : IntsF F tv t) {n : Int} (hlar : ar.length ≤ 9223372036854775807) (hlrs : rs.length ≤ 9223372036854775807) (hbrs : ∀ i, i < rs.length → (rs.getD i ([], [])).1.length ≤ 9223372036854775807 ∧ (rs.getD i ([], [])).2.length ≤ 9223372036854775807) (hlt : t.length ≤ 9223372036854775807) :
    Does prog 4 [.agg #[arv, rsv], tv, ii (n)] F (L) (fun v F' L' => (.bool (true) : Value) = v ∧ F = F' ∧ L = L') := by
 refine qA func4 rfl rfl rfl (qc (qa (cX (qO [arv, rsv] rfl rfl ?_))))
 intro b1
 refine qf (.bool (false)) rfl (qb (qc (qc (qa (qd (tv) rfl (cX (qv qg rfl ht.slv (cX (XOp.gtr rfl rfl (qb ?_))))))))))
 refine qt (p := ((t.length : Int) : Int) > 1048576) rfl (fun h1 => ?_) (fun h1 => ?_)
 ·refine qc (qa (qf (.bool (true)) rfl (qb (qq (qh (qm (L' := L) [.bool (true)] (.bool (true)) (.tmp rfl .nil) rfl rF rF (sD sR) ?_))))))
  exact ⟨rfl, rfl, rfl⟩
 refine qs (qc (qa (qf (ii (1048576)) rfl (qb (qc (qa (cX (qw [arv, rsv] isAgg27 sizeOf27 rfl rfl (Rd.ownN [] rfl rfl) (qd (ii (1048576)) rfl (cX (qn (args := [.agg #[arv, rsv], ii (1048576)]) call6 rfl (szSystem_spec (z := 1048576) har hrs (hz := (by first | assumption | rfl | omega | simp)) (hal := (by first | assumption | rfl | omega | simp)) (hrl := (by first | assumption | rfl | omega | simp)) (hrb := (by first | assumption | rfl | omega | simp))) ?_)))))))))))
 rintro _ _ _ _ ⟨rfl, rfl, rfl⟩
 refine qf (ii (dec 1048576 (ar.length + szR rs))) rfl (qb (qc (qc (qa (qd (ii (dec 1048576 (ar.length + szR rs))) rfl (cX (qL rfl rfl (qb ?_))))))))
 refine qt (p := (dec 1048576 (ar.length + szR rs) : Int) < 0) rfl (fun h2 => ?_) (fun h2 => ?_)
 ·refine qc (qa (qf (.bool (true)) rfl (qb (qq (qh (qm (L' := L) [.bool (true)] (.bool (true)) (.tmp rfl .nil) rfl rF rF (sD sR) ?_))))))
  exact ⟨rfl, rfl, rfl⟩
 have hd1 := dec_le2 h2 (by omega)
 have hzrs := szR_le (rs := rs)
 have hirs := hzrs.2
 have hcrs : ∀ i, i < rs.length → (rs.getD i ([], [])).1.length ≤ 4000000 ∧ (rs.getD i ([], [])).2.length ≤ 4000000 := fun i hi => by have := hirs i hi; omega
 have hfrs := flatPair_len rs
 refine qs (qc (qa (cX (qw [arv, rsv] isAgg27 sizeOf27 rfl rfl (Rd.ownN [] rfl rfl) (cX (XOp.thawL (id (qn (args := [.agg #[arv, rsv]]) call8 rfl (toSystem_spec har hrs (hla := (by first | assumption | rfl | omega | simp)) (hrl := (by first | assumption | rfl | omega | simp)) (hrb := (by first | assumption | rfl | omega | simp))) ?_))))))))
 rintro _ F1 _ le1 ⟨x1, x2, rfl, hr1, hr2, hr3, rfl⟩
 refine ⟨[intsH 2 x1 ar, pairsD 2 114 x2 rs], hr3, ?_⟩
 show XL _ _ _ _ _ _ _ (intsH 2 x1 ar :: pairsD 2 114 x2 rs :: cellsH b1 [arv, rsv] 27 :: L)
 refine qd (tv) rfl (cX (qn (args := [tv]) call9 rfl (toInt64S_spec ht (hlx := (by first | assumption | rfl | omega | simp))) ?_))
 rintro v1 _ _ _ ⟨rfl, hs1, rfl⟩
 refine qd (ii (n)) rfl (XL.freezeF [_] _ _ rfl (fun F2 le2 hz1 => ?_))
 replace har := har.mono le2
 replace hrs := hrs.mono le2
 replace ht := ht.mono le2
 have hf1 : IntsF F2 x1 ar := intsH.fz (xs := ar) hz1.fz
 refine XL.freezeF [_] _ _ rfl (fun F3 le3 hz2 => ?_)
 replace har := har.mono le3
 replace hrs := hrs.mono le3
 replace ht := ht.mono le3
 replace hf1 := hf1.mono le3
 have hf2 : PairsF F3 x2 rs := pairsD.fz hz2.fz
 refine XL.freezeF [] _ _ rfl (fun F4 le4 hz3 => ?_)
 replace har := har.mono le4
 replace hrs := hrs.mono le4
 replace ht := ht.mono le4
 replace hf1 := hf1.mono le4
 replace hf2 := hf2.mono le4
 have hf3 : IntsF F4 v1 ((t)) := intsH.fz (xs := (t)) hz3.fz
 refine cX (qn (args := [.agg #[x1, x2], v1, ii (n)]) call13 rfl (sFiniteIn_spec (n := n) hf1 hf2 hf3 (hla := (by first | assumption | rfl | omega | simp)) (hlr := (by first | assumption | rfl | omega | simp)) (hrb := (by first | assumption | rfl | omega | simp)) (hlt := (by first | assumption | rfl | omega | simp))) ?_)
 rintro _ F5 _ le5 ⟨rfl, rfl⟩
 replace har := har.mono le5
 replace hrs := hrs.mono le5
 replace ht := ht.mono le5
 refine qf (.bool (finF ar rs ((t)) n)) rfl (qb (qc (qa (cX (qw [arv, rsv] isAgg27 sizeOf27 rfl rfl (Rd.ownN [] rfl rfl) (cX (XOp.thawL (id (qn (args := [.agg #[arv, rsv]]) call8 rfl (toSystem_spec har hrs (hla := (by first | assumption | rfl | omega | simp)) (hrl := (by first | assumption | rfl | omega | simp)) (hrb := (by first | assumption | rfl | omega | simp))) ?_)))))))))
 rintro _ F6 _ le6 ⟨x3, x4, rfl, hr4, hr5, hr6, rfl⟩
 refine ⟨[intsH 2 x3 ar, pairsD 2 114 x4 rs], hr6, ?_⟩
 show XL _ _ _ _ _ _ _ (intsH 2 x3 ar :: pairsD 2 114 x4 rs :: cellsH b1 [arv, rsv] 27 :: L)
 refine cX (jd [sN, sN] zeroValue33 rfl ?_)
 intro b2
 refine cX (qV [] _ [x3, x4] jo rfl rfl rfl (qI (qW (qK hr4)) (qI (qW (PairsF.isSl hr5)) qY)) rfl rfl rfl (qb (qc (qa (qd (tv) rfl (cX (qn (args := [tv]) call9 rfl (toInt64S_spec ht (hlx := (by first | assumption | rfl | omega | simp))) ?_)))))))
 rintro v2 _ _ _ ⟨rfl, hs2, rfl⟩
 refine qf (v2) rfl (qb (qc (qa (cX (qw [x3, x4] isAgg33 jo rfl rfl (Rd.ownN [_] rfl rfl) (qd (v2) rfl (qd (ii (n)) rfl (XL.freezeF [_, _] _ _ rfl (fun F7 le7 hz4 => ?_)))))))))
 replace har := har.mono le7
 replace hrs := hrs.mono le7
 replace ht := ht.mono le7
 have hf4 : IntsF F7 x3 ar := intsH.fz (xs := ar) hz4.fz
 refine XL.freezeF [_, _] _ _ rfl (fun F8 le8 hz5 => ?_)
 replace har := har.mono le8
 replace hrs := hrs.mono le8
 replace ht := ht.mono le8
 replace hf4 := hf4.mono le8
 have hf5 : PairsF F8 x4 rs := pairsD.fz hz5.fz
 refine XL.freezeF [] _ _ rfl (fun F9 le9 hz6 => ?_)
 replace har := har.mono le9
 replace hrs := hrs.mono le9
 replace ht := ht.mono le9
 replace hf4 := hf4.mono le9
 replace hf5 := hf5.mono le9
 have hf6 : IntsF F9 v2 ((t)) := intsH.fz (xs := (t)) hz6.fz
 refine cX (qn (args := [.agg #[x3, x4], v2, ii (n)]) call14 rfl (FiniteIn_spec (n := n) hf4 hf5 hf6 (hlt9 := (by first | assumption | rfl | omega | simp))) ?_)
 rintro _ F10 _ le10 ⟨rfl, rfl⟩
 replace har := har.mono le10
 replace hrs := hrs.mono le10
 replace ht := ht.mono le10
 replace hf4 := hf4.mono le10
 replace hf5 := hf5.mono le10
 replace hf6 := hf6.mono le10
 refine qf (.bool (finF ar rs ((t)) n)) rfl (qb (qc (qc (qa (qd (.bool (finF ar rs ((t)) n)) rfl (qd (.bool (finF ar rs ((t)) n)) rfl (cX (XOp.neB (a := finF ar rs ((t)) n) (b := finF ar rs ((t)) n) runUnderlying4 rfl rfl (qb ?_)))))))))
 refine qt (p := (finF ar rs ((t)) n) ≠ (finF ar rs ((t)) n)) rfl (fun h3 => ?_) (fun h3 => ?_)
 ·exact absurd rfl h3
 refine qs (qc (qc ?_))
 refine X.drawG [cellsH b2 [x3, x4] 33, cellsH b1 [arv, rsv] 27] L 3 [] [[], [], [1]] [] (phiG [pe (.agg #[x3, x4]), pe (.agg #[arv, rsv]), fun FF us v => (.agg #[((aggAt v 0)), ((aggAt v 1))] : Value) = v ∧ (IntsF FF ((aggAt v 0)) ar) ∧ (PairsF FF ((aggAt v 1)) rs)]) (ownL []) mixed rfl rfl (by kernel_rfl) (by kernel_rfl) (MonoG.get (m1 (m1 (mC (fun le h => ⟨h.1, h.2.1.mono le, h.2.2.mono le⟩) MonoG.nil)))) ?_ ?_
 ·refine gD (fun W Fs R lF z9 => ?_) ?_
  ·replace har := har.mono lF
   replace hrs := hrs.mono lF
   replace ht := ht.mono lF
   replace hf4 := hf4.mono lF
   replace hf5 := hf5.mono lF
   replace hf6 := hf6.mono lF
   refine qk (qw [x3, x4] isAgg33 jo rfl rfl (Rd.ownN [] rfl rfl) ?_)
   exact ⟨rfl, rfl⟩
  refine gD (fun W Fs R lF z9 => ?_) ?_
  ·replace har := har.mono lF
   replace hrs := hrs.mono lF
   replace ht := ht.mono lF
   replace hf4 := hf4.mono lF
   replace hf5 := hf5.mono lF
   replace hf6 := hf6.mono lF
   refine qk (qw [arv, rsv] isAgg27 sizeOf27 rfl rfl (Rd.ownN [_] rfl rfl) ?_)
   exact ⟨rfl, rfl⟩
  refine gD (fun W Fs R lF z9 => ?_) ?_
  ·replace har := har.mono lF
   replace hrs := hrs.mono lF
   replace ht := ht.mono lF
   replace hf4 := hf4.mono lF
   replace hf5 := hf5.mono lF
   replace hf6 := hf6.mono lF
   rw [eS (l := [(1, _)]) ⟨z9 1 rfl, ⟨⟩⟩]
   refine qk (qn (args := [.agg #[arv, rsv]]) call8 rfl (toSystem_spec har hrs (hla := (by first | assumption | rfl | omega | simp)) (hrl := (by first | assumption | rfl | omega | simp)) (hrb := (by first | assumption | rfl | omega | simp))) ?_)
   rintro _ F12 _ le12 ⟨x7, x8, rfl, hr10, hr11, hr12, rfl⟩
   replace ht := ht.mono le12
   replace hf4 := hf4.mono le12
   replace hf5 := hf5.mono le12
   replace hf6 := hf6.mono le12
   exact ⟨⟨rfl, hr10, hr11⟩, rfl⟩
  exact stepsG.nil
 intro W F13 le13 hphi
 obtain ⟨e2, f2_1hr1, f2_1hr2⟩ := hphi 2 (by decide)
 generalize hu1 : ((aggAt (W 2) 0)) = u1 at e2 f2_1hr1 f2_1hr2
 generalize hu2 : ((aggAt (W 2) 1)) = u2 at e2 f2_1hr1 f2_1hr2
 rw [eS (l := [(0, _), (2, (.agg #[u1, u2]))]) ⟨(hphi 0 (by decide)), (e2).symm, ⟨⟩⟩]
 replace ht := ht.mono le13
 replace hf4 := hf4.mono le13
 replace hf5 := hf5.mono le13
 replace hf6 := hf6.mono le13
 show XL _ _ _ _ _ _ _ (cellsH b2 [x3, x4] 33 :: cellsH b1 [arv, rsv] 27 :: L)
 refine cX (qn (args := [.agg #[x3, x4], .agg #[u1, u2]]) call11 rfl (eqSystem_spec hf4 hf5 f2_1hr1 f2_1hr2 (hcl := (by first | assumption | rfl | omega | simp)) (hal := (by first | assumption | rfl | omega | simp)) (hbd := (by first | assumption | rfl | omega | simp))) ?_)
 rintro _ _ _ _ ⟨rfl, rfl, rfl⟩
 refine cX (XOp.notD rfl (qb ?_))
 refine qt (p := ¬(ar = ar ∧ rs = rs)) rfl (fun h4 => ?_) (fun h4 => ?_)
 ·exact absurd (by first | rfl | exact ⟨rfl, rfl⟩ | exact ⟨⟨rfl, rfl⟩, rfl, rfl⟩ | simp) h4
 refine qs (qc (qc (qa (qd (v2) rfl (qd (tv) rfl (cX (qn (args := [tv]) call9 rfl (toInt64S_spec ht (hlx := (by first | assumption | rfl | omega | simp))) ?_)))))))
 rintro v3 _ _ _ ⟨rfl, hs3, rfl⟩
 refine cX (XOp.lend [] _ _ rfl (fun F14 le14 hz7 => ?_))
 have hf7 : IntsF _ v3 ((t)) := intsH.fz (xs := (t)) hz7
 refine id (qn (args := [v2, v3]) call12 rfl (eqInt64S_spec ((hf6.mono le14)) hf7 (hbd := (by first | assumption | rfl | omega | (left; simp; done) | (right; simp; done)))) ?_)
 rintro _ _ _ _ ⟨rfl, rfl, rfl⟩
 show XL _ _ _ _ _ _ _ (intsH 2 v3 ((t)) :: cellsH b2 [x3, x4] 33 :: cellsH b1 [arv, rsv] 27 :: L)
 refine cX (XOp.notD rfl (qb ?_))
 refine qt (p := ¬(((t)) = ((t)))) rfl (fun h5 => ?_) (fun h5 => ?_)
 ·exact absurd (by first | rfl | exact ⟨rfl, rfl⟩ | exact ⟨⟨rfl, rfl⟩, rfl, rfl⟩ | simp) h5
 refine qs (qc (qa (qf (.bool (true)) rfl (qb (qq (qm (L' := L) [.bool (true)] (.bool (true)) (.tmp rfl .nil) rfl rF (ql (ql (ql (ql (ql (ql (ql (ql le2 le3) le4) le5) le7) le8) le9) le10) le13) (sD (sD (sD sR))) ?_))))))
 exact ⟨rfl, rfl, rfl⟩
end Go.Proofs.Ytjpfankibmeaaaa
