/-
  Walks, one after the other (part 4).
-/
import Derived.Test.YtcdjpapjjoldeaaQSL1
import Derived.Test.YtcdjpapjjoldeaaQSB2
set_option linter.unusedSimpArgs false
set_option linter.unusedVariables false
namespace Go.Proofs.Ytcdjpapjjoldeaa
open Go X M Try

/- spec.l5Unify -/
set_option maxHeartbeats 2000000 in
set_option maxRecDepth 20000 in
theorem l5Unify_spec {F : FH} {L : List HP} {arv : Value} {ar : List Int} (har : IntsF F arv ar) {s0v : Value} {s0 : List (List Int)} (hs0 : RowsF F s0v s0) {av : Value} {a : List Int} (ha : IntsF F av a) {cv : Value} {c : List Int} (hc : IntsF F cv c) (hoa : termOk ar a = true) (hoc : termOk ar c = true) (hze : s0 = []) :
    Does prog 205 [.agg #[arv], .agg #[s0v], av, cv] F (L) (fun v F' L' => ∃ (x : Value), ∃ (s : RowL), (.tuple #[.agg #[x], .bool (uniB ar a c)] : Value) = v ∧ (RowsF F' x s) ∧ (uniB ar a c = true → UniR ar a c s) ∧ (uniB ar a c = false → s = []) ∧ L = L') := by
 refine qM func205 rfl rfl rfl ?_
 have hga := fun k (hk : k < a.length) => termOk_ge hoa hk
 have hla := termOk_len hoa
 have hgma := (termOk_iff.1 hoa).ge
 have hbra := beh_range hgma
 have hgc := fun k (hk : k < c.length) => termOk_ge hoc hk
 have hlc := termOk_len hoc
 have hgmc := (termOk_iff.1 hoc).ge
 have hbrc := beh_range hgmc
 refine qc (qa (cX (jg [arv] rfl rfl ?_)))
 intro b1
 refine cX (jg [s0v] rfl rfl ?_)
 intro b2
 refine cX (jd [sN] qG rfl ?_)
 intro b3
 refine qh (.bool (false)) rfl (qb (qQ (js (α := Value × RowL × FH) (fun xQ => [(2, av), (3, cv), (4, ptr b1 0), (5, ptr b2 0), (8, ptr b3 0)]) (fun xQ => cellsH b3 [sN] 50 :: cellsH b2 [xQ.1] 50 :: cellsH b1 [arv] 29 :: L) (fun xQ F' => xQ.2.2 = F' ∧ F ≤ xQ.2.2 ∧ (RowsF xQ.2.2 xQ.1 xQ.2.1) ∧ (UniI ar a c xQ.2.1)) (fun xQ => freeN xQ.2.1) (s0v, s0, F) ⟨rfl, rfl, rfl, rfl, rfl, ⟨⟩⟩ (sC (sC (sC sR))) ⟨rfl, FLe.refl _, (hs0), (by subst hze; exact UniI.start)⟩ ?_)))
 rintro ⟨sv, s, G1⟩ rE _ _ ⟨rfl, leG, hsv, hI⟩
 show X _ _ _ _ (envs [(2, av), (3, cv), (4, ptr b1 0), (5, ptr b2 0), (8, ptr b3 0)] rE) _ (cellsH b3 [sN] 50 :: cellsH b2 [sv] 50 :: cellsH b1 [arv] 29 :: L)
 replace leG : F ≤ G1 := leG
 dsimp only at hsv hI
 have hsl := hI.len
 have hsb := hI.bound
 have leG1 := leG
 replace har := har.mono leG1
 replace ha := ha.mono leG1
 replace hc := hc.mono leG1
 refine qQ (qc (qa (cX (qr [sv] qK qm rfl rfl (Rd.ownN [_] rfl rfl) (qf (av) rfl (cX (ql (args := [.agg #[sv], av]) call77 rfl (l2Filled_spec hsv ha (hsl := (by omega)) (hsb := (fun i => by have := hsb i; omega)) (htl := (by omega)) (htg := (fun i hi => by first | (have := hga i hi; omega) | (have := hgc i hi; omega)))) ?_)))))))
 rintro _ F1 _ le1 ⟨x1, rfl, hr1, rfl⟩
 replace har := har.mono le1
 replace hc := hc.mono le1
 replace hsv := hsv.mono le1
 refine qf (.tuple #[x1, .bool ((fillL s a).isSome)]) rfl (cX (qH (x1) rfl rfl (cX (qH (.bool ((fillL s a).isSome)) rfl rfl (qh (x1) rfl (qh (.bool ((fillL s a).isSome)) rfl (qb (qc (qa (cX (qr [sv] qK qm rfl rfl (Rd.ownN [_] rfl rfl) (qf (cv) rfl (cX (ql (args := [.agg #[sv], cv]) call77 rfl (l2Filled_spec hsv hc (hsl := (by omega)) (hsb := (fun i => by have := hsb i; omega)) (htl := (by omega)) (htg := (fun i hi => by first | (have := hga i hi; omega) | (have := hgc i hi; omega)))) ?_))))))))))))))
 rintro _ F2 _ le2 ⟨x2, rfl, hr2, rfl⟩
 replace har := har.mono le2
 replace hsv := hsv.mono le2
 replace hr1 := hr1.mono le2
 refine qf (.tuple #[x2, .bool ((fillL s c).isSome)]) rfl (cX (qH (x2) rfl rfl (cX (qH (.bool ((fillL s c).isSome)) rfl rfl (qh (x2) rfl (qh (.bool ((fillL s c).isSome)) rfl (qb (qc (qc (qa (qf (.bool ((fillL s a).isSome)) rfl (cX (jh rfl (qf (.bool (!((fillL s a).isSome))) rfl ?_))))))))))))))
 by_cases h1 : (!((fillL s a).isSome)) = true
 ·have hfN : uniB ar a c = false := hI.longA (fill_long (Bool.not_inj (y := false) h1))
  refine qu (t := 35) rfl (vB h1) (qu (t := 35) rfl (vB h1) (cX (qX (.bool (true)) (vB h1) rfl (qb (jK rfl (qc (qa (cX (qY [sN] [sN] [(0, 1)] [] qo qG rfl (.cons rfl qI PlacesAre.nil) rfl CellsAre.nil (cX (qt [] _ [sN] qm rfl rfl rfl (qw rfl qC) rfl rfl rfl (qh (.bool (false)) rfl (qb ?_)))))))))))))
  refine qx (qi (qs (qi (qs (qp (L' := L) [.agg #[sN], .bool (false)] (.tuple #[.agg #[sN], .bool (false)]) (.cell rfl (ja [sN] qK qm rfl (Rd.ownN [] rfl rfl)) (.tmp rfl .nil)) rfl (qg (qg leG1 le1) le2) rF (sD (sD (sD sR))) ?_)))))
  exact ⟨_, [], by rw [hfN], SlOf.nilV, fun h => (by rw [hfN] at h; cases h), fun _ => rfl, rfl⟩
 rw [Bool.not_eq_true] at h1
 have hxA := fill_yes (Bool.not_inj (y := true) h1)
 have oX : termOk ar ((fillL s a).getD []) = true := by rw [hxA.1]; exact hI.ok hoa hxA.2
 have lX := termOk_len oX
 refine qq (t := 35) rfl (vB h1) (qk (.bool ((fillL s c).isSome)) rfl (qq (t := 35) rfl (vB h1) (jh rfl (cX (qR (.bool (!((fillL s c).isSome))) (vB h1) rfl (qb ?_))))))
 refine jk (t := !((fillL s c).isSome)) rfl (fun h2 => ?_) (fun h2 => ?_)
 ·have hfN : uniB ar a c = false := hI.longC (fill_long (Bool.not_inj (y := false) h2))
  refine qc (qa (cX (qY [sN] [sN] [(0, 1)] [] qo qG rfl (.cons rfl qI PlacesAre.nil) rfl CellsAre.nil (cX (qt [] _ [sN] qm rfl rfl rfl (qw rfl qC) rfl rfl rfl (qh (.bool (false)) rfl (qb (qx (qi (qs (qi (qs (qp (L' := L) [.agg #[sN], .bool (false)] (.tuple #[.agg #[sN], .bool (false)]) (.cell rfl (ja [sN] qK qm rfl (Rd.ownN [] rfl rfl)) (.tmp rfl .nil)) rfl (qg (qg leG1 le1) le2) rF (sD (sD (sD sR))) ?_)))))))))))))
  exact ⟨_, [], by rw [hfN], SlOf.nilV, fun h => (by rw [hfN] at h; cases h), fun _ => rfl, rfl⟩
 have hxC := fill_yes (Bool.not_inj (y := true) h2)
 have oY : termOk ar ((fillL s c).getD []) = true := by rw [hxC.1]; exact hI.ok hoc hxC.2
 have lY := termOk_len oY
 have gX := fun i (hi : i < ((fillL s a).getD []).length) => termOk_ge oX hi
 have gY := fun i (hi : i < ((fillL s c).getD []).length) => termOk_ge oY hi
 refine qv (qc (qa (qh (ii (0)) rfl (qb (qc (qQ (js (α := Nat × FH) (fun xQ => [(2, av), (3, cv), (4, ptr b1 0), (5, ptr b2 0), (8, ptr b3 0), (10, x1), (12, x2), (14, ii (((xQ.1 : Nat) : Int)))]) (fun xQ => cellsH b3 [sN] 50 :: cellsH b2 [sv] 50 :: cellsH b1 [arv] 29 :: L) (fun xQ F' => xQ.2 = F' ∧ F2 ≤ xQ.2 ∧ (xQ.1 ≤ ((fillL s a).getD []).length ∧ xQ.1 ≤ ((fillL s c).getD []).length) ∧ (((fillL s a).getD []).take xQ.1 = ((fillL s c).getD []).take xQ.1)) (fun xQ => ((fillL s a).getD []).length - xQ.1) (0, F2) ⟨rfl, rfl, rfl, rfl, rfl, rfl, rfl, rfl, ⟨⟩⟩ (sC (sC (sC sR))) ⟨rfl, FLe.refl _, (⟨by omega, by omega⟩), (rfl)⟩ ?_)))))))
 rintro ⟨k, G2⟩ rE _ _ ⟨rfl, leG, hk, hpre⟩
 show X _ _ _ _ (envs [(2, av), (3, cv), (4, ptr b1 0), (5, ptr b2 0), (8, ptr b3 0), (10, x1), (12, x2), (14, ii ((k : Int)))] rE) _ (cellsH b3 [sN] 50 :: cellsH b2 [sv] 50 :: cellsH b1 [arv] 29 :: L)
 replace leG : F2 ≤ G2 := leG
 dsimp only at hk hpre
 have gXk9 := gX k
 have gYk9 := gY k
 have leG2 := leG
 replace har := har.mono leG2
 replace hsv := hsv.mono leG2
 replace hr1 := hr1.mono leG2
 replace hr2 := hr2.mono leG2
 refine qc (qc ?_)
 by_cases h3 : (k : Int) < ((((fillL s a).getD []).length : Nat) : Int)
 ·by_cases h4 : (k : Int) < ((((fillL s c).getD []).length : Nat) : Int)
  ·refine jz [cellsH b3 [sN] 50, cellsH b2 [sv] 50, cellsH b1 [arv] 29] L 19 [] [[], [], [1], [0, 2], [3], [4], [4], [4, 6], [4, 5, 7], [4, 8], [9], [10], [10], [10, 11, 12], [10, 13], [10], [10], [10, 15, 16], [10, 17]] (phiL [qe (ii ((k : Int)) : Value), qe x1, qe (ii (((((fillL s a).getD []).length : Nat) : Int)) : Value), qe (.bool (decide ((k : Int) < ((((fillL s a).getD []).length : Nat) : Int))) : Value), qe (.bool (decide ((k : Int) < ((((fillL s a).getD []).length : Nat) : Int))) : Value), qe (ii ((k : Int)) : Value), qe x2, qe (ii (((((fillL s c).getD []).length : Nat) : Int)) : Value), qe (.bool (decide ((k : Int) < ((((fillL s c).getD []).length : Nat) : Int))) : Value), qe (.bool (decide ((k : Int) < ((((fillL s c).getD []).length : Nat) : Int))) : Value), qe (.bool (decide ((k : Int) < ((((fillL s c).getD []).length : Nat) : Int))) : Value), qe x1, qe (ii ((k : Int)) : Value), qe (.pointer (some (elemA x1 (k)))), qe (ii (((fillL s a).getD []).getD k 0)), qe x2, qe (ii ((k : Int)) : Value), qe (.pointer (some (elemA x2 (k)))), qe (ii (((fillL s c).getD []).getD k 0))]) (ownL []) mixed rfl rfl (by kernel_rfl) ?_ ?_
   ·refine pD (fun W R z9 => ?_) ?_
    ·refine qj (qk (ii ((k : Int))) rfl ?_)
     exact ⟨rfl, rfl, rfl⟩
    refine pD (fun W R z9 => ?_) ?_
    ·refine qj (qk (x1) rfl ?_)
     exact ⟨rfl, rfl, rfl⟩
    refine pD (fun W R z9 => ?_) ?_
    ·rw [eS (l := [(1, _)]) ⟨z9 1 rfl, ⟨⟩⟩]
     refine qj (qO qd rfl hr1.slv ?_)
     exact ⟨rfl, rfl, rfl⟩
    refine pD (fun W R z9 => ?_) ?_
    ·rw [eS (l := [(0, _), (2, _)]) ⟨z9 0 rfl, z9 2 rfl, ⟨⟩⟩]
     refine qj (qZ rfl rfl ?_)
     exact ⟨rfl, rfl, rfl⟩
    refine pD (fun W R z9 => ?_) ?_
    ·rw [eS (l := [(3, _)]) ⟨z9 3 rfl, ⟨⟩⟩]
     refine qj (qk (.bool (decide ((k : Int) < ((((fillL s a).getD []).length : Nat) : Int)))) rfl ?_)
     exact ⟨rfl, rfl, rfl⟩
    refine pD (fun W R z9 => ?_) ?_
    ·rw [eS (l := [(4, _)]) ⟨z9 4 rfl, ⟨⟩⟩]
     refine jf (t := 44) rfl (vT h3) (qk (ii ((k : Int))) rfl ?_)
     exact ⟨rfl, rfl, rfl⟩
    refine pD (fun W R z9 => ?_) ?_
    ·rw [eS (l := [(4, _)]) ⟨z9 4 rfl, ⟨⟩⟩]
     refine jf (t := 44) rfl (vT h3) (qk (x2) rfl ?_)
     exact ⟨rfl, rfl, rfl⟩
    refine pD (fun W R z9 => ?_) ?_
    ·rw [eS (l := [(4, _), (6, _)]) ⟨z9 4 rfl, z9 6 rfl, ⟨⟩⟩]
     refine jf (t := 44) rfl (vT h3) (qO qd rfl hr2.slv ?_)
     exact ⟨rfl, rfl, rfl⟩
    refine pD (fun W R z9 => ?_) ?_
    ·rw [eS (l := [(4, _), (5, _), (7, _)]) ⟨z9 4 rfl, z9 5 rfl, z9 7 rfl, ⟨⟩⟩]
     refine jf (t := 44) rfl (vT h3) (qZ rfl rfl ?_)
     exact ⟨rfl, rfl, rfl⟩
    refine pD (fun W R z9 => ?_) ?_
    ·rw [eS (l := [(4, _), (8, _)]) ⟨z9 4 rfl, z9 8 rfl, ⟨⟩⟩]
     refine qj (qX (.bool (decide ((k : Int) < ((((fillL s c).getD []).length : Nat) : Int)))) (vT h3) rfl ?_)
     exact ⟨rfl, rfl, rfl⟩
    refine pD (fun W R z9 => ?_) ?_
    ·rw [eS (l := [(9, _)]) ⟨z9 9 rfl, ⟨⟩⟩]
     refine qj (qk (.bool (decide ((k : Int) < ((((fillL s c).getD []).length : Nat) : Int)))) rfl ?_)
     exact ⟨rfl, rfl, rfl⟩
    refine pD (fun W R z9 => ?_) ?_
    ·rw [eS (l := [(10, _)]) ⟨z9 10 rfl, ⟨⟩⟩]
     refine jf (t := 50) rfl (vT h4) (qk (x1) rfl ?_)
     exact ⟨rfl, rfl, rfl⟩
    refine pD (fun W R z9 => ?_) ?_
    ·rw [eS (l := [(10, _)]) ⟨z9 10 rfl, ⟨⟩⟩]
     refine jf (t := 50) rfl (vT h4) (qk (ii ((k : Int))) rfl ?_)
     exact ⟨rfl, rfl, rfl⟩
    refine pD (fun W R z9 => ?_) ?_
    ·rw [eS (l := [(10, _), (11, _), (12, _)]) ⟨z9 10 rfl, z9 11 rfl, z9 12 rfl, ⟨⟩⟩]
     refine jf (t := 50) rfl (vT h4) (qB k qd qy rfl rfl rfl hr1.slv (by omega) (Nat.mul_one _) ?_)
     exact ⟨rfl, rfl, rfl⟩
    refine pD (fun W R z9 => ?_) ?_
    ·rw [eS (l := [(10, _), (13, _)]) ⟨z9 10 rfl, z9 13 rfl, ⟨⟩⟩]
     refine jf (t := 50) rfl (vT h4) (qn qV rfl (hr1.rd (by omega)) ?_)
     exact ⟨rfl, rfl, rfl⟩
    refine pD (fun W R z9 => ?_) ?_
    ·rw [eS (l := [(10, _)]) ⟨z9 10 rfl, ⟨⟩⟩]
     refine jf (t := 50) rfl (vT h4) (qk (x2) rfl ?_)
     exact ⟨rfl, rfl, rfl⟩
    refine pD (fun W R z9 => ?_) ?_
    ·rw [eS (l := [(10, _)]) ⟨z9 10 rfl, ⟨⟩⟩]
     refine jf (t := 50) rfl (vT h4) (qk (ii ((k : Int))) rfl ?_)
     exact ⟨rfl, rfl, rfl⟩
    refine pD (fun W R z9 => ?_) ?_
    ·rw [eS (l := [(10, _), (15, _), (16, _)]) ⟨z9 10 rfl, z9 15 rfl, z9 16 rfl, ⟨⟩⟩]
     refine jf (t := 50) rfl (vT h4) (qB k qd qy rfl rfl rfl hr2.slv (by omega) (Nat.mul_one _) ?_)
     exact ⟨rfl, rfl, rfl⟩
    refine pD (fun W R z9 => ?_) ?_
    ·rw [eS (l := [(10, _), (17, _)]) ⟨z9 10 rfl, z9 17 rfl, ⟨⟩⟩]
     refine jf (t := 50) rfl (vT h4) (qn qV rfl (hr2.rd (by omega)) ?_)
     exact ⟨rfl, rfl, rfl⟩
    exact stepsP.nil
   intro W hphi
   rw [eS (l := [(10, _), (14, _), (18, _)]) ⟨(hphi 10 (by decide)), (hphi 14 (by decide)), (hphi 18 (by decide)), ⟨⟩⟩]
   show XL _ _ _ _ _ _ _ (cellsH b3 [sN] 50 :: cellsH b2 [sv] 50 :: cellsH b1 [arv] 29 :: L)
   refine qq (t := 50) rfl (vT h4) (jt rfl rfl (cX (qX (.bool (decide ((((fillL s a).getD []).getD k 0 : Int) = ((fillL s c).getD []).getD k 0))) (vT h4) rfl (qb ?_))))
   refine qF (p := (((fillL s a).getD []).getD k 0 : Int) = ((fillL s c).getD []).getD k 0) rfl (fun h5 => ?_) (fun h5 => ?_)
   ·refine qv (qQ (qa (qf (ii ((k : Int))) rfl (cX (qT (((k + 1 : Nat) : Int)) rfl rfl (by omega) (by omega) (qh (ii (((k + 1 : Nat) : Int))) rfl (qb ?_)))))))
    exact ⟨(k + 1, G2), _, leG2, rF, ⟨rfl, rfl, rfl, rfl, rfl, rfl, rfl, rfl, ⟨⟩⟩, (sC (sC (sC sR))), ⟨rfl, leG2, (⟨by omega, by omega⟩), (by (try dsimp only); rw [take_succ_getD 0 (by omega), take_succ_getD 0 (by omega), hpre]; congr 2 <;> omega)⟩, (by omega)⟩
   refine jl (qE (qE (qS (qc (qc (qa ?_))))))
   have hstop : k = ((fillL s a).getD []).length ∨ k = ((fillL s c).getD []).length ∨ ((fillL s a).getD []).getD k 0 ≠ ((fillL s c).getD []).getD k 0 := by omega
   refine qf (ii ((k : Int))) rfl (qf (x1) rfl (cX (qO qd rfl hr1.slv (cX (jt rfl rfl (qb ?_))))))
   refine qF (p := (k : Int) = ((((fillL s a).getD []).length : Nat) : Int)) rfl (fun h6 => ?_) (fun h6 => ?_)
   ·have hke : k = ((fillL s a).getD []).length := by omega
    refine qc (qa (cX (qr [sv] qK qm rfl rfl (Rd.ownN [_] rfl rfl) (cX (qt [] _ [sv] qm rfl rfl rfl (qw (qP (RowsF.isSl hsv)) qC) rfl rfl rfl (qh (.bool (true)) rfl (qb (qx (qi (qs (qi (qs (qp (L' := L) [.agg #[sv], .bool (true)] (.tuple #[.agg #[sv], .bool (true)]) (.cell rfl (ja [sv] qK qm rfl (Rd.ownN [] rfl rfl)) (.tmp rfl .nil)) rfl (qg (qg (qg leG1 le1) le2) leG2) rF (sD (sD (sD sR))) ?_)))))))))))))
    have heq := diff_end oX oY hpre hk hke
    rw [hxA.1, hxC.1] at heq
    have hfY := (hI.done heq hxA.2).2
    exact ⟨_, _, by rw [hfY], hsv, fun _ => hI.told heq hxA.2, fun h => (by rw [hfY] at h; cases h), rfl⟩
   have hd := diff_at oX oY hpre hk hstop (by omega)
   have gXk := gX k hd.1
   have gYk := gY k hd.2.1
   refine qv (qc (qa (qf (x1) rfl (qf (ii ((k : Int))) rfl (cX (qB k qd qy rfl rfl rfl hr1.slv (by omega) (Nat.mul_one _) (cX (qn qV rfl (hr1.rd (by omega)) (qh (ii (((fillL s a).getD []).getD k 0)) rfl (qb (qc (qa (qf (x2) rfl (qf (ii ((k : Int))) rfl (cX (qB k qd qy rfl rfl rfl hr2.slv (by omega) (Nat.mul_one _) ?_))))))))))))))))
   refine cX (qn qV rfl (hr2.rd (by omega)) (qh (ii (((fillL s c).getD []).getD k 0)) rfl (qb (qc (qa (qf (ii (((fillL s a).getD []).getD k 0)) rfl (qh (ii (((fillL s a).getD []).getD k 0)) rfl (qb (qc (qa (cX (qr [arv] qL qz rfl rfl (Rd.ownN [_, _] rfl rfl) (qf (x2) rfl (qf (ii ((k : Int))) rfl (cX (jJ <| ql (args := [.agg #[arv], x2, ii (k : Int)]) call174 rfl (l1Sub_spec (p := k) har hr2 (ho := (by first | exact oY | exact oX)) (hp := (by omega))) ?_))))))))))))))))
   rintro v1 _ _ _ ⟨rfl, hs1, rfl⟩
   refine ⟨_, _, rfl, fun F3 le3 hz1 => ?_⟩
   replace har := har.mono le3
   replace hsv := hsv.mono le3
   replace hr1 := hr1.mono le3
   replace hr2 := hr2.mono le3
   have hf1 : IntsF F3 v1 ((sub ar ((fillL s c).getD []) k)) := intsH.fz (xs := (sub ar ((fillL s c).getD []) k)) hz1.fz
   refine qh (v1) rfl (qb (qc (qQ (qc (qa (qf (ii (((fillL s a).getD []).getD k 0)) rfl (cX (ju rfl rfl (qf (.bool (decide ((((fillL s a).getD []).getD k 0 : Int) ≥ 0))) rfl ?_)))))))))
   by_cases h7 : (((fillL s a).getD []).getD k 0 : Int) ≥ 0
   ·refine qq (t := 84) rfl (vT h7) (qk (ii (((fillL s c).getD []).getD k 0)) rfl (qq (t := 84) rfl (vT h7) (ju rfl rfl (cX (qX (.bool (decide ((((fillL s c).getD []).getD k 0 : Int) ≥ 0))) (vT h7) rfl (qh (.bool (decide ((((fillL s c).getD []).getD k 0 : Int) ≥ 0))) rfl (qb ?_)))))))
    refine qF (p := (((fillL s c).getD []).getD k 0 : Int) ≥ 0) rfl (fun h8 => ?_) (fun h8 => ?_)
    ·refine qc (qa (cX (qY [sN] [sN] [(0, 1)] [] qo qG rfl (.cons rfl qI PlacesAre.nil) rfl CellsAre.nil (cX (qt [] _ [sN] qm rfl rfl rfl (qw rfl qC) rfl rfl rfl (qh (.bool (false)) rfl (qb (qx (qs (qi (qs (qi (qs (qp (L' := L) [.agg #[sN], .bool (false)] (.tuple #[.agg #[sN], .bool (false)]) (.cell rfl (ja [sN] qK qm rfl (Rd.ownN [] rfl rfl)) (.tmp rfl .nil)) rfl (qg (qg (qg (qg leG1 le1) le2) leG2) le3) rF (sD (sD (sD sR))) ?_))))))))))))))
     have hfN : uniB ar a c = false := hI.clash hxA.1 hxC.1 oX oY ⟨hd.1, hd.2.1⟩ hpre hd.2.2 (by omega) (by omega)
     exact ⟨_, [], by rw [hfN], SlOf.nilV, fun h => (by rw [hfN] at h; cases h), fun _ => rfl, rfl⟩
    refine qc (qa (qf (ii (((fillL s a).getD []).getD k 0)) rfl (cX (ju rfl rfl (qf (.bool (decide ((((fillL s a).getD []).getD k 0 : Int) ≥ 0))) rfl (qu (t := 92) rfl (vT h7) (qu (t := 92) rfl (vT h7) (qu (t := 92) rfl (vT h7) (XL.noU (t := 95) rfl rfl (XL.noU (t := 95) rfl rfl (XL.noU (t := 95) rfl rfl ?_)))))))))))
    refine qu (t := 92) rfl (vT h7) (cX (qX (.bool (true)) (vT h7) rfl (qh (.bool (true)) rfl (qb (jK rfl (qc (qa (qf (ii (((fillL s c).getD []).getD k 0)) rfl (qh (ii (((fillL s c).getD []).getD k 0)) rfl (qb (qa (cX (qr [arv] qL qz rfl rfl (Rd.ownN [_, _] rfl rfl) ?_)))))))))))))
    refine qf (x1) rfl (qf (ii ((k : Int))) rfl (cX (jJ <| ql (args := [.agg #[arv], x1, ii (k : Int)]) call174 rfl (l1Sub_spec (p := k) har hr1 (ho := (by first | exact oY | exact oX)) (hp := (by omega))) ?_)))
    rintro v2 _ _ _ ⟨rfl, hs2, rfl⟩
    refine ⟨_, _, rfl, fun F4 le4 hz2 => ?_⟩
    replace har := har.mono le4
    replace hsv := hsv.mono le4
    replace hr1 := hr1.mono le4
    replace hr2 := hr2.mono le4
    replace hf1 := hf1.mono le4
    have hf2 : IntsF F4 v2 ((sub ar ((fillL s a).getD []) k)) := intsH.fz (xs := (sub ar ((fillL s a).getD []) k)) hz2.fz
    refine qh (v2) rfl (qb (qc (qc (qa ?_))))
    have hdf : Dif ar a c s (((fillL s c).getD []).getD k 0) ((sub ar ((fillL s a).getD []) k)) := hI.difR hoa hoc hxA.1 hxC.1 oX oY ⟨hd.1, hd.2.1⟩ hpre hd.2.2 (by omega)
    have hdn := hdf.neg
    have hdg := hdf.ge
    have hul9 := termOk_len hdf.ok
    have hin : -1 - (((-1 - (((fillL s c).getD []).getD k 0)).toNat : Nat) : Int) = ((fillL s c).getD []).getD k 0 := by omega
    refine qf (v2) rfl (qf (ii (((fillL s c).getD []).getD k 0)) rfl (cX (ql (args := [v2, ii (((fillL s c).getD []).getD k 0)]) call206 rfl (l1Has_spec (n := ((fillL s c).getD []).getD k 0) hf2 (hbd := (by omega))) ?_)))
    rintro _ _ _ _ ⟨rfl, rfl, rfl⟩
    refine qb ?_
    refine qF (p := (((fillL s c).getD []).getD k 0) ∈ ((sub ar ((fillL s a).getD []) k))) rfl (fun h9 => ?_) (fun h9 => ?_)
    ·have hfN : uniB ar a c = false := hdf.occ h9
     refine qc (qa (cX (qY [sN] [sN] [(0, 1)] [] qo qG rfl (.cons rfl qI PlacesAre.nil) rfl CellsAre.nil (cX (qt [] _ [sN] qm rfl rfl rfl (qw rfl qC) rfl rfl rfl (qh (.bool (false)) rfl (qb (qx (qi (qs (qi (qs (qp (L' := L) [.agg #[sN], .bool (false)] (.tuple #[.agg #[sN], .bool (false)]) (.cell rfl (ja [sN] qK qm rfl (Rd.ownN [] rfl rfl)) (.tmp rfl .nil)) rfl (qg (qg (qg (qg (qg leG1 le1) le2) leG2) le3) le4) rF (sD (sD (sD sR))) ?_)))))))))))))
     exact ⟨_, [], by rw [hfN], SlOf.nilV, fun h => (by rw [hfN] at h; cases h), fun _ => rfl, rfl⟩
    have hno := h9
    refine qv (qc (qa (cX (qr [sv] qK qm rfl rfl (Rd.ownN [_] rfl rfl) (qf (ii (((fillL s c).getD []).getD k 0)) rfl (cX (qW ((-1) - (((fillL s c).getD []).getD k 0)) rfl rfl (by omega) (by omega) (qf (v2) rfl (cX (ql (args := [.agg #[sv], ii ((((-1) - (((fillL s c).getD []).getD k 0)).toNat : Nat) : Int), v2]) call234 (by rw [show ((((-1) - (((fillL s c).getD []).getD k 0)).toNat : Nat) : Int) = (-1) - (((fillL s c).getD []).getD k 0) from by omega]; rfl) (l5Bind_spec (i := ((-1) - (((fillL s c).getD []).getD k 0)).toNat) hsv hf2 (hsl := (hsl)) (hsb := (hsb)) (hi := (by omega)) (hun := (fun e => by rw [e] at hul9; simp at hul9)) (hul := (hul9.2)) (hsg := (fun k hk9 q hq => lk_geAll hI hk9 hq))) ?_))))))))))
    rintro _ F5 _ le5 ⟨x3, rfl, hr3, rfl⟩
    replace har := har.mono le5
    replace hsv := hsv.mono le5
    replace hr1 := hr1.mono le5
    replace hr2 := hr2.mono le5
    replace hf1 := hf1.mono le5
    refine qf (.tuple #[.agg #[x3], .bool (bindB s (-1 - ((((-1) - (((fillL s c).getD []).getD k 0)).toNat) : Int)) ((sub ar ((fillL s a).getD []) k)))]) rfl (cX (qH (.agg #[x3]) rfl rfl (cX (qH (.bool (bindB s (-1 - ((((-1) - (((fillL s c).getD []).getD k 0)).toNat) : Int)) ((sub ar ((fillL s a).getD []) k)))) rfl rfl (cX (jd [sN] qG rfl ?_))))))
    intro b4
    refine cX (qt [] _ [x3] qm rfl rfl rfl (qw (qP (RowsF.isSl hr3)) qC) rfl rfl rfl (qh (.bool (bindB s (-1 - ((((-1) - (((fillL s c).getD []).getD k 0)).toNat) : Int)) ((sub ar ((fillL s a).getD []) k)))) rfl (qb (qc (qc (qa (qf (.bool (bindB s (-1 - ((((-1) - (((fillL s c).getD []).getD k 0)).toNat) : Int)) ((sub ar ((fillL s a).getD []) k)))) rfl (cX (jh rfl (qb ?_))))))))))
    refine jk (t := !(bindB s (-1 - ((((-1) - (((fillL s c).getD []).getD k 0)).toNat) : Int)) ((sub ar ((fillL s a).getD []) k)))) rfl (fun h10 => ?_) (fun h10 => ?_)
    ·have hbn := Bool.not_inj (y := false) h10
     rw [hin] at hbn
     have hfN : uniB ar a c = false := hI.bindLong hdf hno hbn
     refine qc (qa (cX (qY [sN] [sN] [(0, 1)] [] qo qG rfl (.cons rfl qI PlacesAre.nil) rfl CellsAre.nil (cX (qt [_] _ [sN] qm rfl rfl rfl (qw rfl qC) rfl rfl rfl (qh (.bool (false)) rfl (qb (qx (qi (qs (qi (qs (qp (L' := L) [.agg #[sN], .bool (false)] (.tuple #[.agg #[sN], .bool (false)]) (.cell rfl (ja [sN] qK qm rfl (Rd.ownN [_] rfl rfl)) (.tmp rfl .nil)) rfl (qg (qg (qg (qg (qg (qg leG1 le1) le2) leG2) le3) le4) le5) rF (sD (sD (sD (sD sR)))) ?_)))))))))))))
     exact ⟨_, [], by rw [hfN], SlOf.nilV, fun h => (by rw [hfN] at h; cases h), fun _ => rfl, rfl⟩
    have hbn := Bool.not_inj (y := true) h10
    have hby := hbn
    rw [hin] at hbn
    refine qv (qa (cX (qr [x3] qK qm rfl rfl (Rd.ownN [] rfl rfl) (cX (qt [_, _] _ [x3] qm rfl rfl rfl (qw (qP (RowsF.isSl hr3)) qC) rfl rfl rfl (qb ?_))))))
    exact ⟨(x3, bindR s (-1 - (((-1 - (((fillL s c).getD []).getD k 0)).toNat : Nat) : Int)) ((sub ar ((fillL s a).getD []) k)), F5), _, (qg (qg (qg (qg (qg (qg leG1 le1) le2) leG2) le3) le4) le5), rF, ⟨rfl, rfl, rfl, rfl, rfl, ⟨⟩⟩, (sD (sC (sC (sC sR)))), ⟨rfl, (qg (qg (qg (qg (qg (qg leG1 le1) le2) leG2) le3) le4) le5), (by have h9 := hr3; rw [if_pos hby] at h9; exact h9), (by (try dsimp only); rw [hin]; exact hI.bind hdf hno hbn)⟩, (by (try dsimp only); rw [hin]; exact hI.less hdf)⟩
   refine qu (t := 84) rfl (vF h7) (qu (t := 84) rfl (vF h7) (cX (qR (.bool (false)) (vF h7) rfl (qh (.bool (false)) rfl (qb (jx rfl (qc (qa (qf (ii (((fillL s a).getD []).getD k 0)) rfl (cX (ju rfl rfl (qf (.bool (decide ((((fillL s a).getD []).getD k 0 : Int) ≥ 0))) rfl ?_))))))))))))
   refine qq (t := 92) rfl (vF h7) (qk (ii (((fillL s c).getD []).getD k 0)) rfl (qq (t := 92) rfl (vF h7) (qZ rfl rfl (qq (t := 92) rfl (vF h7) (qk (.bool (decide ((((fillL s c).getD []).getD k 0 : Int) < 0))) rfl ?_)))))
   by_cases h11 : (((fillL s c).getD []).getD k 0 : Int) < 0
   ·refine qq (t := 95) rfl (vT h11) (qk (ii (((fillL s c).getD []).getD k 0)) rfl (qq (t := 95) rfl (vT h11) (qk (ii (((fillL s a).getD []).getD k 0)) rfl (qq (t := 95) rfl (vT h11) (qZ rfl rfl (qq (t := 92) rfl (vF h7) (qX (.bool (decide ((((fillL s c).getD []).getD k 0 : Int) < ((fillL s a).getD []).getD k 0))) (vT h11) rfl (cX (qR (.bool (decide ((((fillL s c).getD []).getD k 0 : Int) < ((fillL s a).getD []).getD k 0))) (vF h7) rfl (qh (.bool (decide ((((fillL s c).getD []).getD k 0 : Int) < ((fillL s a).getD []).getD k 0))) rfl (qb ?_)))))))))))
    refine qF (p := (((fillL s c).getD []).getD k 0 : Int) < ((fillL s a).getD []).getD k 0) rfl (fun h12 => ?_) (fun h12 => ?_)
    ·refine qc (qa (qf (ii (((fillL s c).getD []).getD k 0)) rfl (qh (ii (((fillL s c).getD []).getD k 0)) rfl (qb (qa (cX (qr [arv] qL qz rfl rfl (Rd.ownN [_, _] rfl rfl) (qf (x1) rfl (qf (ii ((k : Int))) rfl (cX (jJ <| ql (args := [.agg #[arv], x1, ii (k : Int)]) call174 rfl (l1Sub_spec (p := k) har hr1 (ho := (by first | exact oY | exact oX)) (hp := (by omega))) ?_)))))))))))
     rintro v3 _ _ _ ⟨rfl, hs3, rfl⟩
     refine ⟨_, _, rfl, fun F6 le6 hz3 => ?_⟩
     replace har := har.mono le6
     replace hsv := hsv.mono le6
     replace hr1 := hr1.mono le6
     replace hr2 := hr2.mono le6
     replace hf1 := hf1.mono le6
     have hf3 : IntsF F6 v3 ((sub ar ((fillL s a).getD []) k)) := intsH.fz (xs := (sub ar ((fillL s a).getD []) k)) hz3.fz
     refine qh (v3) rfl (qb (qc (qc (qa ?_))))
     have hdf : Dif ar a c s (((fillL s c).getD []).getD k 0) ((sub ar ((fillL s a).getD []) k)) := hI.difR hoa hoc hxA.1 hxC.1 oX oY ⟨hd.1, hd.2.1⟩ hpre hd.2.2 (by omega)
     have hdn := hdf.neg
     have hdg := hdf.ge
     have hul9 := termOk_len hdf.ok
     have hin : -1 - (((-1 - (((fillL s c).getD []).getD k 0)).toNat : Nat) : Int) = ((fillL s c).getD []).getD k 0 := by omega
     refine qf (v3) rfl (qf (ii (((fillL s c).getD []).getD k 0)) rfl (cX (ql (args := [v3, ii (((fillL s c).getD []).getD k 0)]) call206 rfl (l1Has_spec (n := ((fillL s c).getD []).getD k 0) hf3 (hbd := (by omega))) ?_)))
     rintro _ _ _ _ ⟨rfl, rfl, rfl⟩
     refine qb ?_
     refine qF (p := (((fillL s c).getD []).getD k 0) ∈ ((sub ar ((fillL s a).getD []) k))) rfl (fun h13 => ?_) (fun h13 => ?_)
     ·have hfN : uniB ar a c = false := hdf.occ h13
      refine qc (qa (cX (qY [sN] [sN] [(0, 1)] [] qo qG rfl (.cons rfl qI PlacesAre.nil) rfl CellsAre.nil (cX (qt [] _ [sN] qm rfl rfl rfl (qw rfl qC) rfl rfl rfl (qh (.bool (false)) rfl (qb (qx (qi (qs (qi (qs (qp (L' := L) [.agg #[sN], .bool (false)] (.tuple #[.agg #[sN], .bool (false)]) (.cell rfl (ja [sN] qK qm rfl (Rd.ownN [] rfl rfl)) (.tmp rfl .nil)) rfl (qg (qg (qg (qg (qg leG1 le1) le2) leG2) le3) le6) rF (sD (sD (sD sR))) ?_)))))))))))))
      exact ⟨_, [], by rw [hfN], SlOf.nilV, fun h => (by rw [hfN] at h; cases h), fun _ => rfl, rfl⟩
     have hno := h13
     refine qv (qc (qa (cX (qr [sv] qK qm rfl rfl (Rd.ownN [_] rfl rfl) (qf (ii (((fillL s c).getD []).getD k 0)) rfl (cX (qW ((-1) - (((fillL s c).getD []).getD k 0)) rfl rfl (by omega) (by omega) (qf (v3) rfl (cX (ql (args := [.agg #[sv], ii ((((-1) - (((fillL s c).getD []).getD k 0)).toNat : Nat) : Int), v3]) call234 (by rw [show ((((-1) - (((fillL s c).getD []).getD k 0)).toNat : Nat) : Int) = (-1) - (((fillL s c).getD []).getD k 0) from by omega]; rfl) (l5Bind_spec (i := ((-1) - (((fillL s c).getD []).getD k 0)).toNat) hsv hf3 (hsl := (hsl)) (hsb := (hsb)) (hi := (by omega)) (hun := (fun e => by rw [e] at hul9; simp at hul9)) (hul := (hul9.2)) (hsg := (fun k hk9 q hq => lk_geAll hI hk9 hq))) ?_))))))))))
     rintro _ F7 _ le7 ⟨x4, rfl, hr4, rfl⟩
     replace har := har.mono le7
     replace hsv := hsv.mono le7
     replace hr1 := hr1.mono le7
     replace hr2 := hr2.mono le7
     replace hf1 := hf1.mono le7
     refine qf (.tuple #[.agg #[x4], .bool (bindB s (-1 - ((((-1) - (((fillL s c).getD []).getD k 0)).toNat) : Int)) ((sub ar ((fillL s a).getD []) k)))]) rfl (cX (qH (.agg #[x4]) rfl rfl (cX (qH (.bool (bindB s (-1 - ((((-1) - (((fillL s c).getD []).getD k 0)).toNat) : Int)) ((sub ar ((fillL s a).getD []) k)))) rfl rfl (cX (jd [sN] qG rfl ?_))))))
     intro b5
     refine cX (qt [] _ [x4] qm rfl rfl rfl (qw (qP (RowsF.isSl hr4)) qC) rfl rfl rfl (qh (.bool (bindB s (-1 - ((((-1) - (((fillL s c).getD []).getD k 0)).toNat) : Int)) ((sub ar ((fillL s a).getD []) k)))) rfl (qb (qc (qc (qa (qf (.bool (bindB s (-1 - ((((-1) - (((fillL s c).getD []).getD k 0)).toNat) : Int)) ((sub ar ((fillL s a).getD []) k)))) rfl (cX (jh rfl (qb ?_))))))))))
     refine jk (t := !(bindB s (-1 - ((((-1) - (((fillL s c).getD []).getD k 0)).toNat) : Int)) ((sub ar ((fillL s a).getD []) k)))) rfl (fun h14 => ?_) (fun h14 => ?_)
     ·have hbn := Bool.not_inj (y := false) h14
      rw [hin] at hbn
      have hfN : uniB ar a c = false := hI.bindLong hdf hno hbn
      refine qc (qa (cX (qY [sN] [sN] [(0, 1)] [] qo qG rfl (.cons rfl qI PlacesAre.nil) rfl CellsAre.nil (cX (qt [_] _ [sN] qm rfl rfl rfl (qw rfl qC) rfl rfl rfl (qh (.bool (false)) rfl (qb (qx (qi (qs (qi (qs (qp (L' := L) [.agg #[sN], .bool (false)] (.tuple #[.agg #[sN], .bool (false)]) (.cell rfl (ja [sN] qK qm rfl (Rd.ownN [_] rfl rfl)) (.tmp rfl .nil)) rfl (qg (qg (qg (qg (qg (qg leG1 le1) le2) leG2) le3) le6) le7) rF (sD (sD (sD (sD sR)))) ?_)))))))))))))
      exact ⟨_, [], by rw [hfN], SlOf.nilV, fun h => (by rw [hfN] at h; cases h), fun _ => rfl, rfl⟩
     have hbn := Bool.not_inj (y := true) h14
     have hby := hbn
     rw [hin] at hbn
     refine qv (qa (cX (qr [x4] qK qm rfl rfl (Rd.ownN [] rfl rfl) (cX (qt [_, _] _ [x4] qm rfl rfl rfl (qw (qP (RowsF.isSl hr4)) qC) rfl rfl rfl (qb ?_))))))
     exact ⟨(x4, bindR s (-1 - (((-1 - (((fillL s c).getD []).getD k 0)).toNat : Nat) : Int)) ((sub ar ((fillL s a).getD []) k)), F7), _, (qg (qg (qg (qg (qg (qg leG1 le1) le2) leG2) le3) le6) le7), rF, ⟨rfl, rfl, rfl, rfl, rfl, ⟨⟩⟩, (sD (sC (sC (sC sR)))), ⟨rfl, (qg (qg (qg (qg (qg (qg leG1 le1) le2) leG2) le3) le6) le7), (by have h9 := hr4; rw [if_pos hby] at h9; exact h9), (by (try dsimp only); rw [hin]; exact hI.bind hdf hno hbn)⟩, (by (try dsimp only); rw [hin]; exact hI.less hdf)⟩
    refine qv (qc (qc (qa ?_)))
    have hdf : Dif ar a c s (((fillL s a).getD []).getD k 0) ((sub ar ((fillL s c).getD []) k)) := hI.difL hoa hoc hxA.1 hxC.1 oX oY ⟨hd.1, hd.2.1⟩ hpre hd.2.2 (by omega)
    have hdn := hdf.neg
    have hdg := hdf.ge
    have hul9 := termOk_len hdf.ok
    have hin : -1 - (((-1 - (((fillL s a).getD []).getD k 0)).toNat : Nat) : Int) = ((fillL s a).getD []).getD k 0 := by omega
    refine qf (v1) rfl (qf (ii (((fillL s a).getD []).getD k 0)) rfl (cX (ql (args := [v1, ii (((fillL s a).getD []).getD k 0)]) call206 rfl (l1Has_spec (n := ((fillL s a).getD []).getD k 0) hf1 (hbd := (by omega))) ?_)))
    rintro _ _ _ _ ⟨rfl, rfl, rfl⟩
    refine qb ?_
    refine qF (p := (((fillL s a).getD []).getD k 0) ∈ ((sub ar ((fillL s c).getD []) k))) rfl (fun h15 => ?_) (fun h15 => ?_)
    ·have hfN : uniB ar a c = false := hdf.occ h15
     refine qc (qa (cX (qY [sN] [sN] [(0, 1)] [] qo qG rfl (.cons rfl qI PlacesAre.nil) rfl CellsAre.nil (cX (qt [] _ [sN] qm rfl rfl rfl (qw rfl qC) rfl rfl rfl (qh (.bool (false)) rfl (qb (qx (qi (qs (qi (qs (qp (L' := L) [.agg #[sN], .bool (false)] (.tuple #[.agg #[sN], .bool (false)]) (.cell rfl (ja [sN] qK qm rfl (Rd.ownN [] rfl rfl)) (.tmp rfl .nil)) rfl (qg (qg (qg (qg leG1 le1) le2) leG2) le3) rF (sD (sD (sD sR))) ?_)))))))))))))
     exact ⟨_, [], by rw [hfN], SlOf.nilV, fun h => (by rw [hfN] at h; cases h), fun _ => rfl, rfl⟩
    have hno := h15
    refine qv (qc (qa (cX (qr [sv] qK qm rfl rfl (Rd.ownN [_] rfl rfl) (qf (ii (((fillL s a).getD []).getD k 0)) rfl (cX (qW ((-1) - (((fillL s a).getD []).getD k 0)) rfl rfl (by omega) (by omega) (qf (v1) rfl (cX (ql (args := [.agg #[sv], ii ((((-1) - (((fillL s a).getD []).getD k 0)).toNat : Nat) : Int), v1]) call234 (by rw [show ((((-1) - (((fillL s a).getD []).getD k 0)).toNat : Nat) : Int) = (-1) - (((fillL s a).getD []).getD k 0) from by omega]; rfl) (l5Bind_spec (i := ((-1) - (((fillL s a).getD []).getD k 0)).toNat) hsv hf1 (hsl := (hsl)) (hsb := (hsb)) (hi := (by omega)) (hun := (fun e => by rw [e] at hul9; simp at hul9)) (hul := (hul9.2)) (hsg := (fun k hk9 q hq => lk_geAll hI hk9 hq))) ?_))))))))))
    rintro _ F8 _ le8 ⟨x5, rfl, hr5, rfl⟩
    replace har := har.mono le8
    replace hsv := hsv.mono le8
    replace hr1 := hr1.mono le8
    replace hr2 := hr2.mono le8
    replace hf1 := hf1.mono le8
    refine qf (.tuple #[.agg #[x5], .bool (bindB s (-1 - ((((-1) - (((fillL s a).getD []).getD k 0)).toNat) : Int)) ((sub ar ((fillL s c).getD []) k)))]) rfl (cX (qH (.agg #[x5]) rfl rfl (cX (qH (.bool (bindB s (-1 - ((((-1) - (((fillL s a).getD []).getD k 0)).toNat) : Int)) ((sub ar ((fillL s c).getD []) k)))) rfl rfl (cX (jd [sN] qG rfl ?_))))))
    intro b6
    refine cX (qt [] _ [x5] qm rfl rfl rfl (qw (qP (RowsF.isSl hr5)) qC) rfl rfl rfl (qh (.bool (bindB s (-1 - ((((-1) - (((fillL s a).getD []).getD k 0)).toNat) : Int)) ((sub ar ((fillL s c).getD []) k)))) rfl (qb (qc (qc (qa (qf (.bool (bindB s (-1 - ((((-1) - (((fillL s a).getD []).getD k 0)).toNat) : Int)) ((sub ar ((fillL s c).getD []) k)))) rfl (cX (jh rfl (qb ?_))))))))))
    refine jk (t := !(bindB s (-1 - ((((-1) - (((fillL s a).getD []).getD k 0)).toNat) : Int)) ((sub ar ((fillL s c).getD []) k)))) rfl (fun h16 => ?_) (fun h16 => ?_)
    ·have hbn := Bool.not_inj (y := false) h16
     rw [hin] at hbn
     have hfN : uniB ar a c = false := hI.bindLong hdf hno hbn
     refine qc (qa (cX (qY [sN] [sN] [(0, 1)] [] qo qG rfl (.cons rfl qI PlacesAre.nil) rfl CellsAre.nil (cX (qt [_] _ [sN] qm rfl rfl rfl (qw rfl qC) rfl rfl rfl (qh (.bool (false)) rfl (qb (qx (qi (qs (qi (qs (qp (L' := L) [.agg #[sN], .bool (false)] (.tuple #[.agg #[sN], .bool (false)]) (.cell rfl (ja [sN] qK qm rfl (Rd.ownN [_] rfl rfl)) (.tmp rfl .nil)) rfl (qg (qg (qg (qg (qg leG1 le1) le2) leG2) le3) le8) rF (sD (sD (sD (sD sR)))) ?_)))))))))))))
     exact ⟨_, [], by rw [hfN], SlOf.nilV, fun h => (by rw [hfN] at h; cases h), fun _ => rfl, rfl⟩
    have hbn := Bool.not_inj (y := true) h16
    have hby := hbn
    rw [hin] at hbn
    refine qv (qa (cX (qr [x5] qK qm rfl rfl (Rd.ownN [] rfl rfl) (cX (qt [_, _] _ [x5] qm rfl rfl rfl (qw (qP (RowsF.isSl hr5)) qC) rfl rfl rfl (qb ?_))))))
    exact ⟨(x5, bindR s (-1 - (((-1 - (((fillL s a).getD []).getD k 0)).toNat : Nat) : Int)) ((sub ar ((fillL s c).getD []) k)), F8), _, (qg (qg (qg (qg (qg leG1 le1) le2) leG2) le3) le8), rF, ⟨rfl, rfl, rfl, rfl, rfl, ⟨⟩⟩, (sD (sC (sC (sC sR)))), ⟨rfl, (qg (qg (qg (qg (qg leG1 le1) le2) leG2) le3) le8), (by have h9 := hr5; rw [if_pos hby] at h9; exact h9), (by (try dsimp only); rw [hin]; exact hI.bind hdf hno hbn)⟩, (by (try dsimp only); rw [hin]; exact hI.less hdf)⟩
   refine qu (t := 95) rfl (vF h11) (qu (t := 95) rfl (vF h11) (qu (t := 95) rfl (vF h11) (qq (t := 92) rfl (vF h7) (qR (.bool (false)) (vF h11) rfl (cX (qR (.bool (false)) (vF h7) rfl (qh (.bool (false)) rfl (qb (jx rfl (qv (qc (qc (qa ?_)))))))))))))
   have hdf : Dif ar a c s (((fillL s a).getD []).getD k 0) ((sub ar ((fillL s c).getD []) k)) := hI.difL hoa hoc hxA.1 hxC.1 oX oY ⟨hd.1, hd.2.1⟩ hpre hd.2.2 (by omega)
   have hdn := hdf.neg
   have hdg := hdf.ge
   have hul9 := termOk_len hdf.ok
   have hin : -1 - (((-1 - (((fillL s a).getD []).getD k 0)).toNat : Nat) : Int) = ((fillL s a).getD []).getD k 0 := by omega
   refine qf (v1) rfl (qf (ii (((fillL s a).getD []).getD k 0)) rfl (cX (ql (args := [v1, ii (((fillL s a).getD []).getD k 0)]) call206 rfl (l1Has_spec (n := ((fillL s a).getD []).getD k 0) hf1 (hbd := (by omega))) ?_)))
   rintro _ _ _ _ ⟨rfl, rfl, rfl⟩
   refine qb ?_
   refine qF (p := (((fillL s a).getD []).getD k 0) ∈ ((sub ar ((fillL s c).getD []) k))) rfl (fun h17 => ?_) (fun h17 => ?_)
   ·have hfN : uniB ar a c = false := hdf.occ h17
    refine qc (qa (cX (qY [sN] [sN] [(0, 1)] [] qo qG rfl (.cons rfl qI PlacesAre.nil) rfl CellsAre.nil (cX (qt [] _ [sN] qm rfl rfl rfl (qw rfl qC) rfl rfl rfl (qh (.bool (false)) rfl (qb (qx (qi (qs (qi (qs (qp (L' := L) [.agg #[sN], .bool (false)] (.tuple #[.agg #[sN], .bool (false)]) (.cell rfl (ja [sN] qK qm rfl (Rd.ownN [] rfl rfl)) (.tmp rfl .nil)) rfl (qg (qg (qg (qg leG1 le1) le2) leG2) le3) rF (sD (sD (sD sR))) ?_)))))))))))))
    exact ⟨_, [], by rw [hfN], SlOf.nilV, fun h => (by rw [hfN] at h; cases h), fun _ => rfl, rfl⟩
   have hno := h17
   refine qv (qc (qa (cX (qr [sv] qK qm rfl rfl (Rd.ownN [_] rfl rfl) (qf (ii (((fillL s a).getD []).getD k 0)) rfl (cX (qW ((-1) - (((fillL s a).getD []).getD k 0)) rfl rfl (by omega) (by omega) (qf (v1) rfl (cX (ql (args := [.agg #[sv], ii ((((-1) - (((fillL s a).getD []).getD k 0)).toNat : Nat) : Int), v1]) call234 (by rw [show ((((-1) - (((fillL s a).getD []).getD k 0)).toNat : Nat) : Int) = (-1) - (((fillL s a).getD []).getD k 0) from by omega]; rfl) (l5Bind_spec (i := ((-1) - (((fillL s a).getD []).getD k 0)).toNat) hsv hf1 (hsl := (hsl)) (hsb := (hsb)) (hi := (by omega)) (hun := (fun e => by rw [e] at hul9; simp at hul9)) (hul := (hul9.2)) (hsg := (fun k hk9 q hq => lk_geAll hI hk9 hq))) ?_))))))))))
   rintro _ F9 _ le9 ⟨x6, rfl, hr6, rfl⟩
   replace har := har.mono le9
   replace hsv := hsv.mono le9
   replace hr1 := hr1.mono le9
   replace hr2 := hr2.mono le9
   refine qf (.tuple #[.agg #[x6], .bool (bindB s (-1 - ((((-1) - (((fillL s a).getD []).getD k 0)).toNat) : Int)) ((sub ar ((fillL s c).getD []) k)))]) rfl (cX (qH (.agg #[x6]) rfl rfl (cX (qH (.bool (bindB s (-1 - ((((-1) - (((fillL s a).getD []).getD k 0)).toNat) : Int)) ((sub ar ((fillL s c).getD []) k)))) rfl rfl (cX (jd [sN] qG rfl ?_))))))
   intro b7
   refine cX (qt [] _ [x6] qm rfl rfl rfl (qw (qP (RowsF.isSl hr6)) qC) rfl rfl rfl (qh (.bool (bindB s (-1 - ((((-1) - (((fillL s a).getD []).getD k 0)).toNat) : Int)) ((sub ar ((fillL s c).getD []) k)))) rfl (qb (qc (qc (qa (qf (.bool (bindB s (-1 - ((((-1) - (((fillL s a).getD []).getD k 0)).toNat) : Int)) ((sub ar ((fillL s c).getD []) k)))) rfl (cX (jh rfl (qb ?_))))))))))
   refine jk (t := !(bindB s (-1 - ((((-1) - (((fillL s a).getD []).getD k 0)).toNat) : Int)) ((sub ar ((fillL s c).getD []) k)))) rfl (fun h18 => ?_) (fun h18 => ?_)
   ·have hbn := Bool.not_inj (y := false) h18
    rw [hin] at hbn
    have hfN : uniB ar a c = false := hI.bindLong hdf hno hbn
    refine qc (qa (cX (qY [sN] [sN] [(0, 1)] [] qo qG rfl (.cons rfl qI PlacesAre.nil) rfl CellsAre.nil (cX (qt [_] _ [sN] qm rfl rfl rfl (qw rfl qC) rfl rfl rfl (qh (.bool (false)) rfl (qb (qx (qi (qs (qi (qs (qp (L' := L) [.agg #[sN], .bool (false)] (.tuple #[.agg #[sN], .bool (false)]) (.cell rfl (ja [sN] qK qm rfl (Rd.ownN [_] rfl rfl)) (.tmp rfl .nil)) rfl (qg (qg (qg (qg (qg leG1 le1) le2) leG2) le3) le9) rF (sD (sD (sD (sD sR)))) ?_)))))))))))))
    exact ⟨_, [], by rw [hfN], SlOf.nilV, fun h => (by rw [hfN] at h; cases h), fun _ => rfl, rfl⟩
   have hbn := Bool.not_inj (y := true) h18
   have hby := hbn
   rw [hin] at hbn
   refine qv (qa (cX (qr [x6] qK qm rfl rfl (Rd.ownN [] rfl rfl) (cX (qt [_, _] _ [x6] qm rfl rfl rfl (qw (qP (RowsF.isSl hr6)) qC) rfl rfl rfl (qb ?_))))))
   exact ⟨(x6, bindR s (-1 - (((-1 - (((fillL s a).getD []).getD k 0)).toNat : Nat) : Int)) ((sub ar ((fillL s c).getD []) k)), F9), _, (qg (qg (qg (qg (qg leG1 le1) le2) leG2) le3) le9), rF, ⟨rfl, rfl, rfl, rfl, rfl, ⟨⟩⟩, (sD (sC (sC (sC sR)))), ⟨rfl, (qg (qg (qg (qg (qg leG1 le1) le2) leG2) le3) le9), (by have h9 := hr6; rw [if_pos hby] at h9; exact h9), (by (try dsimp only); rw [hin]; exact hI.bind hdf hno hbn)⟩, (by (try dsimp only); rw [hin]; exact hI.less hdf)⟩
  refine jz [cellsH b3 [sN] 50, cellsH b2 [sv] 50, cellsH b1 [arv] 29] L 19 [] [[], [], [1], [0, 2], [3], [4], [4], [4, 6], [4, 5, 7], [4, 8], [9], [10], [10], [10, 11, 12], [10, 13], [10], [10], [10, 15, 16], [10, 17]] (phiL [qe (ii ((k : Int)) : Value), qe x1, qe (ii (((((fillL s a).getD []).length : Nat) : Int)) : Value), qe (.bool (decide ((k : Int) < ((((fillL s a).getD []).length : Nat) : Int))) : Value), qe (.bool (decide ((k : Int) < ((((fillL s a).getD []).length : Nat) : Int))) : Value), qe (ii ((k : Int)) : Value), qe x2, qe (ii (((((fillL s c).getD []).length : Nat) : Int)) : Value), qe (.bool (decide ((k : Int) < ((((fillL s c).getD []).length : Nat) : Int))) : Value), qe (.bool (decide ((k : Int) < ((((fillL s c).getD []).length : Nat) : Int))) : Value), qe (.bool (decide ((k : Int) < ((((fillL s c).getD []).length : Nat) : Int))) : Value), qe undef, qe undef, qe undef, qe undef, qe undef, qe undef, qe undef, qe undef]) (ownL []) mixed rfl rfl (by kernel_rfl) ?_ ?_
  ·refine pD (fun W R z9 => ?_) ?_
   ·refine qj (qk (ii ((k : Int))) rfl ?_)
    exact ⟨rfl, rfl, rfl⟩
   refine pD (fun W R z9 => ?_) ?_
   ·refine qj (qk (x1) rfl ?_)
    exact ⟨rfl, rfl, rfl⟩
   refine pD (fun W R z9 => ?_) ?_
   ·rw [eS (l := [(1, _)]) ⟨z9 1 rfl, ⟨⟩⟩]
    refine qj (qO qd rfl hr1.slv ?_)
    exact ⟨rfl, rfl, rfl⟩
   refine pD (fun W R z9 => ?_) ?_
   ·rw [eS (l := [(0, _), (2, _)]) ⟨z9 0 rfl, z9 2 rfl, ⟨⟩⟩]
    refine qj (qZ rfl rfl ?_)
    exact ⟨rfl, rfl, rfl⟩
   refine pD (fun W R z9 => ?_) ?_
   ·rw [eS (l := [(3, _)]) ⟨z9 3 rfl, ⟨⟩⟩]
    refine qj (qk (.bool (decide ((k : Int) < ((((fillL s a).getD []).length : Nat) : Int)))) rfl ?_)
    exact ⟨rfl, rfl, rfl⟩
   refine pD (fun W R z9 => ?_) ?_
   ·rw [eS (l := [(4, _)]) ⟨z9 4 rfl, ⟨⟩⟩]
    refine jf (t := 44) rfl (vT h3) (qk (ii ((k : Int))) rfl ?_)
    exact ⟨rfl, rfl, rfl⟩
   refine pD (fun W R z9 => ?_) ?_
   ·rw [eS (l := [(4, _)]) ⟨z9 4 rfl, ⟨⟩⟩]
    refine jf (t := 44) rfl (vT h3) (qk (x2) rfl ?_)
    exact ⟨rfl, rfl, rfl⟩
   refine pD (fun W R z9 => ?_) ?_
   ·rw [eS (l := [(4, _), (6, _)]) ⟨z9 4 rfl, z9 6 rfl, ⟨⟩⟩]
    refine jf (t := 44) rfl (vT h3) (qO qd rfl hr2.slv ?_)
    exact ⟨rfl, rfl, rfl⟩
   refine pD (fun W R z9 => ?_) ?_
   ·rw [eS (l := [(4, _), (5, _), (7, _)]) ⟨z9 4 rfl, z9 5 rfl, z9 7 rfl, ⟨⟩⟩]
    refine jf (t := 44) rfl (vT h3) (qZ rfl rfl ?_)
    exact ⟨rfl, rfl, rfl⟩
   refine pD (fun W R z9 => ?_) ?_
   ·rw [eS (l := [(4, _), (8, _)]) ⟨z9 4 rfl, z9 8 rfl, ⟨⟩⟩]
    refine qj (qX (.bool (decide ((k : Int) < ((((fillL s c).getD []).length : Nat) : Int)))) (vT h3) rfl ?_)
    exact ⟨rfl, rfl, rfl⟩
   refine pD (fun W R z9 => ?_) ?_
   ·rw [eS (l := [(9, _)]) ⟨z9 9 rfl, ⟨⟩⟩]
    refine qj (qk (.bool (decide ((k : Int) < ((((fillL s c).getD []).length : Nat) : Int)))) rfl ?_)
    exact ⟨rfl, rfl, rfl⟩
   refine pD (fun W R z9 => ?_) ?_
   ·rw [eS (l := [(10, _)]) ⟨z9 10 rfl, ⟨⟩⟩]
    exact jm (t := 50) rfl (vF h4) ⟨rfl, rfl, rfl⟩
   refine pD (fun W R z9 => ?_) ?_
   ·rw [eS (l := [(10, _)]) ⟨z9 10 rfl, ⟨⟩⟩]
    exact jm (t := 50) rfl (vF h4) ⟨rfl, rfl, rfl⟩
   refine pD (fun W R z9 => ?_) ?_
   ·rw [eS (l := [(10, _), (11, undef), (12, undef)]) ⟨z9 10 rfl, z9 11 rfl, z9 12 rfl, ⟨⟩⟩]
    exact jm (t := 50) rfl (vF h4) ⟨rfl, rfl, rfl⟩
   refine pD (fun W R z9 => ?_) ?_
   ·rw [eS (l := [(10, _), (13, undef)]) ⟨z9 10 rfl, z9 13 rfl, ⟨⟩⟩]
    exact jm (t := 50) rfl (vF h4) ⟨rfl, rfl, rfl⟩
   refine pD (fun W R z9 => ?_) ?_
   ·rw [eS (l := [(10, _)]) ⟨z9 10 rfl, ⟨⟩⟩]
    exact jm (t := 50) rfl (vF h4) ⟨rfl, rfl, rfl⟩
   refine pD (fun W R z9 => ?_) ?_
   ·rw [eS (l := [(10, _)]) ⟨z9 10 rfl, ⟨⟩⟩]
    exact jm (t := 50) rfl (vF h4) ⟨rfl, rfl, rfl⟩
   refine pD (fun W R z9 => ?_) ?_
   ·rw [eS (l := [(10, _), (15, undef), (16, undef)]) ⟨z9 10 rfl, z9 15 rfl, z9 16 rfl, ⟨⟩⟩]
    exact jm (t := 50) rfl (vF h4) ⟨rfl, rfl, rfl⟩
   refine pD (fun W R z9 => ?_) ?_
   ·rw [eS (l := [(10, _), (17, undef)]) ⟨z9 10 rfl, z9 17 rfl, ⟨⟩⟩]
    exact jm (t := 50) rfl (vF h4) ⟨rfl, rfl, rfl⟩
   exact stepsP.nil
  intro W hphi
  rw [eS (l := [(10, _), (14, undef), (18, undef)]) ⟨(hphi 10 (by decide)), (hphi 14 (by decide)), (hphi 18 (by decide)), ⟨⟩⟩]
  show XL _ _ _ _ _ _ _ (cellsH b3 [sN] 50 :: cellsH b2 [sv] 50 :: cellsH b1 [arv] 29 :: L)
  refine qu (t := 50) rfl (vF h4) (cX (qR (.bool (false)) (vF h4) rfl (qb (jx rfl (jl (qE (qE (qS (qc (qc (qa ?_)))))))))))
  have hstop : k = ((fillL s a).getD []).length ∨ k = ((fillL s c).getD []).length ∨ ((fillL s a).getD []).getD k 0 ≠ ((fillL s c).getD []).getD k 0 := by omega
  refine qf (ii ((k : Int))) rfl (qf (x1) rfl (cX (qO qd rfl hr1.slv (cX (jt rfl rfl (qb ?_))))))
  refine qF (p := (k : Int) = ((((fillL s a).getD []).length : Nat) : Int)) rfl (fun h19 => ?_) (fun h19 => ?_)
  ·have hke : k = ((fillL s a).getD []).length := by omega
   refine qc (qa (cX (qr [sv] qK qm rfl rfl (Rd.ownN [_] rfl rfl) (cX (qt [] _ [sv] qm rfl rfl rfl (qw (qP (RowsF.isSl hsv)) qC) rfl rfl rfl (qh (.bool (true)) rfl (qb (qx (qi (qs (qi (qs (qp (L' := L) [.agg #[sv], .bool (true)] (.tuple #[.agg #[sv], .bool (true)]) (.cell rfl (ja [sv] qK qm rfl (Rd.ownN [] rfl rfl)) (.tmp rfl .nil)) rfl (qg (qg (qg leG1 le1) le2) leG2) rF (sD (sD (sD sR))) ?_)))))))))))))
   have heq := diff_end oX oY hpre hk hke
   rw [hxA.1, hxC.1] at heq
   have hfY := (hI.done heq hxA.2).2
   exact ⟨_, _, by rw [hfY], hsv, fun _ => hI.told heq hxA.2, fun h => (by rw [hfY] at h; cases h), rfl⟩
  have hd := diff_at oX oY hpre hk hstop (by omega)
  have gXk := gX k hd.1
  have gYk := gY k hd.2.1
  refine qv (qc (qa (qf (x1) rfl (qf (ii ((k : Int))) rfl (cX (qB k qd qy rfl rfl rfl hr1.slv (by omega) (Nat.mul_one _) (cX (qn qV rfl (hr1.rd (by omega)) (qh (ii (((fillL s a).getD []).getD k 0)) rfl (qb (qc (qa (qf (x2) rfl (qf (ii ((k : Int))) rfl (cX (qB k qd qy rfl rfl rfl hr2.slv (by omega) (Nat.mul_one _) ?_))))))))))))))))
  refine cX (qn qV rfl (hr2.rd (by omega)) (qh (ii (((fillL s c).getD []).getD k 0)) rfl (qb (qc (qa (qf (ii (((fillL s a).getD []).getD k 0)) rfl (qh (ii (((fillL s a).getD []).getD k 0)) rfl (qb (qc (qa (cX (qr [arv] qL qz rfl rfl (Rd.ownN [_, _] rfl rfl) (qf (x2) rfl (qf (ii ((k : Int))) rfl (cX (jJ <| ql (args := [.agg #[arv], x2, ii (k : Int)]) call174 rfl (l1Sub_spec (p := k) har hr2 (ho := (by first | exact oY | exact oX)) (hp := (by omega))) ?_))))))))))))))))
  rintro v4 _ _ _ ⟨rfl, hs4, rfl⟩
  refine ⟨_, _, rfl, fun F10 le10 hz4 => ?_⟩
  replace har := har.mono le10
  replace hsv := hsv.mono le10
  replace hr1 := hr1.mono le10
  replace hr2 := hr2.mono le10
  have hf4 : IntsF F10 v4 ((sub ar ((fillL s c).getD []) k)) := intsH.fz (xs := (sub ar ((fillL s c).getD []) k)) hz4.fz
  refine qh (v4) rfl (qb (qc (qQ (qc (qa (qf (ii (((fillL s a).getD []).getD k 0)) rfl (cX (ju rfl rfl (qf (.bool (decide ((((fillL s a).getD []).getD k 0 : Int) ≥ 0))) rfl ?_)))))))))
  by_cases h20 : (((fillL s a).getD []).getD k 0 : Int) ≥ 0
  ·refine qq (t := 84) rfl (vT h20) (qk (ii (((fillL s c).getD []).getD k 0)) rfl (qq (t := 84) rfl (vT h20) (ju rfl rfl (cX (qX (.bool (decide ((((fillL s c).getD []).getD k 0 : Int) ≥ 0))) (vT h20) rfl (qh (.bool (decide ((((fillL s c).getD []).getD k 0 : Int) ≥ 0))) rfl (qb ?_)))))))
   refine qF (p := (((fillL s c).getD []).getD k 0 : Int) ≥ 0) rfl (fun h21 => ?_) (fun h21 => ?_)
   ·refine qc (qa (cX (qY [sN] [sN] [(0, 1)] [] qo qG rfl (.cons rfl qI PlacesAre.nil) rfl CellsAre.nil (cX (qt [] _ [sN] qm rfl rfl rfl (qw rfl qC) rfl rfl rfl (qh (.bool (false)) rfl (qb (qx (qs (qi (qs (qi (qs (qp (L' := L) [.agg #[sN], .bool (false)] (.tuple #[.agg #[sN], .bool (false)]) (.cell rfl (ja [sN] qK qm rfl (Rd.ownN [] rfl rfl)) (.tmp rfl .nil)) rfl (qg (qg (qg (qg leG1 le1) le2) leG2) le10) rF (sD (sD (sD sR))) ?_))))))))))))))
    have hfN : uniB ar a c = false := hI.clash hxA.1 hxC.1 oX oY ⟨hd.1, hd.2.1⟩ hpre hd.2.2 (by omega) (by omega)
    exact ⟨_, [], by rw [hfN], SlOf.nilV, fun h => (by rw [hfN] at h; cases h), fun _ => rfl, rfl⟩
   refine qc (qa (qf (ii (((fillL s a).getD []).getD k 0)) rfl (cX (ju rfl rfl (qf (.bool (decide ((((fillL s a).getD []).getD k 0 : Int) ≥ 0))) rfl (qu (t := 92) rfl (vT h20) (qu (t := 92) rfl (vT h20) (qu (t := 92) rfl (vT h20) (XL.noU (t := 95) rfl rfl (XL.noU (t := 95) rfl rfl (XL.noU (t := 95) rfl rfl ?_)))))))))))
   refine qu (t := 92) rfl (vT h20) (cX (qX (.bool (true)) (vT h20) rfl (qh (.bool (true)) rfl (qb (jK rfl (qc (qa (qf (ii (((fillL s c).getD []).getD k 0)) rfl (qh (ii (((fillL s c).getD []).getD k 0)) rfl (qb (qa (cX (qr [arv] qL qz rfl rfl (Rd.ownN [_, _] rfl rfl) ?_)))))))))))))
   refine qf (x1) rfl (qf (ii ((k : Int))) rfl (cX (jJ <| ql (args := [.agg #[arv], x1, ii (k : Int)]) call174 rfl (l1Sub_spec (p := k) har hr1 (ho := (by first | exact oY | exact oX)) (hp := (by omega))) ?_)))
   rintro v5 _ _ _ ⟨rfl, hs5, rfl⟩
   refine ⟨_, _, rfl, fun F11 le11 hz5 => ?_⟩
   replace har := har.mono le11
   replace hsv := hsv.mono le11
   replace hr1 := hr1.mono le11
   replace hr2 := hr2.mono le11
   replace hf4 := hf4.mono le11
   have hf5 : IntsF F11 v5 ((sub ar ((fillL s a).getD []) k)) := intsH.fz (xs := (sub ar ((fillL s a).getD []) k)) hz5.fz
   refine qh (v5) rfl (qb (qc (qc (qa ?_))))
   have hdf : Dif ar a c s (((fillL s c).getD []).getD k 0) ((sub ar ((fillL s a).getD []) k)) := hI.difR hoa hoc hxA.1 hxC.1 oX oY ⟨hd.1, hd.2.1⟩ hpre hd.2.2 (by omega)
   have hdn := hdf.neg
   have hdg := hdf.ge
   have hul9 := termOk_len hdf.ok
   have hin : -1 - (((-1 - (((fillL s c).getD []).getD k 0)).toNat : Nat) : Int) = ((fillL s c).getD []).getD k 0 := by omega
   refine qf (v5) rfl (qf (ii (((fillL s c).getD []).getD k 0)) rfl (cX (ql (args := [v5, ii (((fillL s c).getD []).getD k 0)]) call206 rfl (l1Has_spec (n := ((fillL s c).getD []).getD k 0) hf5 (hbd := (by omega))) ?_)))
   rintro _ _ _ _ ⟨rfl, rfl, rfl⟩
   refine qb ?_
   refine qF (p := (((fillL s c).getD []).getD k 0) ∈ ((sub ar ((fillL s a).getD []) k))) rfl (fun h22 => ?_) (fun h22 => ?_)
   ·have hfN : uniB ar a c = false := hdf.occ h22
    refine qc (qa (cX (qY [sN] [sN] [(0, 1)] [] qo qG rfl (.cons rfl qI PlacesAre.nil) rfl CellsAre.nil (cX (qt [] _ [sN] qm rfl rfl rfl (qw rfl qC) rfl rfl rfl (qh (.bool (false)) rfl (qb (qx (qi (qs (qi (qs (qp (L' := L) [.agg #[sN], .bool (false)] (.tuple #[.agg #[sN], .bool (false)]) (.cell rfl (ja [sN] qK qm rfl (Rd.ownN [] rfl rfl)) (.tmp rfl .nil)) rfl (qg (qg (qg (qg (qg leG1 le1) le2) leG2) le10) le11) rF (sD (sD (sD sR))) ?_)))))))))))))
    exact ⟨_, [], by rw [hfN], SlOf.nilV, fun h => (by rw [hfN] at h; cases h), fun _ => rfl, rfl⟩
   have hno := h22
   refine qv (qc (qa (cX (qr [sv] qK qm rfl rfl (Rd.ownN [_] rfl rfl) (qf (ii (((fillL s c).getD []).getD k 0)) rfl (cX (qW ((-1) - (((fillL s c).getD []).getD k 0)) rfl rfl (by omega) (by omega) (qf (v5) rfl (cX (ql (args := [.agg #[sv], ii ((((-1) - (((fillL s c).getD []).getD k 0)).toNat : Nat) : Int), v5]) call234 (by rw [show ((((-1) - (((fillL s c).getD []).getD k 0)).toNat : Nat) : Int) = (-1) - (((fillL s c).getD []).getD k 0) from by omega]; rfl) (l5Bind_spec (i := ((-1) - (((fillL s c).getD []).getD k 0)).toNat) hsv hf5 (hsl := (hsl)) (hsb := (hsb)) (hi := (by omega)) (hun := (fun e => by rw [e] at hul9; simp at hul9)) (hul := (hul9.2)) (hsg := (fun k hk9 q hq => lk_geAll hI hk9 hq))) ?_))))))))))
   rintro _ F12 _ le12 ⟨x7, rfl, hr7, rfl⟩
   replace har := har.mono le12
   replace hsv := hsv.mono le12
   replace hr1 := hr1.mono le12
   replace hr2 := hr2.mono le12
   replace hf4 := hf4.mono le12
   refine qf (.tuple #[.agg #[x7], .bool (bindB s (-1 - ((((-1) - (((fillL s c).getD []).getD k 0)).toNat) : Int)) ((sub ar ((fillL s a).getD []) k)))]) rfl (cX (qH (.agg #[x7]) rfl rfl (cX (qH (.bool (bindB s (-1 - ((((-1) - (((fillL s c).getD []).getD k 0)).toNat) : Int)) ((sub ar ((fillL s a).getD []) k)))) rfl rfl (cX (jd [sN] qG rfl ?_))))))
   intro b8
   refine cX (qt [] _ [x7] qm rfl rfl rfl (qw (qP (RowsF.isSl hr7)) qC) rfl rfl rfl (qh (.bool (bindB s (-1 - ((((-1) - (((fillL s c).getD []).getD k 0)).toNat) : Int)) ((sub ar ((fillL s a).getD []) k)))) rfl (qb (qc (qc (qa (qf (.bool (bindB s (-1 - ((((-1) - (((fillL s c).getD []).getD k 0)).toNat) : Int)) ((sub ar ((fillL s a).getD []) k)))) rfl (cX (jh rfl (qb ?_))))))))))
   refine jk (t := !(bindB s (-1 - ((((-1) - (((fillL s c).getD []).getD k 0)).toNat) : Int)) ((sub ar ((fillL s a).getD []) k)))) rfl (fun h23 => ?_) (fun h23 => ?_)
   ·have hbn := Bool.not_inj (y := false) h23
    rw [hin] at hbn
    have hfN : uniB ar a c = false := hI.bindLong hdf hno hbn
    refine qc (qa (cX (qY [sN] [sN] [(0, 1)] [] qo qG rfl (.cons rfl qI PlacesAre.nil) rfl CellsAre.nil (cX (qt [_] _ [sN] qm rfl rfl rfl (qw rfl qC) rfl rfl rfl (qh (.bool (false)) rfl (qb (qx (qi (qs (qi (qs (qp (L' := L) [.agg #[sN], .bool (false)] (.tuple #[.agg #[sN], .bool (false)]) (.cell rfl (ja [sN] qK qm rfl (Rd.ownN [_] rfl rfl)) (.tmp rfl .nil)) rfl (qg (qg (qg (qg (qg (qg leG1 le1) le2) leG2) le10) le11) le12) rF (sD (sD (sD (sD sR)))) ?_)))))))))))))
    exact ⟨_, [], by rw [hfN], SlOf.nilV, fun h => (by rw [hfN] at h; cases h), fun _ => rfl, rfl⟩
   have hbn := Bool.not_inj (y := true) h23
   have hby := hbn
   rw [hin] at hbn
   refine qv (qa (cX (qr [x7] qK qm rfl rfl (Rd.ownN [] rfl rfl) (cX (qt [_, _] _ [x7] qm rfl rfl rfl (qw (qP (RowsF.isSl hr7)) qC) rfl rfl rfl (qb ?_))))))
   exact ⟨(x7, bindR s (-1 - (((-1 - (((fillL s c).getD []).getD k 0)).toNat : Nat) : Int)) ((sub ar ((fillL s a).getD []) k)), F12), _, (qg (qg (qg (qg (qg (qg leG1 le1) le2) leG2) le10) le11) le12), rF, ⟨rfl, rfl, rfl, rfl, rfl, ⟨⟩⟩, (sD (sC (sC (sC sR)))), ⟨rfl, (qg (qg (qg (qg (qg (qg leG1 le1) le2) leG2) le10) le11) le12), (by have h9 := hr7; rw [if_pos hby] at h9; exact h9), (by (try dsimp only); rw [hin]; exact hI.bind hdf hno hbn)⟩, (by (try dsimp only); rw [hin]; exact hI.less hdf)⟩
  refine qu (t := 84) rfl (vF h20) (qu (t := 84) rfl (vF h20) (cX (qR (.bool (false)) (vF h20) rfl (qh (.bool (false)) rfl (qb (jx rfl (qc (qa (qf (ii (((fillL s a).getD []).getD k 0)) rfl (cX (ju rfl rfl (qf (.bool (decide ((((fillL s a).getD []).getD k 0 : Int) ≥ 0))) rfl ?_))))))))))))
  refine qq (t := 92) rfl (vF h20) (qk (ii (((fillL s c).getD []).getD k 0)) rfl (qq (t := 92) rfl (vF h20) (qZ rfl rfl (qq (t := 92) rfl (vF h20) (qk (.bool (decide ((((fillL s c).getD []).getD k 0 : Int) < 0))) rfl ?_)))))
  by_cases h24 : (((fillL s c).getD []).getD k 0 : Int) < 0
  ·refine qq (t := 95) rfl (vT h24) (qk (ii (((fillL s c).getD []).getD k 0)) rfl (qq (t := 95) rfl (vT h24) (qk (ii (((fillL s a).getD []).getD k 0)) rfl (qq (t := 95) rfl (vT h24) (qZ rfl rfl (qq (t := 92) rfl (vF h20) (qX (.bool (decide ((((fillL s c).getD []).getD k 0 : Int) < ((fillL s a).getD []).getD k 0))) (vT h24) rfl (cX (qR (.bool (decide ((((fillL s c).getD []).getD k 0 : Int) < ((fillL s a).getD []).getD k 0))) (vF h20) rfl (qh (.bool (decide ((((fillL s c).getD []).getD k 0 : Int) < ((fillL s a).getD []).getD k 0))) rfl (qb ?_)))))))))))
   refine qF (p := (((fillL s c).getD []).getD k 0 : Int) < ((fillL s a).getD []).getD k 0) rfl (fun h25 => ?_) (fun h25 => ?_)
   ·refine qc (qa (qf (ii (((fillL s c).getD []).getD k 0)) rfl (qh (ii (((fillL s c).getD []).getD k 0)) rfl (qb (qa (cX (qr [arv] qL qz rfl rfl (Rd.ownN [_, _] rfl rfl) (qf (x1) rfl (qf (ii ((k : Int))) rfl (cX (jJ <| ql (args := [.agg #[arv], x1, ii (k : Int)]) call174 rfl (l1Sub_spec (p := k) har hr1 (ho := (by first | exact oY | exact oX)) (hp := (by omega))) ?_)))))))))))
    rintro v6 _ _ _ ⟨rfl, hs6, rfl⟩
    refine ⟨_, _, rfl, fun F13 le13 hz6 => ?_⟩
    replace har := har.mono le13
    replace hsv := hsv.mono le13
    replace hr1 := hr1.mono le13
    replace hr2 := hr2.mono le13
    replace hf4 := hf4.mono le13
    have hf6 : IntsF F13 v6 ((sub ar ((fillL s a).getD []) k)) := intsH.fz (xs := (sub ar ((fillL s a).getD []) k)) hz6.fz
    refine qh (v6) rfl (qb (qc (qc (qa ?_))))
    have hdf : Dif ar a c s (((fillL s c).getD []).getD k 0) ((sub ar ((fillL s a).getD []) k)) := hI.difR hoa hoc hxA.1 hxC.1 oX oY ⟨hd.1, hd.2.1⟩ hpre hd.2.2 (by omega)
    have hdn := hdf.neg
    have hdg := hdf.ge
    have hul9 := termOk_len hdf.ok
    have hin : -1 - (((-1 - (((fillL s c).getD []).getD k 0)).toNat : Nat) : Int) = ((fillL s c).getD []).getD k 0 := by omega
    refine qf (v6) rfl (qf (ii (((fillL s c).getD []).getD k 0)) rfl (cX (ql (args := [v6, ii (((fillL s c).getD []).getD k 0)]) call206 rfl (l1Has_spec (n := ((fillL s c).getD []).getD k 0) hf6 (hbd := (by omega))) ?_)))
    rintro _ _ _ _ ⟨rfl, rfl, rfl⟩
    refine qb ?_
    refine qF (p := (((fillL s c).getD []).getD k 0) ∈ ((sub ar ((fillL s a).getD []) k))) rfl (fun h26 => ?_) (fun h26 => ?_)
    ·have hfN : uniB ar a c = false := hdf.occ h26
     refine qc (qa (cX (qY [sN] [sN] [(0, 1)] [] qo qG rfl (.cons rfl qI PlacesAre.nil) rfl CellsAre.nil (cX (qt [] _ [sN] qm rfl rfl rfl (qw rfl qC) rfl rfl rfl (qh (.bool (false)) rfl (qb (qx (qi (qs (qi (qs (qp (L' := L) [.agg #[sN], .bool (false)] (.tuple #[.agg #[sN], .bool (false)]) (.cell rfl (ja [sN] qK qm rfl (Rd.ownN [] rfl rfl)) (.tmp rfl .nil)) rfl (qg (qg (qg (qg (qg leG1 le1) le2) leG2) le10) le13) rF (sD (sD (sD sR))) ?_)))))))))))))
     exact ⟨_, [], by rw [hfN], SlOf.nilV, fun h => (by rw [hfN] at h; cases h), fun _ => rfl, rfl⟩
    have hno := h26
    refine qv (qc (qa (cX (qr [sv] qK qm rfl rfl (Rd.ownN [_] rfl rfl) (qf (ii (((fillL s c).getD []).getD k 0)) rfl (cX (qW ((-1) - (((fillL s c).getD []).getD k 0)) rfl rfl (by omega) (by omega) (qf (v6) rfl (cX (ql (args := [.agg #[sv], ii ((((-1) - (((fillL s c).getD []).getD k 0)).toNat : Nat) : Int), v6]) call234 (by rw [show ((((-1) - (((fillL s c).getD []).getD k 0)).toNat : Nat) : Int) = (-1) - (((fillL s c).getD []).getD k 0) from by omega]; rfl) (l5Bind_spec (i := ((-1) - (((fillL s c).getD []).getD k 0)).toNat) hsv hf6 (hsl := (hsl)) (hsb := (hsb)) (hi := (by omega)) (hun := (fun e => by rw [e] at hul9; simp at hul9)) (hul := (hul9.2)) (hsg := (fun k hk9 q hq => lk_geAll hI hk9 hq))) ?_))))))))))
    rintro _ F14 _ le14 ⟨x8, rfl, hr8, rfl⟩
    replace har := har.mono le14
    replace hsv := hsv.mono le14
    replace hr1 := hr1.mono le14
    replace hr2 := hr2.mono le14
    replace hf4 := hf4.mono le14
    refine qf (.tuple #[.agg #[x8], .bool (bindB s (-1 - ((((-1) - (((fillL s c).getD []).getD k 0)).toNat) : Int)) ((sub ar ((fillL s a).getD []) k)))]) rfl (cX (qH (.agg #[x8]) rfl rfl (cX (qH (.bool (bindB s (-1 - ((((-1) - (((fillL s c).getD []).getD k 0)).toNat) : Int)) ((sub ar ((fillL s a).getD []) k)))) rfl rfl (cX (jd [sN] qG rfl ?_))))))
    intro b9
    refine cX (qt [] _ [x8] qm rfl rfl rfl (qw (qP (RowsF.isSl hr8)) qC) rfl rfl rfl (qh (.bool (bindB s (-1 - ((((-1) - (((fillL s c).getD []).getD k 0)).toNat) : Int)) ((sub ar ((fillL s a).getD []) k)))) rfl (qb (qc (qc (qa (qf (.bool (bindB s (-1 - ((((-1) - (((fillL s c).getD []).getD k 0)).toNat) : Int)) ((sub ar ((fillL s a).getD []) k)))) rfl (cX (jh rfl (qb ?_))))))))))
    refine jk (t := !(bindB s (-1 - ((((-1) - (((fillL s c).getD []).getD k 0)).toNat) : Int)) ((sub ar ((fillL s a).getD []) k)))) rfl (fun h27 => ?_) (fun h27 => ?_)
    ·have hbn := Bool.not_inj (y := false) h27
     rw [hin] at hbn
     have hfN : uniB ar a c = false := hI.bindLong hdf hno hbn
     refine qc (qa (cX (qY [sN] [sN] [(0, 1)] [] qo qG rfl (.cons rfl qI PlacesAre.nil) rfl CellsAre.nil (cX (qt [_] _ [sN] qm rfl rfl rfl (qw rfl qC) rfl rfl rfl (qh (.bool (false)) rfl (qb (qx (qi (qs (qi (qs (qp (L' := L) [.agg #[sN], .bool (false)] (.tuple #[.agg #[sN], .bool (false)]) (.cell rfl (ja [sN] qK qm rfl (Rd.ownN [_] rfl rfl)) (.tmp rfl .nil)) rfl (qg (qg (qg (qg (qg (qg leG1 le1) le2) leG2) le10) le13) le14) rF (sD (sD (sD (sD sR)))) ?_)))))))))))))
     exact ⟨_, [], by rw [hfN], SlOf.nilV, fun h => (by rw [hfN] at h; cases h), fun _ => rfl, rfl⟩
    have hbn := Bool.not_inj (y := true) h27
    have hby := hbn
    rw [hin] at hbn
    refine qv (qa (cX (qr [x8] qK qm rfl rfl (Rd.ownN [] rfl rfl) (cX (qt [_, _] _ [x8] qm rfl rfl rfl (qw (qP (RowsF.isSl hr8)) qC) rfl rfl rfl (qb ?_))))))
    exact ⟨(x8, bindR s (-1 - (((-1 - (((fillL s c).getD []).getD k 0)).toNat : Nat) : Int)) ((sub ar ((fillL s a).getD []) k)), F14), _, (qg (qg (qg (qg (qg (qg leG1 le1) le2) leG2) le10) le13) le14), rF, ⟨rfl, rfl, rfl, rfl, rfl, ⟨⟩⟩, (sD (sC (sC (sC sR)))), ⟨rfl, (qg (qg (qg (qg (qg (qg leG1 le1) le2) leG2) le10) le13) le14), (by have h9 := hr8; rw [if_pos hby] at h9; exact h9), (by (try dsimp only); rw [hin]; exact hI.bind hdf hno hbn)⟩, (by (try dsimp only); rw [hin]; exact hI.less hdf)⟩
   refine qv (qc (qc (qa ?_)))
   have hdf : Dif ar a c s (((fillL s a).getD []).getD k 0) ((sub ar ((fillL s c).getD []) k)) := hI.difL hoa hoc hxA.1 hxC.1 oX oY ⟨hd.1, hd.2.1⟩ hpre hd.2.2 (by omega)
   have hdn := hdf.neg
   have hdg := hdf.ge
   have hul9 := termOk_len hdf.ok
   have hin : -1 - (((-1 - (((fillL s a).getD []).getD k 0)).toNat : Nat) : Int) = ((fillL s a).getD []).getD k 0 := by omega
   refine qf (v4) rfl (qf (ii (((fillL s a).getD []).getD k 0)) rfl (cX (ql (args := [v4, ii (((fillL s a).getD []).getD k 0)]) call206 rfl (l1Has_spec (n := ((fillL s a).getD []).getD k 0) hf4 (hbd := (by omega))) ?_)))
   rintro _ _ _ _ ⟨rfl, rfl, rfl⟩
   refine qb ?_
   refine qF (p := (((fillL s a).getD []).getD k 0) ∈ ((sub ar ((fillL s c).getD []) k))) rfl (fun h28 => ?_) (fun h28 => ?_)
   ·have hfN : uniB ar a c = false := hdf.occ h28
    refine qc (qa (cX (qY [sN] [sN] [(0, 1)] [] qo qG rfl (.cons rfl qI PlacesAre.nil) rfl CellsAre.nil (cX (qt [] _ [sN] qm rfl rfl rfl (qw rfl qC) rfl rfl rfl (qh (.bool (false)) rfl (qb (qx (qi (qs (qi (qs (qp (L' := L) [.agg #[sN], .bool (false)] (.tuple #[.agg #[sN], .bool (false)]) (.cell rfl (ja [sN] qK qm rfl (Rd.ownN [] rfl rfl)) (.tmp rfl .nil)) rfl (qg (qg (qg (qg leG1 le1) le2) leG2) le10) rF (sD (sD (sD sR))) ?_)))))))))))))
    exact ⟨_, [], by rw [hfN], SlOf.nilV, fun h => (by rw [hfN] at h; cases h), fun _ => rfl, rfl⟩
   have hno := h28
   refine qv (qc (qa (cX (qr [sv] qK qm rfl rfl (Rd.ownN [_] rfl rfl) (qf (ii (((fillL s a).getD []).getD k 0)) rfl (cX (qW ((-1) - (((fillL s a).getD []).getD k 0)) rfl rfl (by omega) (by omega) (qf (v4) rfl (cX (ql (args := [.agg #[sv], ii ((((-1) - (((fillL s a).getD []).getD k 0)).toNat : Nat) : Int), v4]) call234 (by rw [show ((((-1) - (((fillL s a).getD []).getD k 0)).toNat : Nat) : Int) = (-1) - (((fillL s a).getD []).getD k 0) from by omega]; rfl) (l5Bind_spec (i := ((-1) - (((fillL s a).getD []).getD k 0)).toNat) hsv hf4 (hsl := (hsl)) (hsb := (hsb)) (hi := (by omega)) (hun := (fun e => by rw [e] at hul9; simp at hul9)) (hul := (hul9.2)) (hsg := (fun k hk9 q hq => lk_geAll hI hk9 hq))) ?_))))))))))
   rintro _ F15 _ le15 ⟨x9, rfl, hr9, rfl⟩
   replace har := har.mono le15
   replace hsv := hsv.mono le15
   replace hr1 := hr1.mono le15
   replace hr2 := hr2.mono le15
   replace hf4 := hf4.mono le15
   refine qf (.tuple #[.agg #[x9], .bool (bindB s (-1 - ((((-1) - (((fillL s a).getD []).getD k 0)).toNat) : Int)) ((sub ar ((fillL s c).getD []) k)))]) rfl (cX (qH (.agg #[x9]) rfl rfl (cX (qH (.bool (bindB s (-1 - ((((-1) - (((fillL s a).getD []).getD k 0)).toNat) : Int)) ((sub ar ((fillL s c).getD []) k)))) rfl rfl (cX (jd [sN] qG rfl ?_))))))
   intro b10
   refine cX (qt [] _ [x9] qm rfl rfl rfl (qw (qP (RowsF.isSl hr9)) qC) rfl rfl rfl (qh (.bool (bindB s (-1 - ((((-1) - (((fillL s a).getD []).getD k 0)).toNat) : Int)) ((sub ar ((fillL s c).getD []) k)))) rfl (qb (qc (qc (qa (qf (.bool (bindB s (-1 - ((((-1) - (((fillL s a).getD []).getD k 0)).toNat) : Int)) ((sub ar ((fillL s c).getD []) k)))) rfl (cX (jh rfl (qb ?_))))))))))
   refine jk (t := !(bindB s (-1 - ((((-1) - (((fillL s a).getD []).getD k 0)).toNat) : Int)) ((sub ar ((fillL s c).getD []) k)))) rfl (fun h29 => ?_) (fun h29 => ?_)
   ·have hbn := Bool.not_inj (y := false) h29
    rw [hin] at hbn
    have hfN : uniB ar a c = false := hI.bindLong hdf hno hbn
    refine qc (qa (cX (qY [sN] [sN] [(0, 1)] [] qo qG rfl (.cons rfl qI PlacesAre.nil) rfl CellsAre.nil (cX (qt [_] _ [sN] qm rfl rfl rfl (qw rfl qC) rfl rfl rfl (qh (.bool (false)) rfl (qb (qx (qi (qs (qi (qs (qp (L' := L) [.agg #[sN], .bool (false)] (.tuple #[.agg #[sN], .bool (false)]) (.cell rfl (ja [sN] qK qm rfl (Rd.ownN [_] rfl rfl)) (.tmp rfl .nil)) rfl (qg (qg (qg (qg (qg leG1 le1) le2) leG2) le10) le15) rF (sD (sD (sD (sD sR)))) ?_)))))))))))))
    exact ⟨_, [], by rw [hfN], SlOf.nilV, fun h => (by rw [hfN] at h; cases h), fun _ => rfl, rfl⟩
   have hbn := Bool.not_inj (y := true) h29
   have hby := hbn
   rw [hin] at hbn
   refine qv (qa (cX (qr [x9] qK qm rfl rfl (Rd.ownN [] rfl rfl) (cX (qt [_, _] _ [x9] qm rfl rfl rfl (qw (qP (RowsF.isSl hr9)) qC) rfl rfl rfl (qb ?_))))))
   exact ⟨(x9, bindR s (-1 - (((-1 - (((fillL s a).getD []).getD k 0)).toNat : Nat) : Int)) ((sub ar ((fillL s c).getD []) k)), F15), _, (qg (qg (qg (qg (qg leG1 le1) le2) leG2) le10) le15), rF, ⟨rfl, rfl, rfl, rfl, rfl, ⟨⟩⟩, (sD (sC (sC (sC sR)))), ⟨rfl, (qg (qg (qg (qg (qg leG1 le1) le2) leG2) le10) le15), (by have h9 := hr9; rw [if_pos hby] at h9; exact h9), (by (try dsimp only); rw [hin]; exact hI.bind hdf hno hbn)⟩, (by (try dsimp only); rw [hin]; exact hI.less hdf)⟩
  refine qu (t := 95) rfl (vF h24) (qu (t := 95) rfl (vF h24) (qu (t := 95) rfl (vF h24) (qq (t := 92) rfl (vF h20) (qR (.bool (false)) (vF h24) rfl (cX (qR (.bool (false)) (vF h20) rfl (qh (.bool (false)) rfl (qb (jx rfl (qv (qc (qc (qa ?_)))))))))))))
  have hdf : Dif ar a c s (((fillL s a).getD []).getD k 0) ((sub ar ((fillL s c).getD []) k)) := hI.difL hoa hoc hxA.1 hxC.1 oX oY ⟨hd.1, hd.2.1⟩ hpre hd.2.2 (by omega)
  have hdn := hdf.neg
  have hdg := hdf.ge
  have hul9 := termOk_len hdf.ok
  have hin : -1 - (((-1 - (((fillL s a).getD []).getD k 0)).toNat : Nat) : Int) = ((fillL s a).getD []).getD k 0 := by omega
  refine qf (v4) rfl (qf (ii (((fillL s a).getD []).getD k 0)) rfl (cX (ql (args := [v4, ii (((fillL s a).getD []).getD k 0)]) call206 rfl (l1Has_spec (n := ((fillL s a).getD []).getD k 0) hf4 (hbd := (by omega))) ?_)))
  rintro _ _ _ _ ⟨rfl, rfl, rfl⟩
  refine qb ?_
  refine qF (p := (((fillL s a).getD []).getD k 0) ∈ ((sub ar ((fillL s c).getD []) k))) rfl (fun h30 => ?_) (fun h30 => ?_)
  ·have hfN : uniB ar a c = false := hdf.occ h30
   refine qc (qa (cX (qY [sN] [sN] [(0, 1)] [] qo qG rfl (.cons rfl qI PlacesAre.nil) rfl CellsAre.nil (cX (qt [] _ [sN] qm rfl rfl rfl (qw rfl qC) rfl rfl rfl (qh (.bool (false)) rfl (qb (qx (qi (qs (qi (qs (qp (L' := L) [.agg #[sN], .bool (false)] (.tuple #[.agg #[sN], .bool (false)]) (.cell rfl (ja [sN] qK qm rfl (Rd.ownN [] rfl rfl)) (.tmp rfl .nil)) rfl (qg (qg (qg (qg leG1 le1) le2) leG2) le10) rF (sD (sD (sD sR))) ?_)))))))))))))
   exact ⟨_, [], by rw [hfN], SlOf.nilV, fun h => (by rw [hfN] at h; cases h), fun _ => rfl, rfl⟩
  have hno := h30
  refine qv (qc (qa (cX (qr [sv] qK qm rfl rfl (Rd.ownN [_] rfl rfl) (qf (ii (((fillL s a).getD []).getD k 0)) rfl (cX (qW ((-1) - (((fillL s a).getD []).getD k 0)) rfl rfl (by omega) (by omega) (qf (v4) rfl (cX (ql (args := [.agg #[sv], ii ((((-1) - (((fillL s a).getD []).getD k 0)).toNat : Nat) : Int), v4]) call234 (by rw [show ((((-1) - (((fillL s a).getD []).getD k 0)).toNat : Nat) : Int) = (-1) - (((fillL s a).getD []).getD k 0) from by omega]; rfl) (l5Bind_spec (i := ((-1) - (((fillL s a).getD []).getD k 0)).toNat) hsv hf4 (hsl := (hsl)) (hsb := (hsb)) (hi := (by omega)) (hun := (fun e => by rw [e] at hul9; simp at hul9)) (hul := (hul9.2)) (hsg := (fun k hk9 q hq => lk_geAll hI hk9 hq))) ?_))))))))))
  rintro _ F16 _ le16 ⟨x10, rfl, hr10, rfl⟩
  replace har := har.mono le16
  replace hsv := hsv.mono le16
  replace hr1 := hr1.mono le16
  replace hr2 := hr2.mono le16
  refine qf (.tuple #[.agg #[x10], .bool (bindB s (-1 - ((((-1) - (((fillL s a).getD []).getD k 0)).toNat) : Int)) ((sub ar ((fillL s c).getD []) k)))]) rfl (cX (qH (.agg #[x10]) rfl rfl (cX (qH (.bool (bindB s (-1 - ((((-1) - (((fillL s a).getD []).getD k 0)).toNat) : Int)) ((sub ar ((fillL s c).getD []) k)))) rfl rfl (cX (jd [sN] qG rfl ?_))))))
  intro b11
  refine cX (qt [] _ [x10] qm rfl rfl rfl (qw (qP (RowsF.isSl hr10)) qC) rfl rfl rfl (qh (.bool (bindB s (-1 - ((((-1) - (((fillL s a).getD []).getD k 0)).toNat) : Int)) ((sub ar ((fillL s c).getD []) k)))) rfl (qb (qc (qc (qa (qf (.bool (bindB s (-1 - ((((-1) - (((fillL s a).getD []).getD k 0)).toNat) : Int)) ((sub ar ((fillL s c).getD []) k)))) rfl (cX (jh rfl (qb ?_))))))))))
  refine jk (t := !(bindB s (-1 - ((((-1) - (((fillL s a).getD []).getD k 0)).toNat) : Int)) ((sub ar ((fillL s c).getD []) k)))) rfl (fun h31 => ?_) (fun h31 => ?_)
  ·have hbn := Bool.not_inj (y := false) h31
   rw [hin] at hbn
   have hfN : uniB ar a c = false := hI.bindLong hdf hno hbn
   refine qc (qa (cX (qY [sN] [sN] [(0, 1)] [] qo qG rfl (.cons rfl qI PlacesAre.nil) rfl CellsAre.nil (cX (qt [_] _ [sN] qm rfl rfl rfl (qw rfl qC) rfl rfl rfl (qh (.bool (false)) rfl (qb (qx (qi (qs (qi (qs (qp (L' := L) [.agg #[sN], .bool (false)] (.tuple #[.agg #[sN], .bool (false)]) (.cell rfl (ja [sN] qK qm rfl (Rd.ownN [_] rfl rfl)) (.tmp rfl .nil)) rfl (qg (qg (qg (qg (qg leG1 le1) le2) leG2) le10) le16) rF (sD (sD (sD (sD sR)))) ?_)))))))))))))
   exact ⟨_, [], by rw [hfN], SlOf.nilV, fun h => (by rw [hfN] at h; cases h), fun _ => rfl, rfl⟩
  have hbn := Bool.not_inj (y := true) h31
  have hby := hbn
  rw [hin] at hbn
  refine qv (qa (cX (qr [x10] qK qm rfl rfl (Rd.ownN [] rfl rfl) (cX (qt [_, _] _ [x10] qm rfl rfl rfl (qw (qP (RowsF.isSl hr10)) qC) rfl rfl rfl (qb ?_))))))
  exact ⟨(x10, bindR s (-1 - (((-1 - (((fillL s a).getD []).getD k 0)).toNat : Nat) : Int)) ((sub ar ((fillL s c).getD []) k)), F16), _, (qg (qg (qg (qg (qg leG1 le1) le2) leG2) le10) le16), rF, ⟨rfl, rfl, rfl, rfl, rfl, ⟨⟩⟩, (sD (sC (sC (sC sR)))), ⟨rfl, (qg (qg (qg (qg (qg leG1 le1) le2) leG2) le10) le16), (by have h9 := hr10; rw [if_pos hby] at h9; exact h9), (by (try dsimp only); rw [hin]; exact hI.bind hdf hno hbn)⟩, (by (try dsimp only); rw [hin]; exact hI.less hdf)⟩
 refine jz [cellsH b3 [sN] 50, cellsH b2 [sv] 50, cellsH b1 [arv] 29] L 19 [] [[], [], [1], [0, 2], [3], [4], [4], [4, 6], [4, 5, 7], [4, 8], [9], [10], [10], [10, 11, 12], [10, 13], [10], [10], [10, 15, 16], [10, 17]] (phiL [qe (ii ((k : Int)) : Value), qe x1, qe (ii (((((fillL s a).getD []).length : Nat) : Int)) : Value), qe (.bool (decide ((k : Int) < ((((fillL s a).getD []).length : Nat) : Int))) : Value), qe (.bool (decide ((k : Int) < ((((fillL s a).getD []).length : Nat) : Int))) : Value), qe undef, qe undef, qe undef, qe undef, qe (.bool (false)), qe (.bool (false)), qe undef, qe undef, qe undef, qe undef, qe undef, qe undef, qe undef, qe undef]) (ownL []) mixed rfl rfl (by kernel_rfl) ?_ ?_
 ·refine pD (fun W R z9 => ?_) ?_
  ·refine qj (qk (ii ((k : Int))) rfl ?_)
   exact ⟨rfl, rfl, rfl⟩
  refine pD (fun W R z9 => ?_) ?_
  ·refine qj (qk (x1) rfl ?_)
   exact ⟨rfl, rfl, rfl⟩
  refine pD (fun W R z9 => ?_) ?_
  ·rw [eS (l := [(1, _)]) ⟨z9 1 rfl, ⟨⟩⟩]
   refine qj (qO qd rfl hr1.slv ?_)
   exact ⟨rfl, rfl, rfl⟩
  refine pD (fun W R z9 => ?_) ?_
  ·rw [eS (l := [(0, _), (2, _)]) ⟨z9 0 rfl, z9 2 rfl, ⟨⟩⟩]
   refine qj (qZ rfl rfl ?_)
   exact ⟨rfl, rfl, rfl⟩
  refine pD (fun W R z9 => ?_) ?_
  ·rw [eS (l := [(3, _)]) ⟨z9 3 rfl, ⟨⟩⟩]
   refine qj (qk (.bool (decide ((k : Int) < ((((fillL s a).getD []).length : Nat) : Int)))) rfl ?_)
   exact ⟨rfl, rfl, rfl⟩
  refine pD (fun W R z9 => ?_) ?_
  ·rw [eS (l := [(4, _)]) ⟨z9 4 rfl, ⟨⟩⟩]
   exact jm (t := 44) rfl (vF h3) ⟨rfl, rfl, rfl⟩
  refine pD (fun W R z9 => ?_) ?_
  ·rw [eS (l := [(4, _)]) ⟨z9 4 rfl, ⟨⟩⟩]
   exact jm (t := 44) rfl (vF h3) ⟨rfl, rfl, rfl⟩
  refine pD (fun W R z9 => ?_) ?_
  ·rw [eS (l := [(4, _), (6, undef)]) ⟨z9 4 rfl, z9 6 rfl, ⟨⟩⟩]
   exact jm (t := 44) rfl (vF h3) ⟨rfl, rfl, rfl⟩
  refine pD (fun W R z9 => ?_) ?_
  ·rw [eS (l := [(4, _), (5, undef), (7, undef)]) ⟨z9 4 rfl, z9 5 rfl, z9 7 rfl, ⟨⟩⟩]
   exact jm (t := 44) rfl (vF h3) ⟨rfl, rfl, rfl⟩
  refine pD (fun W R z9 => ?_) ?_
  ·rw [eS (l := [(4, _), (8, undef)]) ⟨z9 4 rfl, z9 8 rfl, ⟨⟩⟩]
   refine qj (qR (.bool (false)) (vF h3) rfl ?_)
   exact ⟨rfl, rfl, rfl⟩
  refine pD (fun W R z9 => ?_) ?_
  ·rw [eS (l := [(9, _)]) ⟨z9 9 rfl, ⟨⟩⟩]
   refine qj (qk (.bool (false)) rfl ?_)
   exact ⟨rfl, rfl, rfl⟩
  refine pD (fun W R z9 => ?_) ?_
  ·rw [eS (l := [(10, _)]) ⟨z9 10 rfl, ⟨⟩⟩]
   exact jm (t := 50) rfl rfl ⟨rfl, rfl, rfl⟩
  refine pD (fun W R z9 => ?_) ?_
  ·rw [eS (l := [(10, _)]) ⟨z9 10 rfl, ⟨⟩⟩]
   exact jm (t := 50) rfl rfl ⟨rfl, rfl, rfl⟩
  refine pD (fun W R z9 => ?_) ?_
  ·rw [eS (l := [(10, _), (11, undef), (12, undef)]) ⟨z9 10 rfl, z9 11 rfl, z9 12 rfl, ⟨⟩⟩]
   exact jm (t := 50) rfl rfl ⟨rfl, rfl, rfl⟩
  refine pD (fun W R z9 => ?_) ?_
  ·rw [eS (l := [(10, _), (13, undef)]) ⟨z9 10 rfl, z9 13 rfl, ⟨⟩⟩]
   exact jm (t := 50) rfl rfl ⟨rfl, rfl, rfl⟩
  refine pD (fun W R z9 => ?_) ?_
  ·rw [eS (l := [(10, _)]) ⟨z9 10 rfl, ⟨⟩⟩]
   exact jm (t := 50) rfl rfl ⟨rfl, rfl, rfl⟩
  refine pD (fun W R z9 => ?_) ?_
  ·rw [eS (l := [(10, _)]) ⟨z9 10 rfl, ⟨⟩⟩]
   exact jm (t := 50) rfl rfl ⟨rfl, rfl, rfl⟩
  refine pD (fun W R z9 => ?_) ?_
  ·rw [eS (l := [(10, _), (15, undef), (16, undef)]) ⟨z9 10 rfl, z9 15 rfl, z9 16 rfl, ⟨⟩⟩]
   exact jm (t := 50) rfl rfl ⟨rfl, rfl, rfl⟩
  refine pD (fun W R z9 => ?_) ?_
  ·rw [eS (l := [(10, _), (17, undef)]) ⟨z9 10 rfl, z9 17 rfl, ⟨⟩⟩]
   exact jm (t := 50) rfl rfl ⟨rfl, rfl, rfl⟩
  exact stepsP.nil
 intro W hphi
 rw [eS (l := [(10, _), (14, undef), (18, undef)]) ⟨(hphi 10 (by decide)), (hphi 14 (by decide)), (hphi 18 (by decide)), ⟨⟩⟩]
 show XL _ _ _ _ _ _ _ (cellsH b3 [sN] 50 :: cellsH b2 [sv] 50 :: cellsH b1 [arv] 29 :: L)
 refine qu (t := 50) rfl rfl (cX (qR (.bool (false)) rfl rfl (qb (jx rfl (jl (qE (qE (qS (qc (qc (qa ?_)))))))))))
 have hstop : k = ((fillL s a).getD []).length ∨ k = ((fillL s c).getD []).length ∨ ((fillL s a).getD []).getD k 0 ≠ ((fillL s c).getD []).getD k 0 := by omega
 refine qf (ii ((k : Int))) rfl (qf (x1) rfl (cX (qO qd rfl hr1.slv (cX (jt rfl rfl (qb ?_))))))
 refine qF (p := (k : Int) = ((((fillL s a).getD []).length : Nat) : Int)) rfl (fun h32 => ?_) (fun h32 => ?_)
 ·have hke : k = ((fillL s a).getD []).length := by omega
  refine qc (qa (cX (qr [sv] qK qm rfl rfl (Rd.ownN [_] rfl rfl) (cX (qt [] _ [sv] qm rfl rfl rfl (qw (qP (RowsF.isSl hsv)) qC) rfl rfl rfl (qh (.bool (true)) rfl (qb (qx (qi (qs (qi (qs (qp (L' := L) [.agg #[sv], .bool (true)] (.tuple #[.agg #[sv], .bool (true)]) (.cell rfl (ja [sv] qK qm rfl (Rd.ownN [] rfl rfl)) (.tmp rfl .nil)) rfl (qg (qg (qg leG1 le1) le2) leG2) rF (sD (sD (sD sR))) ?_)))))))))))))
  have heq := diff_end oX oY hpre hk hke
  rw [hxA.1, hxC.1] at heq
  have hfY := (hI.done heq hxA.2).2
  exact ⟨_, _, by rw [hfY], hsv, fun _ => hI.told heq hxA.2, fun h => (by rw [hfY] at h; cases h), rfl⟩
 have hd := diff_at oX oY hpre hk hstop (by omega)
 have gXk := gX k hd.1
 have gYk := gY k hd.2.1
 refine qv (qc (qa (qf (x1) rfl (qf (ii ((k : Int))) rfl (cX (qB k qd qy rfl rfl rfl hr1.slv (by omega) (Nat.mul_one _) (cX (qn qV rfl (hr1.rd (by omega)) (qh (ii (((fillL s a).getD []).getD k 0)) rfl (qb (qc (qa (qf (x2) rfl (qf (ii ((k : Int))) rfl (cX (qB k qd qy rfl rfl rfl hr2.slv (by omega) (Nat.mul_one _) ?_))))))))))))))))
 refine cX (qn qV rfl (hr2.rd (by omega)) (qh (ii (((fillL s c).getD []).getD k 0)) rfl (qb (qc (qa (qf (ii (((fillL s a).getD []).getD k 0)) rfl (qh (ii (((fillL s a).getD []).getD k 0)) rfl (qb (qc (qa (cX (qr [arv] qL qz rfl rfl (Rd.ownN [_, _] rfl rfl) (qf (x2) rfl (qf (ii ((k : Int))) rfl (cX (jJ <| ql (args := [.agg #[arv], x2, ii (k : Int)]) call174 rfl (l1Sub_spec (p := k) har hr2 (ho := (by first | exact oY | exact oX)) (hp := (by omega))) ?_))))))))))))))))
 rintro v7 _ _ _ ⟨rfl, hs7, rfl⟩
 refine ⟨_, _, rfl, fun F17 le17 hz7 => ?_⟩
 replace har := har.mono le17
 replace hsv := hsv.mono le17
 replace hr1 := hr1.mono le17
 have hf7 : IntsF F17 v7 ((sub ar ((fillL s c).getD []) k)) := intsH.fz (xs := (sub ar ((fillL s c).getD []) k)) hz7.fz
 refine qh (v7) rfl (qb (qc (qQ (qc (qa (qf (ii (((fillL s a).getD []).getD k 0)) rfl (cX (ju rfl rfl (qf (.bool (decide ((((fillL s a).getD []).getD k 0 : Int) ≥ 0))) rfl ?_)))))))))
 by_cases h33 : (((fillL s a).getD []).getD k 0 : Int) ≥ 0
 ·refine qq (t := 84) rfl (vT h33) (qk (ii (((fillL s c).getD []).getD k 0)) rfl (qq (t := 84) rfl (vT h33) (ju rfl rfl (cX (qX (.bool (decide ((((fillL s c).getD []).getD k 0 : Int) ≥ 0))) (vT h33) rfl (qh (.bool (decide ((((fillL s c).getD []).getD k 0 : Int) ≥ 0))) rfl (qb ?_)))))))
  refine qF (p := (((fillL s c).getD []).getD k 0 : Int) ≥ 0) rfl (fun h34 => ?_) (fun h34 => ?_)
  ·refine qc (qa (cX (qY [sN] [sN] [(0, 1)] [] qo qG rfl (.cons rfl qI PlacesAre.nil) rfl CellsAre.nil (cX (qt [] _ [sN] qm rfl rfl rfl (qw rfl qC) rfl rfl rfl (qh (.bool (false)) rfl (qb (qx (qs (qi (qs (qi (qs (qp (L' := L) [.agg #[sN], .bool (false)] (.tuple #[.agg #[sN], .bool (false)]) (.cell rfl (ja [sN] qK qm rfl (Rd.ownN [] rfl rfl)) (.tmp rfl .nil)) rfl (qg (qg (qg (qg leG1 le1) le2) leG2) le17) rF (sD (sD (sD sR))) ?_))))))))))))))
   have hfN : uniB ar a c = false := hI.clash hxA.1 hxC.1 oX oY ⟨hd.1, hd.2.1⟩ hpre hd.2.2 (by omega) (by omega)
   exact ⟨_, [], by rw [hfN], SlOf.nilV, fun h => (by rw [hfN] at h; cases h), fun _ => rfl, rfl⟩
  refine qc (qa (qf (ii (((fillL s a).getD []).getD k 0)) rfl (cX (ju rfl rfl (qf (.bool (decide ((((fillL s a).getD []).getD k 0 : Int) ≥ 0))) rfl (qu (t := 92) rfl (vT h33) (qu (t := 92) rfl (vT h33) (qu (t := 92) rfl (vT h33) (XL.noU (t := 95) rfl rfl (XL.noU (t := 95) rfl rfl (XL.noU (t := 95) rfl rfl ?_)))))))))))
  refine qu (t := 92) rfl (vT h33) (cX (qX (.bool (true)) (vT h33) rfl (qh (.bool (true)) rfl (qb (jK rfl (qc (qa (qf (ii (((fillL s c).getD []).getD k 0)) rfl (qh (ii (((fillL s c).getD []).getD k 0)) rfl (qb (qa (cX (qr [arv] qL qz rfl rfl (Rd.ownN [_, _] rfl rfl) ?_)))))))))))))
  refine qf (x1) rfl (qf (ii ((k : Int))) rfl (cX (jJ <| ql (args := [.agg #[arv], x1, ii (k : Int)]) call174 rfl (l1Sub_spec (p := k) har hr1 (ho := (by first | exact oY | exact oX)) (hp := (by omega))) ?_)))
  rintro v8 _ _ _ ⟨rfl, hs8, rfl⟩
  refine ⟨_, _, rfl, fun F18 le18 hz8 => ?_⟩
  replace har := har.mono le18
  replace hsv := hsv.mono le18
  replace hr1 := hr1.mono le18
  replace hf7 := hf7.mono le18
  have hf8 : IntsF F18 v8 ((sub ar ((fillL s a).getD []) k)) := intsH.fz (xs := (sub ar ((fillL s a).getD []) k)) hz8.fz
  refine qh (v8) rfl (qb (qc (qc (qa ?_))))
  have hdf : Dif ar a c s (((fillL s c).getD []).getD k 0) ((sub ar ((fillL s a).getD []) k)) := hI.difR hoa hoc hxA.1 hxC.1 oX oY ⟨hd.1, hd.2.1⟩ hpre hd.2.2 (by omega)
  have hdn := hdf.neg
  have hdg := hdf.ge
  have hul9 := termOk_len hdf.ok
  have hin : -1 - (((-1 - (((fillL s c).getD []).getD k 0)).toNat : Nat) : Int) = ((fillL s c).getD []).getD k 0 := by omega
  refine qf (v8) rfl (qf (ii (((fillL s c).getD []).getD k 0)) rfl (cX (ql (args := [v8, ii (((fillL s c).getD []).getD k 0)]) call206 rfl (l1Has_spec (n := ((fillL s c).getD []).getD k 0) hf8 (hbd := (by omega))) ?_)))
  rintro _ _ _ _ ⟨rfl, rfl, rfl⟩
  refine qb ?_
  refine qF (p := (((fillL s c).getD []).getD k 0) ∈ ((sub ar ((fillL s a).getD []) k))) rfl (fun h35 => ?_) (fun h35 => ?_)
  ·have hfN : uniB ar a c = false := hdf.occ h35
   refine qc (qa (cX (qY [sN] [sN] [(0, 1)] [] qo qG rfl (.cons rfl qI PlacesAre.nil) rfl CellsAre.nil (cX (qt [] _ [sN] qm rfl rfl rfl (qw rfl qC) rfl rfl rfl (qh (.bool (false)) rfl (qb (qx (qi (qs (qi (qs (qp (L' := L) [.agg #[sN], .bool (false)] (.tuple #[.agg #[sN], .bool (false)]) (.cell rfl (ja [sN] qK qm rfl (Rd.ownN [] rfl rfl)) (.tmp rfl .nil)) rfl (qg (qg (qg (qg (qg leG1 le1) le2) leG2) le17) le18) rF (sD (sD (sD sR))) ?_)))))))))))))
   exact ⟨_, [], by rw [hfN], SlOf.nilV, fun h => (by rw [hfN] at h; cases h), fun _ => rfl, rfl⟩
  have hno := h35
  refine qv (qc (qa (cX (qr [sv] qK qm rfl rfl (Rd.ownN [_] rfl rfl) (qf (ii (((fillL s c).getD []).getD k 0)) rfl (cX (qW ((-1) - (((fillL s c).getD []).getD k 0)) rfl rfl (by omega) (by omega) (qf (v8) rfl (cX (ql (args := [.agg #[sv], ii ((((-1) - (((fillL s c).getD []).getD k 0)).toNat : Nat) : Int), v8]) call234 (by rw [show ((((-1) - (((fillL s c).getD []).getD k 0)).toNat : Nat) : Int) = (-1) - (((fillL s c).getD []).getD k 0) from by omega]; rfl) (l5Bind_spec (i := ((-1) - (((fillL s c).getD []).getD k 0)).toNat) hsv hf8 (hsl := (hsl)) (hsb := (hsb)) (hi := (by omega)) (hun := (fun e => by rw [e] at hul9; simp at hul9)) (hul := (hul9.2)) (hsg := (fun k hk9 q hq => lk_geAll hI hk9 hq))) ?_))))))))))
  rintro _ F19 _ le19 ⟨x11, rfl, hr11, rfl⟩
  replace har := har.mono le19
  replace hsv := hsv.mono le19
  replace hr1 := hr1.mono le19
  replace hf7 := hf7.mono le19
  refine qf (.tuple #[.agg #[x11], .bool (bindB s (-1 - ((((-1) - (((fillL s c).getD []).getD k 0)).toNat) : Int)) ((sub ar ((fillL s a).getD []) k)))]) rfl (cX (qH (.agg #[x11]) rfl rfl (cX (qH (.bool (bindB s (-1 - ((((-1) - (((fillL s c).getD []).getD k 0)).toNat) : Int)) ((sub ar ((fillL s a).getD []) k)))) rfl rfl (cX (jd [sN] qG rfl ?_))))))
  intro b12
  refine cX (qt [] _ [x11] qm rfl rfl rfl (qw (qP (RowsF.isSl hr11)) qC) rfl rfl rfl (qh (.bool (bindB s (-1 - ((((-1) - (((fillL s c).getD []).getD k 0)).toNat) : Int)) ((sub ar ((fillL s a).getD []) k)))) rfl (qb (qc (qc (qa (qf (.bool (bindB s (-1 - ((((-1) - (((fillL s c).getD []).getD k 0)).toNat) : Int)) ((sub ar ((fillL s a).getD []) k)))) rfl (cX (jh rfl (qb ?_))))))))))
  refine jk (t := !(bindB s (-1 - ((((-1) - (((fillL s c).getD []).getD k 0)).toNat) : Int)) ((sub ar ((fillL s a).getD []) k)))) rfl (fun h36 => ?_) (fun h36 => ?_)
  ·have hbn := Bool.not_inj (y := false) h36
   rw [hin] at hbn
   have hfN : uniB ar a c = false := hI.bindLong hdf hno hbn
   refine qc (qa (cX (qY [sN] [sN] [(0, 1)] [] qo qG rfl (.cons rfl qI PlacesAre.nil) rfl CellsAre.nil (cX (qt [_] _ [sN] qm rfl rfl rfl (qw rfl qC) rfl rfl rfl (qh (.bool (false)) rfl (qb (qx (qi (qs (qi (qs (qp (L' := L) [.agg #[sN], .bool (false)] (.tuple #[.agg #[sN], .bool (false)]) (.cell rfl (ja [sN] qK qm rfl (Rd.ownN [_] rfl rfl)) (.tmp rfl .nil)) rfl (qg (qg (qg (qg (qg (qg leG1 le1) le2) leG2) le17) le18) le19) rF (sD (sD (sD (sD sR)))) ?_)))))))))))))
   exact ⟨_, [], by rw [hfN], SlOf.nilV, fun h => (by rw [hfN] at h; cases h), fun _ => rfl, rfl⟩
  have hbn := Bool.not_inj (y := true) h36
  have hby := hbn
  rw [hin] at hbn
  refine qv (qa (cX (qr [x11] qK qm rfl rfl (Rd.ownN [] rfl rfl) (cX (qt [_, _] _ [x11] qm rfl rfl rfl (qw (qP (RowsF.isSl hr11)) qC) rfl rfl rfl (qb ?_))))))
  exact ⟨(x11, bindR s (-1 - (((-1 - (((fillL s c).getD []).getD k 0)).toNat : Nat) : Int)) ((sub ar ((fillL s a).getD []) k)), F19), _, (qg (qg (qg (qg (qg (qg leG1 le1) le2) leG2) le17) le18) le19), rF, ⟨rfl, rfl, rfl, rfl, rfl, ⟨⟩⟩, (sD (sC (sC (sC sR)))), ⟨rfl, (qg (qg (qg (qg (qg (qg leG1 le1) le2) leG2) le17) le18) le19), (by have h9 := hr11; rw [if_pos hby] at h9; exact h9), (by (try dsimp only); rw [hin]; exact hI.bind hdf hno hbn)⟩, (by (try dsimp only); rw [hin]; exact hI.less hdf)⟩
 refine qu (t := 84) rfl (vF h33) (qu (t := 84) rfl (vF h33) (cX (qR (.bool (false)) (vF h33) rfl (qh (.bool (false)) rfl (qb (jx rfl (qc (qa (qf (ii (((fillL s a).getD []).getD k 0)) rfl (cX (ju rfl rfl (qf (.bool (decide ((((fillL s a).getD []).getD k 0 : Int) ≥ 0))) rfl ?_))))))))))))
 refine qq (t := 92) rfl (vF h33) (qk (ii (((fillL s c).getD []).getD k 0)) rfl (qq (t := 92) rfl (vF h33) (qZ rfl rfl (qq (t := 92) rfl (vF h33) (qk (.bool (decide ((((fillL s c).getD []).getD k 0 : Int) < 0))) rfl ?_)))))
 by_cases h37 : (((fillL s c).getD []).getD k 0 : Int) < 0
 ·refine qq (t := 95) rfl (vT h37) (qk (ii (((fillL s c).getD []).getD k 0)) rfl (qq (t := 95) rfl (vT h37) (qk (ii (((fillL s a).getD []).getD k 0)) rfl (qq (t := 95) rfl (vT h37) (qZ rfl rfl (qq (t := 92) rfl (vF h33) (qX (.bool (decide ((((fillL s c).getD []).getD k 0 : Int) < ((fillL s a).getD []).getD k 0))) (vT h37) rfl (cX (qR (.bool (decide ((((fillL s c).getD []).getD k 0 : Int) < ((fillL s a).getD []).getD k 0))) (vF h33) rfl (qh (.bool (decide ((((fillL s c).getD []).getD k 0 : Int) < ((fillL s a).getD []).getD k 0))) rfl (qb ?_)))))))))))
  refine qF (p := (((fillL s c).getD []).getD k 0 : Int) < ((fillL s a).getD []).getD k 0) rfl (fun h38 => ?_) (fun h38 => ?_)
  ·refine qc (qa (qf (ii (((fillL s c).getD []).getD k 0)) rfl (qh (ii (((fillL s c).getD []).getD k 0)) rfl (qb (qa (cX (qr [arv] qL qz rfl rfl (Rd.ownN [_, _] rfl rfl) (qf (x1) rfl (qf (ii ((k : Int))) rfl (cX (jJ <| ql (args := [.agg #[arv], x1, ii (k : Int)]) call174 rfl (l1Sub_spec (p := k) har hr1 (ho := (by first | exact oY | exact oX)) (hp := (by omega))) ?_)))))))))))
   rintro v9 _ _ _ ⟨rfl, hs9, rfl⟩
   refine ⟨_, _, rfl, fun F20 le20 hz9 => ?_⟩
   replace hsv := hsv.mono le20
   replace hf7 := hf7.mono le20
   have hf9 : IntsF F20 v9 ((sub ar ((fillL s a).getD []) k)) := intsH.fz (xs := (sub ar ((fillL s a).getD []) k)) hz9.fz
   refine qh (v9) rfl (qb (qc (qc (qa ?_))))
   have hdf : Dif ar a c s (((fillL s c).getD []).getD k 0) ((sub ar ((fillL s a).getD []) k)) := hI.difR hoa hoc hxA.1 hxC.1 oX oY ⟨hd.1, hd.2.1⟩ hpre hd.2.2 (by omega)
   have hdn := hdf.neg
   have hdg := hdf.ge
   have hul9 := termOk_len hdf.ok
   have hin : -1 - (((-1 - (((fillL s c).getD []).getD k 0)).toNat : Nat) : Int) = ((fillL s c).getD []).getD k 0 := by omega
   refine qf (v9) rfl (qf (ii (((fillL s c).getD []).getD k 0)) rfl (cX (ql (args := [v9, ii (((fillL s c).getD []).getD k 0)]) call206 rfl (l1Has_spec (n := ((fillL s c).getD []).getD k 0) hf9 (hbd := (by omega))) ?_)))
   rintro _ _ _ _ ⟨rfl, rfl, rfl⟩
   refine qb ?_
   refine qF (p := (((fillL s c).getD []).getD k 0) ∈ ((sub ar ((fillL s a).getD []) k))) rfl (fun h39 => ?_) (fun h39 => ?_)
   ·have hfN : uniB ar a c = false := hdf.occ h39
    refine qc (qa (cX (qY [sN] [sN] [(0, 1)] [] qo qG rfl (.cons rfl qI PlacesAre.nil) rfl CellsAre.nil (cX (qt [] _ [sN] qm rfl rfl rfl (qw rfl qC) rfl rfl rfl (qh (.bool (false)) rfl (qb (qx (qi (qs (qi (qs (qp (L' := L) [.agg #[sN], .bool (false)] (.tuple #[.agg #[sN], .bool (false)]) (.cell rfl (ja [sN] qK qm rfl (Rd.ownN [] rfl rfl)) (.tmp rfl .nil)) rfl (qg (qg (qg (qg (qg leG1 le1) le2) leG2) le17) le20) rF (sD (sD (sD sR))) ?_)))))))))))))
    exact ⟨_, [], by rw [hfN], SlOf.nilV, fun h => (by rw [hfN] at h; cases h), fun _ => rfl, rfl⟩
   have hno := h39
   refine qv (qc (qa (cX (qr [sv] qK qm rfl rfl (Rd.ownN [_] rfl rfl) (qf (ii (((fillL s c).getD []).getD k 0)) rfl (cX (qW ((-1) - (((fillL s c).getD []).getD k 0)) rfl rfl (by omega) (by omega) (qf (v9) rfl (cX (ql (args := [.agg #[sv], ii ((((-1) - (((fillL s c).getD []).getD k 0)).toNat : Nat) : Int), v9]) call234 (by rw [show ((((-1) - (((fillL s c).getD []).getD k 0)).toNat : Nat) : Int) = (-1) - (((fillL s c).getD []).getD k 0) from by omega]; rfl) (l5Bind_spec (i := ((-1) - (((fillL s c).getD []).getD k 0)).toNat) hsv hf9 (hsl := (hsl)) (hsb := (hsb)) (hi := (by omega)) (hun := (fun e => by rw [e] at hul9; simp at hul9)) (hul := (hul9.2)) (hsg := (fun k hk9 q hq => lk_geAll hI hk9 hq))) ?_))))))))))
   rintro _ F21 _ le21 ⟨x12, rfl, hr12, rfl⟩
   replace hsv := hsv.mono le21
   replace hf7 := hf7.mono le21
   refine qf (.tuple #[.agg #[x12], .bool (bindB s (-1 - ((((-1) - (((fillL s c).getD []).getD k 0)).toNat) : Int)) ((sub ar ((fillL s a).getD []) k)))]) rfl (cX (qH (.agg #[x12]) rfl rfl (cX (qH (.bool (bindB s (-1 - ((((-1) - (((fillL s c).getD []).getD k 0)).toNat) : Int)) ((sub ar ((fillL s a).getD []) k)))) rfl rfl (cX (jd [sN] qG rfl ?_))))))
   intro b13
   refine cX (qt [] _ [x12] qm rfl rfl rfl (qw (qP (RowsF.isSl hr12)) qC) rfl rfl rfl (qh (.bool (bindB s (-1 - ((((-1) - (((fillL s c).getD []).getD k 0)).toNat) : Int)) ((sub ar ((fillL s a).getD []) k)))) rfl (qb (qc (qc (qa (qf (.bool (bindB s (-1 - ((((-1) - (((fillL s c).getD []).getD k 0)).toNat) : Int)) ((sub ar ((fillL s a).getD []) k)))) rfl (cX (jh rfl (qb ?_))))))))))
   refine jk (t := !(bindB s (-1 - ((((-1) - (((fillL s c).getD []).getD k 0)).toNat) : Int)) ((sub ar ((fillL s a).getD []) k)))) rfl (fun h40 => ?_) (fun h40 => ?_)
   ·have hbn := Bool.not_inj (y := false) h40
    rw [hin] at hbn
    have hfN : uniB ar a c = false := hI.bindLong hdf hno hbn
    refine qc (qa (cX (qY [sN] [sN] [(0, 1)] [] qo qG rfl (.cons rfl qI PlacesAre.nil) rfl CellsAre.nil (cX (qt [_] _ [sN] qm rfl rfl rfl (qw rfl qC) rfl rfl rfl (qh (.bool (false)) rfl (qb (qx (qi (qs (qi (qs (qp (L' := L) [.agg #[sN], .bool (false)] (.tuple #[.agg #[sN], .bool (false)]) (.cell rfl (ja [sN] qK qm rfl (Rd.ownN [_] rfl rfl)) (.tmp rfl .nil)) rfl (qg (qg (qg (qg (qg (qg leG1 le1) le2) leG2) le17) le20) le21) rF (sD (sD (sD (sD sR)))) ?_)))))))))))))
    exact ⟨_, [], by rw [hfN], SlOf.nilV, fun h => (by rw [hfN] at h; cases h), fun _ => rfl, rfl⟩
   have hbn := Bool.not_inj (y := true) h40
   have hby := hbn
   rw [hin] at hbn
   refine qv (qa (cX (qr [x12] qK qm rfl rfl (Rd.ownN [] rfl rfl) (cX (qt [_, _] _ [x12] qm rfl rfl rfl (qw (qP (RowsF.isSl hr12)) qC) rfl rfl rfl (qb ?_))))))
   exact ⟨(x12, bindR s (-1 - (((-1 - (((fillL s c).getD []).getD k 0)).toNat : Nat) : Int)) ((sub ar ((fillL s a).getD []) k)), F21), _, (qg (qg (qg (qg (qg (qg leG1 le1) le2) leG2) le17) le20) le21), rF, ⟨rfl, rfl, rfl, rfl, rfl, ⟨⟩⟩, (sD (sC (sC (sC sR)))), ⟨rfl, (qg (qg (qg (qg (qg (qg leG1 le1) le2) leG2) le17) le20) le21), (by have h9 := hr12; rw [if_pos hby] at h9; exact h9), (by (try dsimp only); rw [hin]; exact hI.bind hdf hno hbn)⟩, (by (try dsimp only); rw [hin]; exact hI.less hdf)⟩
  refine qv (qc (qc (qa ?_)))
  have hdf : Dif ar a c s (((fillL s a).getD []).getD k 0) ((sub ar ((fillL s c).getD []) k)) := hI.difL hoa hoc hxA.1 hxC.1 oX oY ⟨hd.1, hd.2.1⟩ hpre hd.2.2 (by omega)
  have hdn := hdf.neg
  have hdg := hdf.ge
  have hul9 := termOk_len hdf.ok
  have hin : -1 - (((-1 - (((fillL s a).getD []).getD k 0)).toNat : Nat) : Int) = ((fillL s a).getD []).getD k 0 := by omega
  refine qf (v7) rfl (qf (ii (((fillL s a).getD []).getD k 0)) rfl (cX (ql (args := [v7, ii (((fillL s a).getD []).getD k 0)]) call206 rfl (l1Has_spec (n := ((fillL s a).getD []).getD k 0) hf7 (hbd := (by omega))) ?_)))
  rintro _ _ _ _ ⟨rfl, rfl, rfl⟩
  refine qb ?_
  refine qF (p := (((fillL s a).getD []).getD k 0) ∈ ((sub ar ((fillL s c).getD []) k))) rfl (fun h41 => ?_) (fun h41 => ?_)
  ·have hfN : uniB ar a c = false := hdf.occ h41
   refine qc (qa (cX (qY [sN] [sN] [(0, 1)] [] qo qG rfl (.cons rfl qI PlacesAre.nil) rfl CellsAre.nil (cX (qt [] _ [sN] qm rfl rfl rfl (qw rfl qC) rfl rfl rfl (qh (.bool (false)) rfl (qb (qx (qi (qs (qi (qs (qp (L' := L) [.agg #[sN], .bool (false)] (.tuple #[.agg #[sN], .bool (false)]) (.cell rfl (ja [sN] qK qm rfl (Rd.ownN [] rfl rfl)) (.tmp rfl .nil)) rfl (qg (qg (qg (qg leG1 le1) le2) leG2) le17) rF (sD (sD (sD sR))) ?_)))))))))))))
   exact ⟨_, [], by rw [hfN], SlOf.nilV, fun h => (by rw [hfN] at h; cases h), fun _ => rfl, rfl⟩
  have hno := h41
  refine qv (qc (qa (cX (qr [sv] qK qm rfl rfl (Rd.ownN [_] rfl rfl) (qf (ii (((fillL s a).getD []).getD k 0)) rfl (cX (qW ((-1) - (((fillL s a).getD []).getD k 0)) rfl rfl (by omega) (by omega) (qf (v7) rfl (cX (ql (args := [.agg #[sv], ii ((((-1) - (((fillL s a).getD []).getD k 0)).toNat : Nat) : Int), v7]) call234 (by rw [show ((((-1) - (((fillL s a).getD []).getD k 0)).toNat : Nat) : Int) = (-1) - (((fillL s a).getD []).getD k 0) from by omega]; rfl) (l5Bind_spec (i := ((-1) - (((fillL s a).getD []).getD k 0)).toNat) hsv hf7 (hsl := (hsl)) (hsb := (hsb)) (hi := (by omega)) (hun := (fun e => by rw [e] at hul9; simp at hul9)) (hul := (hul9.2)) (hsg := (fun k hk9 q hq => lk_geAll hI hk9 hq))) ?_))))))))))
  rintro _ F22 _ le22 ⟨x13, rfl, hr13, rfl⟩
  replace hsv := hsv.mono le22
  replace hf7 := hf7.mono le22
  refine qf (.tuple #[.agg #[x13], .bool (bindB s (-1 - ((((-1) - (((fillL s a).getD []).getD k 0)).toNat) : Int)) ((sub ar ((fillL s c).getD []) k)))]) rfl (cX (qH (.agg #[x13]) rfl rfl (cX (qH (.bool (bindB s (-1 - ((((-1) - (((fillL s a).getD []).getD k 0)).toNat) : Int)) ((sub ar ((fillL s c).getD []) k)))) rfl rfl (cX (jd [sN] qG rfl ?_))))))
  intro b14
  refine cX (qt [] _ [x13] qm rfl rfl rfl (qw (qP (RowsF.isSl hr13)) qC) rfl rfl rfl (qh (.bool (bindB s (-1 - ((((-1) - (((fillL s a).getD []).getD k 0)).toNat) : Int)) ((sub ar ((fillL s c).getD []) k)))) rfl (qb (qc (qc (qa (qf (.bool (bindB s (-1 - ((((-1) - (((fillL s a).getD []).getD k 0)).toNat) : Int)) ((sub ar ((fillL s c).getD []) k)))) rfl (cX (jh rfl (qb ?_))))))))))
  refine jk (t := !(bindB s (-1 - ((((-1) - (((fillL s a).getD []).getD k 0)).toNat) : Int)) ((sub ar ((fillL s c).getD []) k)))) rfl (fun h42 => ?_) (fun h42 => ?_)
  ·have hbn := Bool.not_inj (y := false) h42
   rw [hin] at hbn
   have hfN : uniB ar a c = false := hI.bindLong hdf hno hbn
   refine qc (qa (cX (qY [sN] [sN] [(0, 1)] [] qo qG rfl (.cons rfl qI PlacesAre.nil) rfl CellsAre.nil (cX (qt [_] _ [sN] qm rfl rfl rfl (qw rfl qC) rfl rfl rfl (qh (.bool (false)) rfl (qb (qx (qi (qs (qi (qs (qp (L' := L) [.agg #[sN], .bool (false)] (.tuple #[.agg #[sN], .bool (false)]) (.cell rfl (ja [sN] qK qm rfl (Rd.ownN [_] rfl rfl)) (.tmp rfl .nil)) rfl (qg (qg (qg (qg (qg leG1 le1) le2) leG2) le17) le22) rF (sD (sD (sD (sD sR)))) ?_)))))))))))))
   exact ⟨_, [], by rw [hfN], SlOf.nilV, fun h => (by rw [hfN] at h; cases h), fun _ => rfl, rfl⟩
  have hbn := Bool.not_inj (y := true) h42
  have hby := hbn
  rw [hin] at hbn
  refine qv (qa (cX (qr [x13] qK qm rfl rfl (Rd.ownN [] rfl rfl) (cX (qt [_, _] _ [x13] qm rfl rfl rfl (qw (qP (RowsF.isSl hr13)) qC) rfl rfl rfl (qb ?_))))))
  exact ⟨(x13, bindR s (-1 - (((-1 - (((fillL s a).getD []).getD k 0)).toNat : Nat) : Int)) ((sub ar ((fillL s c).getD []) k)), F22), _, (qg (qg (qg (qg (qg leG1 le1) le2) leG2) le17) le22), rF, ⟨rfl, rfl, rfl, rfl, rfl, ⟨⟩⟩, (sD (sC (sC (sC sR)))), ⟨rfl, (qg (qg (qg (qg (qg leG1 le1) le2) leG2) le17) le22), (by have h9 := hr13; rw [if_pos hby] at h9; exact h9), (by (try dsimp only); rw [hin]; exact hI.bind hdf hno hbn)⟩, (by (try dsimp only); rw [hin]; exact hI.less hdf)⟩
 refine qu (t := 95) rfl (vF h37) (qu (t := 95) rfl (vF h37) (qu (t := 95) rfl (vF h37) (qq (t := 92) rfl (vF h33) (qR (.bool (false)) (vF h37) rfl (cX (qR (.bool (false)) (vF h33) rfl (qh (.bool (false)) rfl (qb (jx rfl (qv (qc (qc (qa ?_)))))))))))))
 have hdf : Dif ar a c s (((fillL s a).getD []).getD k 0) ((sub ar ((fillL s c).getD []) k)) := hI.difL hoa hoc hxA.1 hxC.1 oX oY ⟨hd.1, hd.2.1⟩ hpre hd.2.2 (by omega)
 have hdn := hdf.neg
 have hdg := hdf.ge
 have hul9 := termOk_len hdf.ok
 have hin : -1 - (((-1 - (((fillL s a).getD []).getD k 0)).toNat : Nat) : Int) = ((fillL s a).getD []).getD k 0 := by omega
 refine qf (v7) rfl (qf (ii (((fillL s a).getD []).getD k 0)) rfl (cX (ql (args := [v7, ii (((fillL s a).getD []).getD k 0)]) call206 rfl (l1Has_spec (n := ((fillL s a).getD []).getD k 0) hf7 (hbd := (by omega))) ?_)))
 rintro _ _ _ _ ⟨rfl, rfl, rfl⟩
 refine qb ?_
 refine qF (p := (((fillL s a).getD []).getD k 0) ∈ ((sub ar ((fillL s c).getD []) k))) rfl (fun h43 => ?_) (fun h43 => ?_)
 ·have hfN : uniB ar a c = false := hdf.occ h43
  refine qc (qa (cX (qY [sN] [sN] [(0, 1)] [] qo qG rfl (.cons rfl qI PlacesAre.nil) rfl CellsAre.nil (cX (qt [] _ [sN] qm rfl rfl rfl (qw rfl qC) rfl rfl rfl (qh (.bool (false)) rfl (qb (qx (qi (qs (qi (qs (qp (L' := L) [.agg #[sN], .bool (false)] (.tuple #[.agg #[sN], .bool (false)]) (.cell rfl (ja [sN] qK qm rfl (Rd.ownN [] rfl rfl)) (.tmp rfl .nil)) rfl (qg (qg (qg (qg leG1 le1) le2) leG2) le17) rF (sD (sD (sD sR))) ?_)))))))))))))
  exact ⟨_, [], by rw [hfN], SlOf.nilV, fun h => (by rw [hfN] at h; cases h), fun _ => rfl, rfl⟩
 have hno := h43
 refine qv (qc (qa (cX (qr [sv] qK qm rfl rfl (Rd.ownN [_] rfl rfl) (qf (ii (((fillL s a).getD []).getD k 0)) rfl (cX (qW ((-1) - (((fillL s a).getD []).getD k 0)) rfl rfl (by omega) (by omega) (qf (v7) rfl (cX (ql (args := [.agg #[sv], ii ((((-1) - (((fillL s a).getD []).getD k 0)).toNat : Nat) : Int), v7]) call234 (by rw [show ((((-1) - (((fillL s a).getD []).getD k 0)).toNat : Nat) : Int) = (-1) - (((fillL s a).getD []).getD k 0) from by omega]; rfl) (l5Bind_spec (i := ((-1) - (((fillL s a).getD []).getD k 0)).toNat) hsv hf7 (hsl := (hsl)) (hsb := (hsb)) (hi := (by omega)) (hun := (fun e => by rw [e] at hul9; simp at hul9)) (hul := (hul9.2)) (hsg := (fun k hk9 q hq => lk_geAll hI hk9 hq))) ?_))))))))))
 rintro _ F23 _ le23 ⟨x14, rfl, hr14, rfl⟩
 refine qf (.tuple #[.agg #[x14], .bool (bindB s (-1 - ((((-1) - (((fillL s a).getD []).getD k 0)).toNat) : Int)) ((sub ar ((fillL s c).getD []) k)))]) rfl (cX (qH (.agg #[x14]) rfl rfl (cX (qH (.bool (bindB s (-1 - ((((-1) - (((fillL s a).getD []).getD k 0)).toNat) : Int)) ((sub ar ((fillL s c).getD []) k)))) rfl rfl (cX (jd [sN] qG rfl ?_))))))
 intro b15
 refine cX (qt [] _ [x14] qm rfl rfl rfl (qw (qP (RowsF.isSl hr14)) qC) rfl rfl rfl (qh (.bool (bindB s (-1 - ((((-1) - (((fillL s a).getD []).getD k 0)).toNat) : Int)) ((sub ar ((fillL s c).getD []) k)))) rfl (qb (qc (qc (qa (qf (.bool (bindB s (-1 - ((((-1) - (((fillL s a).getD []).getD k 0)).toNat) : Int)) ((sub ar ((fillL s c).getD []) k)))) rfl (cX (jh rfl (qb ?_))))))))))
 refine jk (t := !(bindB s (-1 - ((((-1) - (((fillL s a).getD []).getD k 0)).toNat) : Int)) ((sub ar ((fillL s c).getD []) k)))) rfl (fun h44 => ?_) (fun h44 => ?_)
 ·have hbn := Bool.not_inj (y := false) h44
  rw [hin] at hbn
  have hfN : uniB ar a c = false := hI.bindLong hdf hno hbn
  refine qc (qa (cX (qY [sN] [sN] [(0, 1)] [] qo qG rfl (.cons rfl qI PlacesAre.nil) rfl CellsAre.nil (cX (qt [_] _ [sN] qm rfl rfl rfl (qw rfl qC) rfl rfl rfl (qh (.bool (false)) rfl (qb (qx (qi (qs (qi (qs (qp (L' := L) [.agg #[sN], .bool (false)] (.tuple #[.agg #[sN], .bool (false)]) (.cell rfl (ja [sN] qK qm rfl (Rd.ownN [_] rfl rfl)) (.tmp rfl .nil)) rfl (qg (qg (qg (qg (qg leG1 le1) le2) leG2) le17) le23) rF (sD (sD (sD (sD sR)))) ?_)))))))))))))
  exact ⟨_, [], by rw [hfN], SlOf.nilV, fun h => (by rw [hfN] at h; cases h), fun _ => rfl, rfl⟩
 have hbn := Bool.not_inj (y := true) h44
 have hby := hbn
 rw [hin] at hbn
 refine qv (qa (cX (qr [x14] qK qm rfl rfl (Rd.ownN [] rfl rfl) (cX (qt [_, _] _ [x14] qm rfl rfl rfl (qw (qP (RowsF.isSl hr14)) qC) rfl rfl rfl (qb ?_))))))
 exact ⟨(x14, bindR s (-1 - (((-1 - (((fillL s a).getD []).getD k 0)).toNat : Nat) : Int)) ((sub ar ((fillL s c).getD []) k)), F23), _, (qg (qg (qg (qg (qg leG1 le1) le2) leG2) le17) le23), rF, ⟨rfl, rfl, rfl, rfl, rfl, ⟨⟩⟩, (sD (sC (sC (sC sR)))), ⟨rfl, (qg (qg (qg (qg (qg leG1 le1) le2) leG2) le17) le23), (by have h9 := hr14; rw [if_pos hby] at h9; exact h9), (by (try dsimp only); rw [hin]; exact hI.bind hdf hno hbn)⟩, (by (try dsimp only); rw [hin]; exact hI.less hdf)⟩

/- spec.Unified -/
set_option maxRecDepth 20000 in
theorem sUnified_spec {F : FH} {L : List HP} {arv : Value} {ar : List Int} (har : IntsF F arv ar) {av : Value} {a : List Int} (ha : IntsF F av a) {cv : Value} {c : List Int} (hc : IntsF F cv c) (hoa : termOk ar a = true) (hoc : termOk ar c = true) :
    Does prog 144 [.agg #[arv], av, cv] F (L) (fun v F' L' => ∃ (x : Value), ∃ (s : RowL), (.tuple #[.agg #[x], .bool (uniB ar a c)] : Value) = v ∧ (RowsF F' x s) ∧ (uniB ar a c = true → UniR ar a c s) ∧ (uniB ar a c = false → s = []) ∧ L = L') := by
 refine qM func144 rfl rfl rfl ?_
 have hga := fun k (hk : k < a.length) => termOk_ge hoa hk
 have hla := termOk_len hoa
 have hgma := (termOk_iff.1 hoa).ge
 have hbra := beh_range hgma
 have hgc := fun k (hk : k < c.length) => termOk_ge hoc hk
 have hlc := termOk_len hoc
 have hgmc := (termOk_iff.1 hoc).ge
 have hbrc := beh_range hgmc
 have hsga := sigOk_spec (termOk_sig hoa)
 refine qc (qa (cX (jg [arv] rfl rfl ?_)))
 intro b1
 refine cX (jd [sN] qG rfl ?_)
 intro b2
 refine qh (.bool (false)) rfl (qb (qc (qc (qa (cX (qr [arv] qL qz rfl rfl (Rd.ownN [_] rfl rfl) (qf (av) rfl (cX (ql (args := [.agg #[arv], av]) call81 rfl (sTermOk_spec har ha (hla := (by first | assumption | rfl | omega | simp)) (hlt := (by first | assumption | rfl | omega | simp))) ?_)))))))))
 rintro _ _ _ _ ⟨rfl, rfl, rfl⟩
 refine cX (jh rfl (qf (.bool (!(termOk ar a))) rfl ?_))
 by_cases h1 : (!(termOk ar a)) = true
 ·exact absurd h1 (by first | (rw [hoa]; simp) | (rw [hoc]; simp))
 rw [Bool.not_eq_true] at h1
 refine qq (t := 14) rfl (vB h1) (qr [arv] qL qz rfl rfl (Rd.ownN [_] rfl rfl) (qq (t := 14) rfl (vB h1) (qk (cv) rfl (qq (t := 14) rfl (vB h1) (ql (args := [.agg #[arv], cv]) call81 rfl (sTermOk_spec har hc (hla := (by first | assumption | rfl | omega | simp)) (hlt := (by first | assumption | rfl | omega | simp))) ?_)))))
 rintro _ _ _ _ ⟨rfl, rfl, rfl⟩
 refine qq (t := 14) rfl (vB h1) (jh rfl (cX (qR (.bool (!(termOk ar c))) (vB h1) rfl (qb ?_))))
 refine jk (t := !(termOk ar c)) rfl (fun h2 => ?_) (fun h2 => ?_)
 ·exact absurd h2 (by first | (rw [hoa]; simp) | (rw [hoc]; simp))
 refine qv (qc (qa (cX (qr [arv] qL qz rfl rfl (Rd.ownN [_] rfl rfl) (cX (qY [sN] [sN] [(0, 1)] [] qo qG rfl (.cons rfl qI PlacesAre.nil) rfl CellsAre.nil (qf (av) rfl (qf (cv) rfl (cX (ql (args := [.agg #[arv], .agg #[sN], av, cv]) call205 rfl (l5Unify_spec har ((SlOf.nilV : RowsF _ _ _)) ha hc (hoa := (by first | assumption | rfl | omega | simp)) (hoc := (by first | assumption | rfl | omega | simp)) (hze := (rfl))) ?_))))))))))
 rintro _ F1 _ le1 ⟨x1, x2, rfl, hr1, hr2, hr3, rfl⟩
 refine qf (.tuple #[.agg #[x1], .bool (uniB ar a c)]) rfl (cX (qH (.agg #[x1]) rfl rfl (cX (qH (.bool (uniB ar a c)) rfl rfl (cX (jd [sN] qG rfl ?_))))))
 intro b3
 refine cX (qt [] _ [x1] qm rfl rfl rfl (qw (qP (RowsF.isSl hr1)) qC) rfl rfl rfl (qh (.bool (uniB ar a c)) rfl (qb (qc (qc (qa (qf (.bool (uniB ar a c)) rfl (cX (jh rfl (qb ?_))))))))))
 refine jk (t := !(uniB ar a c)) rfl (fun h3 => ?_) (fun h3 => ?_)
 ·have hfN : uniB ar a c = false := Bool.not_inj (y := false) h3
  refine qc (qa (cX (qY [sN] [sN] [(0, 1)] [] qo qG rfl (.cons rfl qI PlacesAre.nil) rfl CellsAre.nil (cX (qt [_] _ [sN] qm rfl rfl rfl (qw rfl qC) rfl rfl rfl (qh (.bool (false)) rfl (qb (qx (qi (qp (L' := L) [.agg #[sN], .bool (false)] (.tuple #[.agg #[sN], .bool (false)]) (.cell rfl (ja [sN] qK qm rfl (Rd.ownN [_] rfl rfl)) (.tmp rfl .nil)) rfl le1 rF (sD (sD (sD sR))) ?_))))))))))
  exact ⟨_, [], by rw [hfN], SlOf.nilV, fun h => (by rw [hfN] at h; cases h), fun _ => rfl, rfl⟩
 have hfY : uniB ar a c = true := Bool.not_inj (y := true) h3
 have hUR := hr2 hfY
 have hsb := hUR.bound
 have hsl := hUR.len
 refine qv (qc (qa (cX (qr [x1] qK qm rfl rfl (Rd.ownN [] rfl rfl) (cX (ql (args := [.agg #[x1]]) call186 rfl (l2Plain_spec hr1 (hsl := (hsl)) (hsb := (fun i => by have := hsb i; omega))) ?_))))))
 rintro _ F2 _ le2 ⟨x3, rfl, hr4, rfl⟩
 refine cX (qt [_] _ [x3] qm rfl rfl rfl (qw (qP (RowsF.isSl hr4)) qC) rfl rfl rfl (qh (.bool (true)) rfl (qb (qx (qp (L' := L) [.agg #[x3], .bool (true)] (.tuple #[.agg #[x3], .bool (true)]) (.cell rfl (ja [x3] qK qm rfl (Rd.ownN [_] rfl rfl)) (.tmp rfl .nil)) rfl (qg le1 le2) rF (sD (sD (sD sR))) ?_)))))
 exact ⟨_, _, by rw [hfY], hr4, fun _ => hUR.plain, fun h => (by rw [hfY] at h; cases h), rfl⟩

/- spec.UnifiedApart -/
set_option maxRecDepth 20000 in
theorem sUnifiedApart_spec {F : FH} {L : List HP} {arv : Value} {ar : List Int} (har : IntsF F arv ar) {av : Value} {a : List Int} (ha : IntsF F av a) {cv : Value} {c : List Int} (hc : IntsF F cv c) (hla : ar.length ≤ 4000000) (hlta : a.length ≤ 4000000) (hltc : c.length ≤ 4000000) :
    Does prog 76 [.agg #[arv], av, cv] F (L) (fun v F' L' => ∃ (x : Value), ∃ (s : RowL), (.tuple #[.agg #[x], .bool (apartB ar a c)] : Value) = v ∧ (RowsF F' x s) ∧ (apartB ar a c = true → UniR ar a (shiftL c (behL a)) s) ∧ (apartB ar a c = false → s = []) ∧ L = L') := by
 refine qM func76 rfl rfl rfl (qc (qa (cX (jg [arv] rfl rfl ?_))))
 intro b1
 refine cX (jd [sN] qG rfl ?_)
 intro b2
 refine qh (.bool (false)) rfl (qb (qc (qc (qa (cX (qr [arv] qL qz rfl rfl (Rd.ownN [_] rfl rfl) (qf (av) rfl (cX (ql (args := [.agg #[arv], av]) call81 rfl (sTermOk_spec har ha (hla := (by first | assumption | rfl | omega | simp)) (hlt := (by first | assumption | rfl | omega | simp))) ?_)))))))))
 rintro _ _ _ _ ⟨rfl, rfl, rfl⟩
 refine cX (jh rfl (qb ?_))
 refine jk (t := !(termOk ar a)) rfl (fun h1 => ?_) (fun h1 => ?_)
 ·have hoa : termOk ar a = false := Bool.not_inj (y := false) h1
  refine qc (qa (cX (qY [sN] [sN] [(0, 1)] [] qo qG rfl (.cons rfl qI PlacesAre.nil) rfl CellsAre.nil (cX (qt [] _ [sN] qm rfl rfl rfl (qw rfl qC) rfl rfl rfl (qh (.bool (false)) rfl (qb (qx (qi (qp (L' := L) [.agg #[sN], .bool (false)] (.tuple #[.agg #[sN], .bool (false)]) (.cell rfl (ja [sN] qK qm rfl (Rd.ownN [] rfl rfl)) (.tmp rfl .nil)) rfl rF rF (sD (sD sR)) ?_))))))))))
  have e9 : apartB ar a c = false := by unfold apartB; rw [hoa]; rfl
  exact ⟨_, [], by rw [e9], SlOf.nilV, fun h => (by rw [e9] at h; cases h), fun _ => rfl, rfl⟩
 have hoa : termOk ar a = true := Bool.not_inj (y := true) h1
 have hga := fun k (hk : k < a.length) => termOk_ge hoa hk
 have hla := termOk_len hoa
 have hgma := (termOk_iff.1 hoa).ge
 have hbra := beh_range hgma
 have hlt0a := termOk_lt hoa (p := 0) (by omega)
 have hsga := sigOk_spec (termOk_sig hoa)
 refine qv (qc ?_)
 refine X.drawG [cellsH b2 [sN] 50, cellsH b1 [arv] 29] L 9 [[], [], [], [], [], [4], [4], [], [4]] [[], [], [], [2], [0, 1, 3], [4], [4, 5], [4, 5], [4, 6]] [] (phiG [pe (.agg #[arv]), pe cv, pe av, pe (ii (behL a)), fun FF us v => (.tuple #[((tupAt v 0)), .bool (((termOk ar c && decide (0 ≤ (behL a) ∧ (behL a) ≤ 24)) && shiftB c (behL a)))] : Value) = v ∧ (IntsF FF ((tupAt v 0)) (if (termOk ar c && decide (0 ≤ (behL a) ∧ (behL a) ≤ 24)) = true ∧ shiftB c (behL a) = true then shiftL c (behL a) else [])), fun FF us v => v = (.tuple #[((tupAt (us.getD 0 undef) 0)), .bool (((termOk ar c && decide (0 ≤ (behL a) ∧ (behL a) ≤ 24)) && shiftB c (behL a)))] : Value), fun FF us v => v = ((tupAt (us.getD 0 undef) 0)), pe (.bool (((termOk ar c && decide (0 ≤ (behL a) ∧ (behL a) ≤ 24)) && shiftB c (behL a)))), fun FF us v => v = ((tupAt (us.getD 0 undef) 0))]) (ownL []) mixed rfl rfl (by kernel_rfl) (by kernel_rfl) (MonoG.get (m1 (m1 (m1 (m1 (mC (fun le h => ⟨h.1, h.2.mono le⟩) (mC (fun le h => h) (mC (fun le h => h) (m1 (mC (fun le h => h) MonoG.nil)))))))))) ?_ ?_
 ·refine gD (fun W Fs R lF z9 => ?_) ?_
  ·replace har := har.mono lF
   replace ha := ha.mono lF
   replace hc := hc.mono lF
   refine qj (qr [arv] qL qz rfl rfl (Rd.ownN [_] rfl rfl) ?_)
   exact ⟨rfl, rfl⟩
  refine gD (fun W Fs R lF z9 => ?_) ?_
  ·refine qj (qk (cv) rfl ?_)
   exact ⟨rfl, rfl⟩
  refine gD (fun W Fs R lF z9 => ?_) ?_
  ·refine qj (qk (av) rfl ?_)
   exact ⟨rfl, rfl⟩
  refine gD (fun W Fs R lF z9 => ?_) ?_
  ·replace har := har.mono lF
   replace ha := ha.mono lF
   replace hc := hc.mono lF
   rw [eS (l := [(2, _)]) ⟨z9 2 rfl, ⟨⟩⟩]
   refine qj (ql (args := [av]) call82 rfl (l5Behind_spec ha (hlt := (by omega)) (htg := (hga)) (htu := (fun k hk => by have := termOk_lt hoa hk; omega)) (hgm := (hgma))) ?_)
   rintro _ _ _ _ ⟨rfl, rfl, rfl⟩
   exact ⟨rfl, rfl⟩
  refine gD (fun W Fs R lF z9 => ?_) ?_
  ·replace har := har.mono lF
   replace ha := ha.mono lF
   replace hc := hc.mono lF
   rw [eS (l := [(0, _), (1, _), (3, _)]) ⟨z9 0 rfl, z9 1 rfl, z9 3 rfl, ⟨⟩⟩]
   refine qj (ql (args := [.agg #[arv], cv, ii (behL a)]) call143 rfl (sShifted_spec (n := behL a) har hc (hla := (by omega)) (hlt := (by omega))) ?_)
   rintro _ F2 _ le2 ⟨x2, rfl, hr2, rfl⟩
   replace har := har.mono le2
   replace ha := ha.mono le2
   exact ⟨⟨rfl, hr2⟩, rfl⟩
  refine gD (fun W Fs R lF z9 => ?_) ?_
  ·obtain ⟨e4, f4_1hr⟩ := z9 4 rfl
   rw [eS (l := [(4, (.tuple #[((tupAt (W 4) 0)), .bool (((termOk ar c && decide (0 ≤ (behL a) ∧ (behL a) ≤ 24)) && shiftB c (behL a)))]))]) ⟨(e4).symm, ⟨⟩⟩]
   refine qj (qk (.tuple #[((tupAt (W 4) 0)), .bool (((termOk ar c && decide (0 ≤ (behL a) ∧ (behL a) ≤ 24)) && shiftB c (behL a)))]) rfl ?_)
   exact ⟨rfl, rfl⟩
  refine gD (fun W Fs R lF z9 => ?_) ?_
  ·obtain ⟨e4, f4_1hr⟩ := z9 4 rfl
   have e5 : W 5 = (.tuple #[((tupAt (W 4) 0)), .bool (((termOk ar c && decide (0 ≤ (behL a) ∧ (behL a) ≤ 24)) && shiftB c (behL a)))] : Value) := z9 5 rfl
   rw [eS (l := [(4, (.tuple #[((tupAt (W 4) 0)), .bool (((termOk ar c && decide (0 ≤ (behL a) ∧ (behL a) ≤ 24)) && shiftB c (behL a)))])), (5, (.tuple #[((tupAt (W 4) 0)), .bool (((termOk ar c && decide (0 ≤ (behL a) ∧ (behL a) ≤ 24)) && shiftB c (behL a)))]))]) ⟨(e4).symm, e5, ⟨⟩⟩]
   refine qj (qH (((tupAt (W 4) 0))) rfl rfl ?_)
   exact ⟨rfl, rfl⟩
  refine gD (fun W Fs R lF z9 => ?_) ?_
  ·obtain ⟨e4, f4_1hr⟩ := z9 4 rfl
   have e5 : W 5 = (.tuple #[((tupAt (W 4) 0)), .bool (((termOk ar c && decide (0 ≤ (behL a) ∧ (behL a) ≤ 24)) && shiftB c (behL a)))] : Value) := z9 5 rfl
   rw [eS (l := [(4, (.tuple #[((tupAt (W 4) 0)), .bool (((termOk ar c && decide (0 ≤ (behL a) ∧ (behL a) ≤ 24)) && shiftB c (behL a)))])), (5, (.tuple #[((tupAt (W 4) 0)), .bool (((termOk ar c && decide (0 ≤ (behL a) ∧ (behL a) ≤ 24)) && shiftB c (behL a)))]))]) ⟨(e4).symm, e5, ⟨⟩⟩]
   refine qj (qH (.bool (((termOk ar c && decide (0 ≤ (behL a) ∧ (behL a) ≤ 24)) && shiftB c (behL a)))) rfl rfl ?_)
   exact ⟨rfl, rfl⟩
  refine gD (fun W Fs R lF z9 => ?_) ?_
  ·obtain ⟨e4, f4_1hr⟩ := z9 4 rfl
   have e6 : W 6 = ((tupAt (W 4) 0)) := z9 6 rfl
   rw [eS (l := [(4, (.tuple #[((tupAt (W 4) 0)), .bool (((termOk ar c && decide (0 ≤ (behL a) ∧ (behL a) ≤ 24)) && shiftB c (behL a)))])), (6, ((tupAt (W 4) 0)))]) ⟨(e4).symm, e6, ⟨⟩⟩]
   refine qj (XOp.assign (((tupAt (W 4) 0))) rfl ?_)
   exact ⟨rfl, rfl⟩
  exact stepsG.nil
 intro W F3 le3 hphi
 obtain ⟨e4, f4_1hr⟩ := hphi 4 (by decide)
 have e5 : W 5 = (.tuple #[((tupAt (W 4) 0)), .bool (((termOk ar c && decide (0 ≤ (behL a) ∧ (behL a) ≤ 24)) && shiftB c (behL a)))] : Value) := hphi 5 (by decide)
 have e6 : W 6 = ((tupAt (W 4) 0)) := hphi 6 (by decide)
 have e8 : W 8 = ((tupAt (W 4) 0)) := hphi 8 (by decide)
 generalize hu1 : ((tupAt (W 4) 0)) = u1 at e4 f4_1hr e5 e6 e8
 rw [eS (l := [(4, (.tuple #[u1, .bool (((termOk ar c && decide (0 ≤ (behL a) ∧ (behL a) ≤ 24)) && shiftB c (behL a)))])), (7, _), (8, u1)]) ⟨(e4).symm, (hphi 7 (by decide)), e8, ⟨⟩⟩]
 replace har := har.mono le3
 replace ha := ha.mono le3
 show XL _ _ _ _ _ _ _ (cellsH b2 [sN] 50 :: cellsH b1 [arv] 29 :: L)
 refine qh (.bool (((termOk ar c && decide (0 ≤ (behL a) ∧ (behL a) ≤ 24)) && shiftB c (behL a)))) rfl (qb (qc (qc (qa (qf (.bool (((termOk ar c && decide (0 ≤ (behL a) ∧ (behL a) ≤ 24)) && shiftB c (behL a)))) rfl (cX (jh rfl (qb ?_))))))))
 refine jk (t := !(((termOk ar c && decide (0 ≤ (behL a) ∧ (behL a) ≤ 24)) && shiftB c (behL a)))) rfl (fun h2 => ?_) (fun h2 => ?_)
 ·have hsN := Bool.not_inj (y := false) h2
  have hapN : apartB ar a c = false := by unfold apartB; rw [hoa]; cases hC : termOk ar c <;> simp_all
  refine qc (qa (cX (qY [sN] [sN] [(0, 1)] [] qo qG rfl (.cons rfl qI PlacesAre.nil) rfl CellsAre.nil (cX (qt [] _ [sN] qm rfl rfl rfl (qw rfl qC) rfl rfl rfl (qh (.bool (false)) rfl (qb (qx (qi (qp (L' := L) [.agg #[sN], .bool (false)] (.tuple #[.agg #[sN], .bool (false)]) (.cell rfl (ja [sN] qK qm rfl (Rd.ownN [] rfl rfl)) (.tmp rfl .nil)) rfl le3 rF (sD (sD sR)) ?_))))))))))
  have e9 : apartB ar a c = false := hapN
  exact ⟨_, [], by rw [e9], SlOf.nilV, fun h => (by rw [e9] at h; cases h), fun _ => rfl, rfl⟩
 have hsY := Bool.not_inj (y := true) h2
 have hsY2 := hsY
 simp only [Bool.and_eq_true, decide_eq_true_eq] at hsY2
 have hoc := hsY2.1.1
 have hsh := hsY2.2
 have hoc2 := shift_ok hbra.1 hoc hsh
 have hap : apartB ar a c = uniB ar a (shiftL c (behL a)) := by unfold apartB; rw [hoa, hoc, hsh]; rfl
 refine qv (qc (qa (cX (qr [arv] qL qz rfl rfl (Rd.ownN [_] rfl rfl) (qf (av) rfl (qf (u1) rfl (cX (ql (args := [.agg #[arv], av, u1]) call144 rfl (sUnified_spec har ha f4_1hr (hoa := (hoa)) (hoc := (by rw [if_pos (by exact ⟨hsY2.1 |> fun x => by simp [x.1, x.2], hsh⟩)]; exact hoc2))) ?_))))))))
 rintro _ F4 _ le4 ⟨x3, x4, rfl, hr3, hr4, hr5, rfl⟩
 refine cX (qH (.agg #[x3]) rfl rfl (cX (qH (.bool (uniB ar a ((if (termOk ar c && decide (0 ≤ (behL a) ∧ (behL a) ≤ 24)) = true ∧ shiftB c (behL a) = true then shiftL c (behL a) else [])))) rfl rfl (cX (qt [] _ [x3] qm rfl rfl rfl (qw (qP (RowsF.isSl hr3)) qC) rfl rfl rfl (qh (.bool (uniB ar a ((if (termOk ar c && decide (0 ≤ (behL a) ∧ (behL a) ≤ 24)) = true ∧ shiftB c (behL a) = true then shiftL c (behL a) else [])))) rfl (qb (qx (qp (L' := L) [.agg #[x3], .bool (uniB ar a ((if (termOk ar c && decide (0 ≤ (behL a) ∧ (behL a) ≤ 24)) = true ∧ shiftB c (behL a) = true then shiftL c (behL a) else [])))] (.tuple #[.agg #[x3], .bool (uniB ar a ((if (termOk ar c && decide (0 ≤ (behL a) ∧ (behL a) ≤ 24)) = true ∧ shiftB c (behL a) = true then shiftL c (behL a) else [])))]) (.cell rfl (ja [x3] qK qm rfl (Rd.ownN [] rfl rfl)) (.tmp rfl .nil)) rfl (qg le3 le4) rF (sD (sD sR)) ?_)))))))))
 have hif : (if (termOk ar c && decide (0 ≤ behL a ∧ behL a ≤ 24)) = true ∧ shiftB c (behL a) = true then shiftL c (behL a) else []) = shiftL c (behL a) := if_pos ⟨by simp [hsY2.1.1, hsY2.1.2], hsh⟩
 rw [hif] at hr4 hr5
 exact ⟨_, _, by rw [hap, hif], hr3, fun h => hr4 (by rw [← hap]; exact h), fun h => hr5 (by rw [← hap]; exact h), rfl⟩

/- impl.MetOf -/
set_option maxRecDepth 20000 in
theorem MetOf_spec {F : FH} {L : List HP} {arv : Value} {ar : List Int} (har : IntsF F arv ar) {av : Value} {a : List Int} (ha : IntsF F av a) {cv : Value} {c : List Int} (hc : IntsF F cv c) :
    Does prog 22 [.agg #[arv], av, cv] F (L) (fun v F' L' => ∃ (x : Value), ∃ (m : List Int), (.tuple #[x, .bool (apartB ar a c)] : Value) = v ∧ (IntsF F' x m) ∧ (apartB ar a c = true → ∃ s, UniR ar a (shiftL c (behL a)) s ∧ m = byL (orderL (ap (lk s) a)) (ap (lk s) a)) ∧ (apartB ar a c = false → m = []) ∧ L = L') := by
 refine qM func22 rfl rfl rfl (qc (qa (cX (jg [arv] rfl rfl ?_))))
 intro b1
 refine qh (sN) rfl (qh (.bool (false)) rfl (qb (qc (qa (cX (qr [arv] qL qz rfl rfl (Rd.ownN [] rfl rfl) (qf (av) rfl (qf (cv) rfl (cX (ql (args := [.agg #[arv], av, cv]) call27 rfl (UnifiedApart_spec har ha hc) ?_))))))))))
 rintro _ F1 _ le1 ⟨x1, x2, rfl, hr1, hr2, hr3, rfl⟩
 replace ha := ha.mono le1
 refine qf (.tuple #[.agg #[x1], .bool (apartB ar a c)]) rfl (cX (qH (.agg #[x1]) rfl rfl (cX (qH (.bool (apartB ar a c)) rfl rfl (cX (jd [sN] qG rfl ?_))))))
 intro b2
 refine cX (qt [] _ [x1] qm rfl rfl rfl (qw (qP (RowsF.isSl hr1)) qC) rfl rfl rfl (qh (.bool (apartB ar a c)) rfl (qb (qc (qc (qa (qf (.bool (apartB ar a c)) rfl (cX (jh rfl (qb ?_))))))))))
 refine jk (t := !(apartB ar a c)) rfl (fun h1 => ?_) (fun h1 => ?_)
 ·have hapN : apartB ar a c = false := Bool.not_inj (y := false) h1
  refine qc (qa (qh (sN) rfl (qh (.bool (false)) rfl (qb (qx (qi (qp (L' := L) [sN, .bool (false)] (.tuple #[sN, .bool (false)]) (.tmp rfl (.tmp rfl .nil)) rfl le1 rF (sD (sD sR)) ?_)))))))
  exact ⟨_, [], by rw [hapN], IntsF.nilV, fun h => (by rw [hapN] at h; cases h), fun _ => rfl, rfl⟩
 have hapY : apartB ar a c = true := Bool.not_inj (y := true) h1
 have hUR := hr2 hapY
 obtain ⟨hoa, hoc, hsh, hun⟩ := apart_ok hapY
 have hfl := hUR.fill hun hoa
 have hflt := termOk_len hfl.2.2
 have hsb := hUR.bound
 have hsl := hUR.len
 have hga := fun k (hk : k < a.length) => termOk_ge hoa hk
 have hla := termOk_len hoa
 have hgma := (termOk_iff.1 hoa).ge
 have hbra := beh_range hgma
 have hfe := congrArg List.length hfl.2.1
 refine qv (qc (qa (cX (qr [x1] qK qm rfl rfl (Rd.ownN [] rfl rfl) (qf (av) rfl (cX (ql (args := [.agg #[x1], av]) call74 rfl (fill_spec hr1 ha (hsl := (by omega)) (hsb := (fun i => by have := hsb i; omega)) (htl := (by omega)) (htg := (fun i hi => by have := hga i hi; omega))) ?_)))))))
 rintro _ F2 _ le2 ⟨x3, rfl, hr4, hr5, rfl⟩
 refine qf (.tuple #[x3, .bool ((fillL x2 a).isSome)]) rfl (cX (qH (x3) rfl rfl (cX (qH (.bool ((fillL x2 a).isSome)) rfl rfl (qh (x3) rfl (qh (.bool ((fillL x2 a).isSome)) rfl (qb (qc (qc (qa (qf (.bool ((fillL x2 a).isSome)) rfl (cX (jh rfl (qb ?_))))))))))))))
 refine jk (t := !((fillL x2 a).isSome)) rfl (fun h2 => ?_) (fun h2 => ?_)
 ·exact absurd h2 (by rw [hfl.1]; simp)
 refine qv (qc (qa (qf (x3) rfl (cX (ql (args := [x3]) call75 rfl (renamed_spec hr4 (hlt := (by omega))) ?_)))))
 rintro _ F3 _ le3 ⟨x4, rfl, hr6, rfl⟩
 refine qh (x4) rfl (qh (.bool (true)) rfl (qb (qx (qp (L' := L) [x4, .bool (true)] (.tuple #[x4, .bool (true)]) (.tmp rfl (.tmp rfl .nil)) rfl (qg (qg le1 le2) le3) rF (sD (sD sR)) ?_))))
 exact ⟨_, _, by rw [hapY], hr6, fun _ => ⟨_, hUR, by rw [hfl.2.1]⟩, fun h => (by rw [hapY] at h; cases h), rfl⟩

/- spec.MetOf -/
set_option maxRecDepth 20000 in
theorem sMetOf_spec {F : FH} {L : List HP} {arv : Value} {ar : List Int} (har : IntsF F arv ar) {av : Value} {a : List Int} (ha : IntsF F av a) {cv : Value} {c : List Int} (hc : IntsF F cv c) (hla : ar.length ≤ 4000000) (hlta : a.length ≤ 4000000) (hltc : c.length ≤ 4000000) :
    Does prog 23 [.agg #[arv], av, cv] F (L) (fun v F' L' => ∃ (x : Value), ∃ (m : List Int), (.tuple #[x, .bool (apartB ar a c)] : Value) = v ∧ (IntsF F' x m) ∧ (apartB ar a c = true → ∃ s, UniR ar a (shiftL c (behL a)) s ∧ m = byL (orderL (ap (lk s) a)) (ap (lk s) a)) ∧ (apartB ar a c = false → m = []) ∧ L = L') := by
 refine qM func23 rfl rfl rfl (qc (qa (cX (jg [arv] rfl rfl ?_))))
 intro b1
 refine qh (sN) rfl (qh (.bool (false)) rfl (qb (qc (qa (cX (qr [arv] qL qz rfl rfl (Rd.ownN [] rfl rfl) (qf (av) rfl (qf (cv) rfl (cX (ql (args := [.agg #[arv], av, cv]) call76 rfl (sUnifiedApart_spec har ha hc (hla := (by first | assumption | rfl | omega | simp)) (hlta := (by first | assumption | rfl | omega | simp)) (hltc := (by first | assumption | rfl | omega | simp))) ?_))))))))))
 rintro _ F1 _ le1 ⟨x1, x2, rfl, hr1, hr2, hr3, rfl⟩
 replace ha := ha.mono le1
 refine qf (.tuple #[.agg #[x1], .bool (apartB ar a c)]) rfl (cX (qH (.agg #[x1]) rfl rfl (cX (qH (.bool (apartB ar a c)) rfl rfl (cX (jd [sN] qG rfl ?_))))))
 intro b2
 refine cX (qt [] _ [x1] qm rfl rfl rfl (qw (qP (RowsF.isSl hr1)) qC) rfl rfl rfl (qh (.bool (apartB ar a c)) rfl (qb (qc (qc (qa (qf (.bool (apartB ar a c)) rfl (cX (jh rfl (qb ?_))))))))))
 refine jk (t := !(apartB ar a c)) rfl (fun h1 => ?_) (fun h1 => ?_)
 ·have hapN : apartB ar a c = false := Bool.not_inj (y := false) h1
  refine qc (qa (cX (qD (s := 1) [] [ii (0)] [] qd qy qU rfl (by decide) rfl CellsAre.nil rfl ?_)))
  intro v1 hv1
  refine qh (v1) rfl (qh (.bool (false)) rfl (qb ?_))
  show X _ _ _ _ _ _ (intsH 2 v1 ([] : List Int) :: cellsH b2 [x1] 50 :: cellsH b1 [arv] 29 :: L)
  refine ji [] _ _ rfl (fun F2 le2 hz1 => ?_)
  replace ha := ha.mono le2
  replace hr1 := hr1.mono le2
  have hf1 : IntsF F2 v1 ([]) := intsH.fz (xs := []) hz1.fz
  refine qx (qi (qp (L' := L) [v1, .bool (false)] (.tuple #[v1, .bool (false)]) (.tmp rfl (.tmp rfl .nil)) rfl (qg le1 le2) rF (sD (sD sR)) ?_))
  exact ⟨_, [], by rw [hapN], hf1, fun h => (by rw [hapN] at h; cases h), fun _ => rfl, rfl⟩
 have hapY : apartB ar a c = true := Bool.not_inj (y := true) h1
 have hUR := hr2 hapY
 obtain ⟨hoa, hoc, hsh, hun⟩ := apart_ok hapY
 have hfl := hUR.fill hun hoa
 have hflt := termOk_len hfl.2.2
 have hsb := hUR.bound
 have hsl := hUR.len
 have hga := fun k (hk : k < a.length) => termOk_ge hoa hk
 have hla := termOk_len hoa
 have hgma := (termOk_iff.1 hoa).ge
 have hbra := beh_range hgma
 have hfe := congrArg List.length hfl.2.1
 refine qv (qc (qa (cX (qr [x1] qK qm rfl rfl (Rd.ownN [] rfl rfl) (qf (av) rfl (cX (ql (args := [.agg #[x1], av]) call77 rfl (l2Filled_spec hr1 ha (hsl := (by omega)) (hsb := (fun i => by have := hsb i; omega)) (htl := (by omega)) (htg := (fun i hi => by have := hga i hi; omega))) ?_)))))))
 rintro _ F3 _ le3 ⟨x3, rfl, hr4, rfl⟩
 refine qf (.tuple #[x3, .bool ((fillL x2 a).isSome)]) rfl (cX (qH (x3) rfl rfl (cX (qH (.bool ((fillL x2 a).isSome)) rfl rfl (qh (x3) rfl (qh (.bool ((fillL x2 a).isSome)) rfl (qb (qc (qa (qf (x3) rfl (cX (ql (args := [x3]) call78 rfl (l2Renamed_spec hr4 (hlt := (by omega))) ?_))))))))))))
 rintro _ F4 _ le4 ⟨x4, rfl, hr5, rfl⟩
 refine qh (x4) rfl (qh (.bool (true)) rfl (qb (qx (qp (L' := L) [x4, .bool (true)] (.tuple #[x4, .bool (true)]) (.tmp rfl (.tmp rfl .nil)) rfl (qg (qg le1 le3) le4) rF (sD (sD sR)) ?_))))
 exact ⟨_, _, by rw [hapY], hr5, fun _ => ⟨_, hUR, by rw [hfl.2.1]⟩, fun h => (by rw [hapY] at h; cases h), rfl⟩

/- spec.PutAt -/
theorem sPutAtX_spec {F : FH} {L : List HP}  {arv : Value} {ar : List Int} (har : IntsF F arv ar) {tv : Value} {t : List Int} (ht : IntsF F tv t) {p : Int} {uv : Value} {u : List Int} (hu : IntsF F uv u) (hla : ar.length ≤ 4000000) (hlt : t.length ≤ 4000000) (hlu : u.length ≤ 4000000) :
    Does prog 139 [.agg #[arv], tv, ii (p), uv] F (L) (fun v F' L' => (∃ (a : Value), ∃ (ok : Bool), (.tuple #[a, .bool (ok)] : Value) = v ∧ (SomesF F' a (fun w => w.length ≤ 60))) ∧ L = L') := by
 refine qM func139 rfl rfl rfl (qc (qa (cX (jg [arv] rfl rfl ?_))))
 intro b1
 refine qh (sN) rfl (qh (.bool (false)) rfl (qb (qc (qc (qa (cX (qr [arv] qL qz rfl rfl (Rd.ownN [] rfl rfl) (qf (tv) rfl (qf (ii (p)) rfl (cX (ql (args := [.agg #[arv], tv, ii (p)]) call115 rfl (l3Right_spec (n := p) har ht (hla := (by first | assumption | rfl | omega | simp)) (hlt := (by first | assumption | rfl | omega | simp))) ?_)))))))))))
 rintro _ _ _ _ ⟨rfl, rfl, rfl⟩
 refine cX (jh rfl (qf (.bool (!(posOk ar t p))) rfl ?_))
 by_cases h1 : (!(posOk ar t p)) = true
 ·refine qu (t := 15) rfl (vB h1) (qu (t := 15) rfl (vB h1) (qu (t := 15) rfl (vB h1) (qu (t := 15) rfl (vB h1) (cX (qX (.bool (true)) (vB h1) rfl (qb (jK rfl (qc (qa (cX (qD (s := 1) [] [ii (0)] [] qd qy qU rfl (by decide) rfl CellsAre.nil rfl ?_)))))))))))
  intro v1 hv1
  refine qh (v1) rfl (qh (.bool (false)) rfl (qb ?_))
  show X _ _ _ _ _ _ (intsH 2 v1 ([] : List Int) :: cellsH b1 [arv] 29 :: L)
  refine ji [] _ _ rfl (fun F1 le1 hz1 => ?_)
  replace har := har.mono le1
  replace ht := ht.mono le1
  replace hu := hu.mono le1
  have hf1 : IntsF F1 v1 ([]) := intsH.fz (xs := []) hz1.fz
  refine qx (qi (qp (L' := L) [v1, .bool (false)] (.tuple #[v1, .bool (false)]) (.tmp rfl (.tmp rfl .nil)) rfl le1 rF (sD sR) ?_))
  exact ⟨⟨_, _, rfl, ⟨[], hf1, by simp⟩⟩, rfl⟩
 rw [Bool.not_eq_true] at h1
 have hpo := posOk_iff.1 (Bool.not_inj (y := true) h1)
 have hto := hpo.1
 have htl9 := termOk_len hto
 refine qq (t := 15) rfl (vB h1) (qr [arv] qL qz rfl rfl (Rd.ownN [] rfl rfl) (qq (t := 15) rfl (vB h1) (qk (uv) rfl (qq (t := 15) rfl (vB h1) (ql (args := [.agg #[arv], uv]) call81 rfl (sTermOk_spec har hu (hla := (by first | assumption | rfl | omega | simp)) (hlt := (by first | assumption | rfl | omega | simp))) ?_)))))
 rintro _ _ _ _ ⟨rfl, rfl, rfl⟩
 refine qq (t := 15) rfl (vB h1) (jh rfl (cX (qR (.bool (!(termOk ar u))) (vB h1) rfl (qb ?_))))
 refine jk (t := !(termOk ar u)) rfl (fun h2 => ?_) (fun h2 => ?_)
 ·refine qc (qa (cX (qD (s := 1) [] [ii (0)] [] qd qy qU rfl (by decide) rfl CellsAre.nil rfl ?_)))
  intro v2 hv2
  refine qh (v2) rfl (qh (.bool (false)) rfl (qb ?_))
  show X _ _ _ _ _ _ (intsH 2 v2 ([] : List Int) :: cellsH b1 [arv] 29 :: L)
  refine ji [] _ _ rfl (fun F2 le2 hz2 => ?_)
  replace har := har.mono le2
  replace ht := ht.mono le2
  replace hu := hu.mono le2
  have hf2 : IntsF F2 v2 ([]) := intsH.fz (xs := []) hz2.fz
  refine qx (qi (qp (L' := L) [v2, .bool (false)] (.tuple #[v2, .bool (false)]) (.tmp rfl (.tmp rfl .nil)) rfl le2 rF (sD sR) ?_))
  exact ⟨⟨_, _, rfl, ⟨[], hf2, by simp⟩⟩, rfl⟩
 have hou : termOk ar u = true := Bool.not_inj (y := true) h2
 have hul9 := termOk_len hou
 refine qv (qc (qa (cX (qr [arv] qL qz rfl rfl (Rd.ownN [] rfl rfl) (qf (tv) rfl (qf (ii (p)) rfl (qf (uv) rfl (cX (ql (args := [.agg #[arv], tv, ii (((p).toNat : Nat) : Int), uv]) call175 (by rw [show (((p).toNat : Nat) : Int) = p from by omega]; rfl) (l3Put_spec (p := (p).toNat) har ht hu (ho := (hto)) (hp := (by omega)) (hul := (by omega))) ?_)))))))))
 rintro _ F3 _ le3 ⟨x1, rfl, hr1, rfl⟩
 refine cX (qH (x1) rfl rfl (cX (qH (.bool ((putL ar t ((p).toNat) u).isSome)) rfl rfl (qh (x1) rfl (qh (.bool ((putL ar t ((p).toNat) u).isSome)) rfl (qb (qx (qp (L' := L) [x1, .bool ((putL ar t ((p).toNat) u).isSome)] (.tuple #[x1, .bool ((putL ar t ((p).toNat) u).isSome)]) (.tmp rfl (.tmp rfl .nil)) rfl le3 rF (sD sR) ?_))))))))
 exact ⟨⟨_, _, rfl, ⟨_, hr1, put_leX⟩⟩, rfl⟩
theorem sFilledW_spec {F : FH} {L : List HP} {arv : Value} {ar : List Int} (har : IntsF F arv ar) {sv : Value} {s : List (List Int)} (hs : RowsF F sv s) {tv : Value} {t : List Int} (ht : IntsF F tv t) (hla : ar.length ≤ 4000000) (hsl : s.length ≤ 4000000) (hsb : ∀ i, i < s.length → (s.getD i []).length ≤ 4000000) (hlt : t.length ≤ 4000000) :
    Does prog 46 [.agg #[arv], .agg #[sv], tv] F (L) (fun v F' L' => (∃ (a : Value) (b : Bool), (.tuple #[a, .bool b] : Value) = v ∧ (SomesF F' a (fun u => u.length ≤ 60))) ∧ L = L') :=
  (sFilled_spec har hs ht hla hsl hsb hlt).mono (by rintro _ F' L' le ⟨a, rfl, h, rfl⟩; exact ⟨⟨a, _, rfl, ⟨_, h, filled_leX⟩⟩, rfl⟩)

/- spec.l5Draw -/
set_option maxHeartbeats 1000000 in
set_option maxRecDepth 20000 in
theorem l5Draw_spec {F : FH} {L : List HP} {cb : Nat} {bsv : Value} {bs : List Int} (hbs : BytesF F bsv bs) (hbl : bs.length ≤ 4000000) :
    Does prog 73 [ptr cb 0] F (curH .i64 142 cb bsv bs.length :: L) (fun v F' L' => (∃ (a : Value), ∃ (b : Value), ∃ (d : Value), ∃ (ar : List Int), ∃ (t : List Int), ∃ (u : List Int), (.tuple #[.agg #[a], b, d] : Value) = v ∧ (IntsF F' a ar) ∧ (IntsF F' b t) ∧ (IntsF F' d u) ∧ (ar.length ≤ 20) ∧ (t.length ≤ 2000) ∧ (u.length ≤ 2000)) ∧ curH .i64 142 cb bsv bs.length :: L = L') := by
 refine qM func73 rfl rfl rfl (qc (qa (cX (jd [sN] zeroValue29 rfl ?_))))
 intro b1
 refine qh (sN) rfl (qh (sN) rfl (qb (qc (qa (qf (ptr cb 0) rfl (cX (ql (args := [ptr cb 0]) call135 rfl (jj [_] (l1DrawSigAny_spec hbs (by omega))) ?_)))))))
 rintro _ F1 _ le1 ⟨⟨x1, x2, rfl, hr1, hr2⟩, rfl⟩
 replace hbs := hbs.mono le1
 show XL _ _ _ _ _ _ _ (cellsH b1 [sN] 29 :: curH .i64 142 cb bsv bs.length :: L)
 have hal9 := hr2
 refine cX (jd [sN] zeroValue29 rfl ?_)
 intro b2
 refine cX (qt [] _ [x1] qz rfl rfl rfl (qw (qP (jc hr1)) qC) rfl rfl rfl (qb (qc (qa (qf (ptr cb 0) rfl (cX (qr [x1] qL qz rfl rfl (Rd.ownN [] rfl rfl) (cX (ql (args := [ptr cb 0, .agg #[x1]]) call136 rfl (jj [_, _] (l1DrawAny_spec hbs (by omega) hr1 (hal := (by omega)))) ?_)))))))))
 rintro _ F2 _ le2 ⟨⟨x3, rfl, hr3⟩, rfl⟩
 obtain ⟨t1, hr3, q1⟩ := hr3
 replace hbs := hbs.mono le2
 replace hr1 := hr1.mono le2
 show XL _ _ _ _ _ _ _ (cellsH b2 [x1] 29 :: cellsH b1 [sN] 29 :: curH .i64 142 cb bsv bs.length :: L)
 skip
 refine qh (x3) rfl (qb (qc (qa (qf (ptr cb 0) rfl (cX (qr [x1] qL qz rfl rfl (Rd.ownN [] rfl rfl) (cX (ql (args := [ptr cb 0, .agg #[x1]]) call136 rfl (jj [_, _] (l1DrawAny_spec hbs (by omega) hr1 (hal := (by omega)))) ?_))))))))
 rintro _ F3 _ le3 ⟨⟨x4, rfl, hr4⟩, rfl⟩
 obtain ⟨t2, hr4, q2⟩ := hr4
 replace hbs := hbs.mono le3
 replace hr1 := hr1.mono le3
 replace hr3 := hr3.mono le3
 show XL _ _ _ _ _ _ _ (cellsH b2 [x1] 29 :: cellsH b1 [sN] 29 :: curH .i64 142 cb bsv bs.length :: L)
 refine qh (x4) rfl (qb (qc (qc (qa (qf (ptr cb 0) rfl (cX (ql (args := [ptr cb 0, ii (2)]) call137 rfl (jj [_, _] (l1Once_spec (n := 2) hbs (by omega) (hn := (by first | assumption | rfl | omega | simp)))) ?_)))))))
 rintro _ _ _ _ ⟨⟨rfl, x5, rfl⟩, rfl⟩
 show XL _ _ _ _ _ _ _ (cellsH b2 [x1] 29 :: cellsH b1 [sN] 29 :: curH .i64 142 cb bsv bs.length :: L)
 refine qf (.bool (x5)) rfl ?_
 by_cases h1 : (x5) = true
 ·refine qq (t := 22) rfl (vB h1) (qr [x1] qL qz rfl rfl (Rd.ownN [] rfl rfl) (qq (t := 22) rfl (vB h1) (qk (x3) rfl (qq (t := 22) rfl (vB h1) (ql (args := [.agg #[x1], x3]) call81 rfl (sTermOk_spec hr1 hr3 (hla := (by first | assumption | rfl | omega | simp)) (hlt := (by first | assumption | rfl | omega | simp))) ?_)))))
  rintro _ _ _ _ ⟨rfl, rfl, rfl⟩
  refine cX (qX (.bool (termOk x2 t1)) (vB h1) rfl (qb ?_))
  refine jk (t := termOk x2 t1) rfl (fun h2 => ?_) (fun h2 => ?_)
  ·refine qc ?_
   refine X.drawG [cellsH b2 [x1] 29, cellsH b1 [sN] 29, curH .i64 142 cb bsv bs.length] L 10 [[], [], [], [], [], [], [5], [5], [5], [5]] [[], [], [], [1, 2], [], [0, 3, 4], [5], [5, 6], [5, 6], [5, 7]] [] (phiG [pe (.agg #[x1]), pe (ptr cb 0), pe (.agg #[x1]), fun FF us v => (.agg #[((aggAt v 0))] : Value) = v ∧ (SomeRowsF FF ((aggAt v 0)) (fun s => s.length ≤ 26 ∧ ∀ i, (s.getD i []).length ≤ 2000)), pe x3, fun FF us v => (.tuple #[((tupAt v 0)), .bool (((boolAt (tupAt v 1))))] : Value) = v ∧ (SomesF FF ((tupAt v 0)) (fun u => u.length ≤ 60)), fun FF us v => v = (.tuple #[((tupAt (us.getD 0 undef) 0)), .bool (((boolAt (tupAt (us.getD 0 undef) 1))))] : Value), fun FF us v => v = ((tupAt (us.getD 0 undef) 0)), fun FF us v => v = (.bool (((boolAt (tupAt (us.getD 0 undef) 1)))) : Value), fun FF us v => v = ((tupAt (us.getD 0 undef) 0))]) (ownL []) mixed rfl rfl (by kernel_rfl) (by kernel_rfl) (MonoG.get (m1 (m1 (m1 (mC (fun le h => ⟨h.1, h.2.mono le⟩) (m1 (mC (fun le h => ⟨h.1, h.2.mono le⟩) (mC (fun le h => h) (mC (fun le h => h) (mC (fun le h => h) (mC (fun le h => h) MonoG.nil))))))))))) ?_ ?_
   ·refine gD (fun W Fs R lF z9 => ?_) ?_
    ·replace hbs := hbs.mono lF
     replace hr1 := hr1.mono lF
     replace hr3 := hr3.mono lF
     replace hr4 := hr4.mono lF
     refine qj (qr [x1] qL qz rfl rfl (Rd.ownN [] rfl rfl) ?_)
     exact ⟨rfl, rfl⟩
    refine gD (fun W Fs R lF z9 => ?_) ?_
    ·refine qj (qk (ptr cb 0) rfl ?_)
     exact ⟨rfl, rfl⟩
    refine gD (fun W Fs R lF z9 => ?_) ?_
    ·replace hbs := hbs.mono lF
     replace hr1 := hr1.mono lF
     replace hr3 := hr3.mono lF
     replace hr4 := hr4.mono lF
     refine qj (qr [x1] qL qz rfl rfl (Rd.ownN [] rfl rfl) ?_)
     exact ⟨rfl, rfl⟩
    refine gD (fun W Fs R lF z9 => ?_) ?_
    ·replace hbs := hbs.mono lF
     replace hr1 := hr1.mono lF
     replace hr3 := hr3.mono lF
     replace hr4 := hr4.mono lF
     rw [eS (l := [(1, _), (2, _)]) ⟨z9 1 rfl, z9 2 rfl, ⟨⟩⟩]
     refine qj (ql (args := [ptr cb 0, .agg #[x1]]) call138 rfl (jj [_, _] (l2DrawAny_spec hbs (by omega) hr1 (hal := (by omega)))) ?_)
     rintro _ F7 _ le7 ⟨⟨x9, rfl, hr7⟩, rfl⟩
     replace hbs := hbs.mono le7
     replace hr1 := hr1.mono le7
     replace hr3 := hr3.mono le7
     replace hr4 := hr4.mono le7
     exact ⟨⟨rfl, hr7⟩, rfl⟩
    refine gD (fun W Fs R lF z9 => ?_) ?_
    ·refine qj (qk (x3) rfl ?_)
     exact ⟨rfl, rfl⟩
    refine gD (fun W Fs R lF z9 => ?_) ?_
    ·obtain ⟨e3, f3_1hp_a⟩ := z9 3 rfl
     obtain ⟨t3X1_a, f3_1hp_a, q3_1_a0, q3_1_a1⟩ := f3_1hp_a
     replace hbs := hbs.mono lF
     replace hr1 := hr1.mono lF
     replace hr3 := hr3.mono lF
     replace hr4 := hr4.mono lF
     rw [eS (l := [(0, _), (3, (.agg #[((aggAt (W 3) 0))])), (4, _)]) ⟨z9 0 rfl, (e3).symm, z9 4 rfl, ⟨⟩⟩]
     refine qj (ql (args := [.agg #[x1], .agg #[((aggAt (W 3) 0))], x3]) call46 rfl (sFilledW_spec hr1 f3_1hp_a hr3 (hla := (by omega)) (hsl := (by omega)) (hsb := (fun i _ => Nat.le_trans (q3_1_a1 i) (show 2000 ≤ 4000000 by omega))) (hlt := (by omega))) ?_)
     rintro _ F8 _ le8 ⟨⟨x10, x11, rfl, hr8⟩, rfl⟩
     replace hbs := hbs.mono le8
     replace hr1 := hr1.mono le8
     replace hr3 := hr3.mono le8
     replace hr4 := hr4.mono le8
     replace f3_1hp_a := f3_1hp_a.mono le8
     exact ⟨⟨rfl, hr8⟩, rfl⟩
    refine gD (fun W Fs R lF z9 => ?_) ?_
    ·obtain ⟨e5, f5_1hp_a⟩ := z9 5 rfl
     obtain ⟨t5X1_a, f5_1hp_a, q5_1_a0⟩ := f5_1hp_a
     rw [eS (l := [(5, (.tuple #[((tupAt (W 5) 0)), .bool (((boolAt (tupAt (W 5) 1))))]))]) ⟨(e5).symm, ⟨⟩⟩]
     refine qj (qk (.tuple #[((tupAt (W 5) 0)), .bool (((boolAt (tupAt (W 5) 1))))]) rfl ?_)
     exact ⟨rfl, rfl⟩
    refine gD (fun W Fs R lF z9 => ?_) ?_
    ·obtain ⟨e5, f5_1hp_a⟩ := z9 5 rfl
     obtain ⟨t5X1_a, f5_1hp_a, q5_1_a0⟩ := f5_1hp_a
     have e6 : W 6 = (.tuple #[((tupAt (W 5) 0)), .bool (((boolAt (tupAt (W 5) 1))))] : Value) := z9 6 rfl
     rw [eS (l := [(5, (.tuple #[((tupAt (W 5) 0)), .bool (((boolAt (tupAt (W 5) 1))))])), (6, (.tuple #[((tupAt (W 5) 0)), .bool (((boolAt (tupAt (W 5) 1))))]))]) ⟨(e5).symm, e6, ⟨⟩⟩]
     refine qj (qH (((tupAt (W 5) 0))) rfl rfl ?_)
     exact ⟨rfl, rfl⟩
    refine gD (fun W Fs R lF z9 => ?_) ?_
    ·obtain ⟨e5, f5_1hp_a⟩ := z9 5 rfl
     obtain ⟨t5X1_a, f5_1hp_a, q5_1_a0⟩ := f5_1hp_a
     have e6 : W 6 = (.tuple #[((tupAt (W 5) 0)), .bool (((boolAt (tupAt (W 5) 1))))] : Value) := z9 6 rfl
     rw [eS (l := [(5, (.tuple #[((tupAt (W 5) 0)), .bool (((boolAt (tupAt (W 5) 1))))])), (6, (.tuple #[((tupAt (W 5) 0)), .bool (((boolAt (tupAt (W 5) 1))))]))]) ⟨(e5).symm, e6, ⟨⟩⟩]
     refine qj (qH (.bool (((boolAt (tupAt (W 5) 1))))) rfl rfl ?_)
     exact ⟨rfl, rfl⟩
    refine gD (fun W Fs R lF z9 => ?_) ?_
    ·obtain ⟨e5, f5_1hp_a⟩ := z9 5 rfl
     obtain ⟨t5X1_a, f5_1hp_a, q5_1_a0⟩ := f5_1hp_a
     have e7 : W 7 = ((tupAt (W 5) 0)) := z9 7 rfl
     rw [eS (l := [(5, (.tuple #[((tupAt (W 5) 0)), .bool (((boolAt (tupAt (W 5) 1))))])), (7, ((tupAt (W 5) 0)))]) ⟨(e5).symm, e7, ⟨⟩⟩]
     refine qj (XOp.assign (((tupAt (W 5) 0))) rfl ?_)
     exact ⟨rfl, rfl⟩
    exact stepsG.nil
   intro W F9 le9 hphi
   obtain ⟨e3, f3_1hp_a⟩ := hphi 3 (by decide)
   obtain ⟨t3X1_a, f3_1hp_a, q3_1_a0, q3_1_a1⟩ := f3_1hp_a
   obtain ⟨e5, f5_1hp_a⟩ := hphi 5 (by decide)
   obtain ⟨t5X1_a, f5_1hp_a, q5_1_a0⟩ := f5_1hp_a
   have e6 : W 6 = (.tuple #[((tupAt (W 5) 0)), .bool (((boolAt (tupAt (W 5) 1))))] : Value) := hphi 6 (by decide)
   have e7 : W 7 = ((tupAt (W 5) 0)) := hphi 7 (by decide)
   have e8 : W 8 = (.bool (((boolAt (tupAt (W 5) 1)))) : Value) := hphi 8 (by decide)
   have e9 : W 9 = ((tupAt (W 5) 0)) := hphi 9 (by decide)
   generalize hu1 : ((aggAt (W 3) 0)) = u1 at e3 f3_1hp_a e5 f5_1hp_a e6 e7 e8 e9
   generalize hu2 : ((tupAt (W 5) 0)) = u2 at e3 f3_1hp_a e5 f5_1hp_a e6 e7 e8 e9
   generalize hu3 : (boolAt (tupAt (W 5) 1)) = u3 at e3 f3_1hp_a e5 f5_1hp_a e6 e7 e8 e9
   rw [eS (l := [(5, (.tuple #[u2, .bool ((u3))])), (8, (.bool ((u3)))), (9, u2)]) ⟨(e5).symm, e8, e9, ⟨⟩⟩]
   replace hbs := hbs.mono le9
   replace hr1 := hr1.mono le9
   replace hr3 := hr3.mono le9
   replace hr4 := hr4.mono le9
   show XL _ _ _ _ _ _ _ (cellsH b2 [x1] 29 :: cellsH b1 [sN] 29 :: curH .i64 142 cb bsv bs.length :: L)
   refine qh (.bool ((u3))) rfl (qb (qc (qc (qa (qf (.bool ((u3))) rfl (qb ?_))))))
   refine jk (t := (u3)) rfl (fun h3 => ?_) (fun h3 => ?_)
   ·refine qa (qf (u2) rfl (qh (u2) rfl (qb (qc (qa (qf (ptr cb 0) rfl (cX (ql (args := [ptr cb 0, ii (2)]) call137 rfl (jj [_, _] (l1Once_spec (n := 2) hbs (by omega) (hn := (by first | assumption | rfl | omega | simp)))) ?_))))))))
    rintro _ _ _ _ ⟨⟨rfl, x12, rfl⟩, rfl⟩
    show XL _ _ _ _ _ _ _ (cellsH b2 [x1] 29 :: cellsH b1 [sN] 29 :: curH .i64 142 cb bsv bs.length :: L)
    refine qb ?_
    refine jk (t := x12) rfl (fun h4 => ?_) (fun h4 => ?_)
    ·refine qc ?_
     refine X.drawG [cellsH b2 [x1] 29, cellsH b1 [sN] 29, curH .i64 142 cb bsv bs.length] L 15 [[], [], [], [], [], [], [], [], [7], [7], [], [10], [10], [10], [10]] [[], [], [], [], [3], [2, 4], [], [6], [7], [7, 8], [0, 1, 5, 7, 9], [10], [10, 11], [10, 11], [10, 12]] [] (phiG [pe (.agg #[x1]), pe u2, pe (ptr cb 0), pe u2, pe (ii ((t5X1_a.length : Int)) : Value), fun FF us v => (ii (((intAt v))) : Value) = v ∧ (0 ≤ ((intAt v)) ∧ (((intAt v)) < ((t5X1_a.length : Int)) ∨ ((intAt v)) = 0)), pe (ptr cb 0), fun FF us v => (ii (((intAt v))) : Value) = v ∧ (0 ≤ ((intAt v)) ∧ (((intAt v)) < 3 ∨ ((intAt v)) = 0)), fun FF us v => v = (ii ((-1) - (((intAt (us.getD 0 undef))))) : Value), fun FF us v => (v : Value) = v ∧ (IntsF FF v [(-1) - (((intAt (us.getD 0 undef))))]), fun FF us v => (.tuple #[((tupAt v 0)), .bool (((boolAt (tupAt v 1))))] : Value) = v ∧ (SomesF FF ((tupAt v 0)) (fun w => w.length ≤ 60)), fun FF us v => v = (.tuple #[((tupAt (us.getD 0 undef) 0)), .bool (((boolAt (tupAt (us.getD 0 undef) 1))))] : Value), fun FF us v => v = ((tupAt (us.getD 0 undef) 0)), fun FF us v => v = (.bool (((boolAt (tupAt (us.getD 0 undef) 1)))) : Value), fun FF us v => v = ((tupAt (us.getD 0 undef) 0))]) (ownL []) mixed rfl rfl (by kernel_rfl) (by kernel_rfl) (MonoG.get (m1 (m1 (m1 (m1 (m1 (mC (fun le h => ⟨h.1, h.2⟩) (m1 (mC (fun le h => ⟨h.1, h.2⟩) (mC (fun le h => h) (mC (fun le h => ⟨h.1, h.2.mono le⟩) (mC (fun le h => ⟨h.1, h.2.mono le⟩) (mC (fun le h => h) (mC (fun le h => h) (mC (fun le h => h) (mC (fun le h => h) MonoG.nil)))))))))))))))) ?_ ?_
     ·refine gD (fun W Fs R lF z9 => ?_) ?_
      ·replace hbs := hbs.mono lF
       replace hr1 := hr1.mono lF
       replace hr3 := hr3.mono lF
       replace hr4 := hr4.mono lF
       replace f5_1hp_a := f5_1hp_a.mono lF
       refine qj (qr [x1] qL qz rfl rfl (Rd.ownN [] rfl rfl) ?_)
       exact ⟨rfl, rfl⟩
      refine gD (fun W Fs R lF z9 => ?_) ?_
      ·refine qj (qk (u2) rfl ?_)
       exact ⟨rfl, rfl⟩
      refine gD (fun W Fs R lF z9 => ?_) ?_
      ·refine qj (qk (ptr cb 0) rfl ?_)
       exact ⟨rfl, rfl⟩
      refine gD (fun W Fs R lF z9 => ?_) ?_
      ·refine qj (qk (u2) rfl ?_)
       exact ⟨rfl, rfl⟩
      refine gD (fun W Fs R lF z9 => ?_) ?_
      ·replace hbs := hbs.mono lF
       replace hr1 := hr1.mono lF
       replace hr3 := hr3.mono lF
       replace hr4 := hr4.mono lF
       replace f5_1hp_a := f5_1hp_a.mono lF
       rw [eS (l := [(3, _)]) ⟨z9 3 rfl, ⟨⟩⟩]
       refine qj (qO qd rfl f5_1hp_a.slv ?_)
       exact ⟨rfl, rfl⟩
      refine gD (fun W Fs R lF z9 => ?_) ?_
      ·replace hbs := hbs.mono lF
       replace hr1 := hr1.mono lF
       replace hr3 := hr3.mono lF
       replace hr4 := hr4.mono lF
       replace f5_1hp_a := f5_1hp_a.mono lF
       rw [eS (l := [(2, _), (4, _)]) ⟨z9 2 rfl, z9 4 rfl, ⟨⟩⟩]
       refine qj (ql (args := [ptr cb 0, ii ((t5X1_a.length : Int))]) jH rfl (jj [_, _] (l1Below_spec (n := (t5X1_a.length : Int)) hbs (by omega) (hn := (by first | assumption | rfl | omega | simp)))) ?_)
       rintro _ _ _ _ ⟨⟨rfl, x17, rfl, hr12⟩, rfl⟩
       exact ⟨⟨rfl, hr12⟩, rfl⟩
      refine gD (fun W Fs R lF z9 => ?_) ?_
      ·refine qj (qk (ptr cb 0) rfl ?_)
       exact ⟨rfl, rfl⟩
      refine gD (fun W Fs R lF z9 => ?_) ?_
      ·replace hbs := hbs.mono lF
       replace hr1 := hr1.mono lF
       replace hr3 := hr3.mono lF
       replace hr4 := hr4.mono lF
       replace f5_1hp_a := f5_1hp_a.mono lF
       rw [eS (l := [(6, _)]) ⟨z9 6 rfl, ⟨⟩⟩]
       refine qj (ql (args := [ptr cb 0, ii (3)]) jH rfl (jj [_, _] (l1Below_spec (n := 3) hbs (by omega) (hn := (by first | assumption | rfl | omega | simp)))) ?_)
       rintro _ _ _ _ ⟨⟨rfl, x18, rfl, hr13⟩, rfl⟩
       exact ⟨⟨rfl, hr13⟩, rfl⟩
      refine gD (fun W Fs R lF z9 => ?_) ?_
      ·obtain ⟨e7, f7_2hx⟩ := z9 7 rfl
       rw [eS (l := [(7, (ii (((intAt (W 7))))))]) ⟨(e7).symm, ⟨⟩⟩]
       refine qj (qW ((-1) - (((intAt (W 7))))) rfl rfl (by omega) (by omega) ?_)
       exact ⟨rfl, rfl⟩
      refine gD (fun W Fs R lF z9 => ?_) ?_
      ·obtain ⟨e7, f7_2hx⟩ := z9 7 rfl
       have e8 : W 8 = (ii ((-1) - (((intAt (W 7))))) : Value) := z9 8 rfl
       replace hbs := hbs.mono lF
       replace hr1 := hr1.mono lF
       replace hr3 := hr3.mono lF
       replace hr4 := hr4.mono lF
       replace f5_1hp_a := f5_1hp_a.mono lF
       rw [eS (l := [(7, (ii (((intAt (W 7)))))), (8, (ii ((-1) - (((intAt (W 7)))))))]) ⟨(e7).symm, e8, ⟨⟩⟩]
       refine qj (jJ <| qD (s := 1) [ii ((-1) - (((intAt (W 7)))))] [ii (0)] [(0, [ii ((-1) - (((intAt (W 7)))))])] qd qy qU rfl (by decide) rfl (.cons rfl CellsAre.nil) rfl ?_)
       intro v1 hv1
       refine ⟨_, _, rfl, fun F16 le16 hz1 => ?_⟩
       replace hbs := hbs.mono le16
       replace hr1 := hr1.mono le16
       replace hr3 := hr3.mono le16
       replace hr4 := hr4.mono le16
       replace f5_1hp_a := f5_1hp_a.mono le16
       have hf1 : IntsF F16 v1 [(-1) - (((intAt (W 7))))] := intsH.fz (xs := [(-1) - (((intAt (W 7))))]) hz1.fz
       exact ⟨⟨rfl, hf1⟩, rfl⟩
      refine gD (fun W Fs R lF z9 => ?_) ?_
      ·obtain ⟨e5, f5_2hx⟩ := z9 5 rfl
       obtain ⟨e7, f7_2hx⟩ := z9 7 rfl
       obtain ⟨e9, f9_2lit⟩ : ((W 9) : Value) = (W 9) ∧ (IntsF Fs (W 9) [(-1) - (((intAt (W 7))))]) := z9 9 rfl
       replace hbs := hbs.mono lF
       replace hr1 := hr1.mono lF
       replace hr3 := hr3.mono lF
       replace hr4 := hr4.mono lF
       replace f5_1hp_a := f5_1hp_a.mono lF
       rw [eS (l := [(0, _), (1, _), (5, (ii (((intAt (W 5)))))), (7, (ii (((intAt (W 7)))))), (9, (W 9))]) ⟨z9 0 rfl, z9 1 rfl, (e5).symm, (e7).symm, (e9).symm, ⟨⟩⟩]
       refine qj (ql (args := [.agg #[x1], u2, ii (((intAt (W 5)))), (W 9)]) call139 rfl (sPutAtX_spec (p := ((intAt (W 5)))) hr1 f5_1hp_a f9_2lit (hla := (by omega)) (hlt := (by omega)) (hlu := (by simp))) ?_)
       rintro _ F17 _ le17 ⟨⟨x19, x20, rfl, hr14⟩, rfl⟩
       replace hbs := hbs.mono le17
       replace hr1 := hr1.mono le17
       replace hr3 := hr3.mono le17
       replace hr4 := hr4.mono le17
       replace f5_1hp_a := f5_1hp_a.mono le17
       replace f9_2lit := f9_2lit.mono le17
       exact ⟨⟨rfl, hr14⟩, rfl⟩
      refine gD (fun W Fs R lF z9 => ?_) ?_
      ·obtain ⟨e10, f10_2hp_a⟩ := z9 10 rfl
       obtain ⟨t10X2_a, f10_2hp_a, q10_2_a0⟩ := f10_2hp_a
       rw [eS (l := [(10, (.tuple #[((tupAt (W 10) 0)), .bool (((boolAt (tupAt (W 10) 1))))]))]) ⟨(e10).symm, ⟨⟩⟩]
       refine qj (qk (.tuple #[((tupAt (W 10) 0)), .bool (((boolAt (tupAt (W 10) 1))))]) rfl ?_)
       exact ⟨rfl, rfl⟩
      refine gD (fun W Fs R lF z9 => ?_) ?_
      ·obtain ⟨e10, f10_2hp_a⟩ := z9 10 rfl
       obtain ⟨t10X2_a, f10_2hp_a, q10_2_a0⟩ := f10_2hp_a
       have e11 : W 11 = (.tuple #[((tupAt (W 10) 0)), .bool (((boolAt (tupAt (W 10) 1))))] : Value) := z9 11 rfl
       rw [eS (l := [(10, (.tuple #[((tupAt (W 10) 0)), .bool (((boolAt (tupAt (W 10) 1))))])), (11, (.tuple #[((tupAt (W 10) 0)), .bool (((boolAt (tupAt (W 10) 1))))]))]) ⟨(e10).symm, e11, ⟨⟩⟩]
       refine qj (qH (((tupAt (W 10) 0))) rfl rfl ?_)
       exact ⟨rfl, rfl⟩
      refine gD (fun W Fs R lF z9 => ?_) ?_
      ·obtain ⟨e10, f10_2hp_a⟩ := z9 10 rfl
       obtain ⟨t10X2_a, f10_2hp_a, q10_2_a0⟩ := f10_2hp_a
       have e11 : W 11 = (.tuple #[((tupAt (W 10) 0)), .bool (((boolAt (tupAt (W 10) 1))))] : Value) := z9 11 rfl
       rw [eS (l := [(10, (.tuple #[((tupAt (W 10) 0)), .bool (((boolAt (tupAt (W 10) 1))))])), (11, (.tuple #[((tupAt (W 10) 0)), .bool (((boolAt (tupAt (W 10) 1))))]))]) ⟨(e10).symm, e11, ⟨⟩⟩]
       refine qj (qH (.bool (((boolAt (tupAt (W 10) 1))))) rfl rfl ?_)
       exact ⟨rfl, rfl⟩
      refine gD (fun W Fs R lF z9 => ?_) ?_
      ·obtain ⟨e10, f10_2hp_a⟩ := z9 10 rfl
       obtain ⟨t10X2_a, f10_2hp_a, q10_2_a0⟩ := f10_2hp_a
       have e12 : W 12 = ((tupAt (W 10) 0)) := z9 12 rfl
       rw [eS (l := [(10, (.tuple #[((tupAt (W 10) 0)), .bool (((boolAt (tupAt (W 10) 1))))])), (12, ((tupAt (W 10) 0)))]) ⟨(e10).symm, e12, ⟨⟩⟩]
       refine qj (XOp.assign (((tupAt (W 10) 0))) rfl ?_)
       exact ⟨rfl, rfl⟩
      exact stepsG.nil
     intro W F18 le18 hphi
     obtain ⟨e5, f5_2hx⟩ := hphi 5 (by decide)
     obtain ⟨e7, f7_2hx⟩ := hphi 7 (by decide)
     have e8 : W 8 = (ii ((-1) - (((intAt (W 7))))) : Value) := hphi 8 (by decide)
     obtain ⟨e9, f9_2lit⟩ : ((W 9) : Value) = (W 9) ∧ (IntsF F18 (W 9) [(-1) - (((intAt (W 7))))]) := hphi 9 (by decide)
     obtain ⟨e10, f10_2hp_a⟩ := hphi 10 (by decide)
     obtain ⟨t10X2_a, f10_2hp_a, q10_2_a0⟩ := f10_2hp_a
     have e11 : W 11 = (.tuple #[((tupAt (W 10) 0)), .bool (((boolAt (tupAt (W 10) 1))))] : Value) := hphi 11 (by decide)
     have e12 : W 12 = ((tupAt (W 10) 0)) := hphi 12 (by decide)
     have e13 : W 13 = (.bool (((boolAt (tupAt (W 10) 1)))) : Value) := hphi 13 (by decide)
     have e14 : W 14 = ((tupAt (W 10) 0)) := hphi 14 (by decide)
     generalize hu4 : (intAt (W 5)) = u4 at e5 f5_2hx e7 f7_2hx e8 e9 f9_2lit e10 f10_2hp_a e11 e12 e13 e14
     generalize hu5 : (intAt (W 7)) = u5 at e5 f5_2hx e7 f7_2hx e8 e9 f9_2lit e10 f10_2hp_a e11 e12 e13 e14
     generalize hu6 : (W 9) = u6 at e5 f5_2hx e7 f7_2hx e8 e9 f9_2lit e10 f10_2hp_a e11 e12 e13 e14
     generalize hu7 : ((tupAt (W 10) 0)) = u7 at e5 f5_2hx e7 f7_2hx e8 e9 f9_2lit e10 f10_2hp_a e11 e12 e13 e14
     generalize hu8 : (boolAt (tupAt (W 10) 1)) = u8 at e5 f5_2hx e7 f7_2hx e8 e9 f9_2lit e10 f10_2hp_a e11 e12 e13 e14
     rw [eS (l := [(7, (ii ((u5)))), (10, (.tuple #[u7, .bool ((u8))])), (13, (.bool ((u8)))), (14, u7)]) ⟨(e7).symm, (e10).symm, e13, e14, ⟨⟩⟩]
     replace hbs := hbs.mono le18
     replace hr1 := hr1.mono le18
     replace hr3 := hr3.mono le18
     replace hr4 := hr4.mono le18
     replace f5_1hp_a := f5_1hp_a.mono le18
     show XL _ _ _ _ _ _ _ (cellsH b2 [x1] 29 :: cellsH b1 [sN] 29 :: curH .i64 142 cb bsv bs.length :: L)
     refine qh (.bool ((u8))) rfl (qb (qc (qa (qf (.bool ((u8))) rfl (qb ?_)))))
     refine jk (t := (u8)) rfl (fun h5 => ?_) (fun h5 => ?_)
     ·refine qa (qf (u7) rfl (qh (u7) rfl (qb (qc (qa (cX (qr [x1] qL qz rfl rfl (Rd.ownN [] rfl rfl) (qf (x3) rfl (qf (u7) rfl (cX (qt [_] _ [x1] qz rfl rfl rfl (qw (qP (jc hr1)) qC) rfl rfl rfl (qh (x3) rfl (qh (u7) rfl ?_)))))))))))))
      refine qb (qx (qp (L' := curH .i64 142 cb bsv bs.length :: L) [.agg #[x1], x3, u7] (.tuple #[.agg #[x1], x3, u7]) (.cell rfl (ja [x1] qL qz rfl (Rd.ownN [_] rfl rfl)) (.tmp rfl (.tmp rfl .nil))) rfl (qg (qg (qg (qg le1 le2) le3) le9) le18) rF (sD (sD (sC sR))) ?_))
      exact ⟨⟨_, _, _, _, _, _, rfl, hr1, hr3, f10_2hp_a, hr2, q1, by first | assumption | omega⟩, rfl⟩
     refine qv (qc (qa (cX (qr [x1] qL qz rfl rfl (Rd.ownN [] rfl rfl) (qf (x3) rfl (qf (u2) rfl (cX (qt [_] _ [x1] qz rfl rfl rfl (qw (qP (jc hr1)) qC) rfl rfl rfl (qh (x3) rfl (qh (u2) rfl (qb (qx (qp (L' := curH .i64 142 cb bsv bs.length :: L) [.agg #[x1], x3, u2] (.tuple #[.agg #[x1], x3, u2]) (.cell rfl (ja [x1] qL qz rfl (Rd.ownN [_] rfl rfl)) (.tmp rfl (.tmp rfl .nil))) rfl (qg (qg (qg (qg le1 le2) le3) le9) le18) rF (sD (sD (sC sR))) ?_)))))))))))))
     exact ⟨⟨_, _, _, _, _, _, rfl, hr1, hr3, f5_1hp_a, hr2, q1, by first | assumption | omega⟩, rfl⟩
    refine qv (qc (qa (cX (qr [x1] qL qz rfl rfl (Rd.ownN [] rfl rfl) (qf (x3) rfl (qf (u2) rfl (cX (qt [_] _ [x1] qz rfl rfl rfl (qw (qP (jc hr1)) qC) rfl rfl rfl (qh (x3) rfl (qh (u2) rfl (qb (qx (qp (L' := curH .i64 142 cb bsv bs.length :: L) [.agg #[x1], x3, u2] (.tuple #[.agg #[x1], x3, u2]) (.cell rfl (ja [x1] qL qz rfl (Rd.ownN [_] rfl rfl)) (.tmp rfl (.tmp rfl .nil))) rfl (qg (qg (qg le1 le2) le3) le9) rF (sD (sD (sC sR))) ?_)))))))))))))
    exact ⟨⟨_, _, _, _, _, _, rfl, hr1, hr3, f5_1hp_a, hr2, q1, by first | assumption | omega⟩, rfl⟩
   refine qv (qc (qa (qf (ptr cb 0) rfl (cX (ql (args := [ptr cb 0, ii (2)]) call137 rfl (jj [_, _] (l1Once_spec (n := 2) hbs (by omega) (hn := (by first | assumption | rfl | omega | simp)))) ?_)))))
   rintro _ _ _ _ ⟨⟨rfl, x21, rfl⟩, rfl⟩
   show XL _ _ _ _ _ _ _ (cellsH b2 [x1] 29 :: cellsH b1 [sN] 29 :: curH .i64 142 cb bsv bs.length :: L)
   refine qb ?_
   refine jk (t := x21) rfl (fun h6 => ?_) (fun h6 => ?_)
   ·refine qc ?_
    refine X.drawG [cellsH b2 [x1] 29, cellsH b1 [sN] 29, curH .i64 142 cb bsv bs.length] L 15 [[], [], [], [], [], [], [], [], [7], [7], [], [10], [10], [10], [10]] [[], [], [], [], [3], [2, 4], [], [6], [7], [7, 8], [0, 1, 5, 7, 9], [10], [10, 11], [10, 11], [10, 12]] [] (phiG [pe (.agg #[x1]), pe x4, pe (ptr cb 0), pe x4, pe (ii ((t2.length : Int)) : Value), fun FF us v => (ii (((intAt v))) : Value) = v ∧ (0 ≤ ((intAt v)) ∧ (((intAt v)) < ((t2.length : Int)) ∨ ((intAt v)) = 0)), pe (ptr cb 0), fun FF us v => (ii (((intAt v))) : Value) = v ∧ (0 ≤ ((intAt v)) ∧ (((intAt v)) < 3 ∨ ((intAt v)) = 0)), fun FF us v => v = (ii ((-1) - (((intAt (us.getD 0 undef))))) : Value), fun FF us v => (v : Value) = v ∧ (IntsF FF v [(-1) - (((intAt (us.getD 0 undef))))]), fun FF us v => (.tuple #[((tupAt v 0)), .bool (((boolAt (tupAt v 1))))] : Value) = v ∧ (SomesF FF ((tupAt v 0)) (fun w => w.length ≤ 60)), fun FF us v => v = (.tuple #[((tupAt (us.getD 0 undef) 0)), .bool (((boolAt (tupAt (us.getD 0 undef) 1))))] : Value), fun FF us v => v = ((tupAt (us.getD 0 undef) 0)), fun FF us v => v = (.bool (((boolAt (tupAt (us.getD 0 undef) 1)))) : Value), fun FF us v => v = ((tupAt (us.getD 0 undef) 0))]) (ownL []) mixed rfl rfl (by kernel_rfl) (by kernel_rfl) (MonoG.get (m1 (m1 (m1 (m1 (m1 (mC (fun le h => ⟨h.1, h.2⟩) (m1 (mC (fun le h => ⟨h.1, h.2⟩) (mC (fun le h => h) (mC (fun le h => ⟨h.1, h.2.mono le⟩) (mC (fun le h => ⟨h.1, h.2.mono le⟩) (mC (fun le h => h) (mC (fun le h => h) (mC (fun le h => h) (mC (fun le h => h) MonoG.nil)))))))))))))))) ?_ ?_
    ·refine gD (fun W Fs R lF z9 => ?_) ?_
     ·replace hbs := hbs.mono lF
      replace hr1 := hr1.mono lF
      replace hr3 := hr3.mono lF
      replace hr4 := hr4.mono lF
      refine qj (qr [x1] qL qz rfl rfl (Rd.ownN [] rfl rfl) ?_)
      exact ⟨rfl, rfl⟩
     refine gD (fun W Fs R lF z9 => ?_) ?_
     ·refine qj (qk (x4) rfl ?_)
      exact ⟨rfl, rfl⟩
     refine gD (fun W Fs R lF z9 => ?_) ?_
     ·refine qj (qk (ptr cb 0) rfl ?_)
      exact ⟨rfl, rfl⟩
     refine gD (fun W Fs R lF z9 => ?_) ?_
     ·refine qj (qk (x4) rfl ?_)
      exact ⟨rfl, rfl⟩
     refine gD (fun W Fs R lF z9 => ?_) ?_
     ·replace hbs := hbs.mono lF
      replace hr1 := hr1.mono lF
      replace hr3 := hr3.mono lF
      replace hr4 := hr4.mono lF
      rw [eS (l := [(3, _)]) ⟨z9 3 rfl, ⟨⟩⟩]
      refine qj (qO qd rfl hr4.slv ?_)
      exact ⟨rfl, rfl⟩
     refine gD (fun W Fs R lF z9 => ?_) ?_
     ·replace hbs := hbs.mono lF
      replace hr1 := hr1.mono lF
      replace hr3 := hr3.mono lF
      replace hr4 := hr4.mono lF
      rw [eS (l := [(2, _), (4, _)]) ⟨z9 2 rfl, z9 4 rfl, ⟨⟩⟩]
      refine qj (ql (args := [ptr cb 0, ii ((t2.length : Int))]) jH rfl (jj [_, _] (l1Below_spec (n := (t2.length : Int)) hbs (by omega) (hn := (by first | assumption | rfl | omega | simp)))) ?_)
      rintro _ _ _ _ ⟨⟨rfl, x26, rfl, hr18⟩, rfl⟩
      exact ⟨⟨rfl, hr18⟩, rfl⟩
     refine gD (fun W Fs R lF z9 => ?_) ?_
     ·refine qj (qk (ptr cb 0) rfl ?_)
      exact ⟨rfl, rfl⟩
     refine gD (fun W Fs R lF z9 => ?_) ?_
     ·replace hbs := hbs.mono lF
      replace hr1 := hr1.mono lF
      replace hr3 := hr3.mono lF
      replace hr4 := hr4.mono lF
      rw [eS (l := [(6, _)]) ⟨z9 6 rfl, ⟨⟩⟩]
      refine qj (ql (args := [ptr cb 0, ii (3)]) jH rfl (jj [_, _] (l1Below_spec (n := 3) hbs (by omega) (hn := (by first | assumption | rfl | omega | simp)))) ?_)
      rintro _ _ _ _ ⟨⟨rfl, x27, rfl, hr19⟩, rfl⟩
      exact ⟨⟨rfl, hr19⟩, rfl⟩
     refine gD (fun W Fs R lF z9 => ?_) ?_
     ·obtain ⟨e7, f7_3hx⟩ := z9 7 rfl
      rw [eS (l := [(7, (ii (((intAt (W 7))))))]) ⟨(e7).symm, ⟨⟩⟩]
      refine qj (qW ((-1) - (((intAt (W 7))))) rfl rfl (by omega) (by omega) ?_)
      exact ⟨rfl, rfl⟩
     refine gD (fun W Fs R lF z9 => ?_) ?_
     ·obtain ⟨e7, f7_3hx⟩ := z9 7 rfl
      have e8 : W 8 = (ii ((-1) - (((intAt (W 7))))) : Value) := z9 8 rfl
      replace hr1 := hr1.mono lF
      replace hr3 := hr3.mono lF
      replace hr4 := hr4.mono lF
      rw [eS (l := [(7, (ii (((intAt (W 7)))))), (8, (ii ((-1) - (((intAt (W 7)))))))]) ⟨(e7).symm, e8, ⟨⟩⟩]
      refine qj (jJ <| qD (s := 1) [ii ((-1) - (((intAt (W 7)))))] [ii (0)] [(0, [ii ((-1) - (((intAt (W 7)))))])] qd qy qU rfl (by decide) rfl (.cons rfl CellsAre.nil) rfl ?_)
      intro v2 hv2
      refine ⟨_, _, rfl, fun F25 le25 hz2 => ?_⟩
      replace hr1 := hr1.mono le25
      replace hr3 := hr3.mono le25
      replace hr4 := hr4.mono le25
      have hf2 : IntsF F25 v2 [(-1) - (((intAt (W 7))))] := intsH.fz (xs := [(-1) - (((intAt (W 7))))]) hz2.fz
      exact ⟨⟨rfl, hf2⟩, rfl⟩
     refine gD (fun W Fs R lF z9 => ?_) ?_
     ·obtain ⟨e5, f5_3hx⟩ := z9 5 rfl
      obtain ⟨e7, f7_3hx⟩ := z9 7 rfl
      obtain ⟨e9, f9_3lit⟩ : ((W 9) : Value) = (W 9) ∧ (IntsF Fs (W 9) [(-1) - (((intAt (W 7))))]) := z9 9 rfl
      replace hr1 := hr1.mono lF
      replace hr3 := hr3.mono lF
      replace hr4 := hr4.mono lF
      rw [eS (l := [(0, _), (1, _), (5, (ii (((intAt (W 5)))))), (7, (ii (((intAt (W 7)))))), (9, (W 9))]) ⟨z9 0 rfl, z9 1 rfl, (e5).symm, (e7).symm, (e9).symm, ⟨⟩⟩]
      refine qj (ql (args := [.agg #[x1], x4, ii (((intAt (W 5)))), (W 9)]) call139 rfl (sPutAtX_spec (p := ((intAt (W 5)))) hr1 hr4 f9_3lit (hla := (by omega)) (hlt := (by omega)) (hlu := (by simp))) ?_)
      rintro _ F26 _ le26 ⟨⟨x28, x29, rfl, hr20⟩, rfl⟩
      replace hr1 := hr1.mono le26
      replace hr3 := hr3.mono le26
      replace hr4 := hr4.mono le26
      replace f9_3lit := f9_3lit.mono le26
      exact ⟨⟨rfl, hr20⟩, rfl⟩
     refine gD (fun W Fs R lF z9 => ?_) ?_
     ·obtain ⟨e10, f10_3hp_a⟩ := z9 10 rfl
      obtain ⟨t10X3_a, f10_3hp_a, q10_3_a0⟩ := f10_3hp_a
      rw [eS (l := [(10, (.tuple #[((tupAt (W 10) 0)), .bool (((boolAt (tupAt (W 10) 1))))]))]) ⟨(e10).symm, ⟨⟩⟩]
      refine qj (qk (.tuple #[((tupAt (W 10) 0)), .bool (((boolAt (tupAt (W 10) 1))))]) rfl ?_)
      exact ⟨rfl, rfl⟩
     refine gD (fun W Fs R lF z9 => ?_) ?_
     ·obtain ⟨e10, f10_3hp_a⟩ := z9 10 rfl
      obtain ⟨t10X3_a, f10_3hp_a, q10_3_a0⟩ := f10_3hp_a
      have e11 : W 11 = (.tuple #[((tupAt (W 10) 0)), .bool (((boolAt (tupAt (W 10) 1))))] : Value) := z9 11 rfl
      rw [eS (l := [(10, (.tuple #[((tupAt (W 10) 0)), .bool (((boolAt (tupAt (W 10) 1))))])), (11, (.tuple #[((tupAt (W 10) 0)), .bool (((boolAt (tupAt (W 10) 1))))]))]) ⟨(e10).symm, e11, ⟨⟩⟩]
      refine qj (qH (((tupAt (W 10) 0))) rfl rfl ?_)
      exact ⟨rfl, rfl⟩
     refine gD (fun W Fs R lF z9 => ?_) ?_
     ·obtain ⟨e10, f10_3hp_a⟩ := z9 10 rfl
      obtain ⟨t10X3_a, f10_3hp_a, q10_3_a0⟩ := f10_3hp_a
      have e11 : W 11 = (.tuple #[((tupAt (W 10) 0)), .bool (((boolAt (tupAt (W 10) 1))))] : Value) := z9 11 rfl
      rw [eS (l := [(10, (.tuple #[((tupAt (W 10) 0)), .bool (((boolAt (tupAt (W 10) 1))))])), (11, (.tuple #[((tupAt (W 10) 0)), .bool (((boolAt (tupAt (W 10) 1))))]))]) ⟨(e10).symm, e11, ⟨⟩⟩]
      refine qj (qH (.bool (((boolAt (tupAt (W 10) 1))))) rfl rfl ?_)
      exact ⟨rfl, rfl⟩
     refine gD (fun W Fs R lF z9 => ?_) ?_
     ·obtain ⟨e10, f10_3hp_a⟩ := z9 10 rfl
      obtain ⟨t10X3_a, f10_3hp_a, q10_3_a0⟩ := f10_3hp_a
      have e12 : W 12 = ((tupAt (W 10) 0)) := z9 12 rfl
      rw [eS (l := [(10, (.tuple #[((tupAt (W 10) 0)), .bool (((boolAt (tupAt (W 10) 1))))])), (12, ((tupAt (W 10) 0)))]) ⟨(e10).symm, e12, ⟨⟩⟩]
      refine qj (XOp.assign (((tupAt (W 10) 0))) rfl ?_)
      exact ⟨rfl, rfl⟩
     exact stepsG.nil
    intro W F27 le27 hphi
    obtain ⟨e5, f5_3hx⟩ := hphi 5 (by decide)
    obtain ⟨e7, f7_3hx⟩ := hphi 7 (by decide)
    have e8 : W 8 = (ii ((-1) - (((intAt (W 7))))) : Value) := hphi 8 (by decide)
    obtain ⟨e9, f9_3lit⟩ : ((W 9) : Value) = (W 9) ∧ (IntsF F27 (W 9) [(-1) - (((intAt (W 7))))]) := hphi 9 (by decide)
    obtain ⟨e10, f10_3hp_a⟩ := hphi 10 (by decide)
    obtain ⟨t10X3_a, f10_3hp_a, q10_3_a0⟩ := f10_3hp_a
    have e11 : W 11 = (.tuple #[((tupAt (W 10) 0)), .bool (((boolAt (tupAt (W 10) 1))))] : Value) := hphi 11 (by decide)
    have e12 : W 12 = ((tupAt (W 10) 0)) := hphi 12 (by decide)
    have e13 : W 13 = (.bool (((boolAt (tupAt (W 10) 1)))) : Value) := hphi 13 (by decide)
    have e14 : W 14 = ((tupAt (W 10) 0)) := hphi 14 (by decide)
    generalize hu9 : (intAt (W 5)) = u9 at e5 f5_3hx e7 f7_3hx e8 e9 f9_3lit e10 f10_3hp_a e11 e12 e13 e14
    generalize hu10 : (intAt (W 7)) = u10 at e5 f5_3hx e7 f7_3hx e8 e9 f9_3lit e10 f10_3hp_a e11 e12 e13 e14
    generalize hu11 : (W 9) = u11 at e5 f5_3hx e7 f7_3hx e8 e9 f9_3lit e10 f10_3hp_a e11 e12 e13 e14
    generalize hu12 : ((tupAt (W 10) 0)) = u12 at e5 f5_3hx e7 f7_3hx e8 e9 f9_3lit e10 f10_3hp_a e11 e12 e13 e14
    generalize hu13 : (boolAt (tupAt (W 10) 1)) = u13 at e5 f5_3hx e7 f7_3hx e8 e9 f9_3lit e10 f10_3hp_a e11 e12 e13 e14
    rw [eS (l := [(7, (ii ((u10)))), (10, (.tuple #[u12, .bool ((u13))])), (13, (.bool ((u13)))), (14, u12)]) ⟨(e7).symm, (e10).symm, e13, e14, ⟨⟩⟩]
    replace hr1 := hr1.mono le27
    replace hr3 := hr3.mono le27
    replace hr4 := hr4.mono le27
    show XL _ _ _ _ _ _ _ (cellsH b2 [x1] 29 :: cellsH b1 [sN] 29 :: curH .i64 142 cb bsv bs.length :: L)
    refine qh (.bool ((u13))) rfl (qb (qc (qa (qf (.bool ((u13))) rfl (qb ?_)))))
    refine jk (t := (u13)) rfl (fun h7 => ?_) (fun h7 => ?_)
    ·refine qa (qf (u12) rfl (qh (u12) rfl (qb (qc (qa (cX (qr [x1] qL qz rfl rfl (Rd.ownN [] rfl rfl) (qf (x3) rfl (qf (u12) rfl (cX (qt [_] _ [x1] qz rfl rfl rfl (qw (qP (jc hr1)) qC) rfl rfl rfl (qh (x3) rfl (qh (u12) rfl ?_)))))))))))))
     refine qb (qx (qp (L' := curH .i64 142 cb bsv bs.length :: L) [.agg #[x1], x3, u12] (.tuple #[.agg #[x1], x3, u12]) (.cell rfl (ja [x1] qL qz rfl (Rd.ownN [_] rfl rfl)) (.tmp rfl (.tmp rfl .nil))) rfl (qg (qg (qg (qg le1 le2) le3) le9) le27) rF (sD (sD (sC sR))) ?_))
     exact ⟨⟨_, _, _, _, _, _, rfl, hr1, hr3, f10_3hp_a, hr2, q1, by first | assumption | omega⟩, rfl⟩
    refine qv (qc (qa (cX (qr [x1] qL qz rfl rfl (Rd.ownN [] rfl rfl) (qf (x3) rfl (qf (x4) rfl (cX (qt [_] _ [x1] qz rfl rfl rfl (qw (qP (jc hr1)) qC) rfl rfl rfl (qh (x3) rfl (qh (x4) rfl (qb (qx (qp (L' := curH .i64 142 cb bsv bs.length :: L) [.agg #[x1], x3, x4] (.tuple #[.agg #[x1], x3, x4]) (.cell rfl (ja [x1] qL qz rfl (Rd.ownN [_] rfl rfl)) (.tmp rfl (.tmp rfl .nil))) rfl (qg (qg (qg (qg le1 le2) le3) le9) le27) rF (sD (sD (sC sR))) ?_)))))))))))))
    exact ⟨⟨_, _, _, _, _, _, rfl, hr1, hr3, hr4, hr2, q1, by first | assumption | omega⟩, rfl⟩
   refine qv (qc (qa (cX (qr [x1] qL qz rfl rfl (Rd.ownN [] rfl rfl) (qf (x3) rfl (qf (x4) rfl (cX (qt [_] _ [x1] qz rfl rfl rfl (qw (qP (jc hr1)) qC) rfl rfl rfl (qh (x3) rfl (qh (x4) rfl (qb (qx (qp (L' := curH .i64 142 cb bsv bs.length :: L) [.agg #[x1], x3, x4] (.tuple #[.agg #[x1], x3, x4]) (.cell rfl (ja [x1] qL qz rfl (Rd.ownN [_] rfl rfl)) (.tmp rfl (.tmp rfl .nil))) rfl (qg (qg (qg le1 le2) le3) le9) rF (sD (sD (sC sR))) ?_)))))))))))))
   exact ⟨⟨_, _, _, _, _, _, rfl, hr1, hr3, hr4, hr2, q1, by first | assumption | omega⟩, rfl⟩
  refine qv (qc (qa (cX (qr [x1] qL qz rfl rfl (Rd.ownN [] rfl rfl) (qf (x3) rfl (qf (x4) rfl (cX (qt [_] _ [x1] qz rfl rfl rfl (qw (qP (jc hr1)) qC) rfl rfl rfl (qh (x3) rfl (qh (x4) rfl (qb (qx (qp (L' := curH .i64 142 cb bsv bs.length :: L) [.agg #[x1], x3, x4] (.tuple #[.agg #[x1], x3, x4]) (.cell rfl (ja [x1] qL qz rfl (Rd.ownN [_] rfl rfl)) (.tmp rfl (.tmp rfl .nil))) rfl (qg (qg le1 le2) le3) rF (sD (sD (sC sR))) ?_)))))))))))))
  exact ⟨⟨_, _, _, _, _, _, rfl, hr1, hr3, hr4, hr2, q1, by first | assumption | omega⟩, rfl⟩
 rw [Bool.not_eq_true] at h1
 refine qu (t := 22) rfl (vB h1) (qu (t := 22) rfl (vB h1) (qu (t := 22) rfl (vB h1) (cX (qR (.bool (false)) (vB h1) rfl (qb (jx rfl (qv (qc (qa (cX (qr [x1] qL qz rfl rfl (Rd.ownN [] rfl rfl) (qf (x3) rfl (qf (x4) rfl ?_)))))))))))))
 refine cX (qt [_] _ [x1] qz rfl rfl rfl (qw (qP (jc hr1)) qC) rfl rfl rfl (qh (x3) rfl (qh (x4) rfl (qb (qx (qp (L' := curH .i64 142 cb bsv bs.length :: L) [.agg #[x1], x3, x4] (.tuple #[.agg #[x1], x3, x4]) (.cell rfl (ja [x1] qL qz rfl (Rd.ownN [_] rfl rfl)) (.tmp rfl (.tmp rfl .nil))) rfl (qg (qg le1 le2) le3) rF (sD (sD (sC sR))) ?_))))))
 exact ⟨⟨_, _, _, _, _, _, rfl, hr1, hr3, hr4, hr2, q1, by first | assumption | omega⟩, rfl⟩

/- spec.DrawMetOf -/
theorem DrawMetOf_spec {F : FH} {L : List HP} {bsv : Value} {bs : List Int} (hbs : BytesF F bsv bs) (hbl : bs.length ≤ 4000000) :
    Does prog 21 [bsv] F (L) (fun v F' L' => ∃ (a : Value), ∃ (b : Value), ∃ (d : Value), ∃ (ar : List Int), ∃ (t : List Int), ∃ (u : List Int), (.tuple #[.agg #[a], b, d] : Value) = v ∧ (IntsF F' a ar) ∧ (IntsF F' b t) ∧ (IntsF F' d u) ∧ (ar.length ≤ 20) ∧ (t.length ≤ 2000) ∧ (u.length ≤ 2000) ∧ L = L') := by
 refine qM func21 rfl rfl rfl (qc (qa (cX (jd [sN] zeroValue29 rfl ?_))))
 intro b1
 refine qh (sN) rfl (qh (sN) rfl (qb (qc (qa (qf (bsv) rfl (cX (ql (args := [bsv]) call72 rfl (l1New_spec hbs (by omega)) ?_)))))))
 rintro _ _ _ _ ⟨cb1, rfl, rfl, rfl⟩
 show XL _ _ _ _ _ _ _ (curH .i64 142 cb1 bsv bs.length :: cellsH b1 [sN] 29 :: L)
 refine qh (ptr cb1 0) rfl (qb (qc (qa (qf (ptr cb1 0) rfl (cX (ql (args := [ptr cb1 0]) call73 rfl (jj [] (l5Draw_spec hbs (by omega))) ?_))))))
 rintro _ F1 _ le1 ⟨⟨x1, x2, x3, x4, x5, x6, rfl, hr1, hr2, hr3, hr4, hr5, hr6⟩, rfl⟩
 show XL _ _ _ _ _ _ _ (curH .i64 142 cb1 bsv bs.length :: cellsH b1 [sN] 29 :: L)
 refine cX (qH (.agg #[x1]) rfl rfl (cX (qH (x2) rfl rfl (cX (qH (x3) rfl rfl (cX (qt [_] _ [x1] qz rfl rfl rfl (qw (qP (jc hr1)) qC) rfl rfl rfl (qh (x2) rfl (qh (x3) rfl (qb (qx (qp (L' := L) [.agg #[x1], x2, x3] (.tuple #[.agg #[x1], x2, x3]) (.cell rfl (ja [x1] qL qz rfl (Rd.ownN [_] rfl rfl)) (.tmp rfl (.tmp rfl .nil))) rfl le1 rF (sD (sD sR)) ?_))))))))))))
 exact ⟨_, _, _, _, _, _, rfl, hr1, hr2, hr3, hr4, hr5, hr6, rfl⟩

/- impl.InstanceIn -/
theorem InstanceIn_spec {F : FH} {L : List HP} {arv : Value} {ar : List Int} (har : IntsF F arv ar) {pv : Value} {p : List Int} (hp : IntsF F pv p) {tv : Value} {t : List Int} (ht : IntsF F tv t) :
    Does prog 28 [.agg #[arv], pv, tv] F (L) (fun v F' L' => (.bool ((termOk ar p && termOk ar t) && (matchB ar p t).isSome) : Value) = v ∧ F = F' ∧ L = L') := by
 refine qM func28 rfl rfl rfl (qc (qa (cX (jg [arv] rfl rfl ?_))))
 intro b1
 refine qh (.bool (false)) rfl (qb (qc (qa (cX (qr [arv] qL qz rfl rfl (Rd.ownN [] rfl rfl) (qf (pv) rfl (cX (ql (args := [.agg #[arv], pv]) call79 rfl (TermOk_spec har hp) ?_))))))))
 rintro _ _ _ _ ⟨rfl, rfl, rfl⟩
 refine qf (.bool (termOk ar p)) rfl ?_
 by_cases h1 : (termOk ar p) = true
 ·have hop : termOk ar p = true := h1
  have hlp := termOk_len hop
  have hgp := fun k (hk : k < p.length) => termOk_ge hop hk
  refine qq (t := 10) rfl (vB h1) (qr [arv] qL qz rfl rfl (Rd.ownN [] rfl rfl) (qq (t := 10) rfl (vB h1) (qk (tv) rfl (qq (t := 10) rfl (vB h1) (ql (args := [.agg #[arv], tv]) call79 rfl (TermOk_spec har ht) ?_)))))
  rintro _ _ _ _ ⟨rfl, rfl, rfl⟩
  refine cX (qX (.bool (termOk ar t)) (vB h1) rfl (qf (.bool (termOk ar t)) rfl ?_))
  by_cases h2 : (termOk ar t) = true
  ·have hot : termOk ar t = true := h2
   have hlt := termOk_len hot
   have hgt := fun k (hk : k < t.length) => termOk_ge hot hk
   refine qq (t := 15) rfl (vB h2) (qr [arv] qL qz rfl rfl (Rd.ownN [] rfl rfl) (qq (t := 15) rfl (vB h2) (qk (pv) rfl (qq (t := 15) rfl (vB h2) (qk (tv) rfl (qq (t := 15) rfl (vB h2) (ql (args := [.agg #[arv], pv, tv]) call84 rfl (instance_spec har hp ht (ho := (by first | assumption | rfl | omega | simp)) (hpo := (by first | assumption | rfl | omega | simp))) ?_)))))))
   rintro _ _ _ _ ⟨rfl, rfl, rfl⟩
   refine cX (qX (.bool ((matchB ar p t).isSome)) (vB h2) rfl (qh (.bool ((matchB ar p t).isSome)) rfl (qb (qx (qp (L' := L) [.bool ((matchB ar p t).isSome)] (.bool ((matchB ar p t).isSome)) (.tmp rfl .nil) rfl rF rF (sD sR) ?_)))))
   exact ⟨(vB (by simp_all)), rfl, rfl⟩
  rw [Bool.not_eq_true] at h2
  refine qu (t := 15) rfl (vB h2) (qu (t := 15) rfl (vB h2) (qu (t := 15) rfl (vB h2) (qu (t := 15) rfl (vB h2) (cX (qR (.bool (false)) (vB h2) rfl (qh (.bool (false)) rfl (qb (qx (qp (L' := L) [.bool (false)] (.bool (false)) (.tmp rfl .nil) rfl rF rF (sD sR) ?_)))))))))
  exact ⟨(vB (by simp_all)), rfl, rfl⟩
 rw [Bool.not_eq_true] at h1
 refine qu (t := 10) rfl (vB h1) (qu (t := 10) rfl (vB h1) (qu (t := 10) rfl (vB h1) (cX (qR (.bool (false)) (vB h1) rfl (qf (.bool (false)) rfl (qu (t := 15) rfl rfl (qu (t := 15) rfl rfl (qu (t := 15) rfl rfl (qu (t := 15) rfl rfl (cX (qR (.bool (false)) rfl rfl ?_)))))))))))
 refine qh (.bool (false)) rfl (qb (qx (qp (L' := L) [.bool (false)] (.bool (false)) (.tmp rfl .nil) rfl rF rF (sD sR) ?_)))
 exact ⟨(vB (by simp_all)), rfl, rfl⟩

/- laws.FnMet -/
set_option maxHeartbeats 2000000 in
set_option maxRecDepth 20000 in
theorem FnMet_does {F : FH} {L : List HP} {bsv : Value} {bs : List Int} (hbs : BytesF F bsv bs) (hlb : bs.length ≤ 9223372036854775807) :
    Does prog 4 [bsv] F (L) (fun v F' L' => (.bool (true) : Value) = v ∧ F = F' ∧ L = L') := by
 refine qM func4 rfl rfl rfl (qc (qa (qh (.bool (false)) rfl (qb (qc (qc (qa (qf (bsv) rfl (cX (ql (args := [bsv]) call11 rfl (big_spec hbs) ?_))))))))))
 rintro _ _ _ _ ⟨rfl, rfl, rfl⟩
 refine qb ?_
 refine qF (p := (bs.length : Int) > 4096) rfl (fun h1 => ?_) (fun h1 => ?_)
 ·refine qc (qa (qh (.bool (true)) rfl (qb (qx (qi (qp (L' := L) [.bool (true)] (.bool (true)) (.tmp rfl .nil) rfl rF rF sR ?_))))))
  exact ⟨rfl, rfl, rfl⟩
 have hbl2 : bs.length ≤ 4000000 := by omega
 refine qv (qc (qa (qf (bsv) rfl (cX (ql (args := [bsv]) call21 rfl (DrawMetOf_spec hbs (hbl := (by first | assumption | rfl | omega | simp))) ?_)))))
 rintro _ F1 _ le1 ⟨x1, x2, x3, x4, x5, x6, rfl, hr1, hr2, hr3, hr4, hr5, hr6, rfl⟩
 have hal9 := hr4
 have htl9 := hr5
 have hul9 := hr6
 refine qf (.tuple #[.agg #[x1], x2, x3]) rfl (cX (qH (.agg #[x1]) rfl rfl (cX (qH (x2) rfl rfl (cX (qH (x3) rfl rfl (cX (jd [sN] zeroValue29 rfl ?_))))))))
 intro b1
 refine cX (qt [] _ [x1] qz rfl rfl rfl (qw (qP (jc hr1)) qC) rfl rfl rfl (qh (x2) rfl (qh (x3) rfl (qb (qc (qa (cX (qr [x1] qL qz rfl rfl (Rd.ownN [] rfl rfl) (qf (x2) rfl (qf (x3) rfl (cX (ql (args := [.agg #[x1], x2, x3]) call22 rfl (MetOf_spec hr1 hr2 hr3) ?_))))))))))))
 rintro _ F2 _ le2 ⟨x7, x8, rfl, hr7, hr8, hr9, rfl⟩
 replace hr1 := hr1.mono le2
 replace hr2 := hr2.mono le2
 replace hr3 := hr3.mono le2
 refine qf (.tuple #[x7, .bool (apartB x4 x5 x6)]) rfl (cX (qH (x7) rfl rfl (cX (qH (.bool (apartB x4 x5 x6)) rfl rfl (qh (x7) rfl (qh (.bool (apartB x4 x5 x6)) rfl (qb (qc (qa (cX (qr [x1] qL qz rfl rfl (Rd.ownN [] rfl rfl) (qf (x2) rfl (qf (x3) rfl (cX (ql (args := [.agg #[x1], x2, x3]) call23 rfl (sMetOf_spec hr1 hr2 hr3 (hla := (by first | assumption | rfl | omega | simp)) (hlta := (by first | assumption | rfl | omega | simp)) (hltc := (by first | assumption | rfl | omega | simp))) ?_)))))))))))))))
 rintro _ F3 _ le3 ⟨x9, x10, rfl, hr10, hr11, hr12, rfl⟩
 replace hr1 := hr1.mono le3
 replace hr2 := hr2.mono le3
 replace hr3 := hr3.mono le3
 replace hr7 := hr7.mono le3
 have hsame : x8 = x10 := by
   cases hA : apartB x4 x5 x6 with
   | false => rw [hr9 hA, hr12 hA]
   | true =>
     obtain ⟨s1, hU1, e1⟩ := hr8 hA
     obtain ⟨s2, hU2, e2⟩ := hr11 hA
     rw [e1, e2]
     exact met_same hU2 hU1
 have hml : x8.length ≤ 60 := by
   cases hA : apartB x4 x5 x6 with
   | false => rw [hr9 hA]; simp
   | true =>
     obtain ⟨s1, hU1, e1⟩ := hr8 hA
     exact (met_law hA hU1 e1).2.2.2.2
 refine qf (.tuple #[x9, .bool (apartB x4 x5 x6)]) rfl (cX (qH (x9) rfl rfl (cX (qH (.bool (apartB x4 x5 x6)) rfl rfl (qh (x9) rfl (qh (.bool (apartB x4 x5 x6)) rfl (qb (qc (qc ?_)))))))))
 by_cases h2 : (apartB x4 x5 x6) ≠ (apartB x4 x5 x6)
 ·exact absurd rfl h2
 by_cases h3 : ¬(x8 = x10)
 ·exact absurd hsame (by simpa using h3)
 refine jz [cellsH b1 [x1] 29] L 15 [] [[], [], [0, 1], [2], [3], [3], [3, 4, 5], [3, 6], [3, 7], [8], [9], [9], [9, 10, 11], [9], [9]] (phiL [qe (.bool (apartB x4 x5 x6)), qe (.bool (apartB x4 x5 x6)), qe (.bool (decide ((apartB x4 x5 x6) ≠ (apartB x4 x5 x6)))), qe (.bool (decide ((apartB x4 x5 x6) ≠ (apartB x4 x5 x6)))), qe x7, qe x9, qe (.bool (decide (x8 = x10))), qe (.bool (decide (¬(x8 = x10)))), qe (.bool (decide (¬(x8 = x10)))), qe (.bool (decide (¬(x8 = x10)))), qe (.agg #[x1]), qe x2, qe (ii (if termOk x4 x5 = true then behL x5 else -1)), qe (.agg #[x1]), qe x2]) (ownL []) mixed rfl rfl (by kernel_rfl) ?_ ?_
 ·refine pD (fun W R z9 => ?_) ?_
  ·refine qj (qk (.bool (apartB x4 x5 x6)) rfl ?_)
   exact ⟨rfl, rfl, rfl⟩
  refine pD (fun W R z9 => ?_) ?_
  ·refine qj (qk (.bool (apartB x4 x5 x6)) rfl ?_)
   exact ⟨rfl, rfl, rfl⟩
  refine pD (fun W R z9 => ?_) ?_
  ·rw [eS (l := [(0, _), (1, _)]) ⟨z9 0 rfl, z9 1 rfl, ⟨⟩⟩]
   refine qj (XOp.neB (a := apartB x4 x5 x6) (b := apartB x4 x5 x6) runUnderlying4 rfl rfl ?_)
   exact ⟨rfl, rfl, rfl⟩
  refine pD (fun W R z9 => ?_) ?_
  ·rw [eS (l := [(2, _)]) ⟨z9 2 rfl, ⟨⟩⟩]
   refine qj (qk (.bool (decide ((apartB x4 x5 x6) ≠ (apartB x4 x5 x6)))) rfl ?_)
   exact ⟨rfl, rfl, rfl⟩
  refine pD (fun W R z9 => ?_) ?_
  ·rw [eS (l := [(3, _)]) ⟨z9 3 rfl, ⟨⟩⟩]
   refine jf (t := 37) rfl (vF h2) (qk (x7) rfl ?_)
   exact ⟨rfl, rfl, rfl⟩
  refine pD (fun W R z9 => ?_) ?_
  ·rw [eS (l := [(3, _)]) ⟨z9 3 rfl, ⟨⟩⟩]
   refine jf (t := 37) rfl (vF h2) (qk (x9) rfl ?_)
   exact ⟨rfl, rfl, rfl⟩
  refine pD (fun W R z9 => ?_) ?_
  ·rw [eS (l := [(3, _), (4, _), (5, _)]) ⟨z9 3 rfl, z9 4 rfl, z9 5 rfl, ⟨⟩⟩]
   refine jf (t := 37) rfl (vF h2) (ql (args := [x7, x9]) call24 rfl (iSameTerm_spec hr7 hr10 (hbd := (by first | (refine Or.inr ?_; omega) | (refine Or.inl ?_; omega)))) ?_)
   rintro _ _ _ _ ⟨rfl, rfl, rfl⟩
   exact ⟨rfl, rfl, rfl⟩
  refine pD (fun W R z9 => ?_) ?_
  ·rw [eS (l := [(3, _), (6, _)]) ⟨z9 3 rfl, z9 6 rfl, ⟨⟩⟩]
   refine jf (t := 37) rfl (vF h2) (XOp.notD rfl ?_)
   exact ⟨rfl, rfl, rfl⟩
  refine pD (fun W R z9 => ?_) ?_
  ·rw [eS (l := [(3, _), (7, _)]) ⟨z9 3 rfl, z9 7 rfl, ⟨⟩⟩]
   refine qj (qR (.bool (decide (¬(x8 = x10)))) (vF h2) rfl ?_)
   exact ⟨rfl, rfl, rfl⟩
  refine pD (fun W R z9 => ?_) ?_
  ·rw [eS (l := [(8, _)]) ⟨z9 8 rfl, ⟨⟩⟩]
   refine qj (qk (.bool (decide (¬(x8 = x10)))) rfl ?_)
   exact ⟨rfl, rfl, rfl⟩
  refine pD (fun W R z9 => ?_) ?_
  ·rw [eS (l := [(9, _)]) ⟨z9 9 rfl, ⟨⟩⟩]
   refine jf (t := 43) rfl (vF h3) (qr [x1] qL qz rfl rfl (Rd.ownN [] rfl rfl) ?_)
   exact ⟨rfl, rfl, rfl⟩
  refine pD (fun W R z9 => ?_) ?_
  ·rw [eS (l := [(9, _)]) ⟨z9 9 rfl, ⟨⟩⟩]
   refine jf (t := 43) rfl (vF h3) (qk (x2) rfl ?_)
   exact ⟨rfl, rfl, rfl⟩
  refine pD (fun W R z9 => ?_) ?_
  ·rw [eS (l := [(9, _), (10, _), (11, _)]) ⟨z9 9 rfl, z9 10 rfl, z9 11 rfl, ⟨⟩⟩]
   refine jf (t := 43) rfl (vF h3) (ql (args := [.agg #[x1], x2]) call25 rfl (BehindOf_spec hr1 hr2) ?_)
   rintro _ _ _ _ ⟨rfl, rfl, rfl⟩
   exact ⟨rfl, rfl, rfl⟩
  refine pD (fun W R z9 => ?_) ?_
  ·rw [eS (l := [(9, _)]) ⟨z9 9 rfl, ⟨⟩⟩]
   refine jf (t := 43) rfl (vF h3) (qr [x1] qL qz rfl rfl (Rd.ownN [] rfl rfl) ?_)
   exact ⟨rfl, rfl, rfl⟩
  refine pD (fun W R z9 => ?_) ?_
  ·rw [eS (l := [(9, _)]) ⟨z9 9 rfl, ⟨⟩⟩]
   refine jf (t := 43) rfl (vF h3) (qk (x2) rfl ?_)
   exact ⟨rfl, rfl, rfl⟩
  exact stepsP.nil
 intro W hphi
 rw [eS (l := [(9, _), (12, _), (13, _), (14, _)]) ⟨(hphi 9 (by decide)), (hphi 12 (by decide)), (hphi 13 (by decide)), (hphi 14 (by decide)), ⟨⟩⟩]
 show XL _ _ _ _ _ _ _ (cellsH b1 [x1] 29 :: L)
 refine qq (t := 43) rfl (vF h3) (ql (args := [.agg #[x1], x2]) call26 rfl (sBehindOf_spec hr1 hr2 (hla := (by first | assumption | rfl | omega | simp)) (hlt := (by first | assumption | rfl | omega | simp))) ?_)
 rintro _ _ _ _ ⟨rfl, rfl, rfl⟩
 refine qq (t := 43) rfl (vF h3) (XOp.neq rfl rfl (cX (qR (.bool (decide ((if termOk x4 x5 = true then behL x5 else -1 : Int) ≠ if termOk x4 x5 = true then behL x5 else -1))) (vF h3) rfl (qb ?_))))
 refine qF (p := (if termOk x4 x5 = true then behL x5 else -1 : Int) ≠ if termOk x4 x5 = true then behL x5 else -1) rfl (fun h4 => ?_) (fun h4 => ?_)
 ·exact absurd rfl h4
 refine qv (qc (qc (qa (qf (.bool (apartB x4 x5 x6)) rfl (cX (jh rfl (qb ?_)))))))
 refine jk (t := !(apartB x4 x5 x6)) rfl (fun h5 => ?_) (fun h5 => ?_)
 ·have hapN : apartB x4 x5 x6 = false := Bool.not_inj (y := false) h5
  have hm0 := hr9 hapN
  refine qc (qa (qf (x7) rfl (cX (qO qd rfl hr7.slv (cX (jt rfl rfl (qh (.bool (decide (((x8.length : Int) : Int) = 0))) rfl (qb (qx (qi (qp (L' := L) [.bool (decide (((x8.length : Int) : Int) = 0))] (.bool (decide (((x8.length : Int) : Int) = 0))) (.tmp rfl .nil) rfl rF (qg (qg le1 le2) le3) (sD sR) ?_)))))))))))
  exact ⟨(vB ((decide_eq_true (by rw [hm0]; rfl)).symm)), rfl, rfl⟩
 have hapY : apartB x4 x5 x6 = true := Bool.not_inj (y := true) h5
 obtain ⟨s1, hU1, e1⟩ := hr8 hapY
 have hlaw := met_law hapY hU1 e1
 have hapo := apart_ok hapY
 refine qv (qc (qa (cX (qr [x1] qL qz rfl rfl (Rd.ownN [] rfl rfl) (qf (x2) rfl (qf (x3) rfl (cX (ql (args := [.agg #[x1], x2, x3]) call27 rfl (UnifiedApart_spec hr1 hr2 hr3) ?_))))))))
 rintro _ F4 _ le4 ⟨x11, x12, rfl, hr13, hr14, hr15, rfl⟩
 replace hr1 := hr1.mono le4
 replace hr2 := hr2.mono le4
 replace hr3 := hr3.mono le4
 replace hr7 := hr7.mono le4
 refine qf (.tuple #[.agg #[x11], .bool (apartB x4 x5 x6)]) rfl (cX (qH (.agg #[x11]) rfl rfl (cX (qH (.bool (apartB x4 x5 x6)) rfl rfl (cX (jd [sN] qG rfl ?_))))))
 intro b2
 refine cX (qt [] _ [x11] qm rfl rfl rfl (qw (qP (RowsF.isSl hr13)) qC) rfl rfl rfl (qh (.bool (apartB x4 x5 x6)) rfl (qb (qc (qa (qf (.bool (apartB x4 x5 x6)) rfl (qf (.bool (apartB x4 x5 x6)) rfl ?_)))))))
 by_cases h6 : (apartB x4 x5 x6) = true
 ·refine qq (t := 65) rfl (vB h6) (qr [x1] qL qz rfl rfl (Rd.ownN [_] rfl rfl) (qq (t := 65) rfl (vB h6) (qk (x2) rfl (qq (t := 65) rfl (vB h6) (qk (x7) rfl (qq (t := 65) rfl (vB h6) (ql (args := [.agg #[x1], x2, x7]) call28 rfl (InstanceIn_spec hr1 hr2 hr7) ?_)))))))
  rintro _ _ _ _ ⟨rfl, rfl, rfl⟩
  refine cX (qX (.bool ((termOk x4 x5 && termOk x4 x8) && (matchB x4 x5 x8).isSome)) (vB h6) rfl (qf (.bool ((termOk x4 x5 && termOk x4 x8) && (matchB x4 x5 x8).isSome)) rfl ?_))
  by_cases h7 : ((termOk x4 x5 && termOk x4 x8) && (matchB x4 x5 x8).isSome) = true
  ·refine qq (t := 71) rfl (vB h7) (qr [x1] qL qz rfl rfl (Rd.ownN [_] rfl rfl) (qq (t := 71) rfl (vB h7) (qk (x3) rfl (qq (t := 71) rfl (vB h7) (qk (x7) rfl (qq (t := 71) rfl (vB h7) (ql (args := [.agg #[x1], x3, x7]) call28 rfl (InstanceIn_spec hr1 hr3 hr7) ?_)))))))
   rintro _ _ _ _ ⟨rfl, rfl, rfl⟩
   refine cX (qX (.bool ((termOk x4 x6 && termOk x4 x8) && (matchB x4 x6 x8).isSome)) (vB h7) rfl (qf (.bool ((termOk x4 x6 && termOk x4 x8) && (matchB x4 x6 x8).isSome)) rfl ?_))
   by_cases h8 : ((termOk x4 x6 && termOk x4 x8) && (matchB x4 x6 x8).isSome) = true
   ·refine qq (t := 77) rfl (vB h8) (qr [x1] qL qz rfl rfl (Rd.ownN [_] rfl rfl) (qq (t := 77) rfl (vB h8) (qk (x7) rfl (qq (t := 77) rfl (vB h8) (ql (args := [.agg #[x1], x7]) call29 rfl (Renamed_spec hr1 hr7) ?_)))))
    rintro _ F5 _ le5 ⟨x13, rfl, hr16, rfl⟩
    replace hr7 := hr7.mono le5
    refine qq (t := 77) rfl (vB h8) (qk (x7) rfl ?_)
    refine qq (t := 77) rfl (vB h8) (ql (args := [x13, x7]) call24 rfl (iSameTerm_spec hr16 hr7 (hbd := (by first | (refine Or.inr ?_; omega) | (refine Or.inl ?_; omega)))) ?_)
    rintro _ _ _ _ ⟨rfl, rfl, rfl⟩
    refine cX (qX (.bool (decide (((if termOk x4 x8 = true then byL (orderL x8) x8 else [])) = x8))) (vB h8) rfl (qh (.bool (decide (((if termOk x4 x8 = true then byL (orderL x8) x8 else [])) = x8))) rfl (qb (qx (qp (L' := L) [.bool (decide (((if termOk x4 x8 = true then byL (orderL x8) x8 else [])) = x8))] (.bool (decide (((if termOk x4 x8 = true then byL (orderL x8) x8 else [])) = x8))) (.tmp rfl .nil) rfl rF (qg (qg (qg (qg le1 le2) le3) le4) le5) (sD (sD sR)) ?_)))))
    exact ⟨(vB ((decide_eq_true (by rw [if_pos hlaw.1]; exact hlaw.2.2.2.1)).symm)), rfl, rfl⟩
   rw [Bool.not_eq_true] at h8
   exact absurd h8 (by rw [hapo.2.1, hlaw.1, hlaw.2.2.1]; simp)
  rw [Bool.not_eq_true] at h7
  exact absurd h7 (by rw [hapo.1, hlaw.1, hlaw.2.1]; simp)
 rw [Bool.not_eq_true] at h6
 exact absurd hapY (by rw [h6]; simp)
end Go.Proofs.Ytcdjpapjjoldeaa
