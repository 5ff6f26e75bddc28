/-
  Walks, one after the other (part 1).
-/
import Derived.Test.YtenomejgjcpbdaaQNL1
import Derived.Test.YtenomejgjcpbdaaProg
import Derived.KernelRfl
set_option linter.unusedSimpArgs false
set_option linter.unusedVariables false
namespace Go.Proofs.Ytenomejgjcpbdaa
open Go X M Try
theorem qc : type_of% @X.region := @X.region
theorem qd : type_of% @XL.nil := @XL.nil
theorem qf : type_of% @X.seq := @X.seq
theorem qg : type_of% @XL.mv := @XL.mv
theorem qh : type_of% @XL.as := @XL.as
theorem qi : type_of% @runUnderlying22 := @runUnderlying22
theorem qj : type_of% @thenQ_ret := @thenQ_ret
theorem qk : type_of% @XOp.load1 := @XOp.load1
theorem ql : type_of% @XOp.call := @XOp.call
theorem qm : type_of% @retEnd := @retEnd
theorem qn : type_of% @XOp.fieldP := @XOp.fieldP
theorem qo : type_of% @XG.op := @XG.op
theorem qp : type_of% @FLe.trans := @FLe.trans
theorem qq : type_of% @XL.no := @XL.no
theorem qr : type_of% @XL.yes := @XL.yes
theorem qs : type_of% @X.ret := @X.ret
theorem qt : type_of% @XOp.loadN := @XOp.loadN
theorem qu : type_of% @XOp.move := @XOp.move
theorem qv : type_of% @thenQ_exit := @thenQ_exit
theorem qw : type_of% @X.skip := @X.skip
theorem qx : type_of% @X.condD := @X.condD
theorem qy : type_of% @blockQ_ret := @blockQ_ret
theorem qz : type_of% @Does.of_X := @Does.of_X
theorem qA : type_of% @XOp.indexS := @XOp.indexS
theorem qB : type_of% @sizeOf22 := @sizeOf22
theorem qC : type_of% @XOp.lenS := @XOp.lenS
theorem qD : type_of% @sizeOf30 := @sizeOf30
theorem qE : type_of% @X.block := @X.block
theorem qF : type_of% @XOp.extract := @XOp.extract
theorem qG : type_of% @sizeOf2 := @sizeOf2
theorem qH : type_of% @runUnderlying79 := @runUnderlying79
theorem qI : type_of% @XOp.lss := @XOp.lss
theorem qJ : type_of% @blockQ_exit := @blockQ_exit
theorem qK : type_of% @isAgg22 := @isAgg22
theorem qL : type_of% @XOp.pickF := @XOp.pickF
theorem qM : type_of% @XOp.addR := @XOp.addR
theorem qN : type_of% @runUnderlying48 := @runUnderlying48
theorem qO : type_of% @XOp.box := @XOp.box
theorem qP : type_of% @isAgg30 := @isAgg30
theorem qQ : type_of% @XOp.pickT := @XOp.pickT
theorem qR : type_of% @runUnderlying123 := @runUnderlying123
theorem qS : type_of% @XOp.buildSlice := @XOp.buildSlice
theorem qT : type_of% @runUnderlying77 := @runUnderlying77
theorem qU : type_of% @IntsF.isSl := @IntsF.isSl
theorem qV : type_of% @runUnderlying60 := @runUnderlying60
theorem qW : type_of% @runUnderlying46 := @runUnderlying46
theorem qX : type_of% @X.exit := @X.exit
theorem qY : type_of% @X.loop := @X.loop
theorem qZ : type_of% @XOp.notB := @XOp.notB
theorem ja : type_of% @isAgg2 := @isAgg2
theorem jb : type_of% @zeroValue2 := @zeroValue2
theorem jc : type_of% @ones_cons := @ones_cons
theorem jd : type_of% @sizeOf123 := @sizeOf123
theorem je : type_of% @XOp.subR := @XOp.subR
theorem jf : type_of% @one_sl := @one_sl
theorem jg : type_of% @runUnderlying153 := @runUnderlying153
theorem jh : type_of% @runUnderlying30 := @runUnderlying30
theorem ji : type_of% @Sub.front := @Sub.front
theorem jj : type_of% @sizeOf79 := @sizeOf79
theorem jk : type_of% @XOp.notD := @XOp.notD
theorem jl : type_of% @XOp.storeN := @XOp.storeN
theorem jm : type_of% @sizeOf119 := @sizeOf119
theorem jn : type_of% @X.freezeF := @X.freezeF
theorem jo : type_of% @sizeOf48 := @sizeOf48
theorem jp : type_of% @XOp.nilCheck := @XOp.nilCheck
theorem jq : type_of% @X.cond := @X.cond
theorem jr : type_of% @XOp.alloc := @XOp.alloc
theorem js : type_of% @XOp.gtr := @XOp.gtr
theorem jt : type_of% @sizeOf77 := @sizeOf77
theorem ju : type_of% @isAgg48 := @isAgg48
theorem jv : type_of% @runUnderlying116 := @runUnderlying116

theorem mixed : prog.follows .mixedOrders = true := by kernel_rfl

/- impl.arityAt -/
theorem arityAt_spec {F : FH} {L : List HP} {arv : Value} {ar : List Int} (har : IntsF F arv ar) {n : Int} (hn : n < (ar.length : Int)) :
    Does prog 143 [.agg #[arv], ii (n)] F (L) (fun v F' L' => (ii (arity ar n) : Value) = v ∧ F = F' ∧ L = L') := by
 refine qz func143 rfl rfl rfl (qf (qc (cX (qO [arv] rfl rfl ?_))))
 intro b1
 refine qh (ii (0)) rfl (qd (qf (qf (qc (qg (ii (n)) rfl (cX (qI rfl rfl (qd ?_))))))))
 refine qx (p := (n : Int) < 0) rfl (fun h1 => ?_) (fun h1 => ?_)
 ·refine qf (qc (qh (ii (0)) rfl (qd (qs (qj (qm (L' := L) [ii (0)] (ii (0)) (.tmp rfl .nil) rfl rF rF (sD sR) ?_))))))
  exact ⟨(vI (by simp [arity, *])), rfl, rfl⟩
 refine qw (qf (qc (cX (qn (0) jh rfl qB (by decide) rfl rfl (cX (qk qK rfl (Rd.own [] rfl rfl) (qg (ii (n)) rfl (cX (qA ((n).toNat) qi qG rfl rfl (by omega) har.slv (by omega) (Nat.mul_one _) (cX (qk ja rfl (har.rd (by omega)) (qh (ii (ar.getD ((n).toNat) 0)) rfl (qd (qs (qm (L' := L) [ii (ar.getD ((n).toNat) 0)] (ii (ar.getD ((n).toNat) 0)) (.tmp rfl .nil) rfl rF rF (sD sR) ?_)))))))))))))))
 exact ⟨(vI (by simp [arity, *])), rfl, rfl⟩

/- impl.SigOk -/
theorem SigOk_spec {F : FH} {L : List HP} {arv : Value} {ar : List Int} (har : IntsF F arv ar) :
    Does prog 92 [.agg #[arv]] F (L) (fun v F' L' => (.bool (sigOk ar) : Value) = v ∧ F = F' ∧ L = L') := by
 refine qz func92 rfl rfl rfl (qf (qc (cX (qO [arv] rfl rfl ?_))))
 intro b1
 refine qh (.bool (false)) rfl (qd (qf (qf (qc (cX (qn (0) jh rfl qB (by decide) rfl rfl (cX (qk qK rfl (Rd.own [] rfl rfl) (cX (qC qi rfl har.slv (cX (qI rfl rfl (qg (.bool (decide (((ar.length : Int) : Int) < 1))) rfl ?_)))))))))))))
 by_cases h1 : ((ar.length : Int) : Int) < 1
 ·refine qq (t := 9) rfl (vT h1) (qq (t := 9) rfl (vT h1) (qq (t := 9) rfl (vT h1) (qq (t := 9) rfl (vT h1) (cX (qQ (.bool (true)) (vT h1) rfl (qd (X.condT rfl (qf (qc (qh (.bool (false)) rfl (qd ?_)))))))))))
  refine qs (qj (qm (L' := L) [.bool (false)] (.bool (false)) (.tmp rfl .nil) rfl rF rF (sD sR) ?_))
  exact ⟨(vB (sigOk_short (by omega))), rfl, rfl⟩
 refine qr (t := 9) rfl (vF h1) (qn (0) jh rfl qB (by decide) rfl rfl (qr (t := 9) rfl (vF h1) (qk qK rfl (Rd.own [] rfl rfl) (qr (t := 9) rfl (vF h1) (qC qi rfl har.slv (qr (t := 9) rfl (vF h1) (js rfl rfl (cX (qL (.bool (decide (((ar.length : Int) : Int) > 8))) (vF h1) rfl (qd ?_))))))))))
 refine qx (p := ((ar.length : Int) : Int) > 8) rfl (fun h2 => ?_) (fun h2 => ?_)
 ·refine qf (qc (qh (.bool (false)) rfl (qd (qs (qj (qm (L' := L) [.bool (false)] (.bool (false)) (.tmp rfl .nil) rfl rF rF (sD sR) ?_))))))
  exact ⟨(vB (sigOk_short (by omega))), rfl, rfl⟩
 refine qw (qf (qf (qc (cX (qn (0) jh rfl qB (by decide) rfl rfl (cX (qk qK rfl (Rd.own [] rfl rfl) (cX (qC qi rfl har.slv (qg (ii (0)) rfl (qd (qE (qY (α := Nat) (fun k => [(16, arv), (17, ii ((ar.length : Int))), (18, ii ((k : Int)))]) (fun k => cellsH b1 [arv] 30 :: L) (fun k F' => F = F' ∧ (k ≤ ar.length) ∧ (∀ i, i < k → 0 ≤ ar.getD i 0 ∧ ar.getD i 0 ≤ 3)) (fun k => ar.length - k) 0 ⟨rfl, rfl, rfl, ⟨⟩⟩ (sC sR) ⟨rfl, (by omega), (fun i hi => absurd hi (by omega))⟩ ?_)))))))))))))
 rintro k rE _ _ ⟨rfl, hk, hall⟩
 show X _ _ _ _ (envs [(16, arv), (17, ii ((ar.length : Int))), (18, ii ((k : Int)))] rE) _ (cellsH b1 [arv] 30 :: L)
 refine qf (qc (cX (qI rfl rfl (qd (qf ?_)))))
 refine qx (p := (k : Int) < (ar.length : Int)) rfl (fun h3 => ?_) (fun h3 => ?_)
 ·refine qw (qf (qE (qf (qc (cX (qA k qi qG rfl rfl rfl har.slv (by omega) (Nat.mul_one _) (cX (qk ja rfl (har.rd (by omega)) (qh (ii (ar.getD k 0)) rfl (qd (qf (qc (qg (ii (ar.getD k 0)) rfl (cX (qI rfl rfl (qg (.bool (decide ((ar.getD k 0 : Int) < 0))) rfl ?_))))))))))))))))
  by_cases h4 : (ar.getD k 0 : Int) < 0
  ·refine qq (t := 24) rfl (vT h4) (qq (t := 24) rfl (vT h4) (cX (qQ (.bool (true)) (vT h4) rfl (qd (X.condT rfl (qf (qc (qh (.bool (false)) rfl (qd (qs (qy (qj (qj (qy (qj (qm (L' := L) [.bool (false)] (.bool (false)) (.tmp rfl .nil) rfl rF rF (sD sR) ?_))))))))))))))))
   exact ⟨(vB (sigOk_bad (i := k) (by omega) (by omega))), rfl, rfl⟩
  refine qr (t := 24) rfl (vF h4) (qu (ii (ar.getD k 0)) rfl (qr (t := 24) rfl (vF h4) (js rfl rfl (cX (qL (.bool (decide ((ar.getD k 0 : Int) > 3))) (vF h4) rfl (qd ?_))))))
  refine qx (p := (ar.getD k 0 : Int) > 3) rfl (fun h5 => ?_) (fun h5 => ?_)
  ·refine qf (qc (qh (.bool (false)) rfl (qd (qs (qy (qj (qj (qy (qj (qm (L' := L) [.bool (false)] (.bool (false)) (.tmp rfl .nil) rfl rF rF (sD sR) ?_))))))))))
   exact ⟨(vB (sigOk_bad (i := k) (by omega) (by omega))), rfl, rfl⟩
  refine qw (qc (cX (qM (((k + 1 : Nat) : Int)) rfl rfl (by omega) (by omega) (qg (ii (((k + 1 : Nat) : Int))) rfl (qd ?_)))))
  exact ⟨k + 1, _, FLe.refl _, rF, ⟨rfl, rfl, rfl, ⟨⟩⟩, (sC sR), ⟨rfl, (by omega), (fun i hi => (Nat.lt_or_ge i k).elim (fun h => hall i h) (fun h => by obtain rfl : i = k := (by omega); omega))⟩, (by omega)⟩
 refine qX (qv (qv (qJ (qf (qc (qh (.bool (true)) rfl (qd (qs (qm (L' := L) [.bool (true)] (.bool (true)) (.tmp rfl .nil) rfl rF rF (sD sR) ?_)))))))))
 exact ⟨(vB (sigOk_of (by omega) (by omega) (fun i hi => hall i (by omega)))), rfl, rfl⟩

/- (*impl.cursor).next -/
theorem next_spec {F : FH} {L : List HP} {c p : Nat} {arv : Value} {ar : List Int} (har : IntsF F arv ar) {tv : Value} {t : List Int} (ht : IntsF F tv t) (hb : t.length ≤ 4000000) :
    Does prog 128 [ptr c 0] F (cellsH c [arv, tv, ii ((p : Int))] 153 :: L) (fun v F' L' => F = F' ∧ ((p < t.length ∧ t.getD p 0 < (ar.length : Int) ∧ (ii (arity ar (t.getD p 0)) : Value) = v ∧ cellsH c [arv, tv, ii ((p + 1 : Nat) : Int)] 153 :: L = L') ∨ (¬ (p < t.length ∧ t.getD p 0 < (ar.length : Int)) ∧ (ii (-1) : Value) = v ∧ cellsH c [arv, tv, ii (p : Int)] 153 :: L = L'))) := by
 refine qz func128 rfl rfl rfl (qf (qc (qh (ii (0)) rfl (qd (qf (qf ?_))))))
 by_cases h1 : (p : Int) ≥ (t.length : Int)
 ·refine X.draw [cellsH c [arv, tv, ii ((p : Int))] 153] L 27 [] [[], [0], [1], [2], [], [4], [5], [6], [7], [3, 8], [9], [10], [10, 11], [10, 12], [10, 13], [10], [10, 15], [10, 16], [10, 17], [10, 14, 18], [10, 19], [10], [10, 21], [10, 22], [10, 23], [10, 24], [10, 25]] (phiL [qe (ptr c 0), qe (ptr c 0), qe (ptr c 2), qe (ii ((p : Int)) : Value), qe (ptr c 0), qe (ptr c 0), qe (ptr c 1), qe tv, qe (ii ((t.length : Int)) : Value), qe (.bool (decide ((p : Int) ≥ (t.length : Int))) : Value), qe (.bool (decide ((p : Int) ≥ (t.length : Int))) : Value), qe undef, qe undef, qe undef, qe undef, qe undef, qe undef, qe undef, qe undef, qe undef, qe undef, qe undef, qe undef, qe undef, qe undef, qe undef, qe undef]) (ownL []) mixed rfl rfl (by kernel_rfl) ?_ ?_
  ·refine pD (fun W R z9 => ?_) ?_
   ·refine qo (qu (ptr c 0) rfl ?_)
    exact ⟨rfl, rfl, rfl⟩
   refine pD (fun W R z9 => ?_) ?_
   ·rw [eS (l := [(0, _)]) ⟨z9 0 rfl, ⟨⟩⟩]
    refine qo (jp rfl ?_)
    exact ⟨rfl, rfl, rfl⟩
   refine pD (fun W R z9 => ?_) ?_
   ·rw [eS (l := [(1, _)]) ⟨z9 1 rfl, ⟨⟩⟩]
    refine qo (qn (2) jg rfl sizeOf3 (by decide) rfl rfl ?_)
    exact ⟨rfl, rfl, rfl⟩
   refine pD (fun W R z9 => ?_) ?_
   ·rw [eS (l := [(2, _)]) ⟨z9 2 rfl, ⟨⟩⟩]
    refine qo (qk isAgg3 rfl (Rd.own [] rfl rfl) ?_)
    exact ⟨rfl, rfl, rfl⟩
   refine pD (fun W R z9 => ?_) ?_
   ·refine qo (qu (ptr c 0) rfl ?_)
    exact ⟨rfl, rfl, rfl⟩
   refine pD (fun W R z9 => ?_) ?_
   ·rw [eS (l := [(4, _)]) ⟨z9 4 rfl, ⟨⟩⟩]
    refine qo (jp rfl ?_)
    exact ⟨rfl, rfl, rfl⟩
   refine pD (fun W R z9 => ?_) ?_
   ·rw [eS (l := [(5, _)]) ⟨z9 5 rfl, ⟨⟩⟩]
    refine qo (qn (1) jg rfl qB (by decide) rfl rfl ?_)
    exact ⟨rfl, rfl, rfl⟩
   refine pD (fun W R z9 => ?_) ?_
   ·rw [eS (l := [(6, _)]) ⟨z9 6 rfl, ⟨⟩⟩]
    refine qo (qk qK rfl (Rd.own [] rfl rfl) ?_)
    exact ⟨rfl, rfl, rfl⟩
   refine pD (fun W R z9 => ?_) ?_
   ·rw [eS (l := [(7, _)]) ⟨z9 7 rfl, ⟨⟩⟩]
    refine qo (qC qi rfl ht.slv ?_)
    exact ⟨rfl, rfl, rfl⟩
   refine pD (fun W R z9 => ?_) ?_
   ·rw [eS (l := [(3, _), (8, _)]) ⟨z9 3 rfl, z9 8 rfl, ⟨⟩⟩]
    refine qo (XOp.geq rfl rfl ?_)
    exact ⟨rfl, rfl, rfl⟩
   refine pD (fun W R z9 => ?_) ?_
   ·rw [eS (l := [(9, _)]) ⟨z9 9 rfl, ⟨⟩⟩]
    refine qo (qu (.bool (decide ((p : Int) ≥ (t.length : Int)))) rfl ?_)
    exact ⟨rfl, rfl, rfl⟩
   refine pD (fun W R z9 => ?_) ?_
   ·rw [eS (l := [(10, _)]) ⟨z9 10 rfl, ⟨⟩⟩]
    exact XG.no (t := 13) rfl (vT h1) ⟨rfl, rfl, rfl⟩
   refine pD (fun W R z9 => ?_) ?_
   ·rw [eS (l := [(10, _), (11, undef)]) ⟨z9 10 rfl, z9 11 rfl, ⟨⟩⟩]
    exact XG.no (t := 13) rfl (vT h1) ⟨rfl, rfl, rfl⟩
   refine pD (fun W R z9 => ?_) ?_
   ·rw [eS (l := [(10, _), (12, undef)]) ⟨z9 10 rfl, z9 12 rfl, ⟨⟩⟩]
    exact XG.no (t := 13) rfl (vT h1) ⟨rfl, rfl, rfl⟩
   refine pD (fun W R z9 => ?_) ?_
   ·rw [eS (l := [(10, _), (13, undef)]) ⟨z9 10 rfl, z9 13 rfl, ⟨⟩⟩]
    exact XG.no (t := 13) rfl (vT h1) ⟨rfl, rfl, rfl⟩
   refine pD (fun W R z9 => ?_) ?_
   ·rw [eS (l := [(10, _)]) ⟨z9 10 rfl, ⟨⟩⟩]
    exact XG.no (t := 13) rfl (vT h1) ⟨rfl, rfl, rfl⟩
   refine pD (fun W R z9 => ?_) ?_
   ·rw [eS (l := [(10, _), (15, undef)]) ⟨z9 10 rfl, z9 15 rfl, ⟨⟩⟩]
    exact XG.no (t := 13) rfl (vT h1) ⟨rfl, rfl, rfl⟩
   refine pD (fun W R z9 => ?_) ?_
   ·rw [eS (l := [(10, _), (16, undef)]) ⟨z9 10 rfl, z9 16 rfl, ⟨⟩⟩]
    exact XG.no (t := 13) rfl (vT h1) ⟨rfl, rfl, rfl⟩
   refine pD (fun W R z9 => ?_) ?_
   ·rw [eS (l := [(10, _), (17, undef)]) ⟨z9 10 rfl, z9 17 rfl, ⟨⟩⟩]
    exact XG.no (t := 13) rfl (vT h1) ⟨rfl, rfl, rfl⟩
   refine pD (fun W R z9 => ?_) ?_
   ·rw [eS (l := [(10, _), (14, undef), (18, undef)]) ⟨z9 10 rfl, z9 14 rfl, z9 18 rfl, ⟨⟩⟩]
    exact XG.no (t := 13) rfl (vT h1) ⟨rfl, rfl, rfl⟩
   refine pD (fun W R z9 => ?_) ?_
   ·rw [eS (l := [(10, _), (19, undef)]) ⟨z9 10 rfl, z9 19 rfl, ⟨⟩⟩]
    exact XG.no (t := 13) rfl (vT h1) ⟨rfl, rfl, rfl⟩
   refine pD (fun W R z9 => ?_) ?_
   ·rw [eS (l := [(10, _)]) ⟨z9 10 rfl, ⟨⟩⟩]
    exact XG.no (t := 13) rfl (vT h1) ⟨rfl, rfl, rfl⟩
   refine pD (fun W R z9 => ?_) ?_
   ·rw [eS (l := [(10, _), (21, undef)]) ⟨z9 10 rfl, z9 21 rfl, ⟨⟩⟩]
    exact XG.no (t := 13) rfl (vT h1) ⟨rfl, rfl, rfl⟩
   refine pD (fun W R z9 => ?_) ?_
   ·rw [eS (l := [(10, _), (22, undef)]) ⟨z9 10 rfl, z9 22 rfl, ⟨⟩⟩]
    exact XG.no (t := 13) rfl (vT h1) ⟨rfl, rfl, rfl⟩
   refine pD (fun W R z9 => ?_) ?_
   ·rw [eS (l := [(10, _), (23, undef)]) ⟨z9 10 rfl, z9 23 rfl, ⟨⟩⟩]
    exact XG.no (t := 13) rfl (vT h1) ⟨rfl, rfl, rfl⟩
   refine pD (fun W R z9 => ?_) ?_
   ·rw [eS (l := [(10, _), (24, undef)]) ⟨z9 10 rfl, z9 24 rfl, ⟨⟩⟩]
    exact XG.no (t := 13) rfl (vT h1) ⟨rfl, rfl, rfl⟩
   refine pD (fun W R z9 => ?_) ?_
   ·rw [eS (l := [(10, _), (25, undef)]) ⟨z9 10 rfl, z9 25 rfl, ⟨⟩⟩]
    exact XG.no (t := 13) rfl (vT h1) ⟨rfl, rfl, rfl⟩
   exact stepsP.nil
  intro W hphi
  rw [eS (l := [(10, _), (20, undef), (26, undef)]) ⟨(hphi 10 (by decide)), (hphi 20 (by decide)), (hphi 26 (by decide)), ⟨⟩⟩]
  show XL _ _ _ _ _ _ _ (cellsH c [arv, tv, ii ((p : Int))] 153 :: L)
  refine qq (t := 13) rfl (vT h1) (cX (qQ (.bool (true)) (vT h1) rfl (qd (X.condT rfl (qf (qc (qh (ii (-1)) rfl (qd (qs (qj (qm (L' := cellsH c [arv, tv, ii ((p : Int))] 153 :: L) [ii (-1)] (ii (-1)) (.tmp rfl .nil) rfl rF rF (sC sR) ?_)))))))))))
  exact ⟨rfl, .inr ⟨by omega, rfl, rfl⟩⟩
 refine X.draw [cellsH c [arv, tv, ii ((p : Int))] 153] L 27 [] [[], [0], [1], [2], [], [4], [5], [6], [7], [3, 8], [9], [10], [10, 11], [10, 12], [10, 13], [10], [10, 15], [10, 16], [10, 17], [10, 14, 18], [10, 19], [10], [10, 21], [10, 22], [10, 23], [10, 24], [10, 25]] (phiL [qe (ptr c 0), qe (ptr c 0), qe (ptr c 2), qe (ii ((p : Int)) : Value), qe (ptr c 0), qe (ptr c 0), qe (ptr c 1), qe tv, qe (ii ((t.length : Int)) : Value), qe (.bool (decide ((p : Int) ≥ (t.length : Int))) : Value), qe (.bool (decide ((p : Int) ≥ (t.length : Int))) : Value), qe (ptr c 0), qe (ptr c 0), qe (ptr c 1), qe tv, qe (ptr c 0), qe (ptr c 0), qe (ptr c 2), qe (ii ((p : Int)) : Value), qe (.pointer (some (elemA tv (p)))), qe (ii (t.getD p 0)), qe (ptr c 0), qe (ptr c 0), qe (ptr c 0), qe (ptr c 0), qe arv, qe (ii ((ar.length : Int)) : Value)]) (ownL []) mixed rfl rfl (by kernel_rfl) ?_ ?_
 ·refine pD (fun W R z9 => ?_) ?_
  ·refine qo (qu (ptr c 0) rfl ?_)
   exact ⟨rfl, rfl, rfl⟩
  refine pD (fun W R z9 => ?_) ?_
  ·rw [eS (l := [(0, _)]) ⟨z9 0 rfl, ⟨⟩⟩]
   refine qo (jp rfl ?_)
   exact ⟨rfl, rfl, rfl⟩
  refine pD (fun W R z9 => ?_) ?_
  ·rw [eS (l := [(1, _)]) ⟨z9 1 rfl, ⟨⟩⟩]
   refine qo (qn (2) jg rfl sizeOf3 (by decide) rfl rfl ?_)
   exact ⟨rfl, rfl, rfl⟩
  refine pD (fun W R z9 => ?_) ?_
  ·rw [eS (l := [(2, _)]) ⟨z9 2 rfl, ⟨⟩⟩]
   refine qo (qk isAgg3 rfl (Rd.own [] rfl rfl) ?_)
   exact ⟨rfl, rfl, rfl⟩
  refine pD (fun W R z9 => ?_) ?_
  ·refine qo (qu (ptr c 0) rfl ?_)
   exact ⟨rfl, rfl, rfl⟩
  refine pD (fun W R z9 => ?_) ?_
  ·rw [eS (l := [(4, _)]) ⟨z9 4 rfl, ⟨⟩⟩]
   refine qo (jp rfl ?_)
   exact ⟨rfl, rfl, rfl⟩
  refine pD (fun W R z9 => ?_) ?_
  ·rw [eS (l := [(5, _)]) ⟨z9 5 rfl, ⟨⟩⟩]
   refine qo (qn (1) jg rfl qB (by decide) rfl rfl ?_)
   exact ⟨rfl, rfl, rfl⟩
  refine pD (fun W R z9 => ?_) ?_
  ·rw [eS (l := [(6, _)]) ⟨z9 6 rfl, ⟨⟩⟩]
   refine qo (qk qK rfl (Rd.own [] rfl rfl) ?_)
   exact ⟨rfl, rfl, rfl⟩
  refine pD (fun W R z9 => ?_) ?_
  ·rw [eS (l := [(7, _)]) ⟨z9 7 rfl, ⟨⟩⟩]
   refine qo (qC qi rfl ht.slv ?_)
   exact ⟨rfl, rfl, rfl⟩
  refine pD (fun W R z9 => ?_) ?_
  ·rw [eS (l := [(3, _), (8, _)]) ⟨z9 3 rfl, z9 8 rfl, ⟨⟩⟩]
   refine qo (XOp.geq rfl rfl ?_)
   exact ⟨rfl, rfl, rfl⟩
  refine pD (fun W R z9 => ?_) ?_
  ·rw [eS (l := [(9, _)]) ⟨z9 9 rfl, ⟨⟩⟩]
   refine qo (qu (.bool (decide ((p : Int) ≥ (t.length : Int)))) rfl ?_)
   exact ⟨rfl, rfl, rfl⟩
  refine pD (fun W R z9 => ?_) ?_
  ·rw [eS (l := [(10, _)]) ⟨z9 10 rfl, ⟨⟩⟩]
   refine XG.yes (t := 13) rfl (vF h1) (qu (ptr c 0) rfl ?_)
   exact ⟨rfl, rfl, rfl⟩
  refine pD (fun W R z9 => ?_) ?_
  ·rw [eS (l := [(10, _), (11, _)]) ⟨z9 10 rfl, z9 11 rfl, ⟨⟩⟩]
   refine XG.yes (t := 13) rfl (vF h1) (jp rfl ?_)
   exact ⟨rfl, rfl, rfl⟩
  refine pD (fun W R z9 => ?_) ?_
  ·rw [eS (l := [(10, _), (12, _)]) ⟨z9 10 rfl, z9 12 rfl, ⟨⟩⟩]
   refine XG.yes (t := 13) rfl (vF h1) (qn (1) jg rfl qB (by decide) rfl rfl ?_)
   exact ⟨rfl, rfl, rfl⟩
  refine pD (fun W R z9 => ?_) ?_
  ·rw [eS (l := [(10, _), (13, _)]) ⟨z9 10 rfl, z9 13 rfl, ⟨⟩⟩]
   refine XG.yes (t := 13) rfl (vF h1) (qk qK rfl (Rd.own [] rfl rfl) ?_)
   exact ⟨rfl, rfl, rfl⟩
  refine pD (fun W R z9 => ?_) ?_
  ·rw [eS (l := [(10, _)]) ⟨z9 10 rfl, ⟨⟩⟩]
   refine XG.yes (t := 13) rfl (vF h1) (qu (ptr c 0) rfl ?_)
   exact ⟨rfl, rfl, rfl⟩
  refine pD (fun W R z9 => ?_) ?_
  ·rw [eS (l := [(10, _), (15, _)]) ⟨z9 10 rfl, z9 15 rfl, ⟨⟩⟩]
   refine XG.yes (t := 13) rfl (vF h1) (jp rfl ?_)
   exact ⟨rfl, rfl, rfl⟩
  refine pD (fun W R z9 => ?_) ?_
  ·rw [eS (l := [(10, _), (16, _)]) ⟨z9 10 rfl, z9 16 rfl, ⟨⟩⟩]
   refine XG.yes (t := 13) rfl (vF h1) (qn (2) jg rfl sizeOf3 (by decide) rfl rfl ?_)
   exact ⟨rfl, rfl, rfl⟩
  refine pD (fun W R z9 => ?_) ?_
  ·rw [eS (l := [(10, _), (17, _)]) ⟨z9 10 rfl, z9 17 rfl, ⟨⟩⟩]
   refine XG.yes (t := 13) rfl (vF h1) (qk isAgg3 rfl (Rd.own [] rfl rfl) ?_)
   exact ⟨rfl, rfl, rfl⟩
  refine pD (fun W R z9 => ?_) ?_
  ·rw [eS (l := [(10, _), (14, _), (18, _)]) ⟨z9 10 rfl, z9 14 rfl, z9 18 rfl, ⟨⟩⟩]
   refine XG.yes (t := 13) rfl (vF h1) (qA p qi qG rfl rfl rfl ht.slv (by omega) (Nat.mul_one _) ?_)
   exact ⟨rfl, rfl, rfl⟩
  refine pD (fun W R z9 => ?_) ?_
  ·rw [eS (l := [(10, _), (19, _)]) ⟨z9 10 rfl, z9 19 rfl, ⟨⟩⟩]
   refine XG.yes (t := 13) rfl (vF h1) (qk ja rfl (ht.rd (by omega)) ?_)
   exact ⟨rfl, rfl, rfl⟩
  refine pD (fun W R z9 => ?_) ?_
  ·rw [eS (l := [(10, _)]) ⟨z9 10 rfl, ⟨⟩⟩]
   refine XG.yes (t := 13) rfl (vF h1) (qu (ptr c 0) rfl ?_)
   exact ⟨rfl, rfl, rfl⟩
  refine pD (fun W R z9 => ?_) ?_
  ·rw [eS (l := [(10, _), (21, _)]) ⟨z9 10 rfl, z9 21 rfl, ⟨⟩⟩]
   refine XG.yes (t := 13) rfl (vF h1) (jp rfl ?_)
   exact ⟨rfl, rfl, rfl⟩
  refine pD (fun W R z9 => ?_) ?_
  ·rw [eS (l := [(10, _), (22, _)]) ⟨z9 10 rfl, z9 22 rfl, ⟨⟩⟩]
   refine XG.yes (t := 13) rfl (vF h1) (qn (0) jg rfl qD (by decide) rfl rfl ?_)
   exact ⟨rfl, rfl, rfl⟩
  refine pD (fun W R z9 => ?_) ?_
  ·rw [eS (l := [(10, _), (23, _)]) ⟨z9 10 rfl, z9 23 rfl, ⟨⟩⟩]
   refine XG.yes (t := 13) rfl (vF h1) (qn (0) jh rfl qB (by decide) rfl rfl ?_)
   exact ⟨rfl, rfl, rfl⟩
  refine pD (fun W R z9 => ?_) ?_
  ·rw [eS (l := [(10, _), (24, _)]) ⟨z9 10 rfl, z9 24 rfl, ⟨⟩⟩]
   refine XG.yes (t := 13) rfl (vF h1) (qk qK rfl (Rd.own [] rfl rfl) ?_)
   exact ⟨rfl, rfl, rfl⟩
  refine pD (fun W R z9 => ?_) ?_
  ·rw [eS (l := [(10, _), (25, _)]) ⟨z9 10 rfl, z9 25 rfl, ⟨⟩⟩]
   refine XG.yes (t := 13) rfl (vF h1) (qC qi rfl har.slv ?_)
   exact ⟨rfl, rfl, rfl⟩
  exact stepsP.nil
 intro W hphi
 rw [eS (l := [(10, _), (20, _), (26, _)]) ⟨(hphi 10 (by decide)), (hphi 20 (by decide)), (hphi 26 (by decide)), ⟨⟩⟩]
 show XL _ _ _ _ _ _ _ (cellsH c [arv, tv, ii ((p : Int))] 153 :: L)
 refine qr (t := 13) rfl (vF h1) (XOp.geq rfl rfl (cX (qL (.bool (decide ((t.getD p 0 : Int) ≥ (ar.length : Int)))) (vF h1) rfl (qd ?_))))
 refine qx (p := (t.getD p 0 : Int) ≥ (ar.length : Int)) rfl (fun h2 => ?_) (fun h2 => ?_)
 ·refine qf (qc (qh (ii (-1)) rfl (qd (qs (qj (qm (L' := cellsH c [arv, tv, ii ((p : Int))] 153 :: L) [ii (-1)] (ii (-1)) (.tmp rfl .nil) rfl rF rF (sC sR) ?_))))))
  exact ⟨rfl, .inr ⟨by omega, rfl, rfl⟩⟩
 refine qw (qf (qc (qg (ptr c 0) rfl (cX (jp rfl (cX (qn (2) jg rfl sizeOf3 (by decide) rfl rfl (cX (qk isAgg3 rfl (Rd.own [] rfl rfl) (cX (qM (((p + 1 : Nat) : Int)) rfl rfl (by omega) (by omega) (cX (jp rfl (cX (qn (2) jg rfl sizeOf3 (by decide) rfl rfl (cX (XOp.store1 [] _ [arv, tv, ii (((p + 1 : Nat) : Int))] sizeOf3 rfl rfl rfl rfl rfl rfl (qd (qf ?_)))))))))))))))))))
 refine X.draw [cellsH c [arv, tv, ii (((p + 1 : Nat) : Int))] 153] L 15 [] [[], [0], [1], [2], [], [4], [5], [6], [], [8], [9], [10], [11], [7, 12], [13]] (phiL [qe (ptr c 0), qe (ptr c 0), qe (ptr c 0), qe (.agg #[arv]), qe (ptr c 0), qe (ptr c 0), qe (ptr c 1), qe tv, qe (ptr c 0), qe (ptr c 0), qe (ptr c 2), qe (ii (((p + 1 : Nat) : Int)) : Value), qe (ii ((p : Int)) : Value), qe (.pointer (some (elemA tv (p)))), qe (ii (t.getD p 0))]) (ownL []) mixed rfl rfl (by kernel_rfl) ?_ ?_
 ·refine pD (fun W R z9 => ?_) ?_
  ·refine qo (qu (ptr c 0) rfl ?_)
   exact ⟨rfl, rfl, rfl⟩
  refine pD (fun W R z9 => ?_) ?_
  ·rw [eS (l := [(0, _)]) ⟨z9 0 rfl, ⟨⟩⟩]
   refine qo (jp rfl ?_)
   exact ⟨rfl, rfl, rfl⟩
  refine pD (fun W R z9 => ?_) ?_
  ·rw [eS (l := [(1, _)]) ⟨z9 1 rfl, ⟨⟩⟩]
   refine qo (qn (0) jg rfl qD (by decide) rfl rfl ?_)
   exact ⟨rfl, rfl, rfl⟩
  refine pD (fun W R z9 => ?_) ?_
  ·rw [eS (l := [(2, _)]) ⟨z9 2 rfl, ⟨⟩⟩]
   refine qo (qt [arv] qP qD rfl rfl (Rd.ownN [] rfl rfl) ?_)
   exact ⟨rfl, rfl, rfl⟩
  refine pD (fun W R z9 => ?_) ?_
  ·refine qo (qu (ptr c 0) rfl ?_)
   exact ⟨rfl, rfl, rfl⟩
  refine pD (fun W R z9 => ?_) ?_
  ·rw [eS (l := [(4, _)]) ⟨z9 4 rfl, ⟨⟩⟩]
   refine qo (jp rfl ?_)
   exact ⟨rfl, rfl, rfl⟩
  refine pD (fun W R z9 => ?_) ?_
  ·rw [eS (l := [(5, _)]) ⟨z9 5 rfl, ⟨⟩⟩]
   refine qo (qn (1) jg rfl qB (by decide) rfl rfl ?_)
   exact ⟨rfl, rfl, rfl⟩
  refine pD (fun W R z9 => ?_) ?_
  ·rw [eS (l := [(6, _)]) ⟨z9 6 rfl, ⟨⟩⟩]
   refine qo (qk qK rfl (Rd.own [] rfl rfl) ?_)
   exact ⟨rfl, rfl, rfl⟩
  refine pD (fun W R z9 => ?_) ?_
  ·refine qo (qu (ptr c 0) rfl ?_)
   exact ⟨rfl, rfl, rfl⟩
  refine pD (fun W R z9 => ?_) ?_
  ·rw [eS (l := [(8, _)]) ⟨z9 8 rfl, ⟨⟩⟩]
   refine qo (jp rfl ?_)
   exact ⟨rfl, rfl, rfl⟩
  refine pD (fun W R z9 => ?_) ?_
  ·rw [eS (l := [(9, _)]) ⟨z9 9 rfl, ⟨⟩⟩]
   refine qo (qn (2) jg rfl sizeOf3 (by decide) rfl rfl ?_)
   exact ⟨rfl, rfl, rfl⟩
  refine pD (fun W R z9 => ?_) ?_
  ·rw [eS (l := [(10, _)]) ⟨z9 10 rfl, ⟨⟩⟩]
   refine qo (qk isAgg3 rfl (Rd.own [] rfl rfl) ?_)
   exact ⟨rfl, rfl, rfl⟩
  refine pD (fun W R z9 => ?_) ?_
  ·rw [eS (l := [(11, _)]) ⟨z9 11 rfl, ⟨⟩⟩]
   refine qo (je ((p : Int)) rfl rfl (by omega) (by omega) ?_)
   exact ⟨rfl, rfl, rfl⟩
  refine pD (fun W R z9 => ?_) ?_
  ·rw [eS (l := [(7, _), (12, _)]) ⟨z9 7 rfl, z9 12 rfl, ⟨⟩⟩]
   refine qo (qA p qi qG rfl rfl rfl ht.slv (by omega) (Nat.mul_one _) ?_)
   exact ⟨rfl, rfl, rfl⟩
  refine pD (fun W R z9 => ?_) ?_
  ·rw [eS (l := [(13, _)]) ⟨z9 13 rfl, ⟨⟩⟩]
   refine qo (qk ja rfl (ht.rd (by omega)) ?_)
   exact ⟨rfl, rfl, rfl⟩
  exact stepsP.nil
 intro W hphi
 rw [eS (l := [(3, _), (14, _)]) ⟨(hphi 3 (by decide)), (hphi 14 (by decide)), ⟨⟩⟩]
 show XL _ _ _ _ _ _ _ (cellsH c [arv, tv, ii (((p + 1 : Nat) : Int))] 153 :: L)
 refine cX (ql (args := [.agg #[arv], ii (t.getD p 0)]) call143 rfl (arityAt_spec (n := t.getD p 0) har (hn := (by first | assumption | rfl | omega | simp))) ?_)
 rintro _ _ _ _ ⟨rfl, rfl, rfl⟩
 refine qh (ii (arity ar (t.getD p 0))) rfl (qd (qs (qm (L' := cellsH c [arv, tv, ii (((p + 1 : Nat) : Int))] 153 :: L) [ii (arity ar (t.getD p 0))] (ii (arity ar (t.getD p 0))) (.tmp rfl .nil) rfl rF rF (sC sR) ?_)))
 exact ⟨rfl, .inl ⟨by omega, by omega, rfl, rfl⟩⟩

/- (*impl.cursor).skip -/
theorem skip_spec {F : FH} {L : List HP} {c p0 : Nat} {arv : Value} {ar : List Int} (har : IntsF F arv ar) {tv : Value} {t : List Int} (ht : IntsF F tv t) (hb : t.length ≤ 4000000) (hs : sigOk ar = true) (hp : p0 ≤ t.length) :
    Does prog 106 [ptr c 0] F (cellsH c [arv, tv, ii ((p0 : Int))] 153 :: L) (fun v F' L' => F = F' ∧ ∃ q : Nat, (.bool (endGo ar (t.drop p0) 1).isSome : Value) = v ∧ (∀ e, endGo ar (t.drop p0) 1 = some e → q = p0 + e) ∧ cellsH c [arv, tv, ii (q : Int)] 153 :: L = L') := by
 refine qz func106 rfl rfl rfl (qf (qc (qh (.bool (false)) rfl (qd (qf (qf (qc (qh (ii (1)) rfl (qd (qE (qY (α := Nat × Nat) (fun xQ => [(0, ptr c 0), (3, ii (((xQ.1 : Nat) : Int)))]) (fun xQ => cellsH c [arv, tv, ii (((xQ.2 : Nat) : Int))] 153 :: L) (fun xQ F' => F = F' ∧ (endGo ar (t.drop p0) 1 = (endGo ar (t.drop xQ.2) xQ.1).map (· + (xQ.2 - p0))) ∧ (p0 ≤ xQ.2 ∧ xQ.2 ≤ t.length) ∧ (xQ.1 ≤ 1 + 3 * xQ.2)) (fun xQ => t.length - xQ.2) (1, p0) ⟨rfl, rfl, ⟨⟩⟩ (sC sR) ⟨rfl, (by simp), (by omega), (by omega)⟩ ?_)))))))))))
 rintro ⟨k, p⟩ rE _ _ ⟨rfl, hi, h1, h2⟩
 show X _ _ _ _ (envs [(0, ptr c 0), (3, ii ((k : Int)))] rE) _ (cellsH c [arv, tv, ii ((p : Int))] 153 :: L)
 dsimp only at hi h1 h2
 refine qf (qf (qc (qg (ii ((k : Int))) rfl (cX (js rfl rfl (qd ?_))))))
 refine qx (p := (k : Int) > 0) rfl (fun h1 => ?_) (fun h1 => ?_)
 ·refine qw (qf (qE (qf (qc (qg (ptr c 0) rfl (cX (ql (args := [ptr c 0]) call128 rfl (next_spec (p := p) har ht (by omega)) ?_)))))))
  rintro _ _ _ _ ⟨rfl, ⟨hn1a, hn1b, rfl, rfl⟩ | ⟨hn1c, rfl, rfl⟩⟩
  ·have hA := arity_le hs hn1b
   refine qh (ii (arity ar ((t).getD p 0))) rfl (qd (qf (qf (qc (qg (ii (arity ar ((t).getD p 0))) rfl (cX (qI rfl rfl (qd ?_))))))))
   refine qx (p := (arity ar ((t).getD p 0) : Int) < 0) rfl (fun h2 => ?_) (fun h2 => ?_)
   ·omega
   refine qw (qc (qg (ii ((k : Int))) rfl (qg (ii (arity ar ((t).getD p 0))) rfl (cX (qM (((k + (arity ar (t.getD p 0)).toNat : Nat) : Int)) rfl rfl (by omega) (by omega) (qh (ii (((k + (arity ar (t.getD p 0)).toNat : Nat) : Int))) rfl (qd (qc (qg (ii (((k + (arity ar (t.getD p 0)).toNat : Nat) : Int))) rfl (cX (je (((k - 1 + (arity ar (t.getD p 0)).toNat : Nat) : Int)) rfl rfl (by omega) (by omega) (qh (ii (((k - 1 + (arity ar (t.getD p 0)).toNat : Nat) : Int))) rfl (qd ?_)))))))))))))
   exact ⟨(k - 1 + (arity ar (t.getD p 0)).toNat, p + 1), _, FLe.refl _, rF, ⟨rfl, rfl, ⟨⟩⟩, (sC sR), ⟨rfl, (by rw [hi, endGo_step (by omega) (by omega) (by omega), Option.map_map]; congr 1; funext e; simp; omega), (by omega), (by omega)⟩, (by omega)⟩
  refine qh (ii (-1)) rfl (qd (qf (qf (qc (qg (ii (-1)) rfl (cX (qI rfl rfl (qd (X.condT rfl (qf (qc (qh (.bool (false)) rfl (qd (qs (qj (qy (qj (qj (qy (qj (qm (L' := cellsH c [arv, tv, ii ((p : Int))] 153 :: L) [.bool (false)] (.bool (false)) (.tmp rfl .nil) rfl rF rF (sC sR) ?_)))))))))))))))))))))
  have hz : endGo ar (t.drop p0) 1 = none := by rw [hi, endGo_none (by omega) (by omega)]; rfl
  refine ⟨rfl, p, ?_, ?_, rfl⟩
  · rw [hz]; rfl
  · intro e he; rw [hz] at he; cases he
 refine qX (qv (qv (qJ (qf (qc (qh (.bool (true)) rfl (qd (qs (qm (L' := cellsH c [arv, tv, ii ((p : Int))] 153 :: L) [.bool (true)] (.bool (true)) (.tmp rfl .nil) rfl rF rF (sC sR) ?_)))))))))
 obtain rfl : k = 0 := by omega
 have hz : endGo ar (t.drop p0) 1 = some (p - p0) := by rw [hi]; simp [endGo]
 refine ⟨rfl, p, ?_, ?_, rfl⟩
 · rw [hz]; rfl
 · intro e he; rw [hz] at he; cases he; omega

/- impl.endAt -/
theorem endAt_spec {F : FH} {L : List HP} {arv : Value} {ar : List Int} (har : IntsF F arv ar) {tv : Value} {t : List Int} (ht : IntsF F tv t) {p : Nat} (hs : sigOk ar = true) (hb : t.length ≤ 4000000) (hp : p ≤ t.length) :
    Does prog 75 [.agg #[arv], tv, ii ((p : Int))] F (L) (fun v F' L' => (ii (endZ ar t p) : Value) = v ∧ F = F' ∧ L = L') := by
 refine qz func75 rfl rfl rfl (qf (qc (cX (qO [arv] rfl rfl ?_))))
 intro b1
 refine qh (ii (0)) rfl (qd (qf (qc (cX (qt [arv] qP qD rfl rfl (Rd.ownN [] rfl rfl) (qg (tv) rfl (qg (ii ((p : Int))) rfl (cX (XOp.build [arv, tv, ii ((p : Int))] [sN, sN, ii (0)] [(0, 1), (1, 1), (2, 1)] [(0, [arv]), (1, [tv]), (2, [ii ((p : Int))])] jg zeroValue153 rfl (.cons rfl qD (.cons rfl qB (.cons rfl sizeOf3 PlacesAre.nil))) rfl (.cons rfl (.cons (cells_one (qU ht)) (.cons rfl CellsAre.nil))) (cX (jr [sN, sN, ii (0)] zeroValue153 rfl ?_)))))))))))
 intro b2
 refine cX (jl [] _ [arv, tv, ii ((p : Int))] sizeOf153 rfl rfl rfl (jc (jf (qU har)) (jc (jf (qU ht)) (jc rfl ones_nil))) rfl rfl rfl (qd (qf (qf (qc (cX (ql (args := [ptr b2 0]) call106 rfl (skip_spec (p0 := p) har ht (by omega) hs (by omega)) ?_)))))))
 rintro _ _ _ _ ⟨rfl, q1, rfl, hq1, rfl⟩
 refine cX (qZ rfl (qd ?_))
 refine jq (t := !((endGo ar (t.drop p) 1).isSome)) rfl (fun h1 => ?_) (fun h1 => ?_)
 ·refine qf (qc (qh (ii (-1)) rfl (qd (qs (qj (qm (L' := L) [ii (-1)] (ii (-1)) (.tmp rfl .nil) rfl rF rF (sD (sD sR)) ?_))))))
  exact ⟨(vI (endZ_none (by rw [Bool.eq_false_iff] at *; simpa using h1))), rfl, rfl⟩
 refine qw (qf (qc (cX (qn (2) jg rfl sizeOf3 (by decide) rfl rfl (cX (qk isAgg3 rfl (Rd.own [] rfl rfl) (qh (ii ((q1 : Int))) rfl (qd (qs (qm (L' := L) [ii ((q1 : Int))] (ii ((q1 : Int))) (.tmp rfl .nil) rfl rF rF (sD (sD sR)) ?_))))))))))
 exact ⟨(vI (endZ_some hq1 (by simpa using h1))), rfl, rfl⟩
end Go.Proofs.Ytenomejgjcpbdaa
set_option linter.unusedSimpArgs false
set_option linter.unusedVariables false
namespace Go.Proofs.Ytenomejgjcpbdaa
open Go X M Try

/- slices.Min[[]int64,int64] -/
theorem Min_spec {F : FH} {L : List HP} {xsv : Value} {xs : List Int} (hxs : IntsF F xsv xs) (h1 : 1 ≤ xs.length) (hbd : xs.length ≤ 4000000) :
    Does prog 94 [xsv] F (L) (fun v F' L' => (ii (minL xs) : Value) = v ∧ F = F' ∧ L = L') := by
 refine qz func94 rfl rfl rfl (qf (qc (qh (ii (0)) rfl (qd (qf (qf (qc (qg (xsv) rfl (cX (qC qi rfl hxs.slv (cX (qI rfl rfl (qd ?_)))))))))))))
 refine qx (p := ((xs.length : Int) : Int) < 1) rfl (fun h1 => ?_) (fun h1 => ?_)
 ·omega
 refine qw (qf (qc (qg (xsv) rfl (cX (qA 0 qi qG rfl rfl rfl hxs.slv (by omega) (Nat.mul_one _) (cX (qk ja rfl (hxs.rd (by omega)) (qh (ii (xs.getD 0 0)) rfl (qd (qf (qf (qc (qh (ii (1)) rfl (qd (qE (qY (α := Nat) (fun k => [(0, xsv), (3, ii (minL (xs.take k))), (4, ii ((k : Int)))]) (fun k => L) (fun k F' => F = F' ∧ (1 ≤ k ∧ k ≤ xs.length)) (fun k => xs.length - k) 1 ⟨rfl, (vI (minL_take1 (xs := xs) (by omega)).symm), rfl, ⟨⟩⟩ sR ⟨rfl, (by omega)⟩ ?_))))))))))))))))
 rintro k rE _ _ ⟨rfl, hk⟩
 show X _ _ _ _ (envs [(0, xsv), (3, ii (minL (xs.take k))), (4, ii ((k : Int)))] rE) _ (L)
 refine qf (qf (qc (qg (ii ((k : Int))) rfl (qg (xsv) rfl (cX (qC qi rfl hxs.slv (cX (qI rfl rfl (qd ?_)))))))))
 refine qx (p := (k : Int) < (xs.length : Int)) rfl (fun h2 => ?_) (fun h2 => ?_)
 ·refine qw (qf (qE (qc (qg (ii (minL (xs.take k))) rfl (qg (xsv) rfl (qg (ii ((k : Int))) rfl (cX (qA k qi qG rfl rfl rfl hxs.slv (by omega) (Nat.mul_one _) (cX (qk ja rfl (hxs.rd (by omega)) (cX (XOp.min2R (a := minL (xs.take k)) (b := xs.getD k 0) (minL (xs.take (k + 1))) rfl rfl ((minL_step (by omega) (by omega)).symm) (qh (ii (minL (xs.take (k + 1)))) rfl (qd (qc (qg (ii ((k : Int))) rfl ?_))))))))))))))))
  refine cX (qM (((k + 1 : Nat) : Int)) rfl rfl (by omega) (by omega) (qh (ii (((k + 1 : Nat) : Int))) rfl (qd ?_)))
  exact ⟨k + 1, _, FLe.refl _, rF, ⟨rfl, rfl, rfl, ⟨⟩⟩, sR, ⟨rfl, (by omega)⟩, (by omega)⟩
 refine qX (qv (qv (qJ (qf (qc (qg (ii (minL (xs.take k))) rfl (qh (ii (minL (xs.take k))) rfl (qd (qs (qm (L' := L) [ii (minL (xs.take k))] (ii (minL (xs.take k))) (.tmp rfl .nil) rfl rF rF sR ?_))))))))))
 exact ⟨(vI (by rw [minL_take_all (by omega)])), rfl, rfl⟩

/- slices.Equal[[]int64,int64] -/
theorem Equal_spec {F : FH} {L : List HP} {av : Value} {a : List Int} (ha : IntsF F av a) {bv : Value} {b : List Int} (hb : IntsF F bv b) (hbd : a.length ≤ 9223372036854775807 ∨ b.length ≤ 9223372036854775807) :
    Does prog 110 [av, bv] F (L) (fun v F' L' => (.bool (decide (a = b)) : Value) = v ∧ F = F' ∧ L = L') := by
 refine qz func110 rfl rfl rfl (qf (qc (qh (.bool (false)) rfl (qd (qf (qf (qc (qg (av) rfl (cX (qC qi rfl ha.slv (qg (bv) rfl (cX (qC qi rfl hb.slv (cX (XOp.neq rfl rfl (qd ?_))))))))))))))))
 refine qx (p := ((a.length : Int) : Int) ≠ (b.length : Int)) rfl (fun h1 => ?_) (fun h1 => ?_)
 ·refine qf (qc (qh (.bool (false)) rfl (qd (qs (qj (qm (L' := L) [.bool (false)] (.bool (false)) (.tmp rfl .nil) rfl rF rF sR ?_))))))
  exact ⟨(vB (decide_eq_false (fun e => by rw [e] at h1; omega))), rfl, rfl⟩
 refine qw (qf (qf (qc (qg (av) rfl (cX (qC qi rfl ha.slv (qg (ii (0)) rfl (qd (qE (qY (α := Nat) (fun k => [(0, av), (1, bv), (12, ii ((a.length : Int))), (13, ii ((k : Int)))]) (fun k => L) (fun k F' => F = F' ∧ (k ≤ a.length) ∧ (∀ i, i < k → a.getD i 0 = b.getD i 0)) (fun k => a.length - k) 0 ⟨rfl, rfl, rfl, rfl, ⟨⟩⟩ sR ⟨rfl, (by omega), (fun i hi => absurd hi (by omega))⟩ ?_))))))))))
 rintro k rE _ _ ⟨rfl, hk, hall⟩
 show X _ _ _ _ (envs [(0, av), (1, bv), (12, ii ((a.length : Int))), (13, ii ((k : Int)))] rE) _ (L)
 refine qf (qc (cX (qI rfl rfl (qd (qf ?_)))))
 refine qx (p := (k : Int) < (a.length : Int)) rfl (fun h2 => ?_) (fun h2 => ?_)
 ·refine qw (qf (qE (qf (qc (qg (ii ((k : Int))) rfl (qh (ii ((k : Int))) rfl (qd (qf ?_))))))))
  refine X.draw [] L 8 [] [[], [], [0, 1], [2], [], [], [4, 5], [6]] (phiL [qe av, qe (ii ((k : Int)) : Value), qe (.pointer (some (elemA av (k)))), qe (ii (a.getD k 0)), qe bv, qe (ii ((k : Int)) : Value), qe (.pointer (some (elemA bv (k)))), qe (ii (b.getD k 0))]) (ownL []) mixed rfl rfl (by kernel_rfl) ?_ ?_
  ·refine pD (fun W R z9 => ?_) ?_
   ·refine qo (qu (av) rfl ?_)
    exact ⟨rfl, rfl, rfl⟩
   refine pD (fun W R z9 => ?_) ?_
   ·refine qo (qu (ii ((k : Int))) rfl ?_)
    exact ⟨rfl, rfl, rfl⟩
   refine pD (fun W R z9 => ?_) ?_
   ·rw [eS (l := [(0, _), (1, _)]) ⟨z9 0 rfl, z9 1 rfl, ⟨⟩⟩]
    refine qo (qA k qi qG rfl rfl rfl ha.slv (by omega) (Nat.mul_one _) ?_)
    exact ⟨rfl, rfl, rfl⟩
   refine pD (fun W R z9 => ?_) ?_
   ·rw [eS (l := [(2, _)]) ⟨z9 2 rfl, ⟨⟩⟩]
    refine qo (qk ja rfl (ha.rd (by omega)) ?_)
    exact ⟨rfl, rfl, rfl⟩
   refine pD (fun W R z9 => ?_) ?_
   ·refine qo (qu (bv) rfl ?_)
    exact ⟨rfl, rfl, rfl⟩
   refine pD (fun W R z9 => ?_) ?_
   ·refine qo (qu (ii ((k : Int))) rfl ?_)
    exact ⟨rfl, rfl, rfl⟩
   refine pD (fun W R z9 => ?_) ?_
   ·rw [eS (l := [(4, _), (5, _)]) ⟨z9 4 rfl, z9 5 rfl, ⟨⟩⟩]
    refine qo (qA k qi qG rfl rfl rfl hb.slv (by omega) (Nat.mul_one _) ?_)
    exact ⟨rfl, rfl, rfl⟩
   refine pD (fun W R z9 => ?_) ?_
   ·rw [eS (l := [(6, _)]) ⟨z9 6 rfl, ⟨⟩⟩]
    refine qo (qk ja rfl (hb.rd (by omega)) ?_)
    exact ⟨rfl, rfl, rfl⟩
   exact stepsP.nil
  intro W hphi
  rw [eS (l := [(3, _), (7, _)]) ⟨(hphi 3 (by decide)), (hphi 7 (by decide)), ⟨⟩⟩]
  show XL _ _ _ _ _ _ _ (L)
  refine cX (XOp.neq rfl rfl (qd ?_))
  refine qx (p := (a.getD k 0 : Int) ≠ b.getD k 0) rfl (fun h3 => ?_) (fun h3 => ?_)
  ·refine qf (qc (qh (.bool (false)) rfl (qd (qs (qy (qj (qj (qy (qj (qm (L' := L) [.bool (false)] (.bool (false)) (.tmp rfl .nil) rfl rF rF sR ?_))))))))))
   exact ⟨(vB (decide_eq_false (ne_of_getD (i := k) (by omega)))), rfl, rfl⟩
  refine qw (qc (cX (qM (((k + 1 : Nat) : Int)) rfl rfl (by omega) (by omega) (qg (ii (((k + 1 : Nat) : Int))) rfl (qd ?_)))))
  exact ⟨k + 1, _, FLe.refl _, rF, ⟨rfl, rfl, rfl, rfl, ⟨⟩⟩, sR, ⟨rfl, (by omega), (fun i hi => (Nat.lt_or_ge i k).elim (fun h => hall i h) (fun h => by obtain rfl : i = k := (by omega); omega))⟩, (by omega)⟩
 refine qX (qv (qv (qJ (qf (qc (qh (.bool (true)) rfl (qd (qs (qm (L' := L) [.bool (true)] (.bool (true)) (.tmp rfl .nil) rfl rF rF sR ?_)))))))))
 exact ⟨(vB (decide_eq_true (ext_getD (by omega) (fun i hi => hall i (by omega))))), rfl, rfl⟩

/- spec.SameTerm -/
theorem SameTerm_spec {F : FH} {L : List HP} {av : Value} {a : List Int} (ha : IntsF F av a) {bv : Value} {b : List Int} (hb : IntsF F bv b) (hbd : a.length ≤ 9223372036854775807 ∨ b.length ≤ 9223372036854775807) :
    Does prog 91 [av, bv] F (L) (fun v F' L' => (.bool (decide (a = b)) : Value) = v ∧ F = F' ∧ L = L') := by
 refine qz func91 rfl rfl rfl (qf (qc (qh (.bool (false)) rfl (qd (qf (qf (qc (qg (av) rfl (cX (qC qi rfl ha.slv (qg (bv) rfl (cX (qC qi rfl hb.slv (cX (XOp.neq rfl rfl (qd ?_))))))))))))))))
 refine qx (p := ((a.length : Int) : Int) ≠ (b.length : Int)) rfl (fun h1 => ?_) (fun h1 => ?_)
 ·refine qf (qc (qh (.bool (false)) rfl (qd (qs (qj (qm (L' := L) [.bool (false)] (.bool (false)) (.tmp rfl .nil) rfl rF rF sR ?_))))))
  exact ⟨(vB (decide_eq_false (fun e => by rw [e] at h1; omega))), rfl, rfl⟩
 refine qw (qf (qf (qc (qh (ii (0)) rfl (qd (qE (qY (α := Nat) (fun k => [(0, av), (1, bv), (5, ii ((k : Int)))]) (fun k => L) (fun k F' => F = F' ∧ (k ≤ a.length) ∧ (∀ i, i < k → a.getD i 0 = b.getD i 0)) (fun k => a.length - k) 0 ⟨rfl, rfl, rfl, ⟨⟩⟩ sR ⟨rfl, (by omega), (fun i hi => absurd hi (by omega))⟩ ?_)))))))
 rintro k rE _ _ ⟨rfl, hk, hall⟩
 show X _ _ _ _ (envs [(0, av), (1, bv), (5, ii ((k : Int)))] rE) _ (L)
 refine qf (qf (qc (qg (ii ((k : Int))) rfl (qg (av) rfl (cX (qC qi rfl ha.slv (cX (qI rfl rfl (qd ?_)))))))))
 refine qx (p := (k : Int) < (a.length : Int)) rfl (fun h2 => ?_) (fun h2 => ?_)
 ·refine qw (qf (qE (qf ?_)))
  refine X.draw [] L 8 [] [[], [], [0, 1], [2], [], [], [4, 5], [6]] (phiL [qe av, qe (ii ((k : Int)) : Value), qe (.pointer (some (elemA av (k)))), qe (ii (a.getD k 0)), qe bv, qe (ii ((k : Int)) : Value), qe (.pointer (some (elemA bv (k)))), qe (ii (b.getD k 0))]) (ownL []) mixed rfl rfl (by kernel_rfl) ?_ ?_
  ·refine pD (fun W R z9 => ?_) ?_
   ·refine qo (qu (av) rfl ?_)
    exact ⟨rfl, rfl, rfl⟩
   refine pD (fun W R z9 => ?_) ?_
   ·refine qo (qu (ii ((k : Int))) rfl ?_)
    exact ⟨rfl, rfl, rfl⟩
   refine pD (fun W R z9 => ?_) ?_
   ·rw [eS (l := [(0, _), (1, _)]) ⟨z9 0 rfl, z9 1 rfl, ⟨⟩⟩]
    refine qo (qA k qi qG rfl rfl rfl ha.slv (by omega) (Nat.mul_one _) ?_)
    exact ⟨rfl, rfl, rfl⟩
   refine pD (fun W R z9 => ?_) ?_
   ·rw [eS (l := [(2, _)]) ⟨z9 2 rfl, ⟨⟩⟩]
    refine qo (qk ja rfl (ha.rd (by omega)) ?_)
    exact ⟨rfl, rfl, rfl⟩
   refine pD (fun W R z9 => ?_) ?_
   ·refine qo (qu (bv) rfl ?_)
    exact ⟨rfl, rfl, rfl⟩
   refine pD (fun W R z9 => ?_) ?_
   ·refine qo (qu (ii ((k : Int))) rfl ?_)
    exact ⟨rfl, rfl, rfl⟩
   refine pD (fun W R z9 => ?_) ?_
   ·rw [eS (l := [(4, _), (5, _)]) ⟨z9 4 rfl, z9 5 rfl, ⟨⟩⟩]
    refine qo (qA k qi qG rfl rfl rfl hb.slv (by omega) (Nat.mul_one _) ?_)
    exact ⟨rfl, rfl, rfl⟩
   refine pD (fun W R z9 => ?_) ?_
   ·rw [eS (l := [(6, _)]) ⟨z9 6 rfl, ⟨⟩⟩]
    refine qo (qk ja rfl (hb.rd (by omega)) ?_)
    exact ⟨rfl, rfl, rfl⟩
   exact stepsP.nil
  intro W hphi
  rw [eS (l := [(3, _), (7, _)]) ⟨(hphi 3 (by decide)), (hphi 7 (by decide)), ⟨⟩⟩]
  show XL _ _ _ _ _ _ _ (L)
  refine cX (XOp.neq rfl rfl (qd ?_))
  refine qx (p := (a.getD k 0 : Int) ≠ b.getD k 0) rfl (fun h3 => ?_) (fun h3 => ?_)
  ·refine qf (qc (qh (.bool (false)) rfl (qd (qs (qy (qj (qj (qy (qj (qm (L' := L) [.bool (false)] (.bool (false)) (.tmp rfl .nil) rfl rF rF sR ?_))))))))))
   exact ⟨(vB (decide_eq_false (ne_of_getD (i := k) (by omega)))), rfl, rfl⟩
  refine qw (qc (qg (ii ((k : Int))) rfl (cX (qM (((k + 1 : Nat) : Int)) rfl rfl (by omega) (by omega) (qh (ii (((k + 1 : Nat) : Int))) rfl (qd ?_))))))
  exact ⟨k + 1, _, FLe.refl _, rF, ⟨rfl, rfl, rfl, ⟨⟩⟩, sR, ⟨rfl, (by omega), (fun i hi => (Nat.lt_or_ge i k).elim (fun h => hall i h) (fun h => by obtain rfl : i = k := (by omega); omega))⟩, (by omega)⟩
 refine qX (qv (qv (qJ (qf (qc (qh (.bool (true)) rfl (qd (qs (qm (L' := L) [.bool (true)] (.bool (true)) (.tmp rfl .nil) rfl rF rF sR ?_)))))))))
 exact ⟨(vB (decide_eq_true (ext_getD (by omega) (fun i hi => hall i (by omega))))), rfl, rfl⟩

/- laws.eqInt64S -/
theorem eqInt64S_spec {F : FH} {L : List HP} {av : Value} {a : List Int} (ha : IntsF F av a) {bv : Value} {b : List Int} (hb : IntsF F bv b) (hbd : a.length ≤ 9223372036854775807 ∨ b.length ≤ 9223372036854775807) :
    Does prog 14 [av, bv] F (L) (fun v F' L' => (.bool (decide (a = b)) : Value) = v ∧ F = F' ∧ L = L') := by
 refine qz func14 rfl rfl rfl (qf (qc (qh (.bool (false)) rfl (qd (qf (qf (qc (qg (av) rfl (cX (qC qi rfl ha.slv (qg (bv) rfl (cX (qC qi rfl hb.slv (cX (XOp.neq rfl rfl (qd ?_))))))))))))))))
 refine qx (p := ((a.length : Int) : Int) ≠ (b.length : Int)) rfl (fun h1 => ?_) (fun h1 => ?_)
 ·refine qf (qc (qh (.bool (false)) rfl (qd (qs (qj (qm (L' := L) [.bool (false)] (.bool (false)) (.tmp rfl .nil) rfl rF rF sR ?_))))))
  exact ⟨(vB (decide_eq_false (fun e => by rw [e] at h1; omega))), rfl, rfl⟩
 refine qw (qf (qf (qc (qh (ii (0)) rfl (qd (qE (qY (α := Nat) (fun k => [(0, av), (1, bv), (5, ii ((k : Int)))]) (fun k => L) (fun k F' => F = F' ∧ (k ≤ a.length) ∧ (∀ i, i < k → a.getD i 0 = b.getD i 0)) (fun k => a.length - k) 0 ⟨rfl, rfl, rfl, ⟨⟩⟩ sR ⟨rfl, (by omega), (fun i hi => absurd hi (by omega))⟩ ?_)))))))
 rintro k rE _ _ ⟨rfl, hk, hall⟩
 show X _ _ _ _ (envs [(0, av), (1, bv), (5, ii ((k : Int)))] rE) _ (L)
 refine qf (qf (qc (qg (ii ((k : Int))) rfl (qg (av) rfl (cX (qC qi rfl ha.slv (cX (qI rfl rfl (qd ?_)))))))))
 refine qx (p := (k : Int) < (a.length : Int)) rfl (fun h2 => ?_) (fun h2 => ?_)
 ·refine qw (qf (qE (qf ?_)))
  refine X.draw [] L 8 [] [[], [], [0, 1], [2], [], [], [4, 5], [6]] (phiL [qe av, qe (ii ((k : Int)) : Value), qe (.pointer (some (elemA av (k)))), qe (ii (a.getD k 0)), qe bv, qe (ii ((k : Int)) : Value), qe (.pointer (some (elemA bv (k)))), qe (ii (b.getD k 0))]) (ownL []) mixed rfl rfl (by kernel_rfl) ?_ ?_
  ·refine pD (fun W R z9 => ?_) ?_
   ·refine qo (qu (av) rfl ?_)
    exact ⟨rfl, rfl, rfl⟩
   refine pD (fun W R z9 => ?_) ?_
   ·refine qo (qu (ii ((k : Int))) rfl ?_)
    exact ⟨rfl, rfl, rfl⟩
   refine pD (fun W R z9 => ?_) ?_
   ·rw [eS (l := [(0, _), (1, _)]) ⟨z9 0 rfl, z9 1 rfl, ⟨⟩⟩]
    refine qo (qA k qi qG rfl rfl rfl ha.slv (by omega) (Nat.mul_one _) ?_)
    exact ⟨rfl, rfl, rfl⟩
   refine pD (fun W R z9 => ?_) ?_
   ·rw [eS (l := [(2, _)]) ⟨z9 2 rfl, ⟨⟩⟩]
    refine qo (qk ja rfl (ha.rd (by omega)) ?_)
    exact ⟨rfl, rfl, rfl⟩
   refine pD (fun W R z9 => ?_) ?_
   ·refine qo (qu (bv) rfl ?_)
    exact ⟨rfl, rfl, rfl⟩
   refine pD (fun W R z9 => ?_) ?_
   ·refine qo (qu (ii ((k : Int))) rfl ?_)
    exact ⟨rfl, rfl, rfl⟩
   refine pD (fun W R z9 => ?_) ?_
   ·rw [eS (l := [(4, _), (5, _)]) ⟨z9 4 rfl, z9 5 rfl, ⟨⟩⟩]
    refine qo (qA k qi qG rfl rfl rfl hb.slv (by omega) (Nat.mul_one _) ?_)
    exact ⟨rfl, rfl, rfl⟩
   refine pD (fun W R z9 => ?_) ?_
   ·rw [eS (l := [(6, _)]) ⟨z9 6 rfl, ⟨⟩⟩]
    refine qo (qk ja rfl (hb.rd (by omega)) ?_)
    exact ⟨rfl, rfl, rfl⟩
   exact stepsP.nil
  intro W hphi
  rw [eS (l := [(3, _), (7, _)]) ⟨(hphi 3 (by decide)), (hphi 7 (by decide)), ⟨⟩⟩]
  show XL _ _ _ _ _ _ _ (L)
  refine cX (XOp.neq rfl rfl (qd ?_))
  refine qx (p := (a.getD k 0 : Int) ≠ b.getD k 0) rfl (fun h3 => ?_) (fun h3 => ?_)
  ·refine qf (qc (qh (.bool (false)) rfl (qd (qs (qy (qj (qj (qy (qj (qm (L' := L) [.bool (false)] (.bool (false)) (.tmp rfl .nil) rfl rF rF sR ?_))))))))))
   exact ⟨(vB (decide_eq_false (ne_of_getD (i := k) (by omega)))), rfl, rfl⟩
  refine qw (qc (qg (ii ((k : Int))) rfl (cX (qM (((k + 1 : Nat) : Int)) rfl rfl (by omega) (by omega) (qh (ii (((k + 1 : Nat) : Int))) rfl (qd ?_))))))
  exact ⟨k + 1, _, FLe.refl _, rF, ⟨rfl, rfl, rfl, ⟨⟩⟩, sR, ⟨rfl, (by omega), (fun i hi => (Nat.lt_or_ge i k).elim (fun h => hall i h) (fun h => by obtain rfl : i = k := (by omega); omega))⟩, (by omega)⟩
 refine qX (qv (qv (qJ (qf (qc (qh (.bool (true)) rfl (qd (qs (qm (L' := L) [.bool (true)] (.bool (true)) (.tmp rfl .nil) rfl rF rF sR ?_)))))))))
 exact ⟨(vB (decide_eq_true (ext_getD (by omega) (fun i hi => hall i (by omega))))), rfl, rfl⟩

/- slices.Index[[]int64,int64] -/
theorem Index_spec {F : FH} {L : List HP} {xsv : Value} {xs : List Int} (hxs : IntsF F xsv xs) {n : Int} (hbd : xs.length ≤ 9223372036854775807) :
    Does prog 136 [xsv, ii (n)] F (L) (fun v F' L' => (ii (indexZ xs n) : Value) = v ∧ F = F' ∧ L = L') := by
 refine qz func136 rfl rfl rfl (qf (qc (qh (ii (0)) rfl (qd (qf (qf (qc (qg (xsv) rfl (cX (qC qi rfl hxs.slv (qg (ii (0)) rfl (qd (qE (qY (α := Nat) (fun k => [(0, xsv), (1, ii (n)), (7, ii ((xs.length : Int))), (8, ii ((k : Int)))]) (fun k => L) (fun k F' => F = F' ∧ (k ≤ xs.length) ∧ (∀ i, i < k → xs.getD i 0 ≠ n)) (fun k => xs.length - k) 0 ⟨rfl, rfl, rfl, rfl, ⟨⟩⟩ sR ⟨rfl, (by omega), (fun i hi => absurd hi (by omega))⟩ ?_))))))))))))))
 rintro k rE _ _ ⟨rfl, hk, hall⟩
 show X _ _ _ _ (envs [(0, xsv), (1, ii (n)), (7, ii ((xs.length : Int))), (8, ii ((k : Int)))] rE) _ (L)
 refine qf (qc (cX (qI rfl rfl (qd (qf ?_)))))
 refine qx (p := (k : Int) < (xs.length : Int)) rfl (fun h1 => ?_) (fun h1 => ?_)
 ·refine qw (qf (qE (qf (qc (qg (ii ((k : Int))) rfl (qh (ii ((k : Int))) rfl (qd (qf (qc (qg (ii (n)) rfl (qg (xsv) rfl (qg (ii ((k : Int))) rfl (cX (qA k qi qG rfl rfl rfl hxs.slv (by omega) (Nat.mul_one _) (cX (qk ja rfl (hxs.rd (by omega)) (cX (XOp.eql rfl rfl ?_))))))))))))))))))
  refine qd ?_
  refine qx (p := (n : Int) = xs.getD k 0) rfl (fun h2 => ?_) (fun h2 => ?_)
  ·refine qf (qc (qg (ii ((k : Int))) rfl (qh (ii ((k : Int))) rfl (qd (qs (qy (qj (qj (qy (qj (qm (L' := L) [ii ((k : Int))] (ii ((k : Int))) (.tmp rfl .nil) rfl rF rF sR ?_)))))))))))
   exact ⟨(vI (indexZ_some (by omega) (by omega) hall)), rfl, rfl⟩
  refine qw (qc (cX (qM (((k + 1 : Nat) : Int)) rfl rfl (by omega) (by omega) (qg (ii (((k + 1 : Nat) : Int))) rfl (qd ?_)))))
  exact ⟨k + 1, _, FLe.refl _, rF, ⟨rfl, rfl, rfl, rfl, ⟨⟩⟩, sR, ⟨rfl, (by omega), (fun i hi => (Nat.lt_or_ge i k).elim (fun h => hall i h) (fun h => by obtain rfl : i = k := (by omega); omega))⟩, (by omega)⟩
 refine qX (qv (qv (qJ (qf (qc (qh (ii (-1)) rfl (qd (qs (qm (L' := L) [ii (-1)] (ii (-1)) (.tmp rfl .nil) rfl rF rF sR ?_)))))))))
 exact ⟨(vI (indexZ_none (fun i hi => hall i (by omega)))), rfl, rfl⟩

/- slices.Contains[[]int64,int64] -/
theorem Contains_spec {F : FH} {L : List HP} {xsv : Value} {xs : List Int} (hxs : IntsF F xsv xs) {n : Int} (hbd : xs.length ≤ 9223372036854775807) :
    Does prog 115 [xsv, ii (n)] F (L) (fun v F' L' => (.bool (decide (n ∈ xs)) : Value) = v ∧ F = F' ∧ L = L') := by
 refine qz func115 rfl rfl rfl (qf (qc (qh (.bool (false)) rfl (qd (qf (qc (qg (xsv) rfl (qg (ii (n)) rfl (cX (ql (args := [xsv, ii (n)]) call136 rfl (Index_spec (n := n) hxs (hbd := (by first | assumption | rfl | omega | simp))) ?_))))))))))
 rintro _ _ _ _ ⟨rfl, rfl, rfl⟩
 refine cX (XOp.geq rfl rfl (qh (.bool (decide ((indexZ xs n : Int) ≥ 0))) rfl (qd (qs (qm (L' := L) [.bool (decide ((indexZ xs n : Int) ≥ 0))] (.bool (decide ((indexZ xs n : Int) ≥ 0))) (.tmp rfl .nil) rfl rF rF sR ?_)))))
 exact ⟨(vB (decide_eq_decide.2 indexZ_mem.symm)), rfl, rfl⟩

/- spec.l1Has -/
theorem l1Has_spec {F : FH} {L : List HP} {xsv : Value} {xs : List Int} (hxs : IntsF F xsv xs) {n : Int} (hbd : xs.length ≤ 9223372036854775807) :
    Does prog 135 [xsv, ii (n)] F (L) (fun v F' L' => (.bool (decide (n ∈ xs)) : Value) = v ∧ F = F' ∧ L = L') := by
 refine qz func135 rfl rfl rfl (qf (qc (qh (.bool (false)) rfl (qd (qf (qf (qc (qh (ii (0)) rfl (qd (qE (qY (α := Nat) (fun k => [(0, xsv), (1, ii (n)), (5, ii ((k : Int)))]) (fun k => L) (fun k F' => F = F' ∧ (k ≤ xs.length) ∧ (∀ i, i < k → xs.getD i 0 ≠ n)) (fun k => xs.length - k) 0 ⟨rfl, rfl, rfl, ⟨⟩⟩ sR ⟨rfl, (by omega), (fun i hi => absurd hi (by omega))⟩ ?_)))))))))))
 rintro k rE _ _ ⟨rfl, hk, hall⟩
 show X _ _ _ _ (envs [(0, xsv), (1, ii (n)), (5, ii ((k : Int)))] rE) _ (L)
 refine qf (qf (qc (qg (ii ((k : Int))) rfl (qg (xsv) rfl (cX (qC qi rfl hxs.slv (cX (qI rfl rfl (qd ?_)))))))))
 refine qx (p := (k : Int) < (xs.length : Int)) rfl (fun h1 => ?_) (fun h1 => ?_)
 ·refine qw (qf (qE (qf (qc (qg (xsv) rfl (qg (ii ((k : Int))) rfl (cX (qA k qi qG rfl rfl rfl hxs.slv (by omega) (Nat.mul_one _) (cX (qk ja rfl (hxs.rd (by omega)) (qg (ii (n)) rfl (cX (XOp.eql rfl rfl (qd ?_))))))))))))))
  refine qx (p := (xs.getD k 0 : Int) = n) rfl (fun h2 => ?_) (fun h2 => ?_)
  ·refine qf (qc (qh (.bool (true)) rfl (qd (qs (qy (qj (qj (qy (qj (qm (L' := L) [.bool (true)] (.bool (true)) (.tmp rfl .nil) rfl rF rF sR ?_))))))))))
   exact ⟨(vB (decide_eq_true (mem_of_getD (k := k) (by omega) (by omega)))), rfl, rfl⟩
  refine qw (qc (qg (ii ((k : Int))) rfl (cX (qM (((k + 1 : Nat) : Int)) rfl rfl (by omega) (by omega) (qh (ii (((k + 1 : Nat) : Int))) rfl (qd ?_))))))
  exact ⟨k + 1, _, FLe.refl _, rF, ⟨rfl, rfl, rfl, ⟨⟩⟩, sR, ⟨rfl, (by omega), (fun i hi => (Nat.lt_or_ge i k).elim (fun h => hall i h) (fun h => by obtain rfl : i = k := (by omega); omega))⟩, (by omega)⟩
 refine qX (qv (qv (qJ (qf (qc (qh (.bool (false)) rfl (qd (qs (qm (L' := L) [.bool (false)] (.bool (false)) (.tmp rfl .nil) rfl rF rF sR ?_)))))))))
 exact ⟨(vB (decide_eq_false (not_mem_of_getD (fun i hi => hall i (by omega))))), rfl, rfl⟩

/- spec.l1In -/
theorem l1In_spec {F : FH} {L : List HP} {n : Int} {a : Int} {b : Int} :
    Does prog 48 [ii (n), ii (a), ii (b)] F (L) (fun v F' L' => (.bool (decide (a ≤ n ∧ n ≤ b)) : Value) = v ∧ F = F' ∧ L = L') := by
 refine qz func48 rfl rfl rfl (qf (qc (qh (.bool (false)) rfl (qd (qf (qc (qg (ii (n)) rfl (qg (ii (a)) rfl (cX (XOp.geq rfl rfl (qg (.bool (decide ((n : Int) ≥ a))) rfl ?_)))))))))))
 by_cases h1 : (n : Int) ≥ a
 ·refine qr (t := 10) rfl (vT h1) (qu (ii (n)) rfl (qr (t := 10) rfl (vT h1) (qu (ii (b)) rfl (qr (t := 10) rfl (vT h1) (XOp.leq rfl rfl (cX (qQ (.bool (decide ((n : Int) ≤ b))) (vT h1) rfl (qh (.bool (decide ((n : Int) ≤ b))) rfl (qd (qs (qm (L' := L) [.bool (decide ((n : Int) ≤ b))] (.bool (decide ((n : Int) ≤ b))) (.tmp rfl .nil) rfl rF rF sR ?_)))))))))))
  exact ⟨(vB (decide_eq_decide.2 (by omega))), rfl, rfl⟩
 refine qq (t := 10) rfl (vF h1) (qq (t := 10) rfl (vF h1) (qq (t := 10) rfl (vF h1) (cX (qL (.bool (false)) (vF h1) rfl (qh (.bool (false)) rfl (qd (qs (qm (L' := L) [.bool (false)] (.bool (false)) (.tmp rfl .nil) rfl rF rF sR ?_))))))))
 exact ⟨(vB (decide_eq_false (by omega))), rfl, rfl⟩

/- spec.l1There -/
theorem l1There_spec {F : FH} {L : List HP} {tv : Value} {t : List Int} (ht : IntsF F tv t) {n : Int} (hbd : t.length ≤ 9223372036854775807) :
    Does prog 47 [tv, ii (n)] F (L) (fun v F' L' => (.bool (decide (0 ≤ n ∧ n < (t.length : Int))) : Value) = v ∧ F = F' ∧ L = L') := by
 refine qz func47 rfl rfl rfl (qf (qc (qh (.bool (false)) rfl (qd (qf (qc (qg (ii (n)) rfl (qg (tv) rfl (cX (qC qi rfl ht.slv (cX (je (((t.length : Int)) - 1) rfl rfl (by omega) (by omega) (cX (ql (args := [ii (n), ii (0), ii (((t.length : Int)) - 1)]) call48 rfl (l1In_spec (n := n) (a := 0) (b := ((t.length : Int)) - 1)) ?_))))))))))))))
 rintro _ _ _ _ ⟨rfl, rfl, rfl⟩
 refine qh (.bool (decide (0 ≤ n ∧ n ≤ (((t.length : Int)) - 1)))) rfl (qd (qs (qm (L' := L) [.bool (decide (0 ≤ n ∧ n ≤ (((t.length : Int)) - 1)))] (.bool (decide (0 ≤ n ∧ n ≤ (((t.length : Int)) - 1)))) (.tmp rfl .nil) rfl rF rF sR ?_)))
 exact ⟨(vB (decide_eq_decide.2 (by omega))), rfl, rfl⟩
end Go.Proofs.Ytenomejgjcpbdaa
set_option linter.unusedSimpArgs false
set_option linter.unusedVariables false
namespace Go.Proofs.Ytenomejgjcpbdaa
open Go X M Try

/- spec.l1Arity -/
theorem l1Arity_spec {F : FH} {L : List HP} {arv : Value} {ar : List Int} (har : IntsF F arv ar) {n : Int} (hla : ar.length ≤ 4000000) :
    Does prog 101 [.agg #[arv], ii (n)] F (L) (fun v F' L' => (ii (sArity ar n) : Value) = v ∧ F = F' ∧ L = L') := by
 refine qz func101 rfl rfl rfl (qf (qc (cX (qO [arv] rfl rfl ?_))))
 intro b1
 refine qh (ii (0)) rfl (qd (qf (qE (qf (qc (qg (ii (n)) rfl (cX (ql (args := [ii (n), ii (-24), ii (-1)]) call48 rfl (l1In_spec (n := n) (a := -24) (b := -1)) ?_))))))))
 rintro _ _ _ _ ⟨rfl, rfl, rfl⟩
 refine qh (.bool (decide ((-24) ≤ n ∧ n ≤ (-1)))) rfl (qd ?_)
 refine qx (p := (-24) ≤ n ∧ n ≤ (-1)) rfl (fun h1 => ?_) (fun h1 => ?_)
 ·refine qf (qc (qh (ii (0)) rfl (qd (qs (qy (qj (qm (L' := L) [ii (0)] (ii (0)) (.tmp rfl .nil) rfl rF rF (sD sR) ?_)))))))
  exact ⟨(vI (by unfold sArity; split <;> (try split) <;> first | rfl | omega)), rfl, rfl⟩
 refine qf (qc (qg (ii (n)) rfl (cX (qn (0) jh rfl qB (by decide) rfl rfl (cX (qk qK rfl (Rd.own [] rfl rfl) (cX (qC qi rfl har.slv (cX (je (((ar.length : Int)) - 1) rfl rfl (by omega) (by omega) (cX (ql (args := [ii (n), ii (0), ii (((ar.length : Int)) - 1)]) call48 rfl (l1In_spec (n := n) (a := 0) (b := ((ar.length : Int)) - 1)) ?_))))))))))))
 rintro _ _ _ _ ⟨rfl, rfl, rfl⟩
 refine qh (.bool (decide (0 ≤ n ∧ n ≤ (((ar.length : Int)) - 1)))) rfl (qd ?_)
 refine qx (p := 0 ≤ n ∧ n ≤ (((ar.length : Int)) - 1)) rfl (fun h2 => ?_) (fun h2 => ?_)
 ·refine qf (qc (cX (qn (0) jh rfl qB (by decide) rfl rfl (cX (qk qK rfl (Rd.own [] rfl rfl) (qg (ii (n)) rfl (cX (qA ((n).toNat) qi qG rfl rfl (by omega) har.slv (by omega) (Nat.mul_one _) (cX (qk ja rfl (har.rd (by omega)) (qh (ii (ar.getD ((n).toNat) 0)) rfl (qd (qs (qy (qj (qm (L' := L) [ii (ar.getD ((n).toNat) 0)] (ii (ar.getD ((n).toNat) 0)) (.tmp rfl .nil) rfl rF rF (sD sR) ?_))))))))))))))))
  exact ⟨(vI (by unfold sArity; split <;> (try split) <;> first | rfl | omega)), rfl, rfl⟩
 refine qw (qf (qc (qh (ii (-1)) rfl (qd (qs (qm (L' := L) [ii (-1)] (ii (-1)) (.tmp rfl .nil) rfl rF rF (sD sR) ?_))))))
 exact ⟨(vI (by unfold sArity; split <;> (try split) <;> first | rfl | omega)), rfl, rfl⟩

/- spec.SigOk -/
theorem sSigOk_spec {F : FH} {L : List HP} {arv : Value} {ar : List Int} (har : IntsF F arv ar) (hla : ar.length ≤ 4000000) :
    Does prog 99 [.agg #[arv]] F (L) (fun v F' L' => (.bool (sigOk ar) : Value) = v ∧ F = F' ∧ L = L') := by
 refine qz func99 rfl rfl rfl (qf (qc (cX (qO [arv] rfl rfl ?_))))
 intro b1
 refine qh (.bool (false)) rfl (qd (qf (qf (qc (cX (qn (0) jh rfl qB (by decide) rfl rfl (cX (qk qK rfl (Rd.own [] rfl rfl) (cX (qC qi rfl har.slv (cX (ql (args := [ii ((ar.length : Int)), ii (1), ii (8)]) call48 rfl (l1In_spec (n := (ar.length : Int)) (a := 1) (b := 8)) ?_))))))))))))
 rintro _ _ _ _ ⟨rfl, rfl, rfl⟩
 refine cX (jk rfl (qd ?_))
 refine qx (p := ¬(1 ≤ ((ar.length : Int)) ∧ ((ar.length : Int)) ≤ 8)) rfl (fun h1 => ?_) (fun h1 => ?_)
 ·refine qf (qc (qh (.bool (false)) rfl (qd (qs (qj (qm (L' := L) [.bool (false)] (.bool (false)) (.tmp rfl .nil) rfl rF rF (sD sR) ?_))))))
  exact ⟨(vB (sigOk_short (by omega))), rfl, rfl⟩
 refine qw (qf (qf (qc (qh (ii (0)) rfl (qd (qE (qY (α := Nat) (fun k => [(1, ptr b1 0), (3, ii ((k : Int)))]) (fun k => cellsH b1 [arv] 30 :: L) (fun k F' => F = F' ∧ (k ≤ ar.length) ∧ (∀ i, i < k → 0 ≤ ar.getD i 0 ∧ ar.getD i 0 ≤ 3)) (fun k => ar.length - k) 0 ⟨rfl, rfl, ⟨⟩⟩ (sC sR) ⟨rfl, (by omega), (fun i hi => absurd hi (by omega))⟩ ?_)))))))
 rintro k rE _ _ ⟨rfl, hk, hall⟩
 show X _ _ _ _ (envs [(1, ptr b1 0), (3, ii ((k : Int)))] rE) _ (cellsH b1 [arv] 30 :: L)
 refine qf (qf (qc (qg (ii ((k : Int))) rfl (cX (qn (0) jh rfl qB (by decide) rfl rfl (cX (qk qK rfl (Rd.own [] rfl rfl) (cX (qC qi rfl har.slv (cX (qI rfl rfl (qd ?_))))))))))))
 refine qx (p := (k : Int) < (ar.length : Int)) rfl (fun h2 => ?_) (fun h2 => ?_)
 ·refine qw (qf (qE (qf (qc (cX (qn (0) jh rfl qB (by decide) rfl rfl (cX (qk qK rfl (Rd.own [] rfl rfl) (qg (ii ((k : Int))) rfl (cX (qA k qi qG rfl rfl rfl har.slv (by omega) (Nat.mul_one _) (cX (qk ja rfl (har.rd (by omega)) (cX (ql (args := [ii (ar.getD k 0), ii (0), ii (3)]) call48 rfl (l1In_spec (n := ar.getD k 0) (a := 0) (b := 3)) ?_)))))))))))))))
  rintro _ _ _ _ ⟨rfl, rfl, rfl⟩
  refine cX (jk rfl (qd ?_))
  refine qx (p := ¬(0 ≤ (ar.getD k 0) ∧ (ar.getD k 0) ≤ 3)) rfl (fun h3 => ?_) (fun h3 => ?_)
  ·refine qf (qc (qh (.bool (false)) rfl (qd (qs (qy (qj (qj (qy (qj (qm (L' := L) [.bool (false)] (.bool (false)) (.tmp rfl .nil) rfl rF rF (sD sR) ?_))))))))))
   exact ⟨(vB (sigOk_bad (i := k) (by omega) (by omega))), rfl, rfl⟩
  refine qw (qc (qg (ii ((k : Int))) rfl (cX (qM (((k + 1 : Nat) : Int)) rfl rfl (by omega) (by omega) (qh (ii (((k + 1 : Nat) : Int))) rfl (qd ?_))))))
  exact ⟨k + 1, _, FLe.refl _, rF, ⟨rfl, rfl, ⟨⟩⟩, (sC sR), ⟨rfl, (by omega), (fun i hi => (Nat.lt_or_ge i k).elim (fun h => hall i h) (fun h => by obtain rfl : i = k := (by omega); omega))⟩, (by omega)⟩
 refine qX (qv (qv (qJ (qf (qc (qh (.bool (true)) rfl (qd (qs (qm (L' := L) [.bool (true)] (.bool (true)) (.tmp rfl .nil) rfl rF rF (sD sR) ?_)))))))))
 exact ⟨(vB (sigOk_of (by omega) (by omega) (fun i hi => hall i (by omega)))), rfl, rfl⟩

/- spec.l1End -/
theorem l1End_spec {F : FH} {L : List HP} {arv : Value} {ar : List Int} (har : IntsF F arv ar) {tv : Value} {t : List Int} (ht : IntsF F tv t) {p0 : Nat} (hs : sigOk ar = true) (hlt : t.length ≤ 4000000) (hp : p0 ≤ t.length) :
    Does prog 72 [.agg #[arv], tv, ii ((p0 : Int))] F (L) (fun v F' L' => (ii (sEndZ ar t p0) : Value) = v ∧ F = F' ∧ L = L') := by
 refine qz func72 rfl rfl rfl ?_
 have hsl := sigOk_spec hs
 refine qf (qc (cX (qO [arv] rfl rfl ?_)))
 intro b1
 refine qh (ii (0)) rfl (qd (qf (qc (qh (ii (1)) rfl (qd (qf (qf (qc (qg (ii ((p0 : Int))) rfl (qh (ii ((p0 : Int))) rfl (qd (qE (qY (α := Nat × Nat) (fun xQ => [(1, tv), (3, ptr b1 0), (7, ii (((xQ.1 : Nat) : Int))), (8, ii (((xQ.2 : Nat) : Int)))]) (fun xQ => cellsH b1 [arv] 30 :: L) (fun xQ F' => F = F' ∧ (sEndGo ar (t.drop p0) 1 = (sEndGo ar (t.drop xQ.2) xQ.1).map (· + (xQ.2 - p0))) ∧ (p0 ≤ xQ.2 ∧ xQ.2 ≤ t.length) ∧ (1 ≤ xQ.1 ∧ xQ.1 ≤ 1 + 3 * xQ.2)) (fun xQ => t.length - xQ.2) (1, p0) ⟨rfl, rfl, rfl, rfl, ⟨⟩⟩ (sC sR) ⟨rfl, (by simp), (by omega), (by omega)⟩ ?_)))))))))))))
 rintro ⟨k, p⟩ rE _ _ ⟨rfl, hi, h1, h2⟩
 show X _ _ _ _ (envs [(1, tv), (3, ptr b1 0), (7, ii ((k : Int))), (8, ii ((p : Int)))] rE) _ (cellsH b1 [arv] 30 :: L)
 dsimp only at hi h1 h2
 refine qf (qf (qc (qg (ii ((p : Int))) rfl (qg (tv) rfl (cX (qC qi rfl ht.slv (cX (qI rfl rfl (qd ?_)))))))))
 refine qx (p := (p : Int) < (t.length : Int)) rfl (fun h1 => ?_) (fun h1 => ?_)
 ·refine qw (qf (qE (qf ?_)))
  refine X.draw [cellsH b1 [arv] 30] L 5 [] [[], [], [], [1, 2], [3]] (phiL [qe (.agg #[arv]), qe tv, qe (ii ((p : Int)) : Value), qe (.pointer (some (elemA tv (p)))), qe (ii (t.getD p 0))]) (ownL []) mixed rfl rfl (by kernel_rfl) ?_ ?_
  ·refine pD (fun W R z9 => ?_) ?_
   ·refine qo (qt [arv] qP qD rfl rfl (Rd.ownN [] rfl rfl) ?_)
    exact ⟨rfl, rfl, rfl⟩
   refine pD (fun W R z9 => ?_) ?_
   ·refine qo (qu (tv) rfl ?_)
    exact ⟨rfl, rfl, rfl⟩
   refine pD (fun W R z9 => ?_) ?_
   ·refine qo (qu (ii ((p : Int))) rfl ?_)
    exact ⟨rfl, rfl, rfl⟩
   refine pD (fun W R z9 => ?_) ?_
   ·rw [eS (l := [(1, _), (2, _)]) ⟨z9 1 rfl, z9 2 rfl, ⟨⟩⟩]
    refine qo (qA p qi qG rfl rfl rfl ht.slv (by omega) (Nat.mul_one _) ?_)
    exact ⟨rfl, rfl, rfl⟩
   refine pD (fun W R z9 => ?_) ?_
   ·rw [eS (l := [(3, _)]) ⟨z9 3 rfl, ⟨⟩⟩]
    refine qo (qk ja rfl (ht.rd (by omega)) ?_)
    exact ⟨rfl, rfl, rfl⟩
   exact stepsP.nil
  intro W hphi
  rw [eS (l := [(0, _), (4, _)]) ⟨(hphi 0 (by decide)), (hphi 4 (by decide)), ⟨⟩⟩]
  show XL _ _ _ _ _ _ _ (cellsH b1 [arv] 30 :: L)
  refine cX (ql (args := [.agg #[arv], ii (t.getD p 0)]) call101 rfl (l1Arity_spec (n := t.getD p 0) har (hla := (by first | assumption | rfl | omega | simp))) ?_)
  rintro _ _ _ _ ⟨rfl, rfl, rfl⟩
  refine qh (ii (sArity ar (t.getD p 0))) rfl (qd (qf (qf (qc (qg (ii (sArity ar (t.getD p 0))) rfl (cX (qI rfl rfl (qd ?_))))))))
  refine qx (p := (sArity ar (t.getD p 0) : Int) < 0) rfl (fun h2 => ?_) (fun h2 => ?_)
  ·rw [sArity_neg hs] at h2
   refine qf (qc (qh (ii (-1)) rfl (qd (qs (qj (qy (qj (qj (qy (qj (qm (L' := L) [ii (-1)] (ii (-1)) (.tmp rfl .nil) rfl rF rF (sD sR) ?_)))))))))))
   exact ⟨(vI (by unfold sEndZ; rw [hi, sEndGo_none (by omega) (by omega)]; rfl)), rfl, rfl⟩
  have hA : -24 ≤ t.getD p 0 ∧ t.getD p 0 < ar.length := by rw [sArity_neg hs] at h2; omega
  have hB := arity_le hs hA.2
  have hC := sArity_eq hA
  refine qw (qf (qc (qg (ii ((k : Int))) rfl (qg (ii (sArity ar (t.getD p 0))) rfl (cX (qM (((k + (arity ar (t.getD p 0)).toNat : Nat) : Int)) rfl rfl (by omega) (by omega) (cX (je (((k - 1 + (arity ar (t.getD p 0)).toNat : Nat) : Int)) rfl rfl (by omega) (by omega) (qh (ii (((k - 1 + (arity ar (t.getD p 0)).toNat : Nat) : Int))) rfl (qd (qf (qc (qg (ii (((k - 1 + (arity ar (t.getD p 0)).toNat : Nat) : Int))) rfl (cX (XOp.eql rfl rfl (qd ?_))))))))))))))))
  refine qx (p := (((k - 1 + (arity ar (t.getD p 0)).toNat : Nat) : Int) : Int) = 0) rfl (fun h3 => ?_) (fun h3 => ?_)
  ·refine qf (qc (qg (ii ((p : Int))) rfl (cX (qM (((p + 1 : Nat) : Int)) rfl rfl (by omega) (by omega) (qh (ii (((p + 1 : Nat) : Int))) rfl (qd (qs (qy (qj (qj (qy (qj (qm (L' := L) [ii (((p + 1 : Nat) : Int))] (ii (((p + 1 : Nat) : Int))) (.tmp rfl .nil) rfl rF rF (sD sR) ?_)))))))))))))
   exact ⟨(vI (by have hz := sEndGo_step (ar := ar) (t := t) (p := p) (k := k) (by omega) (by omega) hA; rw [show k - 1 + (arity ar (t.getD p 0)).toNat = 0 from by omega] at hz; unfold sEndZ; rw [hi, hz]; simp [sEndGo]; omega)), rfl, rfl⟩
  refine qw (qc (qg (ii ((p : Int))) rfl (cX (qM (((p + 1 : Nat) : Int)) rfl rfl (by omega) (by omega) (qh (ii (((p + 1 : Nat) : Int))) rfl (qd ?_))))))
  exact ⟨(k - 1 + (arity ar (t.getD p 0)).toNat, p + 1), _, FLe.refl _, rF, ⟨rfl, rfl, rfl, rfl, ⟨⟩⟩, (sC sR), ⟨rfl, (by rw [hi, sEndGo_step (by omega) (by omega) (by omega), Option.map_map]; congr 1; funext e; simp; omega), (by omega), (by omega)⟩, (by omega)⟩
 refine qX (qv (qv (qJ (qf (qc (qh (ii (-1)) rfl (qd (qs (qm (L' := L) [ii (-1)] (ii (-1)) (.tmp rfl .nil) rfl rF rF (sD sR) ?_)))))))))
 exact ⟨(vI (by unfold sEndZ; rw [hi, sEndGo_none (by omega) (by omega)]; rfl)), rfl, rfl⟩

/- impl.TermOk -/
theorem TermOk_spec {F : FH} {L : List HP} {arv : Value} {ar : List Int} (har : IntsF F arv ar) {tv : Value} {t : List Int} (ht : IntsF F tv t) :
    Does prog 64 [.agg #[arv], tv] F (L) (fun v F' L' => (.bool (termOk ar t) : Value) = v ∧ F = F' ∧ L = L') := by
 refine qz func64 rfl rfl rfl (qf (qc (cX (qO [arv] rfl rfl ?_))))
 intro b1
 refine qh (.bool (false)) rfl (qd (qf (qc (cX (qt [arv] qP qD rfl rfl (Rd.ownN [] rfl rfl) (cX (ql (args := [.agg #[arv]]) call92 rfl (SigOk_spec har) ?_)))))))
 rintro _ _ _ _ ⟨rfl, rfl, rfl⟩
 refine qg (.bool (sigOk ar)) rfl ?_
 by_cases h1 : (sigOk ar) = true
 ·refine qr (t := 7) rfl (vB h1) (qu (tv) rfl (qr (t := 7) rfl (vB h1) (qC qi rfl ht.slv (qr (t := 7) rfl (vB h1) (js rfl rfl (cX (qQ (.bool (decide (((t.length : Int) : Int) > 0))) (vB h1) rfl (qg (.bool (decide (((t.length : Int) : Int) > 0))) rfl ?_))))))))
  by_cases h2 : ((t.length : Int) : Int) > 0
  ·refine qr (t := 12) rfl (vT h2) (qu (tv) rfl (qr (t := 12) rfl (vT h2) (qC qi rfl ht.slv (qr (t := 12) rfl (vT h2) (XOp.leq rfl rfl (cX (qQ (.bool (decide (((t.length : Int) : Int) ≤ 60))) (vT h2) rfl (qg (.bool (decide (((t.length : Int) : Int) ≤ 60))) rfl ?_))))))))
   by_cases h3 : ((t.length : Int) : Int) ≤ 60
   ·refine qr (t := 17) rfl (vT h3) (qu (tv) rfl (qr (t := 17) rfl (vT h3) (ql (args := [tv]) call94 rfl (Min_spec ht (h1 := (by first | assumption | rfl | omega | simp)) (hbd := (by first | assumption | rfl | omega | simp))) ?_)))
    rintro _ _ _ _ ⟨rfl, rfl, rfl⟩
    refine qr (t := 17) rfl (vT h3) (XOp.geq rfl rfl (cX (qQ (.bool (decide ((minL t : Int) ≥ -24))) (vT h3) rfl (qg (.bool (decide ((minL t : Int) ≥ -24))) rfl ?_))))
    by_cases h4 : (minL t : Int) ≥ -24
    ·refine qr (t := 22) rfl (vT h4) (qt [arv] qP qD rfl rfl (Rd.ownN [] rfl rfl) (qr (t := 22) rfl (vT h4) (qu (tv) rfl (qr (t := 22) rfl (vT h4) (ql (args := [.agg #[arv], tv, ii ((0 : Nat) : Int)]) call75 rfl (endAt_spec (p := 0) har ht (hs := (by first | assumption | rfl | omega | simp)) (hb := (by first | assumption | rfl | omega | simp)) (hp := (by first | assumption | rfl | omega | simp))) ?_)))))
     rintro _ _ _ _ ⟨rfl, rfl, rfl⟩
     refine qr (t := 22) rfl (vT h4) (qu (tv) rfl (qr (t := 22) rfl (vT h4) (qC qi rfl ht.slv (qr (t := 22) rfl (vT h4) (XOp.eql rfl rfl (cX (qQ (.bool (decide ((endZ ar t 0 : Int) = (t.length : Int)))) (vT h4) rfl (qh (.bool (decide ((endZ ar t 0 : Int) = (t.length : Int)))) rfl (qd (qs (qm (L' := L) [.bool (decide ((endZ ar t 0 : Int) = (t.length : Int)))] (.bool (decide ((endZ ar t 0 : Int) = (t.length : Int)))) (.tmp rfl .nil) rfl rF rF (sD sR) ?_)))))))))))
     exact ⟨(vB (termOk_of (by assumption) (by omega) (by omega) (by omega))), rfl, rfl⟩
    refine qq (t := 22) rfl (vF h4) (qq (t := 22) rfl (vF h4) (qq (t := 22) rfl (vF h4) (qq (t := 22) rfl (vF h4) (qq (t := 22) rfl (vF h4) (qq (t := 22) rfl (vF h4) (cX (qL (.bool (false)) (vF h4) rfl (qh (.bool (false)) rfl (qd (qs (qm (L' := L) [.bool (false)] (.bool (false)) (.tmp rfl .nil) rfl rF rF (sD sR) ?_)))))))))))
    exact ⟨(vB (by first | (refine termOk_nosig ?_; assumption) | (refine termOk_short ?_; omega) | (refine termOk_min ?_ ?_ <;> omega))), rfl, rfl⟩
   refine qq (t := 17) rfl (vF h3) (qq (t := 17) rfl (vF h3) (qq (t := 17) rfl (vF h3) (cX (qL (.bool (false)) (vF h3) rfl (qg (.bool (false)) rfl (qq (t := 22) rfl rfl (qq (t := 22) rfl rfl (qq (t := 22) rfl rfl (qq (t := 22) rfl rfl (qq (t := 22) rfl rfl ?_))))))))))
   refine qq (t := 22) rfl rfl (cX (qL (.bool (false)) rfl rfl (qh (.bool (false)) rfl (qd (qs (qm (L' := L) [.bool (false)] (.bool (false)) (.tmp rfl .nil) rfl rF rF (sD sR) ?_))))))
   exact ⟨(vB (by first | (refine termOk_nosig ?_; assumption) | (refine termOk_short ?_; omega) | (refine termOk_min ?_ ?_ <;> omega))), rfl, rfl⟩
  refine qq (t := 12) rfl (vF h2) (qq (t := 12) rfl (vF h2) (qq (t := 12) rfl (vF h2) (cX (qL (.bool (false)) (vF h2) rfl (qg (.bool (false)) rfl (qq (t := 17) rfl rfl (qq (t := 17) rfl rfl (qq (t := 17) rfl rfl (cX (qL (.bool (false)) rfl rfl (qg (.bool (false)) rfl ?_)))))))))))
  refine qq (t := 22) rfl rfl (qq (t := 22) rfl rfl (qq (t := 22) rfl rfl (qq (t := 22) rfl rfl (qq (t := 22) rfl rfl (qq (t := 22) rfl rfl (cX (qL (.bool (false)) rfl rfl (qh (.bool (false)) rfl (qd (qs (qm (L' := L) [.bool (false)] (.bool (false)) (.tmp rfl .nil) rfl rF rF (sD sR) ?_)))))))))))
  exact ⟨(vB (by first | (refine termOk_nosig ?_; assumption) | (refine termOk_short ?_; omega) | (refine termOk_min ?_ ?_ <;> omega))), rfl, rfl⟩
 rw [Bool.not_eq_true] at h1
 refine qq (t := 7) rfl (vB h1) (qq (t := 7) rfl (vB h1) (qq (t := 7) rfl (vB h1) (cX (qL (.bool (false)) (vB h1) rfl (qg (.bool (false)) rfl (qq (t := 12) rfl rfl (qq (t := 12) rfl rfl (qq (t := 12) rfl rfl (cX (qL (.bool (false)) rfl rfl (qg (.bool (false)) rfl ?_)))))))))))
 refine qq (t := 17) rfl rfl (qq (t := 17) rfl rfl (qq (t := 17) rfl rfl (cX (qL (.bool (false)) rfl rfl (qg (.bool (false)) rfl (qq (t := 22) rfl rfl (qq (t := 22) rfl rfl (qq (t := 22) rfl rfl (qq (t := 22) rfl rfl (qq (t := 22) rfl rfl ?_))))))))))
 refine qq (t := 22) rfl rfl (cX (qL (.bool (false)) rfl rfl (qh (.bool (false)) rfl (qd (qs (qm (L' := L) [.bool (false)] (.bool (false)) (.tmp rfl .nil) rfl rF rF (sD sR) ?_))))))
 exact ⟨(vB (by first | (refine termOk_nosig ?_; assumption) | (refine termOk_short ?_; omega) | (refine termOk_min ?_ ?_ <;> omega))), rfl, rfl⟩

/- spec.TermOk -/
theorem sTermOk_spec {F : FH} {L : List HP} {arv : Value} {ar : List Int} (har : IntsF F arv ar) {tv : Value} {t : List Int} (ht : IntsF F tv t) (hla : ar.length ≤ 4000000) (hlt : t.length ≤ 4000000) :
    Does prog 70 [.agg #[arv], tv] F (L) (fun v F' L' => (.bool (termOk ar t) : Value) = v ∧ F = F' ∧ L = L') := by
 refine qz func70 rfl rfl rfl (qf (qc (cX (qO [arv] rfl rfl ?_))))
 intro b1
 refine qh (.bool (false)) rfl (qd (qf (qc (cX (qt [arv] qP qD rfl rfl (Rd.ownN [] rfl rfl) (cX (ql (args := [.agg #[arv]]) call99 rfl (sSigOk_spec har (hla := (by first | assumption | rfl | omega | simp))) ?_)))))))
 rintro _ _ _ _ ⟨rfl, rfl, rfl⟩
 refine qg (.bool (sigOk ar)) rfl ?_
 by_cases h1 : (sigOk ar) = true
 ·refine qr (t := 7) rfl (vB h1) (qu (tv) rfl (qr (t := 7) rfl (vB h1) (qC qi rfl ht.slv (qr (t := 7) rfl (vB h1) (ql (args := [ii ((t.length : Int)), ii (1), ii (60)]) call48 rfl (l1In_spec (n := (t.length : Int)) (a := 1) (b := 60)) ?_)))))
  rintro _ _ _ _ ⟨rfl, rfl, rfl⟩
  refine cX (qQ (.bool (decide (1 ≤ ((t.length : Int)) ∧ ((t.length : Int)) ≤ 60))) (vB h1) rfl (qg (.bool (decide (1 ≤ ((t.length : Int)) ∧ ((t.length : Int)) ≤ 60))) rfl ?_))
  by_cases h2 : 1 ≤ ((t.length : Int)) ∧ ((t.length : Int)) ≤ 60
  ·refine qr (t := 12) rfl (vT h2) (qt [arv] qP qD rfl rfl (Rd.ownN [] rfl rfl) (qr (t := 12) rfl (vT h2) (qu (tv) rfl (qr (t := 12) rfl (vT h2) (ql (args := [.agg #[arv], tv, ii ((0 : Nat) : Int)]) call72 rfl (l1End_spec (p0 := 0) har ht (hs := (by first | assumption | rfl | omega | simp)) (hlt := (by first | assumption | rfl | omega | simp)) (hp := (by first | assumption | rfl | omega | simp))) ?_)))))
   rintro _ _ _ _ ⟨rfl, rfl, rfl⟩
   refine qr (t := 12) rfl (vT h2) (qu (tv) rfl (qr (t := 12) rfl (vT h2) (qC qi rfl ht.slv (qr (t := 12) rfl (vT h2) (XOp.eql rfl rfl (cX (qQ (.bool (decide ((sEndZ ar t 0 : Int) = (t.length : Int)))) (vT h2) rfl (qh (.bool (decide ((sEndZ ar t 0 : Int) = (t.length : Int)))) rfl (qd (qs (qm (L' := L) [.bool (decide ((sEndZ ar t 0 : Int) = (t.length : Int)))] (.bool (decide ((sEndZ ar t 0 : Int) = (t.length : Int)))) (.tmp rfl .nil) rfl rF rF (sD sR) ?_)))))))))))
   exact ⟨(vB (termOk_s (by assumption) (by omega))), rfl, rfl⟩
  refine qq (t := 12) rfl (vF h2) (qq (t := 12) rfl (vF h2) (qq (t := 12) rfl (vF h2) (qq (t := 12) rfl (vF h2) (qq (t := 12) rfl (vF h2) (qq (t := 12) rfl (vF h2) (cX (qL (.bool (false)) (vF h2) rfl (qh (.bool (false)) rfl (qd (qs (qm (L' := L) [.bool (false)] (.bool (false)) (.tmp rfl .nil) rfl rF rF (sD sR) ?_)))))))))))
  exact ⟨(vB (by first | (refine termOk_nosig ?_; assumption) | (refine termOk_short ?_; omega))), rfl, rfl⟩
 rw [Bool.not_eq_true] at h1
 refine qq (t := 7) rfl (vB h1) (qq (t := 7) rfl (vB h1) (qq (t := 7) rfl (vB h1) (cX (qL (.bool (false)) (vB h1) rfl (qg (.bool (false)) rfl (qq (t := 12) rfl rfl (qq (t := 12) rfl rfl (qq (t := 12) rfl rfl (qq (t := 12) rfl rfl (qq (t := 12) rfl rfl ?_))))))))))
 refine qq (t := 12) rfl rfl (cX (qL (.bool (false)) rfl rfl (qh (.bool (false)) rfl (qd (qs (qm (L' := L) [.bool (false)] (.bool (false)) (.tmp rfl .nil) rfl rF rF (sD sR) ?_))))))
 exact ⟨(vB (by first | (refine termOk_nosig ?_; assumption) | (refine termOk_short ?_; omega))), rfl, rfl⟩

theorem endAt_ok {F : FH} {L : List HP} {p : Nat} {arv : Value} {ar : List Int} (har : IntsF F arv ar) {tv : Value} {t : List Int} (ht : IntsF F tv t) (ho : termOk ar t = true) (hp : p < t.length) :
    Does prog 75 [.agg #[arv], tv, ii (p : Int)] F L (fun v F' L' => (ii ((endN ar t p : Nat) : Int) : Value) = v ∧ F = F' ∧ L = L') := by
  have hl := termOk_len ho
  have h := endAt_spec (F := F) (L := L) (p := p) har ht (termOk_sig ho) (by omega) (by omega)
  rw [endZ_endN ho hp] at h
  exact h

theorem l1End_ok {F : FH} {L : List HP} {p : Nat} {arv : Value} {ar : List Int} (har : IntsF F arv ar) {tv : Value} {t : List Int} (ht : IntsF F tv t) (ho : termOk ar t = true) (hp : p < t.length) :
    Does prog 72 [.agg #[arv], tv, ii (p : Int)] F L (fun v F' L' => (ii ((endN ar t p : Nat) : Int) : Value) = v ∧ F = F' ∧ L = L') := by
  have hl := termOk_len ho
  have h := l1End_spec (F := F) (L := L) (p0 := p) har ht (termOk_sig ho) (by omega) (by omega)
  rw [sEndZ_endN ho hp] at h
  exact h

end Go.Proofs.Ytenomejgjcpbdaa
set_option linter.unusedSimpArgs false
set_option linter.unusedVariables false
namespace Go.Proofs.Ytenomejgjcpbdaa
open Go X M Try

/- impl.subAt -/
theorem subAt_spec {F : FH} {L : List HP} {arv : Value} {ar : List Int} (har : IntsF F arv ar) {tv : Value} {t : List Int} (ht : IntsF F tv t) {p : Nat} (ho : termOk ar t = true) (hp : p < t.length) (hnn : isNil tv = false) :
    Does prog 82 [.agg #[arv], tv, ii ((p : Int))] F (L) (fun v F' L' => F = F' ∧ L = L' ∧ IntsF F v (sub ar t p) ∧ isNil v = false) := by
 refine qz func82 rfl rfl rfl ?_
 have hsl := sigOk_spec (termOk_sig ho)
 have htl := termOk_len ho
 have hsig := termOk_sig ho
 have hee := endN_spec ho hp
 refine qf (qc (cX (qO [arv] rfl rfl ?_)))
 intro b1
 refine qh (sN) rfl (qd (qf (qc (qg (tv) rfl (qg (ii ((p : Int))) rfl (cX (qt [arv] qP qD rfl rfl (Rd.ownN [] rfl rfl) (qg (tv) rfl (qg (ii ((p : Int))) rfl (cX (ql (args := [.agg #[arv], tv, ii (p : Int)]) call75 rfl (endAt_ok (p := p) har ht (ho := (by first | assumption | rfl | omega | (left; simp; done) | (right; simp; done))) (hp := (by first | assumption | rfl | omega | (left; simp; done) | (right; simp; done)))) ?_)))))))))))
 rintro _ _ _ _ ⟨rfl, rfl, rfl⟩
 refine cX (XOp.sliceI p (endN ar t p) qi qG rfl ht ⟨_, rfl⟩ ⟨_, rfl⟩ (by omega) (by omega) ?_)
 intro v1 hv1 hn1
 refine qh (v1) rfl (qd (qs (qm (L' := L) [v1] (v1) (.tmp rfl .nil) rfl rF rF (sD sR) ?_)))
 exact ⟨rfl, rfl, hv1, by rw [hn1]; exact hnn⟩

/- spec.l1Copy -/
theorem l1Copy_spec {F : FH} {L : List HP} {tv : Value} {t : List Int} (ht : IntsF F tv t) (hlt : t.length ≤ 4000000) :
    Does prog 32 [tv] F (L) (fun v F' L' => F = F' ∧ IsSl v ∧ intsH 2 v t :: L = L') := by
 refine qz func32 rfl rfl rfl (qf (qc (qh (sN) rfl (qd (qf (qc (cX (qS (s := 1) [] [ii (0)] [] qi qG jb rfl (by decide) rfl CellsAre.nil rfl ?_))))))))
 intro v1 hv1
 refine qg (tv) rfl ?_
 show XL _ _ _ _ _ _ _ (intsH 2 v1 ([] : List Int) :: L)
 refine cX (XOp.appendI [] _ qi typeInfo2 rfl rfl rfl rfl rfl rfl ht (by (try simp only [List.length_append, List.length_nil, List.length_cons, List.length_singleton, List.length_take, List.length_drop]); omega) ?_)
 intro v2 hs1 hn1 hm1
 refine qh (v2) rfl (qd (qs (qm (L' := intsH 2 v2 (([] : List Int) ++ t) :: L) [v2] (v2) (.tmp rfl .nil) rfl rF rF (sC sR) ?_)))
 refine ⟨rfl, hs1, ?_⟩
 have hxs : (t : List Int) = ([] : List Int) ++ t := by simp
 exact congrArg (fun z => intsH 2 _ z :: L) hxs

/- slices.Clone[[]int64,int64] -/
theorem Clone_spec {F : FH} {L : List HP} {tv : Value} {t : List Int} (ht : IntsF F tv t) (hlt : t.length ≤ 4000000) :
    Does prog 55 [tv] F (L) (fun v F' L' => F = F' ∧ IsSl v ∧ intsH 2 v t :: L = L') := by
 refine qz func55 rfl rfl rfl (qf (qc (qh (sN) rfl (qd (qf (qf (qc (qg (tv) rfl (cX (XOp.eqNil qi rfl rfl (qU ht) (qd ?_)))))))))))
 refine jq (t := isNil tv) rfl (fun h1 => ?_) (fun h1 => ?_)
 ·refine qf (qc (qh (sN) rfl (qd (qs (qj (qm (L' := intsH 2 (sN) ([]) :: L) [sN] (sN) (.tmp rfl .nil) rfl rF rF (Sub.trans (intsH.addNil 2 none _) (sC sR)) ?_))))))
  refine ⟨rfl, ⟨_, _, _, rfl⟩, ?_⟩
  have hxs : (t : List Int) = [] := by exact nil_of_isNil ht h1
  exact congrArg (fun z => intsH 2 _ z :: L) hxs
 refine qw (qf (qc (cX (qS (s := 1) [] [ii (0)] [] qi qG jb rfl (by decide) rfl CellsAre.nil rfl ?_))))
 intro v1 hv1
 refine qg (tv) rfl ?_
 show XL _ _ _ _ _ _ _ (intsH 2 v1 ([] : List Int) :: L)
 refine cX (XOp.appendI [] _ qi typeInfo2 rfl rfl rfl rfl rfl rfl ht (by (try simp only [List.length_append, List.length_nil, List.length_cons, List.length_singleton, List.length_take, List.length_drop]); omega) ?_)
 intro v2 hs1 hn1 hm1
 refine qh (v2) rfl (qd (qs (qm (L' := intsH 2 v2 (([] : List Int) ++ t) :: L) [v2] (v2) (.tmp rfl .nil) rfl rF rF (sC sR) ?_)))
 refine ⟨rfl, hs1, ?_⟩
 have hxs : (t : List Int) = ([] : List Int) ++ t := by simp
 exact congrArg (fun z => intsH 2 _ z :: L) hxs

/- spec.l1Sub -/
theorem l1Sub_spec {F : FH} {L : List HP} {arv : Value} {ar : List Int} (har : IntsF F arv ar) {tv : Value} {t : List Int} (ht : IntsF F tv t) {p : Nat} (ho : termOk ar t = true) (hp : p < t.length) :
    Does prog 78 [.agg #[arv], tv, ii ((p : Int))] F (L) (fun v F' L' => F = F' ∧ IsSl v ∧ intsH 2 v (sub ar t p) :: L = L') := by
 refine qz func78 rfl rfl rfl ?_
 have hsl := sigOk_spec (termOk_sig ho)
 have htl := termOk_len ho
 have hsig := termOk_sig ho
 have hee := endN_spec ho hp
 refine qf (qc (cX (qO [arv] rfl rfl ?_)))
 intro b1
 refine qh (sN) rfl (qd (qf (qc (qg (tv) rfl (qg (ii ((p : Int))) rfl (cX (qt [arv] qP qD rfl rfl (Rd.ownN [] rfl rfl) (qg (tv) rfl (qg (ii ((p : Int))) rfl (cX (ql (args := [.agg #[arv], tv, ii (p : Int)]) call72 rfl (l1End_ok (p := p) har ht (ho := (by first | assumption | rfl | omega | (left; simp; done) | (right; simp; done))) (hp := (by first | assumption | rfl | omega | (left; simp; done) | (right; simp; done)))) ?_)))))))))))
 rintro _ _ _ _ ⟨rfl, rfl, rfl⟩
 refine cX (XOp.sliceI p (endN ar t p) qi qG rfl ht ⟨_, rfl⟩ ⟨_, rfl⟩ (by omega) (by omega) ?_)
 intro v1 hv1 hn1
 refine cX (ql (args := [v1]) call32 rfl (l1Copy_spec hv1 (hlt := (by rw [List.length_take, List.length_drop]; omega))) ?_)
 rintro v2 _ _ _ ⟨rfl, hs1, rfl⟩
 refine qh (v2) rfl (qd (qs (qm (L' := intsH 2 v2 (((((t.drop p).take ((endN ar t p) - p))))) :: L) [v2] (v2) (.tmp rfl .nil) rfl rF rF (sC (sD sR)) ?_)))
 refine ⟨rfl, hs1, ?_⟩
 have hxs : (sub ar t p : List Int) = ((((t.drop p).take ((endN ar t p) - p)))) := rfl
 exact congrArg (fun z => intsH 2 _ z :: L) hxs
end Go.Proofs.Ytenomejgjcpbdaa
set_option linter.unusedSimpArgs false
set_option linter.unusedVariables false
namespace Go.Proofs.Ytenomejgjcpbdaa
open Go X M Try

/- impl.matchInto -/
theorem matchInto_spec {F : FH} {L : List HP} {arv : Value} {ar : List Int} (har : IntsF F arv ar) {pv : Value} {p : List Int} (hp : IntsF F pv p) {tv : Value} {t : List Int} (ht : IntsF F tv t) {bs : List Value} {b : RowL} (hb : BindC F bs b) (hbl : b.length = 24) (ho : termOk ar t = true) (hpl : p.length ≤ 4000000) (hpg : ∀ k, k < p.length → -24 ≤ p.getD k 0) :
    Does prog 81 [.agg #[arv], pv, tv, .agg (bs).toArray] F (L) (fun v F' L' => F = F' ∧ ∃ (bs : List Value), ∃ (bl : RowL), (.tuple #[.agg (bs).toArray, .bool ((mGo ar t p 0 b).isSome)] : Value) = v ∧ (BindC F' bs bl) ∧ (bl.length = 24) ∧ (∀ r, mGo ar t p 0 b = some r → bl = r) ∧ L = L') := by
 refine qz func81 rfl rfl rfl ?_
 have hsl := sigOk_spec (termOk_sig ho)
 have htl := termOk_len ho
 have hnn := notNil_of_pos ht (by omega)
 refine qf (qc (cX (qO [arv] rfl rfl ?_)))
 intro b1
 refine cX (qO bs rfl rfl ?_)
 intro b2
 refine cX (jr (List.replicate 24 (sN)) zeroValue119 rfl ?_)
 intro b3
 have hc1 : BindC F _ _ := BindC.nils 24
 refine qh (.bool (false)) rfl (qd (qf (qc (qh (ii (0)) rfl (qd (qf (qf (qc (qg (pv) rfl (cX (qC qi rfl hp.slv (qg (ii (0)) rfl (qd (qE (qY (α := Nat × Nat × List Value × RowL) (fun xQ => [(2, tv), (4, ptr b1 0), (7, ptr b2 0), (8, ptr b3 0), (10, ii (((xQ.2.1 : Nat) : Int))), (14, pv), (15, ii ((p.length : Int))), (16, ii (((xQ.1 : Nat) : Int)))]) (fun xQ => cellsH b3 (List.replicate 24 (sN)) 119 :: cellsH b2 xQ.2.2.1 119 :: cellsH b1 [arv] 30 :: L) (fun xQ F' => F = F' ∧ (BindC F xQ.2.2.1 xQ.2.2.2) ∧ (xQ.2.2.2.length = 24) ∧ (xQ.1 ≤ p.length) ∧ (xQ.2.1 ≤ t.length) ∧ (mGo ar t p 0 b = mGo ar t (p.drop xQ.1) xQ.2.1 xQ.2.2.2)) (fun xQ => p.length - xQ.1) (0, 0, bs, b) ⟨rfl, rfl, rfl, rfl, rfl, rfl, rfl, rfl, ⟨⟩⟩ (sC (sC (sC sR))) ⟨rfl, (hb), (hbl), (by (try dsimp only) <;> omega), (by (try dsimp only) <;> omega), (rfl)⟩ ?_)))))))))))))))
 rintro ⟨k, i, bs, bl⟩ rE _ _ ⟨rfl, hbc, hbl2, hk, hi, hm⟩
 show X _ _ _ _ (envs [(2, tv), (4, ptr b1 0), (7, ptr b2 0), (8, ptr b3 0), (10, ii ((i : Int))), (14, pv), (15, ii ((p.length : Int))), (16, ii ((k : Int)))] rE) _ (cellsH b3 (List.replicate 24 (sN)) 119 :: cellsH b2 bs 119 :: cellsH b1 [arv] 30 :: L)
 dsimp only at hbc hbl2 hk hi hm
 have hpk := hpg k
 have hsl2 := fun h => sub_length (p := i) ho h
 have hee := fun h => endN_spec (p := i) ho h
 refine qf (qc (cX (qI rfl rfl (qd (qf ?_)))))
 refine qx (p := (k : Int) < (p.length : Int)) rfl (fun h1 => ?_) (fun h1 => ?_)
 ·refine qw (qf (qE (qf (qc (cX (qA k qi qG rfl rfl rfl hp.slv (by omega) (Nat.mul_one _) (cX (qk ja rfl (hp.rd (by omega)) (qh (ii (p.getD k 0)) rfl (qd (qf (qf (qc (qg (ii ((i : Int))) rfl (qg (tv) rfl (cX (qC qi rfl ht.slv (cX (XOp.geq rfl rfl (qd ?_))))))))))))))))))))
  refine qx (p := (i : Int) ≥ (t.length : Int)) rfl (fun h2 => ?_) (fun h2 => ?_)
  ·refine qf (qc (cX (qt bs isAgg119 jm (by have := CO.len hbc; (try simp only [List.length_set, List.length_replicate] at this ⊢) <;> omega) rfl (Rd.ownN [_] rfl take_all) (cX (jl [] _ bs jm rfl rfl (by have := CO.len hbc; (try simp only [List.length_set, List.length_replicate] at this ⊢) <;> omega) hbc.ones rfl (Nat.ble_eq_true_of_le (Nat.le_of_eq (by have := CO.len hc1; (try simp only [List.length_set, List.length_replicate] at this ⊢) <;> omega))) (arr_over (by have := CO.len hc1; (try simp only [List.length_set, List.length_replicate] at this ⊢) <;> omega)) (qh (.bool (false)) rfl (qd (qs (qj (qy (qj (qj (qy (qj (qm (L' := L) [.agg (bs).toArray, .bool (false)] (.tuple #[.agg (bs).toArray, .bool (false)]) (.cell rfl (loadNV bs isAgg119 jm (by have := CO.len hbc; (try simp only [List.length_set, List.length_replicate] at this ⊢) <;> omega) (Rd.ownN [] rfl take_all)) (.tmp rfl .nil)) rfl rF rF (sD (sD (sD sR))) ?_)))))))))))))))
   have hz : mGo ar t p 0 b = none := hm.trans (mGo_short (by omega) (by omega))
   refine ⟨rfl, _, _, by rw [hz]; rfl, hbc, by (try simp only [List.length_set]) <;> omega, fun r hr => ?_, rfl⟩
   rw [hz] at hr; cases hr
  refine qw (qf (qf (qc (qg (ii (p.getD k 0)) rfl (cX (XOp.geq rfl rfl (qd ?_)))))))
  refine qx (p := (p.getD k 0 : Int) ≥ 0) rfl (fun h3 => ?_) (fun h3 => ?_)
  ·refine qf (qf (qc (qg (tv) rfl (qg (ii ((i : Int))) rfl (cX (qA i qi qG rfl rfl rfl ht.slv (by omega) (Nat.mul_one _) (cX (qk ja rfl (ht.rd (by omega)) (qg (ii (p.getD k 0)) rfl (cX (XOp.neq rfl rfl (qd ?_))))))))))))
   refine qx (p := (t.getD i 0 : Int) ≠ p.getD k 0) rfl (fun h4 => ?_) (fun h4 => ?_)
   ·refine qf (qc (cX (qt bs isAgg119 jm (by have := CO.len hbc; (try simp only [List.length_set, List.length_replicate] at this ⊢) <;> omega) rfl (Rd.ownN [_] rfl take_all) (cX (jl [] _ bs jm rfl rfl (by have := CO.len hbc; (try simp only [List.length_set, List.length_replicate] at this ⊢) <;> omega) hbc.ones rfl (Nat.ble_eq_true_of_le (Nat.le_of_eq (by have := CO.len hc1; (try simp only [List.length_set, List.length_replicate] at this ⊢) <;> omega))) (arr_over (by have := CO.len hc1; (try simp only [List.length_set, List.length_replicate] at this ⊢) <;> omega)) (qh (.bool (false)) rfl (qd (qs (qj (qj (qy (qj (qj (qy (qj (qm (L' := L) [.agg (bs).toArray, .bool (false)] (.tuple #[.agg (bs).toArray, .bool (false)]) (.cell rfl (loadNV bs isAgg119 jm (by have := CO.len hbc; (try simp only [List.length_set, List.length_replicate] at this ⊢) <;> omega) (Rd.ownN [] rfl take_all)) (.tmp rfl .nil)) rfl rF rF (sD (sD (sD sR))) ?_))))))))))))))))
    have hz : mGo ar t p 0 b = none := hm.trans (mGo_ne (by omega) (by omega) (by omega) (by assumption))
    refine ⟨rfl, _, _, by rw [hz]; rfl, hbc, by (try simp only [List.length_set]) <;> omega, fun r hr => ?_, rfl⟩
    rw [hz] at hr; cases hr
   refine qw (qf (qc (qg (ii ((i : Int))) rfl (cX (qM (((i + 1 : Nat) : Int)) rfl rfl (by omega) (by omega) (qh (ii (((i + 1 : Nat) : Int))) rfl (qd (qX (qv (qJ (qc (cX (qM (((k + 1 : Nat) : Int)) rfl rfl (by omega) (by omega) (qg (ii (((k + 1 : Nat) : Int))) rfl (qd ?_)))))))))))))))
   exact ⟨(k + 1, i + 1, bs, bl), _, FLe.refl _, rF, ⟨rfl, rfl, rfl, rfl, rfl, rfl, rfl, rfl, ⟨⟩⟩, (sC (sC (sC sR))), ⟨rfl, (hbc), (by (try simp only [List.length_set]) <;> omega), (by (try dsimp only) <;> omega), (by (try dsimp only) <;> omega), (hm.trans (mGo_sym (by omega) (by omega) (by omega) (by omega)))⟩, (by omega)⟩
  refine qw (qf (qc (cX (qt [arv] qP qD rfl rfl (Rd.ownN [_, _] rfl rfl) (qg (tv) rfl (qg (ii ((i : Int))) rfl (cX (ql (args := [.agg #[arv], tv, ii (i : Int)]) call82 rfl (subAt_spec (p := i) har ht (ho := (by first | assumption | rfl | omega | simp)) (hp := (by first | assumption | rfl | omega | simp)) (hnn := (by first | assumption | rfl | omega | simp))) ?_))))))))
  rintro v1 _ _ _ ⟨rfl, rfl, hv1, hn1⟩
  refine qh (v1) rfl (qd (qf (qf (qc (qg (ii (p.getD k 0)) rfl (cX (je ((-1) - (p.getD k 0)) rfl rfl (by omega) (by omega) (cX (XOp.indexA (i := (-1) - (p.getD k 0)) (((-1) - (p.getD k 0)).toNat) (((-1) - (p.getD k 0)).toNat) runUnderlying119 qB rfl rfl (by omega) (by omega) (by omega) ?_)))))))))
  obtain ⟨a1, ha1, hn2, he1⟩ := hbc.get (i := ((-1) - (p.getD k 0)).toNat) (by omega)
  refine cX (qk qK rfl (Rd.own [_] rfl he1) (cX (XOp.eqNil qi rfl rfl (qU ha1) (qd ?_))))
  refine jq (t := isNil a1) rfl (fun h5 => ?_) (fun h5 => ?_)
  ·refine qc (qg (ii (p.getD k 0)) rfl (cX (je ((-1) - (p.getD k 0)) rfl rfl (by omega) (by omega) (qg (v1) rfl (cX (XOp.indexA (i := (-1) - (p.getD k 0)) (((-1) - (p.getD k 0)).toNat) (((-1) - (p.getD k 0)).toNat) runUnderlying119 qB rfl rfl (by omega) (by omega) (by omega) (cX (XOp.store1 [_] _ (bs.set (((-1) - (p.getD k 0)).toNat) v1) qB rfl rfl (jf (qU hv1)) rfl (blt_of (by have := CO.len hbc; (try simp only [List.length_set, List.length_replicate] at this ⊢) <;> omega)) rfl ?_))))))))
   have hc2 := hbc.set (((-1) - (p.getD k 0)).toNat) hv1 (by simp [*, sub_ne ho (show i < t.length by omega)])
   refine qd (qc (qg (ii ((i : Int))) rfl (qg (v1) rfl (cX (qC qi rfl hv1.slv (cX (qM (((i + (((sub ar t i)).length) : Nat) : Int)) rfl rfl (by omega) (by omega) (qh (ii (((i + (((sub ar t i)).length) : Nat) : Int))) rfl (qd (qc (cX (qM (((k + 1 : Nat) : Int)) rfl rfl (by omega) (by omega) (qg (ii (((k + 1 : Nat) : Int))) rfl (qd ?_))))))))))))))
   exact ⟨(k + 1, i + (((sub ar t i)).length), (bs.set (((-1) - (p.getD k 0)).toNat) v1), (bl.set (((-1) - (p.getD k 0)).toNat) ((sub ar t i)))), _, FLe.refl _, rF, ⟨rfl, rfl, rfl, rfl, rfl, rfl, rfl, rfl, ⟨⟩⟩, (sC (sC (sC sR))), ⟨rfl, (hc2), (by (try simp only [List.length_set]) <;> omega), (by (try dsimp only) <;> omega), (by (try dsimp only) <;> omega), (hm.trans (mGo_new (by omega) (by omega) (by omega) (of_decide_eq_true (hn2.symm.trans (by assumption)))))⟩, (by omega)⟩
  refine qf (qc (qg (ii (p.getD k 0)) rfl (cX (je ((-1) - (p.getD k 0)) rfl rfl (by omega) (by omega) (cX (XOp.indexA (i := (-1) - (p.getD k 0)) (((-1) - (p.getD k 0)).toNat) (((-1) - (p.getD k 0)).toNat) runUnderlying119 qB rfl rfl (by omega) (by omega) (by omega) (cX (qk qK rfl (Rd.own [_] rfl he1) (qg (v1) rfl (cX (ql (args := [a1, v1]) call110 rfl (Equal_spec ha1 hv1 (hbd := (by first | assumption | rfl | omega | (left; simp; done) | (right; simp; done)))) ?_)))))))))))
  rintro _ _ _ _ ⟨rfl, rfl, rfl⟩
  refine cX (jk rfl (qd ?_))
  refine qx (p := ¬(((bl.getD (((-1) - (p.getD k 0)).toNat) [])) = ((sub ar t i)))) rfl (fun h6 => ?_) (fun h6 => ?_)
  ·refine qf (qc (cX (qt bs isAgg119 jm (by have := CO.len hbc; (try simp only [List.length_set, List.length_replicate] at this ⊢) <;> omega) rfl (Rd.ownN [_] rfl take_all) (cX (jl [] _ bs jm rfl rfl (by have := CO.len hbc; (try simp only [List.length_set, List.length_replicate] at this ⊢) <;> omega) hbc.ones rfl (Nat.ble_eq_true_of_le (Nat.le_of_eq (by have := CO.len hc1; (try simp only [List.length_set, List.length_replicate] at this ⊢) <;> omega))) (arr_over (by have := CO.len hc1; (try simp only [List.length_set, List.length_replicate] at this ⊢) <;> omega)) (qh (.bool (false)) rfl (qd (qs (qj (qy (qj (qj (qy (qj (qm (L' := L) [.agg (bs).toArray, .bool (false)] (.tuple #[.agg (bs).toArray, .bool (false)]) (.cell rfl (loadNV bs isAgg119 jm (by have := CO.len hbc; (try simp only [List.length_set, List.length_replicate] at this ⊢) <;> omega) (Rd.ownN [] rfl take_all)) (.tmp rfl .nil)) rfl rF rF (sD (sD (sD sR))) ?_)))))))))))))))
   have hz : mGo ar t p 0 b = none := hm.trans (mGo_clash (by omega) (by omega) (by omega) (of_decide_eq_false (hn2.symm.trans (by assumption))) (by assumption))
   refine ⟨rfl, _, _, by rw [hz]; rfl, hbc, by (try simp only [List.length_set]) <;> omega, fun r hr => ?_, rfl⟩
   rw [hz] at hr; cases hr
  refine qw (qc (qg (ii ((i : Int))) rfl (qg (v1) rfl (cX (qC qi rfl hv1.slv (cX (qM (((i + (((sub ar t i)).length) : Nat) : Int)) rfl rfl (by omega) (by omega) (qh (ii (((i + (((sub ar t i)).length) : Nat) : Int))) rfl (qd (qc (cX (qM (((k + 1 : Nat) : Int)) rfl rfl (by omega) (by omega) (qg (ii (((k + 1 : Nat) : Int))) rfl (qd ?_))))))))))))))
  exact ⟨(k + 1, i + (((sub ar t i)).length), bs, bl), _, FLe.refl _, rF, ⟨rfl, rfl, rfl, rfl, rfl, rfl, rfl, rfl, ⟨⟩⟩, (sC (sC (sC sR))), ⟨rfl, (hbc), (by (try simp only [List.length_set]) <;> omega), (by (try dsimp only) <;> omega), (by (try dsimp only) <;> omega), (hm.trans (mGo_same (by omega) (by omega) (by omega) (of_decide_eq_false (hn2.symm.trans (by assumption))) (by first | assumption | exact Classical.not_not.1 (by assumption))))⟩, (by omega)⟩
 refine qX (qv (qv (qJ (qf (qc (cX (qt bs isAgg119 jm (by have := CO.len hbc; (try simp only [List.length_set, List.length_replicate] at this ⊢) <;> omega) rfl (Rd.ownN [_] rfl take_all) (cX (jl [] _ bs jm rfl rfl (by have := CO.len hbc; (try simp only [List.length_set, List.length_replicate] at this ⊢) <;> omega) hbc.ones rfl (Nat.ble_eq_true_of_le (Nat.le_of_eq (by have := CO.len hc1; (try simp only [List.length_set, List.length_replicate] at this ⊢) <;> omega))) (arr_over (by have := CO.len hc1; (try simp only [List.length_set, List.length_replicate] at this ⊢) <;> omega)) (qh (.bool (true)) rfl (qd (qs (qm (L' := L) [.agg (bs).toArray, .bool (true)] (.tuple #[.agg (bs).toArray, .bool (true)]) (.cell rfl (loadNV bs isAgg119 jm (by have := CO.len hbc; (try simp only [List.length_set, List.length_replicate] at this ⊢) <;> omega) (Rd.ownN [] rfl take_all)) (.tmp rfl .nil)) rfl rF rF (sD (sD (sD sR))) ?_)))))))))))))
 have hz : mGo ar t p 0 b = some bl := hm.trans (mGo_done (by omega))
 refine ⟨rfl, _, _, by rw [hz]; rfl, hbc, by (try simp only [List.length_set]) <;> omega, fun r hr => ?_, rfl⟩
 rw [hz] at hr; exact Option.some.inj hr

/- (impl.bindings).subst -/
theorem subst_spec {F : FH} {L : List HP} {bs : List Value} {b : RowL} (hb : BindC F bs b) (hbl : b.length = 24) :
    Does prog 84 [.agg (bs).toArray] F (L) (fun v F' L' => ∃ (a : Value), (.agg #[a] : Value) = v ∧ (RowsF F' a b) ∧ L = L') := by
 refine qz func84 rfl rfl rfl (qf (qc (cX (qO bs rfl rfl ?_))))
 intro b1
 refine cX (jr [sN] zeroValue116 rfl ?_)
 intro b2
 refine qd (qf (qc (cX (XOp.sliceArr (cs := bs) [_] _ runUnderlying119 qB rfl (by have := CO.len hb; (try simp only [List.length_set, List.length_replicate] at this ⊢) <;> omega) rfl ?_))))
 intro v1 hv1
 have hc1 := BindC.rows hb
 refine cX (XOp.build [v1] [sN] [(0, 1)] [(0, [v1])] jv zeroValue116 rfl (.cons rfl sizeOf60 PlacesAre.nil) rfl (.cons (cells_one ⟨_, _, _, hv1⟩) CellsAre.nil) (cX (jl [] _ [v1] sizeOf116 rfl rfl rfl (jc (jf ⟨_, _, _, hv1⟩) ones_nil) rfl rfl rfl (qd (jn [_] _ _ rfl (fun F1 le1 hz1 => ?_))))))
 replace hc1 := hc1.mono le1
 have hf1 : RowsF F1 v1 b := CO.fz hc1 (by first | rfl | omega | (rw [List.length_set]; omega) | (simp; done)) hz1.fz
 refine qs (qm (L' := L) [.agg #[v1]] (.agg #[v1]) (.cell rfl (loadNV [v1] isAgg116 sizeOf116 rfl (Rd.ownN [] rfl rfl)) .nil) rfl le1 rF (sD sR) ?_)
 exact ⟨_, rfl, hf1, rfl⟩
end Go.Proofs.Ytenomejgjcpbdaa
set_option linter.unusedSimpArgs false
set_option linter.unusedVariables false
namespace Go.Proofs.Ytenomejgjcpbdaa
open Go X M Try
end Go.Proofs.Ytenomejgjcpbdaa
set_option linter.unusedSimpArgs false
set_option linter.unusedVariables false
namespace Go.Proofs.Ytenomejgjcpbdaa
open Go X M Try
end Go.Proofs.Ytenomejgjcpbdaa
set_option linter.unusedSimpArgs false
set_option linter.unusedVariables false
namespace Go.Proofs.Ytenomejgjcpbdaa
open Go X M Try

/- slices.Grow[[]int64,int64] -/
theorem GrowNil_spec {F : FH} {L : List HP}  {n : Nat} (hg1 : 1 ≤ n) (hn : n ≤ 400000000) :
    Does prog 134 [sN, ii ((n : Int))] F (L) (fun v F' L' => F = F' ∧ IsSl v ∧ intsH 2 v ([]) :: L = L') := by
 refine qz func134 rfl rfl rfl (qf (qc (qh (sN) rfl (qd (qf (qf (qc (qg (ii ((n : Int))) rfl (cX (qI rfl rfl (qd ?_)))))))))))
 refine qx (p := (n : Int) < 0) rfl (fun h1 => ?_) (fun h1 => ?_)
 ·omega
 refine qw (qf (qf (qc (qg (ii ((n : Int))) rfl (qg (sN) rfl (cX (XOp.capNil qi rfl (qg (sN) rfl (cX (qC qi rfl SlV.nil (cX (je (0 - (((0 : Nat) : Int))) rfl rfl (by omega) (by omega) (cX (je (((n : Int)) - (0 - (((0 : Nat) : Int)))) rfl rfl (by omega) (by omega) (qh (ii (((n : Int)) - (0 - (((0 : Nat) : Int))))) rfl (qd (qf (qc ?_))))))))))))))))))
 refine qg (ii (((n : Int)) - (0 - (((0 : Nat) : Int))))) rfl (cX (js rfl rfl (qd ?_)))
 refine qx (p := (((n : Int)) - (0 - (((0 : Nat) : Int))) : Int) > 0) rfl (fun h2 => ?_) (fun h2 => ?_)
 ·refine qc (qg (sN) rfl (qg (sN) rfl (cX (XOp.capNil qi rfl (cX (XOp.sliceNil qi qG rfl ⟨_, rfl⟩ (qg (ii (((n : Int)) - (0 - (((0 : Nat) : Int))))) rfl (cX (XOp.appendZ (s := 1) (bytes := 8) (n := (((n : Int)) - (0 - (((0 : Nat) : Int)))).toNat) [ii (0)] qi runUnderlying3 typeInfo2 rfl rfl rfl rfl rfl (by decide) rfl (by rw [show (((((n : Int)) - (0 - (((0 : Nat) : Int)))).toNat : Nat) : Int) = ((n : Int)) - (0 - (((0 : Nat) : Int))) from by omega]; rfl) (by omega) (by omega) (by omega) ?_)))))))))
  intro v1 hv1
  have hv2 : IsSl v1 := by obtain ⟨b0, c0, h0⟩ := hv1; exact ⟨_, _, _, h0⟩
  rw [intsH_zeros]
  refine qg (sN) rfl (cX (qC qi rfl SlV.nil (cX (XOp.sliceOwn (cs := List.map (Value.int .i64) ((List.replicate ((((n : Int)) - (0 - (((0 : Nat) : Int)))).toNat) 0))) [] _ 0 qi qG rfl rfl ⟨_, rfl⟩ (Nat.zero_le _) ?_))))
  intro v2 hs1
  show XL _ _ _ _ _ _ _ (intsH 2 v2 ([]) :: L)
  refine qh (v2) rfl (qd (qf (qc (qg (v2) rfl (qh (v2) rfl (qd (qs (qm (L' := intsH 2 v2 ([]) :: L) [v2] (v2) (.tmp rfl .nil) rfl rF rF (sC sR) ?_))))))))
  refine ⟨rfl, hs1, ?_⟩
  have hxs : ([] : List Int) = [] := rfl
  exact congrArg (fun z => intsH 2 _ z :: L) hxs
 omega

/- slices.Concat[[]int64,int64] -/
theorem Concat_spec {F : FH} {L : List HP} {xsv : Value} {xs : List (List Int)} (hxs : RowsF F xsv xs) (hg1 : 1 ≤ xs.flatten.length) (hn : xs.length ≤ 10) (hb : ∀ i, i < xs.length → (xs.getD i []).length ≤ 4000000) :
    Does prog 112 [xsv] F (L) (fun v F' L' => F = F' ∧ IsSl v ∧ intsH 2 v xs.flatten :: L = L') := by
 refine qz func112 rfl rfl rfl (qf (qc (qh (sN) rfl (qd (qf (qc (qh (ii (0)) rfl (qd (qf (qf (qc (qg (xsv) rfl (cX (qC qV rfl hxs.slv (qg (ii (0)) rfl (qd (qE ?_)))))))))))))))))
 refine qY (α := Nat × Nat) (fun xQ => [(0, xsv), (3, ii (((xQ.2 : Nat) : Int))), (9, xsv), (10, ii ((xs.length : Int))), (11, ii (((xQ.1 : Nat) : Int)))]) (fun xQ => L) (fun xQ F' => F = F' ∧ (xQ.1 ≤ xs.length) ∧ (xQ.2 = (xs.take xQ.1).flatten.length) ∧ (xQ.2 ≤ xQ.1 * 4000000)) (fun xQ => xs.length - xQ.1) (0, 0) ⟨rfl, rfl, rfl, rfl, rfl, ⟨⟩⟩ sR ⟨rfl, (by (try dsimp only) <;> omega), (rfl), (by (try dsimp only) <;> omega)⟩ ?_
 rintro ⟨k, z⟩ rE _ _ ⟨rfl, hk, hz, hz2⟩
 show X _ _ _ _ (envs [(0, xsv), (3, ii ((z : Int))), (9, xsv), (10, ii ((xs.length : Int))), (11, ii ((k : Int)))] rE) _ (L)
 dsimp only at hk hz hz2
 have hbk := hb k
 have hft := fun h => congrArg List.length (flatten_take (xs := xs) (k := k) h)
 simp only [List.length_append] at hft
 refine qf (qc (cX (qI rfl rfl (qd (qf ?_)))))
 refine qx (p := (k : Int) < (xs.length : Int)) rfl (fun h1 => ?_) (fun h1 => ?_)
 ·refine qw (qf (qE (qf (qc (cX (qA k qV qB rfl rfl rfl hxs.slv (by omega) (Nat.mul_one _) ?_))))))
  obtain ⟨a1, ha1, hr1⟩ := hxs.rd (i := k) (by omega)
  refine cX (qk qK rfl (hr1 _) (qh (a1) rfl (qd (qf (qc (qg (ii ((z : Int))) rfl (qg (a1) rfl (cX (qC qi rfl ha1.slv (cX (qM (((z + (((xs.getD k [])).length) : Nat) : Int)) rfl rfl (by omega) (by omega) (qh (ii (((z + (((xs.getD k [])).length) : Nat) : Int))) rfl (qd (qf (qc (qg (ii (((z + (((xs.getD k [])).length) : Nat) : Int))) rfl ?_))))))))))))))))
  refine cX (qI rfl rfl (qd ?_))
  refine qx (p := (((z + (((xs.getD k [])).length) : Nat) : Int) : Int) < 0) rfl (fun h2 => ?_) (fun h2 => ?_)
  ·omega
  refine qw (qc (cX (qM (((k + 1 : Nat) : Int)) rfl rfl (by omega) (by omega) (qg (ii (((k + 1 : Nat) : Int))) rfl (qd ?_)))))
  exact ⟨(k + 1, z + (((xs.getD k [])).length)), _, FLe.refl _, rF, ⟨rfl, rfl, rfl, rfl, rfl, ⟨⟩⟩, sR, ⟨rfl, (by (try dsimp only) <;> omega), (by (try dsimp only) <;> omega), (by (try dsimp only) <;> omega)⟩, (by omega)⟩
 refine qX (qv (qv (qJ (qf (qc ?_)))))
 have hz1 : 1 ≤ z := by rw [hz, show xs.take k = xs from List.take_of_length_le (by omega)]; exact hg1
 refine qg (ii ((z : Int))) rfl (cX (ql (args := [sN, ii (z : Int)]) call134 rfl (GrowNil_spec (n := z) (hg1 := (hz1)) (hn := (by omega))) ?_))
 rintro v1 _ _ _ ⟨rfl, hs1, rfl⟩
 refine qh (v1) rfl (qd (qf (qf (qc (qg (xsv) rfl (cX (qC qV rfl hxs.slv (qg (ii (0)) rfl (qd (qE (qY (α := Nat × Value × List Int) (fun xQ => [(6, xQ.2.1), (25, xsv), (26, ii ((xs.length : Int))), (27, ii (((xQ.1 : Nat) : Int)))]) (fun xQ => intsH 2 xQ.2.1 xQ.2.2 :: L) (fun xQ F' => F = F' ∧ (IsSl xQ.2.1) ∧ (xQ.1 ≤ xs.length) ∧ (xQ.2.2 = (xs.take xQ.1).flatten)) (fun xQ => xs.length - xQ.1) (0, v1, ([])) ⟨rfl, rfl, rfl, rfl, ⟨⟩⟩ (sC sR) ⟨rfl, (hs1), (by (try dsimp only) <;> omega), (rfl)⟩ ?_)))))))))))
 rintro ⟨k, ov, os⟩ rE _ _ ⟨rfl, hov, hk, hos⟩
 show X _ _ _ _ (envs [(6, ov), (25, xsv), (26, ii ((xs.length : Int))), (27, ii ((k : Int)))] rE) _ (intsH 2 ov os :: L)
 dsimp only at hov hk hos
 have hbk := hb k
 have hol : os.length ≤ k * 4000000 := by rw [hos]; exact flatten_bound hb k (by omega)
 refine qf (qc (cX (qI rfl rfl (qd (qf ?_)))))
 refine qx (p := (k : Int) < (xs.length : Int)) rfl (fun h3 => ?_) (fun h3 => ?_)
 ·refine qw (qf (qE (qf (qc (cX (qA k qV qB rfl rfl rfl hxs.slv (by omega) (Nat.mul_one _) ?_))))))
  obtain ⟨a2, ha2, hr2⟩ := hxs.rd (i := k) (by omega)
  refine cX (qk qK rfl (hr2 _) (qh (a2) rfl (qd (qc (qg (ov) rfl (qg (a2) rfl (cX (XOp.appendI [] _ qi typeInfo2 rfl rfl rfl rfl rfl rfl ha2 (by (try simp only [List.length_append, List.length_nil, List.length_cons, List.length_singleton, List.length_take, List.length_drop]); omega) ?_))))))))
  intro v2 hs2 hn1 hm1
  refine qh (v2) rfl (qd (qc (cX (qM (((k + 1 : Nat) : Int)) rfl rfl (by omega) (by omega) (qg (ii (((k + 1 : Nat) : Int))) rfl (qd ?_))))))
  exact ⟨(k + 1, v2, os ++ ((xs.getD k []))), _, FLe.refl _, rF, ⟨rfl, rfl, rfl, rfl, ⟨⟩⟩, (sC sR), ⟨rfl, (hs2), (by (try dsimp only) <;> omega), ((by dsimp only; rw [hos, flatten_take (by omega)]))⟩, (by omega)⟩
 refine qX (qv (qv (qJ (qf (qc (qg (ov) rfl (qh (ov) rfl (qd (qs (qm (L' := intsH 2 ov os :: L) [ov] (ov) (.tmp rfl .nil) rfl rF rF (sC sR) ?_))))))))))
 refine ⟨rfl, hov, ?_⟩
 have hxs : (xs.flatten : List Int) = os := by rw [hos, List.take_of_length_le (by omega)]
 exact congrArg (fun z => intsH 2 _ z :: L) hxs

/- impl.put -/
theorem put_spec {F : FH} {L : List HP} {arv : Value} {ar : List Int} (har : IntsF F arv ar) {tv : Value} {t : List Int} (ht : IntsF F tv t) {p : Nat} {uv : Value} {u : List Int} (hu : IntsF F uv u) (ho : termOk ar t = true) (hp : p < t.length) (hul : 1 ≤ u.length ∧ u.length ≤ 4000000) :
    Does prog 85 [.agg #[arv], tv, ii ((p : Int)), uv] F (L) (fun v F' L' => ∃ (a : Value), (.tuple #[a, .bool ((putL ar t p u).isSome)] : Value) = v ∧ (IntsF F' a ((putL ar t p u).getD [])) ∧ ((putL ar t p u).isSome = true → isNil a = false) ∧ (Fresh F F' (intsH 2 a ((putL ar t p u).getD []))) ∧ L = L') := by
 refine qz func85 rfl rfl rfl ?_
 have hsig := termOk_sig ho
 have hsl := sigOk_spec hsig
 have htl := termOk_len ho
 have hee := endN_spec ho hp
 refine qf (qc (cX (qO [arv] rfl rfl ?_)))
 intro b1
 refine qh (sN) rfl (qh (.bool (false)) rfl (qd (qf ?_)))
 refine X.drawG [cellsH b1 [arv] 30] L 10 [] [[], [], [0, 1], [], [], [], [], [], [5, 6, 7], [4, 8]] [] (phiG [pe tv, pe (ii ((p : Int)) : Value), fun FF us v => (v : Value) = v ∧ (IntsF FF v ((t.drop 0).take (p - 0))) ∧ (isNil v = isNil tv), pe uv, pe tv, pe (.agg #[arv]), pe tv, pe (ii ((p : Int)) : Value), pe (ii (((endN ar t p : Nat) : Int)) : Value), fun FF us v => (v : Value) = v ∧ (IntsF FF v ((t.drop (endN ar t p)).take (((t).length) - (endN ar t p)))) ∧ (isNil v = isNil tv)]) (ownL []) mixed rfl rfl (by kernel_rfl) (by kernel_rfl) (MonoG.get (m1 (m1 (mC (fun le h => ⟨h.1, h.2.1.mono le, h.2.2⟩) (m1 (m1 (m1 (m1 (m1 (m1 (mC (fun le h => ⟨h.1, h.2.1.mono le, h.2.2⟩) MonoG.nil))))))))))) ?_ ?_
 ·refine gD (fun W Fs R lF z9 => ?_) ?_
  ·refine qo (qu (tv) rfl ?_)
   exact ⟨rfl, rfl⟩
  refine gD (fun W Fs R lF z9 => ?_) ?_
  ·refine qo (qu (ii ((p : Int))) rfl ?_)
   exact ⟨rfl, rfl⟩
  refine gD (fun W Fs R lF z9 => ?_) ?_
  ·replace har := har.mono lF
   replace ht := ht.mono lF
   replace hu := hu.mono lF
   rw [eS (l := [(0, _), (1, _)]) ⟨z9 0 rfl, z9 1 rfl, ⟨⟩⟩]
   refine qo (XOp.sliceI 0 p qi qG rfl ht rfl ⟨_, rfl⟩ (by omega) (by omega) ?_)
   intro v3 hv3 hn3
   exact ⟨⟨rfl, hv3, hn3⟩, rfl⟩
  refine gD (fun W Fs R lF z9 => ?_) ?_
  ·refine qo (qu (uv) rfl ?_)
   exact ⟨rfl, rfl⟩
  refine gD (fun W Fs R lF z9 => ?_) ?_
  ·refine qo (qu (tv) rfl ?_)
   exact ⟨rfl, rfl⟩
  refine gD (fun W Fs R lF z9 => ?_) ?_
  ·replace har := har.mono lF
   replace ht := ht.mono lF
   replace hu := hu.mono lF
   refine qo (qt [arv] qP qD rfl rfl (Rd.ownN [] rfl rfl) ?_)
   exact ⟨rfl, rfl⟩
  refine gD (fun W Fs R lF z9 => ?_) ?_
  ·refine qo (qu (tv) rfl ?_)
   exact ⟨rfl, rfl⟩
  refine gD (fun W Fs R lF z9 => ?_) ?_
  ·refine qo (qu (ii ((p : Int))) rfl ?_)
   exact ⟨rfl, rfl⟩
  refine gD (fun W Fs R lF z9 => ?_) ?_
  ·replace har := har.mono lF
   replace ht := ht.mono lF
   replace hu := hu.mono lF
   rw [eS (l := [(5, _), (6, _), (7, _)]) ⟨z9 5 rfl, z9 6 rfl, z9 7 rfl, ⟨⟩⟩]
   refine qo (ql (args := [.agg #[arv], tv, ii (p : Int)]) call75 rfl (endAt_ok (p := p) har ht (ho := (by first | assumption | rfl | omega | (left; simp; done) | (right; simp; done))) (hp := (by first | assumption | rfl | omega | (left; simp; done) | (right; simp; done)))) ?_)
   rintro _ _ _ _ ⟨rfl, rfl, rfl⟩
   exact ⟨rfl, rfl⟩
  refine gD (fun W Fs R lF z9 => ?_) ?_
  ·replace har := har.mono lF
   replace ht := ht.mono lF
   replace hu := hu.mono lF
   rw [eS (l := [(4, _), (8, _)]) ⟨z9 4 rfl, z9 8 rfl, ⟨⟩⟩]
   refine qo (XOp.sliceI (endN ar t p) ((t).length) qi qG rfl ht ⟨_, rfl⟩ rfl (by omega) (by omega) ?_)
   intro v4 hv4 hn4
   exact ⟨⟨rfl, hv4, hn4⟩, rfl⟩
  exact stepsG.nil
 intro W F1 le1 hphi
 obtain ⟨e2, f2_1hv, f2_1hn⟩ := hphi 2 (by decide)
 obtain ⟨e9, f9_1hv, f9_1hn⟩ := hphi 9 (by decide)
 generalize hu1 : (W 2) = u1 at e2 f2_1hv f2_1hn e9 f9_1hv f9_1hn
 generalize hu2 : (W 9) = u2 at e2 f2_1hv f2_1hn e9 f9_1hv f9_1hn
 rw [eS (l := [(2, u1), (3, _), (9, u2)]) ⟨hu1, (hphi 3 (by decide)), hu2, ⟨⟩⟩]
 replace hu := hu.mono le1
 show XL _ _ _ _ _ _ _ (cellsH b1 [arv] 30 :: L)
 refine cX (qS (s := 1) [u1, uv, u2] [sN] [(0, [u1]), (1, [uv]), (2, [u2])] qV qB zeroValue22 rfl (by decide) rfl (.cons (cells_one (qU f2_1hv)) (.cons (cells_one (qU hu)) (.cons (cells_one (qU f9_1hv)) CellsAre.nil))) rfl ?_)
 intro v5 hv5
 have hc1 : RowsC F1 [u1, uv, u2] ([((t.drop 0).take (p - 0)), u, ((t.drop (endN ar t p)).take (((t).length) - (endN ar t p)))] : List (List Int)) := (RowsC.snoc (RowsC.snoc (RowsC.snoc (CO.nil : RowsC F1 [] []) f2_1hv) hu) f9_1hv)
 refine XL.freezeF [] _ _ rfl (fun F2 le2 hz1 => ?_)
 replace hc1 := hc1.mono le2
 have hf1 : RowsF F2 v5 (([((t.drop 0).take (p - 0)), u, ((t.drop (endN ar t p)).take (((t).length) - (endN ar t p)))] : List (List Int))) := CO.fz hc1 (by first | rfl | omega | (rw [List.length_set]; omega) | (simp; done)) hz1.fz
 refine cX (XOp.frzF <| ql (args := [v5]) call112 rfl (Concat_spec hf1 (hg1 := (by simp; omega)) (hn := (by first | assumption | rfl | omega | simp)) (hb := (fun i hi => by match i, hi with | 0, _ => simp; omega | 1, _ => simp; omega | 2, _ => simp; omega))) ?_)
 rintro v6 _ _ _ ⟨rfl, hs1, rfl⟩
 refine ⟨_, _, rfl, fun F3 le3 hz2 => ?_⟩
 have hf2 : IntsF F3 v6 (((([((t.drop 0).take (p - 0)), u, ((t.drop (endN ar t p)).take (((t).length) - (endN ar t p)))] : List (List Int))).flatten)) := intsH.fz (xs := ((([((t.drop 0).take (p - 0)), u, ((t.drop (endN ar t p)).take (((t).length) - (endN ar t p)))] : List (List Int))).flatten)) hz2.fz
 refine qh (v6) rfl (qd (qf (qf (qc (qg (v6) rfl (cX (qC qi rfl hf2.slv (cX (js rfl rfl (qd ?_))))))))))
 refine qx (p := ((((((([((t.drop 0).take (p - 0)), u, ((t.drop (endN ar t p)).take (((t).length) - (endN ar t p)))] : List (List Int))).flatten)).length : Nat) : Int) : Int) > 60) rfl (fun h1 => ?_) (fun h1 => ?_)
 ·refine qf (qc (qh (sN) rfl (qh (.bool (false)) rfl (qd (qs (qj (qm (L' := L) [sN, .bool (false)] (.tuple #[sN, .bool (false)]) (.tmp rfl (.tmp rfl .nil)) rfl (qp (qp le1 le2) le3) rF (sD sR) ?_)))))))
  have hz : putL ar t p u = none := putL_none put_flat (by omega)
  exact ⟨_, by rw [hz]; rfl, by rw [hz]; exact IntsF.nilV, fun h => (by rw [hz] at h; cases h), by rw [hz]; exact Fresh.ofNil _, rfl⟩
 refine qw (qf (qc (qg (v6) rfl (qh (v6) rfl (qh (.bool (true)) rfl (qd (qs (qm (L' := L) [v6, .bool (true)] (.tuple #[v6, .bool (true)]) (.tmp rfl (.tmp rfl .nil)) rfl (qp (qp le1 le2) le3) rF (sD sR) ?_))))))))
 have hz := putL_some (ar := ar) (t := t) (p := p) (u := u) put_flat (by omega)
 exact ⟨_, by rw [hz]; rfl, by rw [hz]; exact hf2, fun _ => notNil_of_pos hf2 (by rw [put_flat]; simp; omega), by rw [hz]; exact (hz2.base (qp le1 le2)), rfl⟩

/- (impl.Subst).byVar -/
theorem byVar_spec {F : FH} {L : List HP} {sv : Value} {s : List (List Int)} (hs : RowsF F sv s) {i : Nat} (hsl : s.length ≤ 4000000) :
    Does prog 133 [.agg #[sv], ii ((i : Int))] F (L) (fun v F' L' => F = F' ∧ ∃ (a : Value), (a : Value) = v ∧ (IntsF F' a (s.getD i [])) ∧ (isNil a = decide (s.getD i [] = [])) ∧ L = L') := by
 refine qz func133 rfl rfl rfl (qf (qc (cX (qO [sv] rfl rfl ?_))))
 intro b1
 refine qh (sN) rfl (qd (qf (qf (qc (qg (ii ((i : Int))) rfl (cX (qn (0) jv rfl sizeOf60 (by decide) rfl rfl (cX (qk isAgg60 rfl (Rd.own [] rfl rfl) (cX (qC qV rfl hs.slv (cX (XOp.geq rfl rfl (qg (.bool (decide ((i : Int) ≥ (s.length : Int)))) rfl ?_))))))))))))))
 by_cases h1 : (i : Int) ≥ (s.length : Int)
 ·refine qq (t := 10) rfl (vT h1) (qq (t := 10) rfl (vT h1) (qq (t := 10) rfl (vT h1) (qq (t := 10) rfl (vT h1) (qq (t := 10) rfl (vT h1) (qq (t := 10) rfl (vT h1) (qq (t := 10) rfl (vT h1) (cX (qQ (.bool (true)) (vT h1) rfl (qd (X.condT rfl ?_))))))))))
  refine qf (qc (qh (sN) rfl (qd (qs (qj (qm (L' := L) [sN] (sN) (.tmp rfl .nil) rfl rF rF (sD sR) ?_))))))
  have e : s.getD i [] = [] := by first | exact List.eq_nil_of_length_eq_zero (by omega) | (rw [List.getD_eq_getElem?_getD, List.getElem?_eq_none (by omega)]; rfl)
  exact ⟨rfl, _, rfl, by rw [e]; exact IntsF.nilV, by rw [e]; rfl, rfl⟩
 refine qr (t := 10) rfl (vF h1) (qn (0) jv rfl sizeOf60 (by decide) rfl rfl (qr (t := 10) rfl (vF h1) (qk isAgg60 rfl (Rd.own [] rfl rfl) (qr (t := 10) rfl (vF h1) (qu (ii ((i : Int))) rfl (qr (t := 10) rfl (vF h1) (qA i qV qB rfl rfl rfl hs.slv (by omega) (Nat.mul_one _) ?_)))))))
 obtain ⟨a1, ha1, hr1⟩ := hs.rd (i := i) (by omega)
 refine qr (t := 10) rfl (vF h1) (qk qK rfl (hr1 _) (qr (t := 10) rfl (vF h1) (qC qi rfl ha1.slv (qr (t := 10) rfl (vF h1) (XOp.eql rfl rfl (cX (qL (.bool (decide ((((((s.getD i [])).length : Nat) : Int) : Int) = 0))) (vF h1) rfl (qd ?_))))))))
 refine qx (p := (((((s.getD i [])).length : Nat) : Int) : Int) = 0) rfl (fun h2 => ?_) (fun h2 => ?_)
 ·refine qf (qc (qh (sN) rfl (qd (qs (qj (qm (L' := L) [sN] (sN) (.tmp rfl .nil) rfl rF rF (sD sR) ?_))))))
  have e : s.getD i [] = [] := by first | exact List.eq_nil_of_length_eq_zero (by omega) | (rw [List.getD_eq_getElem?_getD, List.getElem?_eq_none (by omega)]; rfl)
  exact ⟨rfl, _, rfl, by rw [e]; exact IntsF.nilV, by rw [e]; rfl, rfl⟩
 refine qw (qf (qc (cX (qn (0) jv rfl sizeOf60 (by decide) rfl rfl (cX (qk isAgg60 rfl (Rd.own [] rfl rfl) (qg (ii ((i : Int))) rfl (cX (qA i qV qB rfl rfl rfl hs.slv (by omega) (Nat.mul_one _) (cX (qk qK rfl (hr1 _) (qh (a1) rfl (qd (qs (qm (L' := L) [a1] (a1) (.tmp rfl .nil) rfl rF rF (sD sR) ?_)))))))))))))))
 have e : s.getD i [] ≠ [] := by intro e; have := congrArg List.length e; simp only [List.length_nil] at this; omega
 exact ⟨rfl, _, rfl, ha1, by rw [notNil_of_pos ha1 (List.length_pos_iff.2 e)]; exact (decide_eq_false e).symm, rfl⟩

/- (impl.Subst).lookup$1 -/
theorem lookup1_spec {F : FH} {L : List HP} {n : Int} {sv : Value} {s : List (List Int)} (hs : RowsF F sv s) {b : Nat} (hzb : FzC F b [sv]) (hsl : s.length ≤ 4000000) (hg : -4000000 ≤ n) :
    Does prog 132 [ii (n), ptr b 0] F (L) (fun v F' L' => F = F' ∧ ∃ (a : Value), (a : Value) = v ∧ (IntsF F' a (lkN s n)) ∧ (isNil a = decide (lkN s n = [])) ∧ L = L') := by
 refine qz func132 rfl rfl rfl (qf (qc (qh (sN) rfl (qd (qf (qf (qc (qg (ii (n)) rfl (cX (XOp.geq rfl rfl (qd ?_)))))))))))
 refine qx (p := (n : Int) ≥ 0) rfl (fun h1 => ?_) (fun h1 => ?_)
 ·refine qf (qc (qh (sN) rfl (qd (qs (qj (qm (L' := L) [sN] (sN) (.tmp rfl .nil) rfl rF rF sR ?_))))))
  have e : lkN s n = [] := lkN_pos (by omega)
  exact ⟨rfl, _, rfl, by rw [e]; exact IntsF.nilV, by rw [e]; rfl, rfl⟩
 refine qw (qf (qc (cX (qt [sv] isAgg116 sizeOf116 rfl rfl (FzC.rd hzb rfl) (qg (ii (n)) rfl (cX (je ((-1) - n) rfl rfl (by omega) (by omega) (cX (ql (args := [.agg #[sv], ii ((((-1) - n).toNat : Nat) : Int)]) call133 (by rw [show ((((-1) - n).toNat : Nat) : Int) = (-1) - n from by omega]; rfl) (byVar_spec (i := ((-1) - n).toNat) hs (hsl := (by first | assumption | rfl | omega | simp))) ?_)))))))))
 rintro _ _ _ _ ⟨rfl, x1, rfl, hr1, hr2, rfl⟩
 refine qh (x1) rfl (qd (qs (qm (L' := L) [x1] (x1) (.tmp rfl .nil) rfl rF rF sR ?_)))
 have e : lkN s n = s.getD (varIx n) [] := lkN_neg (by omega)
 exact ⟨rfl, _, rfl, by rw [e]; exact hr1, by rw [e]; exact hr2, rfl⟩

/- (impl.Subst).lookup -/
theorem lookup_spec {F : FH} {L : List HP} {sv : Value} {s : List (List Int)} (hs : RowsF F sv s) :
    Does prog 111 [.agg #[sv]] F (L) (fun v F' L' => ∃ (b : Nat), (.func (.func 132) #[] #[ptr b 0] : Value) = v ∧ (FzC F' b [sv]) ∧ L = L') := by
 refine qz func111 rfl rfl rfl (qf (qc (cX (qO [sv] rfl rfl ?_))))
 intro b1
 refine qh (.nilFunc) rfl (qd (qf (qc (cX (XOp.makeFuncL [] [ptr b1 0] rfl rfl (qh (.func (.func 132) #[] #[ptr b1 0]) rfl (qd (X.freeze [] _ _ rfl (fun F1 le1 hz1 => ?_)))))))))
 have hf1 : FzC F1 b1 [sv] := Fz.cells hz1
 refine qs (qm (L' := L) [.func (.func 132) #[] #[ptr b1 0]] (.func (.func 132) #[] #[ptr b1 0]) (.tmp rfl .nil) rfl le1 rF sR ?_)
 exact ⟨_, rfl, hf1, rfl⟩

/- impl.fill -/
theorem fill_spec {F : FH} {L : List HP} {sv : Value} {s : List (List Int)} (hs : RowsF F sv s) {tv : Value} {t : List Int} (ht : IntsF F tv t) (hsl : s.length ≤ 4000000) (hsb : ∀ i, (s.getD i []).length ≤ 4000000) (htl : t.length ≤ 4000000) (htg : ∀ k, k < t.length → -4000000 ≤ t.getD k 0) :
    Does prog 83 [.agg #[sv], tv] F (L) (fun v F' L' => ∃ (a : Value), (.tuple #[a, .bool ((fillL s t).isSome)] : Value) = v ∧ (IntsF F' a ((fillL s t).getD [])) ∧ (Fresh F F' (intsH 2 a ((fillL s t).getD []))) ∧ L = L') := by
 refine qz func83 rfl rfl rfl (qf (qc (cX (qO [sv] rfl rfl ?_))))
 intro b1
 refine qh (sN) rfl (qh (.bool (false)) rfl (qd (qf (qc (cX (qt [sv] isAgg116 sizeOf116 rfl rfl (Rd.ownN [] rfl rfl) (cX (ql (args := [.agg #[sv]]) call111 rfl (lookup_spec hs) ?_))))))))
 rintro _ F1 _ le1 ⟨x1, rfl, hr1, rfl⟩
 replace hs := hs.mono le1
 replace ht := ht.mono le1
 refine qh (.func (.func 132) #[] #[ptr x1 0]) rfl (qd (qf (qc (qg (tv) rfl (cX (qC qi rfl ht.slv (cX (XOp.makeSlice0 (n := (t).length) (bytes := 8) [ii (0)] qi qG typeInfo2 rfl jb rfl rfl rfl rfl (by omega) (by omega) ?_))))))))
 intro v1 hv1
 have hs1 : IsSl v1 := by obtain ⟨b0, h0⟩ := hv1; exact ⟨_, _, _, h0⟩
 show XL _ _ _ _ _ _ _ (intsH 2 v1 ([]) :: cellsH b1 [sv] 116 :: L)
 refine qh (v1) rfl (qd (qf (qf (qc (qg (tv) rfl (cX (qC qi rfl ht.slv (qg (ii (0)) rfl (qd (qE (qY (α := Nat × Value × List Int) (fun xQ => [(6, .func (.func 132) #[] #[ptr x1 0]), (7, xQ.2.1), (16, tv), (17, ii ((t.length : Int))), (18, ii (((xQ.1 : Nat) : Int)))]) (fun xQ => intsH 2 xQ.2.1 xQ.2.2 :: cellsH b1 [sv] 116 :: L) (fun xQ F' => F1 = F' ∧ (IsSl xQ.2.1) ∧ (xQ.1 ≤ t.length) ∧ (fillL s t = fillGo s (t.drop xQ.1) xQ.2.2) ∧ (xQ.2.2.length ≤ 60)) (fun xQ => t.length - xQ.1) (0, v1, []) ⟨rfl, rfl, rfl, rfl, rfl, ⟨⟩⟩ (sC (sC sR)) ⟨rfl, (hs1), (by (try dsimp only) <;> omega), (rfl), (by simp)⟩ ?_)))))))))))
 rintro ⟨k, ov, os⟩ rE _ _ ⟨rfl, hov, hk, hm, hol⟩
 show X _ _ _ _ (envs [(6, .func (.func 132) #[] #[ptr x1 0]), (7, ov), (16, tv), (17, ii ((t.length : Int))), (18, ii ((k : Int)))] rE) _ (intsH 2 ov os :: cellsH b1 [sv] 116 :: L)
 dsimp only at hov hk hm hol
 have htk := htg k
 refine qf (qc (cX (qI rfl rfl (qd (qf ?_)))))
 refine qx (p := (k : Int) < (t.length : Int)) rfl (fun h1 => ?_) (fun h1 => ?_)
 ·refine qw (qf (qE (qf (qc (cX (qA k qi qG rfl rfl rfl ht.slv (by omega) (Nat.mul_one _) (cX (qk ja rfl (ht.rd (by omega)) (qh (ii (t.getD k 0)) rfl (qd (qf (qf (qc (qg (.func (.func 132) #[] #[ptr x1 0]) rfl (qg (ii (t.getD k 0)) rfl (cX (XOp.callV (first := []) (captured := [ptr x1 0]) (args := [ii (t.getD k 0), ptr x1 0]) call132 rfl rfl (lookup1_spec (n := t.getD k 0) hs hr1 (hsl := (by first | assumption | rfl | omega | simp)) (hg := (by first | assumption | rfl | omega | simp))) ?_)))))))))))))))))
  rintro _ _ _ _ ⟨rfl, x2, rfl, hr2, hr3, rfl⟩
  skip
  refine qh (x2) rfl (qd (qf (qc (qg (x2) rfl (cX (XOp.eqNil qi rfl rfl (qU hr2) (qd ?_)))))))
  refine jq (t := isNil x2) rfl (fun h2 => ?_) (fun h2 => ?_)
  ·refine qc (qg (ov) rfl (qg (ii (t.getD k 0)) rfl (cX (qS (s := 1) [ii (t.getD k 0)] [ii (0)] [(0, [ii (t.getD k 0)])] qi qG jb rfl (by decide) rfl (.cons rfl CellsAre.nil) rfl ?_))))
   intro v2 hv2
   refine cX (XOp.append1 (u := t.getD k 0) [_] _ qi typeInfo2 rfl rfl rfl rfl rfl rfl (SlV.own [] rfl) (Rd.sl [] rfl rfl) (by (try simp only [List.length_append, List.length_nil, List.length_cons, List.length_singleton, List.length_take, List.length_drop]); omega) ?_)
   intro v3 hs2 hn1
   refine qh (v3) rfl (qd (qf (qc (qg (v3) rfl (cX (qC qi rfl (intsH.slv [_] rfl) (cX (js rfl rfl (qd ?_)))))))))
   refine qx (p := ((((os ++ [t.getD k 0]).length : Nat) : Int) : Int) > 60) rfl (fun h3 => ?_) (fun h3 => ?_)
   ·refine qf (qc (qh (sN) rfl (qh (.bool (false)) rfl (qd (qs (qy (qj (qj (qy (qj (qm (L' := L) [sN, .bool (false)] (.tuple #[sN, .bool (false)]) (.tmp rfl (.tmp rfl .nil)) rfl le1 rF (sD (sD (sD sR))) ?_)))))))))))
    have hz : fillL s t = none := hm.trans (fillGo_long (a := os ++ [t.getD k 0]) (by omega) (by rw [lk_of_nil (of_decide_eq_true (hr3.symm.trans (by assumption)))]) (by omega))
    exact ⟨_, by rw [hz]; rfl, by rw [hz]; exact IntsF.nilV, by rw [hz]; exact Fresh.ofNil _, rfl⟩
   refine qw (qc (cX (qM (((k + 1 : Nat) : Int)) rfl rfl (by omega) (by omega) (qg (ii (((k + 1 : Nat) : Int))) rfl (qd ?_)))))
   exact ⟨(k + 1, v3, os ++ [t.getD k 0]), _, FLe.refl _, rF, ⟨rfl, rfl, rfl, rfl, rfl, ⟨⟩⟩, (sD (sC (sC sR))), ⟨rfl, (hs2), (by (try dsimp only) <;> omega), (by dsimp only; exact hm.trans (fillGo_next (by omega) (by rw [lk_of_nil (of_decide_eq_true (hr3.symm.trans (by assumption)))]) (by omega))), (by dsimp only; omega)⟩, (by omega)⟩
  refine qc ?_
  have hlb : (lkN s (t.getD k 0)).length ≤ 4000000 := lkN_bound hsb
  refine qg (ov) rfl (qg (x2) rfl (cX (XOp.appendI [] _ qi typeInfo2 rfl rfl rfl rfl rfl rfl hr2 (by (try simp only [List.length_append, List.length_nil, List.length_cons, List.length_singleton, List.length_take, List.length_drop]); omega) ?_)))
  intro v4 hs3 hn2 hm1
  refine qh (v4) rfl (qd (qf (qc (qg (v4) rfl (cX (qC qi rfl (intsH.slv [] rfl) (cX (js rfl rfl (qd ?_)))))))))
  refine qx (p := ((((os ++ (lkN s (t.getD k 0))).length : Nat) : Int) : Int) > 60) rfl (fun h4 => ?_) (fun h4 => ?_)
  ·refine qf (qc (qh (sN) rfl (qh (.bool (false)) rfl (qd (qs (qy (qj (qj (qy (qj (qm (L' := L) [sN, .bool (false)] (.tuple #[sN, .bool (false)]) (.tmp rfl (.tmp rfl .nil)) rfl le1 rF (sD (sD sR)) ?_)))))))))))
   have hz : fillL s t = none := hm.trans (fillGo_long (a := os ++ (lkN s (t.getD k 0))) (by omega) (by rw [lk_of_ne (of_decide_eq_false (hr3.symm.trans (by assumption)))]) (by omega))
   exact ⟨_, by rw [hz]; rfl, by rw [hz]; exact IntsF.nilV, by rw [hz]; exact Fresh.ofNil _, rfl⟩
  refine qw (qc (cX (qM (((k + 1 : Nat) : Int)) rfl rfl (by omega) (by omega) (qg (ii (((k + 1 : Nat) : Int))) rfl (qd ?_)))))
  exact ⟨(k + 1, v4, os ++ (lkN s (t.getD k 0))), _, FLe.refl _, rF, ⟨rfl, rfl, rfl, rfl, rfl, ⟨⟩⟩, (sC (sC sR)), ⟨rfl, (hs3), (by (try dsimp only) <;> omega), (by dsimp only; exact hm.trans (fillGo_next (by omega) (by rw [lk_of_ne (of_decide_eq_false (hr3.symm.trans (by assumption)))]) (by omega))), (by dsimp only; omega)⟩, (by omega)⟩
 refine qX (qv (qv (qJ (qf (qc (qg (ov) rfl (qh (ov) rfl (qh (.bool (true)) rfl (qd (jn [] _ _ rfl (fun F3 le3 hz1 => ?_)))))))))))
 have hf1 : IntsF F3 ov os := intsH.fz (xs := os) hz1.fz
 refine qs (qm (L' := L) [ov, .bool (true)] (.tuple #[ov, .bool (true)]) (.tmp rfl (.tmp rfl .nil)) rfl (qp le1 le3) rF (sD sR) ?_)
 have hz : fillL s t = some os := hm.trans (fillGo_done (by omega))
 exact ⟨_, by rw [hz]; rfl, by rw [hz]; exact hf1, by rw [hz]; exact (hz1.base le1), rfl⟩
end Go.Proofs.Ytenomejgjcpbdaa
set_option linter.unusedSimpArgs false
set_option linter.unusedVariables false
namespace Go.Proofs.Ytenomejgjcpbdaa
open Go X M Try

/- spec.l2Gives -/
theorem l2Gives_spec {F : FH} {L : List HP} {sv : Value} {s : List (List Int)} (hs : RowsF F sv s) {i : Nat} (hsl : s.length ≤ 4000000) (hi : i ≤ 4000000) (hsb : (s.getD i []).length ≤ 4000000) :
    Does prog 109 [.agg #[sv], ii ((i : Int))] F (L) (fun v F' L' => F = F' ∧ IsSl v ∧ intsH 2 v (lk s (-1 - (i : Int))) :: L = L') := by
 refine qz func109 rfl rfl rfl (qf (qc (cX (qO [sv] rfl rfl ?_))))
 intro b1
 refine qh (sN) rfl (qd (qf (qf (qc (qg (ii ((i : Int))) rfl (cX (qn (0) jv rfl sizeOf60 (by decide) rfl rfl (cX (qk isAgg60 rfl (Rd.own [] rfl rfl) (cX (qC qV rfl hs.slv (cX (qI rfl rfl (qg (.bool (decide ((i : Int) < (s.length : Int)))) rfl ?_))))))))))))))
 by_cases h1 : (i : Int) < (s.length : Int)
 ·refine qr (t := 10) rfl (vT h1) (qn (0) jv rfl sizeOf60 (by decide) rfl rfl (qr (t := 10) rfl (vT h1) (qk isAgg60 rfl (Rd.own [] rfl rfl) (qr (t := 10) rfl (vT h1) (qu (ii ((i : Int))) rfl (qr (t := 10) rfl (vT h1) (qA i qV qB rfl rfl rfl hs.slv (by omega) (Nat.mul_one _) ?_)))))))
  obtain ⟨a1, ha1, hr1⟩ := hs.rd (i := i) (by omega)
  refine qr (t := 10) rfl (vT h1) (qk qK rfl (hr1 _) (qr (t := 10) rfl (vT h1) (qC qi rfl ha1.slv (qr (t := 10) rfl (vT h1) (js rfl rfl (cX (qQ (.bool (decide ((((((s.getD i [])).length : Nat) : Int) : Int) > 0))) (vT h1) rfl (qd ?_))))))))
  refine qx (p := (((((s.getD i [])).length : Nat) : Int) : Int) > 0) rfl (fun h2 => ?_) (fun h2 => ?_)
  ·refine qf (qc (cX (qn (0) jv rfl sizeOf60 (by decide) rfl rfl (cX (qk isAgg60 rfl (Rd.own [] rfl rfl) (qg (ii ((i : Int))) rfl (cX (qA i qV qB rfl rfl rfl hs.slv (by omega) (Nat.mul_one _) (cX (qk qK rfl (hr1 _) (cX (ql (args := [a1]) call32 rfl (l1Copy_spec ha1 (hlt := (by first | assumption | rfl | omega | simp))) ?_))))))))))))
   rintro v1 _ _ _ ⟨rfl, hs1, rfl⟩
   refine qh (v1) rfl (qd (qs (qj (qm (L' := intsH 2 v1 ((((s.getD i [])))) :: L) [v1] (v1) (.tmp rfl .nil) rfl rF rF (sC (sD sR)) ?_))))
   refine ⟨rfl, hs1, ?_⟩
   have hxs : (lk s (-1 - (i : Int)) : List Int) = (((s.getD i []))) := lk_copy (by omega)
   exact congrArg (fun z => intsH 2 _ z :: L) hxs
  refine qw (qf (qc (qg (ii ((i : Int))) rfl (cX (je ((-1) - ((i : Int))) rfl rfl (by omega) (by omega) (cX (qS (s := 1) [ii ((-1) - ((i : Int)))] [ii (0)] [(0, [ii ((-1) - ((i : Int)))])] qi qG jb rfl (by decide) rfl (.cons rfl CellsAre.nil) rfl ?_)))))))
  intro v2 hv1
  refine qh (v2) rfl (qd (qs (qm (L' := intsH 2 v2 ([(-1) - ((i : Int))]) :: L) [v2] (v2) (.tmp rfl .nil) rfl rF rF (sC (sD sR)) ?_)))
  refine ⟨rfl, (isSl_lit hv1), ?_⟩
  have hxs : (lk s (-1 - (i : Int)) : List Int) = [(-1) - ((i : Int))] := lk_self (by first | omega | (rw [getD_out (by omega)]; simp))
  exact congrArg (fun z => intsH 2 _ z :: L) hxs
 refine qq (t := 10) rfl (vF h1) (qq (t := 10) rfl (vF h1) (qq (t := 10) rfl (vF h1) (qq (t := 10) rfl (vF h1) (qq (t := 10) rfl (vF h1) (qq (t := 10) rfl (vF h1) (qq (t := 10) rfl (vF h1) (cX (qL (.bool (false)) (vF h1) rfl (qd (X.condF rfl ?_))))))))))
 refine qw (qf (qc (qg (ii ((i : Int))) rfl (cX (je ((-1) - ((i : Int))) rfl rfl (by omega) (by omega) (cX (qS (s := 1) [ii ((-1) - ((i : Int)))] [ii (0)] [(0, [ii ((-1) - ((i : Int)))])] qi qG jb rfl (by decide) rfl (.cons rfl CellsAre.nil) rfl ?_)))))))
 intro v3 hv2
 refine qh (v3) rfl (qd (qs (qm (L' := intsH 2 v3 ([(-1) - ((i : Int))]) :: L) [v3] (v3) (.tmp rfl .nil) rfl rF rF (sC (sD sR)) ?_)))
 refine ⟨rfl, (isSl_lit hv2), ?_⟩
 have hxs : (lk s (-1 - (i : Int)) : List Int) = [(-1) - ((i : Int))] := lk_self (by first | omega | (rw [getD_out (by omega)]; simp))
 exact congrArg (fun z => intsH 2 _ z :: L) hxs
end Go.Proofs.Ytenomejgjcpbdaa
set_option linter.unusedSimpArgs false
set_option linter.unusedVariables false
namespace Go.Proofs.Ytenomejgjcpbdaa
open Go X M Try
end Go.Proofs.Ytenomejgjcpbdaa
set_option linter.unusedSimpArgs false
set_option linter.unusedVariables false
namespace Go.Proofs.Ytenomejgjcpbdaa
open Go X M Try
end Go.Proofs.Ytenomejgjcpbdaa
set_option linter.unusedSimpArgs false
set_option linter.unusedVariables false
namespace Go.Proofs.Ytenomejgjcpbdaa
open Go X M Try

/- spec.l2Filled -/
theorem l2Filled_spec {F : FH} {L : List HP} {sv : Value} {s : List (List Int)} (hs : RowsF F sv s) {tv : Value} {t : List Int} (ht : IntsF F tv t) (hsl : s.length ≤ 4000000) (hsb : ∀ i, (s.getD i []).length ≤ 4000000) (htl : t.length ≤ 4000000) (htg : ∀ k, k < t.length → -4000000 ≤ t.getD k 0) :
    Does prog 79 [.agg #[sv], tv] F (L) (fun v F' L' => ∃ (a : Value), (.tuple #[a, .bool ((fillL s t).isSome)] : Value) = v ∧ (IntsF F' a ((fillL s t).getD [])) ∧ L = L') := by
 refine qz func79 rfl rfl rfl (qf (qc (cX (qO [sv] rfl rfl ?_))))
 intro b1
 refine qh (sN) rfl (qh (.bool (false)) rfl (qd (qf (qc (cX (qS (s := 1) [] [ii (0)] [] qi qG jb rfl (by decide) rfl CellsAre.nil rfl ?_))))))
 intro v1 hv1
 refine qh (v1) rfl (qd (qf (qf (qc (qh (ii (0)) rfl (qd (qE (qY (α := Nat × Value × List Int) (fun xQ => [(1, tv), (2, ptr b1 0), (6, xQ.2.1), (7, ii (((xQ.1 : Nat) : Int)))]) (fun xQ => intsH 2 xQ.2.1 xQ.2.2 :: cellsH b1 [sv] 116 :: L) (fun xQ F' => F = F' ∧ (IsSl xQ.2.1) ∧ (xQ.1 ≤ t.length) ∧ (fillL s t = fillGo s (t.drop xQ.1) xQ.2.2) ∧ (xQ.2.2.length ≤ 60)) (fun xQ => t.length - xQ.1) (0, v1, []) ⟨rfl, rfl, rfl, rfl, ⟨⟩⟩ (sC (sC sR)) ⟨rfl, ((isSl_lit hv1)), (by (try dsimp only) <;> omega), (rfl), (by simp)⟩ ?_))))))))
 rintro ⟨k, ov, os⟩ rE _ _ ⟨rfl, hov, hk, hm, hol⟩
 show X _ _ _ _ (envs [(1, tv), (2, ptr b1 0), (6, ov), (7, ii ((k : Int)))] rE) _ (intsH 2 ov os :: cellsH b1 [sv] 116 :: L)
 dsimp only at hov hk hm hol
 have htk := htg k
 have hlk0 := lk_bound (N := 4000000) (by omega) hsb (-1 - (((-1 - t.getD k 0).toNat : Nat) : Int))
 refine qf (qf (qc (qg (ii ((k : Int))) rfl (qg (tv) rfl (cX (qC qi rfl ht.slv (cX (qI rfl rfl (qd ?_)))))))))
 refine qx (p := (k : Int) < (t.length : Int)) rfl (fun h1 => ?_) (fun h1 => ?_)
 ·refine qw (qf (qE (qf (qf (qc (qg (tv) rfl (qg (ii ((k : Int))) rfl (cX (qA k qi qG rfl rfl rfl ht.slv (by omega) (Nat.mul_one _) (cX (qk ja rfl (ht.rd (by omega)) (cX (qI rfl rfl (qd ?_))))))))))))))
  refine qx (p := (t.getD k 0 : Int) < 0) rfl (fun h2 => ?_) (fun h2 => ?_)
  ·refine X.drawG [intsH 2 ov os, cellsH b1 [sv] 116] L 8 [] [[], [], [], [], [2, 3], [4], [5], [1, 6]] [] (phiG [pe ov, pe (.agg #[sv]), pe tv, pe (ii ((k : Int)) : Value), pe (.pointer (some (elemA tv (k)))), pe (ii (t.getD k 0)), pe (ii ((-1) - (t.getD k 0))), fun FF us v => ((v) : Value) = v ∧ (IntsF FF (v) (lk s (-1 - ((((-1) - (t.getD k 0)).toNat) : Int))))]) (ownL []) mixed rfl rfl (by kernel_rfl) (by kernel_rfl) (MonoG.get (m1 (m1 (m1 (m1 (m1 (m1 (m1 (mC (fun le h => ⟨h.1, h.2.mono le⟩) MonoG.nil))))))))) ?_ ?_
   ·refine gD (fun W Fs R lF z9 => ?_) ?_
    ·refine qo (qu (ov) rfl ?_)
     exact ⟨rfl, rfl⟩
    refine gD (fun W Fs R lF z9 => ?_) ?_
    ·replace hs := hs.mono lF
     replace ht := ht.mono lF
     refine qo (qt [sv] isAgg116 sizeOf116 rfl rfl (Rd.ownN [_] rfl rfl) ?_)
     exact ⟨rfl, rfl⟩
    refine gD (fun W Fs R lF z9 => ?_) ?_
    ·refine qo (qu (tv) rfl ?_)
     exact ⟨rfl, rfl⟩
    refine gD (fun W Fs R lF z9 => ?_) ?_
    ·refine qo (qu (ii ((k : Int))) rfl ?_)
     exact ⟨rfl, rfl⟩
    refine gD (fun W Fs R lF z9 => ?_) ?_
    ·replace hs := hs.mono lF
     replace ht := ht.mono lF
     rw [eS (l := [(2, _), (3, _)]) ⟨z9 2 rfl, z9 3 rfl, ⟨⟩⟩]
     refine qo (qA k qi qG rfl rfl rfl ht.slv (by omega) (Nat.mul_one _) ?_)
     exact ⟨rfl, rfl⟩
    refine gD (fun W Fs R lF z9 => ?_) ?_
    ·replace hs := hs.mono lF
     replace ht := ht.mono lF
     rw [eS (l := [(4, _)]) ⟨z9 4 rfl, ⟨⟩⟩]
     refine qo (qk ja rfl (ht.rd (by omega)) ?_)
     exact ⟨rfl, rfl⟩
    refine gD (fun W Fs R lF z9 => ?_) ?_
    ·rw [eS (l := [(5, _)]) ⟨z9 5 rfl, ⟨⟩⟩]
     refine qo (je ((-1) - (t.getD k 0)) rfl rfl (by omega) (by omega) ?_)
     exact ⟨rfl, rfl⟩
    refine gD (fun W Fs R lF z9 => ?_) ?_
    ·replace hs := hs.mono lF
     replace ht := ht.mono lF
     rw [eS (l := [(1, _), (6, _)]) ⟨z9 1 rfl, z9 6 rfl, ⟨⟩⟩]
     refine qo (XOp.frzF <| ql (args := [.agg #[sv], ii ((((-1) - (t.getD k 0)).toNat : Nat) : Int)]) call109 (by rw [show ((((-1) - (t.getD k 0)).toNat : Nat) : Int) = (-1) - (t.getD k 0) from by omega]; rfl) (l2Gives_spec (i := ((-1) - (t.getD k 0)).toNat) hs (hsl := (by first | assumption | rfl | omega | simp)) (hi := (by first | assumption | rfl | omega | simp)) (hsb := (hsb _))) ?_)
     rintro v3 _ _ _ ⟨rfl, hs2, rfl⟩
     refine ⟨_, _, rfl, fun F1 le1 hz1 => ?_⟩
     replace ht := ht.mono le1
     have hf1 : IntsF F1 v3 ((lk s (-1 - ((((-1) - (t.getD k 0)).toNat) : Int)))) := intsH.fz (xs := (lk s (-1 - ((((-1) - (t.getD k 0)).toNat) : Int)))) hz1.fz
     exact ⟨⟨rfl, hf1⟩, rfl⟩
    exact stepsG.nil
   intro W F2 le2 hphi
   obtain ⟨e7, f7_1ha⟩ := hphi 7 (by decide)
   generalize hu1 : ((W 7)) = u1 at e7 f7_1ha
   rw [eS (l := [(0, _), (7, u1)]) ⟨(hphi 0 (by decide)), hu1, ⟨⟩⟩]
   replace ht := ht.mono le2
   show XL _ _ _ _ _ _ _ (intsH 2 ov os :: cellsH b1 [sv] 116 :: L)
   refine cX (XOp.appendI [] _ qi typeInfo2 rfl rfl rfl rfl rfl rfl f7_1ha (by (try simp only [List.length_append, List.length_nil, List.length_cons, List.length_singleton, List.length_take, List.length_drop]); omega) ?_)
   intro v4 hs3 hn1 hm1
   refine qh (v4) rfl (qd (qf (qc (qg (v4) rfl (cX (qC qi rfl (intsH.slv [] rfl) (cX (js rfl rfl (qd ?_)))))))))
   refine qx (p := ((((os ++ ((lk s (-1 - ((((-1) - (t.getD k 0)).toNat) : Int))))).length : Nat) : Int) : Int) > 60) rfl (fun h3 => ?_) (fun h3 => ?_)
   ·refine qf (qc (cX (qS (s := 1) [] [ii (0)] [] qi qG jb rfl (by decide) rfl CellsAre.nil rfl ?_)))
    intro v5 hv2
    refine qh (v5) rfl (qh (.bool (false)) rfl (qd ?_))
    show X _ _ _ _ _ _ (intsH 2 v5 ([] : List Int) :: intsH 2 v4 (os ++ ((lk s (-1 - ((((-1) - (t.getD k 0)).toNat) : Int))))) :: cellsH b1 [sv] 116 :: L)
    refine jn [] _ _ rfl (fun F3 le3 hz2 => ?_)
    replace ht := ht.mono le3
    have hf2 : IntsF F3 v5 ([]) := intsH.fz (xs := []) hz2.fz
    refine qs (qy (qj (qj (qy (qj (qm (L' := L) [v5, .bool (false)] (.tuple #[v5, .bool (false)]) (.tmp rfl (.tmp rfl .nil)) rfl (qp le2 le3) rF (sD (sD sR)) ?_))))))
    have hz : fillL s t = none := hm.trans (fillGo_long (a := os ++ ((lk s (-1 - ((((-1) - (t.getD k 0)).toNat) : Int))))) (by omega) (by rw [show (-1 - (((-1 - t.getD k 0).toNat : Nat) : Int)) = t.getD k 0 from by omega]) (by omega))
    exact ⟨_, by rw [hz]; rfl, by rw [hz]; exact hf2, rfl⟩
   refine qw (qc (qg (ii ((k : Int))) rfl (cX (qM (((k + 1 : Nat) : Int)) rfl rfl (by omega) (by omega) (qh (ii (((k + 1 : Nat) : Int))) rfl (qd ?_))))))
   exact ⟨(k + 1, v4, os ++ ((lk s (-1 - ((((-1) - (t.getD k 0)).toNat) : Int))))), _, FLe.refl _, le2, ⟨rfl, rfl, rfl, rfl, ⟨⟩⟩, (sC (sC sR)), ⟨rfl, (hs3), (by (try dsimp only) <;> omega), (by dsimp only; exact hm.trans (fillGo_next (by omega) (by rw [show (-1 - (((-1 - t.getD k 0).toNat : Nat) : Int)) = t.getD k 0 from by omega]) (by omega))), (by dsimp only; omega)⟩, (by omega)⟩
  refine qc (qg (ov) rfl (qg (tv) rfl (qg (ii ((k : Int))) rfl (cX (qA k qi qG rfl rfl rfl ht.slv (by omega) (Nat.mul_one _) (cX (qk ja rfl (ht.rd (by omega)) (cX (qS (s := 1) [ii (t.getD k 0)] [ii (0)] [(0, [ii (t.getD k 0)])] qi qG jb rfl (by decide) rfl (.cons rfl CellsAre.nil) rfl ?_)))))))))
  intro v6 hv3
  refine cX (XOp.append1 (u := t.getD k 0) [_] _ qi typeInfo2 rfl rfl rfl rfl rfl rfl (SlV.own [] rfl) (Rd.sl [] rfl rfl) (by (try simp only [List.length_append, List.length_nil, List.length_cons, List.length_singleton, List.length_take, List.length_drop]); omega) ?_)
  intro v7 hs4 hn2
  refine qh (v7) rfl (qd (qf (qc (qg (v7) rfl (cX (qC qi rfl (intsH.slv [_] rfl) (cX (js rfl rfl (qd ?_)))))))))
  refine qx (p := ((((os ++ [t.getD k 0]).length : Nat) : Int) : Int) > 60) rfl (fun h4 => ?_) (fun h4 => ?_)
  ·refine qf (qc (cX (qS (s := 1) [] [ii (0)] [] qi qG jb rfl (by decide) rfl CellsAre.nil rfl ?_)))
   intro v8 hv4
   refine qh (v8) rfl (qh (.bool (false)) rfl (qd ?_))
   show X _ _ _ _ _ _ (intsH 2 v8 ([] : List Int) :: slH 2 1 v6 1 [ii (t.getD k 0)] :: intsH 2 v7 (os ++ [t.getD k 0]) :: cellsH b1 [sv] 116 :: L)
   refine jn [] _ _ rfl (fun F4 le4 hz3 => ?_)
   have hf3 : IntsF F4 v8 ([]) := intsH.fz (xs := []) hz3.fz
   refine qs (qy (qj (qj (qy (qj (qm (L' := L) [v8, .bool (false)] (.tuple #[v8, .bool (false)]) (.tmp rfl (.tmp rfl .nil)) rfl le4 rF (sD (sD (sD sR))) ?_))))))
   have hz : fillL s t = none := hm.trans (fillGo_long (a := os ++ [t.getD k 0]) (by omega) (by rw [lk_sym (by omega)]) (by omega))
   exact ⟨_, by rw [hz]; rfl, by rw [hz]; exact hf3, rfl⟩
  refine qw (qc (qg (ii ((k : Int))) rfl (cX (qM (((k + 1 : Nat) : Int)) rfl rfl (by omega) (by omega) (qh (ii (((k + 1 : Nat) : Int))) rfl (qd ?_))))))
  exact ⟨(k + 1, v7, os ++ [t.getD k 0]), _, FLe.refl _, rF, ⟨rfl, rfl, rfl, rfl, ⟨⟩⟩, (sD (sC (sC sR))), ⟨rfl, (hs4), (by (try dsimp only) <;> omega), (by dsimp only; exact hm.trans (fillGo_next (by omega) (by rw [lk_sym (by omega)]) (by omega))), (by dsimp only; omega)⟩, (by omega)⟩
 refine qX (qv (qv (qJ (qf (qc (qg (ov) rfl (qh (ov) rfl (qh (.bool (true)) rfl (qd (jn [] _ _ rfl (fun F5 le5 hz4 => ?_)))))))))))
 have hf4 : IntsF F5 ov os := intsH.fz (xs := os) hz4.fz
 refine qs (qm (L' := L) [ov, .bool (true)] (.tuple #[ov, .bool (true)]) (.tmp rfl (.tmp rfl .nil)) rfl le5 rF (sD sR) ?_)
 have hz : fillL s t = some os := hm.trans (fillGo_done (by omega))
 exact ⟨_, by rw [hz]; rfl, by rw [hz]; exact hf4, rfl⟩

/- spec.l3Put -/
theorem l3Put_spec {F : FH} {L : List HP} {arv : Value} {ar : List Int} (har : IntsF F arv ar) {tv : Value} {t : List Int} (ht : IntsF F tv t) {p : Nat} {uv : Value} {u : List Int} (hu : IntsF F uv u) (ho : termOk ar t = true) (hp : p < t.length) (hul : u.length ≤ 4000000) :
    Does prog 80 [.agg #[arv], tv, ii ((p : Int)), uv] F (L) (fun v F' L' => ∃ (a : Value), (.tuple #[a, .bool ((putL ar t p u).isSome)] : Value) = v ∧ (IntsF F' a ((putL ar t p u).getD [])) ∧ L = L') := by
 refine qz func80 rfl rfl rfl ?_
 have hsig := termOk_sig ho
 have hsl := sigOk_spec hsig
 have htl := termOk_len ho
 have hee := endN_spec ho hp
 refine qf (qc (cX (qO [arv] rfl rfl ?_)))
 intro b1
 refine qh (sN) rfl (qh (.bool (false)) rfl (qd (qf (qc (qg (tv) rfl (qg (ii ((p : Int))) rfl (cX (XOp.sliceI 0 p qi qG rfl ht rfl ⟨_, rfl⟩ (by omega) (by omega) ?_))))))))
 intro v1 hv1 hn1
 refine cX (ql (args := [v1]) call32 rfl (l1Copy_spec hv1 (hlt := (by simp; omega))) ?_)
 rintro v2 _ _ _ ⟨rfl, hs1, rfl⟩
 refine qg (uv) rfl (cX (XOp.appendI [] _ qi typeInfo2 rfl rfl rfl rfl rfl rfl hu (by (try simp only [List.length_append, List.length_nil, List.length_cons, List.length_singleton, List.length_take, List.length_drop]); omega) ?_))
 intro v3 hs2 hn2 hm1
 refine qh (v3) rfl (qd (qf (qc (qg (v3) rfl (qg (tv) rfl (cX (qt [arv] qP qD rfl rfl (Rd.ownN [_] rfl rfl) (qg (tv) rfl (qg (ii ((p : Int))) rfl (cX (ql (args := [.agg #[arv], tv, ii (p : Int)]) call72 rfl (l1End_ok (p := p) har ht (ho := (by first | assumption | rfl | omega | (left; simp; done) | (right; simp; done))) (hp := (by first | assumption | rfl | omega | (left; simp; done) | (right; simp; done)))) ?_)))))))))))
 rintro _ _ _ _ ⟨rfl, rfl, rfl⟩
 refine cX (XOp.sliceI (endN ar t p) ((t).length) qi qG rfl ht ⟨_, rfl⟩ rfl (by omega) (by omega) ?_)
 intro v4 hv2 hn3
 refine cX (XOp.appendI [] _ qi typeInfo2 rfl rfl rfl rfl rfl rfl hv2 (by (try simp only [List.length_append, List.length_nil, List.length_cons, List.length_singleton, List.length_take, List.length_drop]); omega) ?_)
 intro v5 hs3 hn4 hm2
 refine qh (v5) rfl (qd (qf (qf (qc (qg (v5) rfl (cX (qC qi rfl (intsH.slv [] rfl) (cX (js rfl rfl (qd ?_))))))))))
 refine qx (p := ((((((((((t.drop 0).take (p - 0))))) ++ u) ++ (((t.drop (endN ar t p)).take (((t).length) - (endN ar t p))))).length : Nat) : Int) : Int) > 60) rfl (fun h1 => ?_) (fun h1 => ?_)
 ·refine qf (qc (cX (qS (s := 1) [] [ii (0)] [] qi qG jb rfl (by decide) rfl CellsAre.nil rfl ?_)))
  intro v6 hv3
  refine qh (v6) rfl (qh (.bool (false)) rfl (qd ?_))
  show X _ _ _ _ _ _ (intsH 2 v6 ([] : List Int) :: intsH 2 v5 (((((((t.drop 0).take (p - 0))))) ++ u) ++ (((t.drop (endN ar t p)).take (((t).length) - (endN ar t p))))) :: cellsH b1 [arv] 30 :: L)
  refine jn [] _ _ rfl (fun F1 le1 hz1 => ?_)
  have hf1 : IntsF F1 v6 ([]) := intsH.fz (xs := []) hz1.fz
  refine qs (qj (qm (L' := L) [v6, .bool (false)] (.tuple #[v6, .bool (false)]) (.tmp rfl (.tmp rfl .nil)) rfl le1 rF (sD (sD sR)) ?_))
  have hz : putL ar t p u = none := putL_none put_three (by omega)
  exact ⟨_, by rw [hz]; rfl, by rw [hz]; exact hf1, rfl⟩
 refine qw (qf (qc (qg (v5) rfl (qh (v5) rfl (qh (.bool (true)) rfl (qd (jn [] _ _ rfl (fun F2 le2 hz2 => ?_))))))))
 have hf2 : IntsF F2 v5 (((((((t.drop 0).take (p - 0))))) ++ u) ++ (((t.drop (endN ar t p)).take (((t).length) - (endN ar t p))))) := intsH.fz (xs := ((((((t.drop 0).take (p - 0))))) ++ u) ++ (((t.drop (endN ar t p)).take (((t).length) - (endN ar t p))))) hz2.fz
 refine qs (qm (L' := L) [v5, .bool (true)] (.tuple #[v5, .bool (true)]) (.tmp rfl (.tmp rfl .nil)) rfl le2 rF (sD sR) ?_)
 have hz := putL_some (ar := ar) (t := t) (p := p) (u := u) put_three (by omega)
 exact ⟨_, by rw [hz]; rfl, by rw [hz]; exact hf2, rfl⟩
end Go.Proofs.Ytenomejgjcpbdaa
set_option linter.unusedSimpArgs false
set_option linter.unusedVariables false
namespace Go.Proofs.Ytenomejgjcpbdaa
open Go X M Try
end Go.Proofs.Ytenomejgjcpbdaa
set_option linter.unusedSimpArgs false
set_option linter.unusedVariables false
namespace Go.Proofs.Ytenomejgjcpbdaa
open Go X M Try
end Go.Proofs.Ytenomejgjcpbdaa
set_option linter.unusedSimpArgs false
set_option linter.unusedVariables false
namespace Go.Proofs.Ytenomejgjcpbdaa
open Go X M Try

/- laws.szInt64S -/
theorem szInt64S_spec {F : FH} {L : List HP} {xsv : Value} {xs : List Int} (hxs : IntsF F xsv xs) {z : Int} (hz : 0 ≤ z ∧ z ≤ 4000000) (hlx : xs.length ≤ 9223372036854775807) :
    Does prog 56 [xsv, ii (z)] F (L) (fun v F' L' => (ii (dec z xs.length) : Value) = v ∧ F = F' ∧ L = L') := by
 refine qz func56 rfl rfl rfl (qf (qc (qh (ii (0)) rfl (qd (qf (qc (qg (ii (z)) rfl (qg (xsv) rfl (cX (qC qi rfl hxs.slv (cX (je (z - ((xs.length : Int))) rfl rfl (by omega) (by omega) (qh (ii (z - ((xs.length : Int)))) rfl (qd (qf (qf (qc ?_)))))))))))))))))
 refine qg (ii (z - ((xs.length : Int)))) rfl (cX (qI rfl rfl (qd ?_)))
 refine qx (p := (z - ((xs.length : Int)) : Int) < 0) rfl (fun h1 => ?_) (fun h1 => ?_)
 ·refine qf (qc (qh (ii (-1)) rfl (qd (qs (qj (qm (L' := L) [ii (-1)] (ii (-1)) (.tmp rfl .nil) rfl rF rF sR ?_))))))
  exact ⟨(vI (dec_neg (by omega))), rfl, rfl⟩
 refine qw (qf (qc (qg (ii (z - ((xs.length : Int)))) rfl (qh (ii (z - ((xs.length : Int)))) rfl (qd (qs (qm (L' := L) [ii (z - ((xs.length : Int)))] (ii (z - ((xs.length : Int)))) (.tmp rfl .nil) rfl rF rF sR ?_)))))))
 exact ⟨(vI (dec_pos (by omega))), rfl, rfl⟩

/- laws.szSig -/
theorem szSig_spec {F : FH} {L : List HP} {xsv : Value} {xs : List Int} (hxs : IntsF F xsv xs) {z : Int} (hz : 0 ≤ z ∧ z ≤ 4000000) (hlx : xs.length ≤ 9223372036854775807) :
    Does prog 29 [.agg #[xsv], ii (z)] F (L) (fun v F' L' => (ii (dec z xs.length) : Value) = v ∧ F = F' ∧ L = L') := by
 refine qz func29 rfl rfl rfl ?_
 have hdr := dec_range z xs.length
 refine qf (qc (cX (qO [xsv] rfl rfl ?_)))
 intro b1
 refine qh (ii (0)) rfl (qd (qf (qc (cX (qn (0) runUnderlying24 rfl qB (by decide) rfl rfl (cX (qk qK rfl (Rd.own [] rfl rfl) (qg (ii (z)) rfl (cX (ql (args := [xsv, ii (z)]) call56 rfl (szInt64S_spec (z := z) hxs (hz := (by first | assumption | rfl | omega | simp)) (hlx := (by first | assumption | rfl | omega | simp))) ?_))))))))))
 rintro _ _ _ _ ⟨rfl, rfl, rfl⟩
 refine qh (ii (dec z xs.length)) rfl (qd (qf (qf (qc (qg (ii (dec z xs.length)) rfl (cX (qI rfl rfl (qd ?_))))))))
 refine qx (p := (dec z xs.length : Int) < 0) rfl (fun h1 => ?_) (fun h1 => ?_)
 ·refine qf (qc (qh (ii (-1)) rfl (qd (qs (qj (qm (L' := L) [ii (-1)] (ii (-1)) (.tmp rfl .nil) rfl rF rF (sD sR) ?_))))))
  exact ⟨(vI (by omega)), rfl, rfl⟩
 refine qw (qf (qc (qg (ii (dec z xs.length)) rfl (qh (ii (dec z xs.length)) rfl (qd (qs (qm (L' := L) [ii (dec z xs.length)] (ii (dec z xs.length)) (.tmp rfl .nil) rfl rF rF (sD sR) ?_)))))))
 exact ⟨rfl, rfl, rfl⟩

/- laws.eqSig -/
theorem eqSig_spec {F : FH} {L : List HP} {av : Value} {a : List Int} (ha : IntsF F av a) {bv : Value} {b : List Int} (hb : IntsF F bv b) (hbd : a.length ≤ 9223372036854775807 ∨ b.length ≤ 9223372036854775807) :
    Does prog 38 [.agg #[av], .agg #[bv]] F (L) (fun v F' L' => (.bool (decide (a = b)) : Value) = v ∧ F = F' ∧ L = L') := by
 refine qz func38 rfl rfl rfl (qf (qc (cX (qO [av] rfl rfl ?_))))
 intro b1
 refine cX (qO [bv] rfl rfl ?_)
 intro b2
 refine qh (.bool (false)) rfl (qd (qf (qf (qc (cX (qn (0) jh rfl qB (by decide) rfl rfl (cX (qk qK rfl (Rd.own [_] rfl rfl) (cX (qn (0) jh rfl qB (by decide) rfl rfl (cX (qk qK rfl (Rd.own [] rfl rfl) (cX (ql (args := [av, bv]) call14 rfl (eqInt64S_spec ha hb (hbd := (by first | assumption | rfl | omega | (left; simp; done) | (right; simp; done)))) ?_))))))))))))))
 rintro _ _ _ _ ⟨rfl, rfl, rfl⟩
 refine cX (jk rfl (qd ?_))
 refine qx (p := ¬(a = b)) rfl (fun h1 => ?_) (fun h1 => ?_)
 ·refine qf (qc (qh (.bool (false)) rfl (qd (qs (qj (qm (L' := L) [.bool (false)] (.bool (false)) (.tmp rfl .nil) rfl rF rF (sD (sD sR)) ?_))))))
  exact ⟨(vB (decide_eq_false (by assumption))), rfl, rfl⟩
 refine qw (qf (qc (qh (.bool (true)) rfl (qd (qs (qm (L' := L) [.bool (true)] (.bool (true)) (.tmp rfl .nil) rfl rF rF (sD (sD sR)) ?_))))))
 exact ⟨(vB (decide_eq_true (by first | assumption | exact Classical.not_not.1 (by assumption)))), rfl, rfl⟩

/- laws.toInt64S -/
theorem toInt64S_spec {F : FH} {L : List HP} {xsv : Value} {xs : List Int} (hxs : IntsF F xsv xs) (hlx : xs.length ≤ 4000000) :
    Does prog 11 [xsv] F (L) (fun v F' L' => F = F' ∧ IsSl v ∧ intsH 2 v xs :: L = L') := by
 refine qz func11 rfl rfl rfl (qf (qc (qh (sN) rfl (qd (qf (qc (qg (xsv) rfl (cX (qC qi rfl hxs.slv (cX (XOp.makeSlice (n := (xs).length) (bytes := 8) [ii (0)] qi qG typeInfo2 rfl jb rfl rfl rfl rfl (by omega) (by omega) ?_)))))))))))
 intro v1 hv1
 rw [intsH_zeros]
 refine qh (v1) rfl (qd (qf (qf (qc (qh (ii (0)) rfl (qd (qE (qY (α := Nat × List Int) (fun xQ => [(0, xsv), (3, v1), (4, ii (((xQ.1 : Nat) : Int)))]) (fun xQ => intsH 2 v1 xQ.2 :: L) (fun xQ F' => F = F' ∧ (xQ.1 ≤ xs.length) ∧ (xQ.2.length = xs.length) ∧ (xQ.2.take xQ.1 = xs.take xQ.1)) (fun xQ => xs.length - xQ.1) (0, (List.replicate xs.length 0)) ⟨rfl, rfl, rfl, ⟨⟩⟩ (sC sR) ⟨rfl, (by (try dsimp only) <;> omega), (by simp), (rfl)⟩ ?_))))))))
 rintro ⟨k, os⟩ rE _ _ ⟨rfl, hk, hol, hos⟩
 show X _ _ _ _ (envs [(0, xsv), (3, v1), (4, ii ((k : Int)))] rE) _ (intsH 2 v1 os :: L)
 dsimp only at hk hol hos
 refine qf (qf (qc (qg (ii ((k : Int))) rfl (qg (xsv) rfl (cX (qC qi rfl hxs.slv (cX (qI rfl rfl (qd ?_)))))))))
 refine qx (p := (k : Int) < (xs.length : Int)) rfl (fun h1 => ?_) (fun h1 => ?_)
 ·refine qw (qf (qE (qc (qg (v1) rfl (qg (ii ((k : Int))) rfl (qg (xsv) rfl (qg (ii ((k : Int))) rfl (cX (qA k qi qG rfl rfl rfl hxs.slv (by omega) (Nat.mul_one _) (cX (qk ja rfl (hxs.rd (by omega)) (cX (qA k qi qG rfl rfl rfl (intsH.slv [] rfl) (by omega) (Nat.mul_one _) (cX (intsH.storeX (i := k) (v := v1) [] _ (os.set k (xs.getD k 0)) qG rfl rfl rfl (by omega) rfl (qd (qc ?_)))))))))))))))))
  refine qg (ii ((k : Int))) rfl (cX (qM (((k + 1 : Nat) : Int)) rfl rfl (by omega) (by omega) (qh (ii (((k + 1 : Nat) : Int))) rfl (qd ?_))))
  exact ⟨(k + 1, (os.set k (xs.getD k 0))), _, FLe.refl _, rF, ⟨rfl, rfl, rfl, ⟨⟩⟩, (sC sR), ⟨rfl, (by (try dsimp only) <;> omega), (by dsimp only; rw [List.length_set]; exact hol), (by dsimp only; rw [take_set_next (by omega) (by omega), hos, take_succ_getD 0 (by omega)])⟩, (by omega)⟩
 refine qX (qv (qv (qJ (qf (qc (qg (v1) rfl (qh (v1) rfl (qd (qs (qm (L' := intsH 2 v1 os :: L) [v1] (v1) (.tmp rfl .nil) rfl rF rF (sC sR) ?_))))))))))
 refine ⟨rfl, (isSl_lit hv1), ?_⟩
 have hxs : (xs : List Int) = os := by rw [← List.take_of_length_le (l := xs) (i := k) (by omega), ← hos, List.take_of_length_le (by omega)]
 exact congrArg (fun z => intsH 2 _ z :: L) hxs

/- laws.szEq -/
theorem szEq_spec {F : FH} {L : List HP} {lv : Value} {l : List Int} (hl : IntsF F lv l) {rv : Value} {r : List Int} (hr : IntsF F rv r) {z : Int} (hz : 0 ≤ z ∧ z ≤ 4000000) (hll : l.length ≤ 9223372036854775807) (hlr : r.length ≤ 9223372036854775807) :
    Does prog 120 [.agg #[lv, rv], ii (z)] F (L) (fun v F' L' => (ii (dec z (l.length + r.length)) : Value) = v ∧ F = F' ∧ L = L') := by
 refine qz func120 rfl rfl rfl ?_
 have hdr := dec_range z l.length
 refine qf (qc (cX (qO [lv, rv] rfl rfl ?_)))
 intro b1
 refine qh (ii (0)) rfl (qd (qf (qc (cX (qn (0) runUnderlying167 rfl qB (by decide) rfl rfl (cX (qk qK rfl (Rd.own [] rfl rfl) (qg (ii (z)) rfl (cX (ql (args := [lv, ii (z)]) call56 rfl (szInt64S_spec (z := z) hl (hz := (by first | assumption | rfl | omega | simp)) (hlx := (by first | assumption | rfl | omega | simp))) ?_))))))))))
 rintro _ _ _ _ ⟨rfl, rfl, rfl⟩
 refine qh (ii (dec z l.length)) rfl (qd (qf (qf (qc (qg (ii (dec z l.length)) rfl (cX (qI rfl rfl (qd ?_))))))))
 refine qx (p := (dec z l.length : Int) < 0) rfl (fun h1 => ?_) (fun h1 => ?_)
 ·refine qf (qc (qh (ii (-1)) rfl (qd (qs (qj (qm (L' := L) [ii (-1)] (ii (-1)) (.tmp rfl .nil) rfl rF rF (sD sR) ?_))))))
  exact ⟨(vI (dec_out (by omega))), rfl, rfl⟩
 refine qw (qf (qc (cX (qn (1) runUnderlying167 rfl qB (by decide) rfl rfl (cX (qk qK rfl (Rd.own [] rfl rfl) (qg (ii (dec z l.length)) rfl (cX (ql (args := [rv, ii (dec z l.length)]) call56 rfl (szInt64S_spec (z := dec z l.length) hr (hz := (by first | assumption | rfl | omega | simp)) (hlx := (by first | assumption | rfl | omega | simp))) ?_)))))))))
 rintro _ _ _ _ ⟨rfl, rfl, rfl⟩
 refine qh (ii (dec (dec z l.length) r.length)) rfl (qd (qf (qf (qc (qg (ii (dec (dec z l.length) r.length)) rfl (cX (qI rfl rfl (qd ?_))))))))
 refine qx (p := (dec (dec z l.length) r.length : Int) < 0) rfl (fun h2 => ?_) (fun h2 => ?_)
 ·refine qf (qc (qh (ii (-1)) rfl (qd (qs (qj (qm (L' := L) [ii (-1)] (ii (-1)) (.tmp rfl .nil) rfl rF rF (sD sR) ?_))))))
  exact ⟨(vI (by rw [← dec_dec (by omega)]; have := (dec_range (dec z l.length) r.length).1; omega)), rfl, rfl⟩
 refine qw (qf (qc (qg (ii (dec (dec z l.length) r.length)) rfl (qh (ii (dec (dec z l.length) r.length)) rfl (qd (qs (qm (L' := L) [ii (dec (dec z l.length) r.length)] (ii (dec (dec z l.length) r.length)) (.tmp rfl .nil) rfl rF rF (sD sR) ?_)))))))
 exact ⟨(vI ((dec_dec (by omega)).symm)), rfl, rfl⟩

/- laws.eqEq -/
theorem eqEq_spec {F : FH} {L : List HP} {av : Value} {a : List Int} (ha : IntsF F av a) {bv : Value} {b : List Int} (hb : IntsF F bv b) {cv : Value} {c : List Int} (hc : IntsF F cv c) {dv : Value} {d : List Int} (hd : IntsF F dv d) (hbd : a.length ≤ 9223372036854775807 ∨ c.length ≤ 9223372036854775807) (hbe : b.length ≤ 9223372036854775807 ∨ d.length ≤ 9223372036854775807) :
    Does prog 129 [.agg #[av, bv], .agg #[cv, dv]] F (L) (fun v F' L' => (.bool (decide ((a, b) = (c, d))) : Value) = v ∧ F = F' ∧ L = L') := by
 refine qz func129 rfl rfl rfl (qf (qc (cX (qO [av, bv] rfl rfl ?_))))
 intro b1
 refine cX (qO [cv, dv] rfl rfl ?_)
 intro b2
 refine qh (.bool (false)) rfl (qd (qf (qf (qc (cX (qn (0) qR rfl qB (by decide) rfl rfl (cX (qk qK rfl (Rd.own [_] rfl rfl) (cX (qn (0) qR rfl qB (by decide) rfl rfl (cX (qk qK rfl (Rd.own [] rfl rfl) (cX (ql (args := [av, cv]) call14 rfl (eqInt64S_spec ha hc (hbd := (by first | assumption | rfl | omega | (left; simp; done) | (right; simp; done)))) ?_))))))))))))))
 rintro _ _ _ _ ⟨rfl, rfl, rfl⟩
 refine cX (jk rfl (qd ?_))
 refine qx (p := ¬(a = c)) rfl (fun h1 => ?_) (fun h1 => ?_)
 ·refine qf (qc (qh (.bool (false)) rfl (qd (qs (qj (qm (L' := L) [.bool (false)] (.bool (false)) (.tmp rfl .nil) rfl rF rF (sD (sD sR)) ?_))))))
  exact ⟨(vB (decide_eq_false (by intro e; simp_all))), rfl, rfl⟩
 refine qw (qf (qf (qc (cX (qn (1) qR rfl qB (by decide) rfl rfl (cX (qk qK rfl (Rd.own [_] rfl rfl) (cX (qn (1) qR rfl qB (by decide) rfl rfl (cX (qk qK rfl (Rd.own [] rfl rfl) (cX (ql (args := [bv, dv]) call14 rfl (eqInt64S_spec hb hd (hbd := (by first | assumption | rfl | omega | (left; simp; done) | (right; simp; done)))) ?_)))))))))))))
 rintro _ _ _ _ ⟨rfl, rfl, rfl⟩
 refine cX (jk rfl (qd ?_))
 refine qx (p := ¬(b = d)) rfl (fun h2 => ?_) (fun h2 => ?_)
 ·refine qf (qc (qh (.bool (false)) rfl (qd (qs (qj (qm (L' := L) [.bool (false)] (.bool (false)) (.tmp rfl .nil) rfl rF rF (sD (sD sR)) ?_))))))
  exact ⟨(vB (decide_eq_false (by intro e; simp_all))), rfl, rfl⟩
 refine qw (qf (qc (qh (.bool (true)) rfl (qd (qs (qm (L' := L) [.bool (true)] (.bool (true)) (.tmp rfl .nil) rfl rF rF (sD (sD sR)) ?_))))))
 exact ⟨(vB (decide_eq_true (by simp_all))), rfl, rfl⟩

/- laws.szEqS -/
theorem szEqS_spec {F : FH} {L : List HP} {rsv : Value} {rs : List (List Int × List Int)} (hrs : PairsF F rsv rs) {z : Int} (hz : 0 ≤ z ∧ z ≤ 4000000) (hrl : rs.length ≤ 9223372036854775807) (hrb : ∀ i, i < rs.length → (rs.getD i ([], [])).1.length ≤ 9223372036854775807 ∧ (rs.getD i ([], [])).2.length ≤ 9223372036854775807) :
    Does prog 98 [rsv, ii (z)] F (L) (fun v F' L' => (ii (dec z (szR rs)) : Value) = v ∧ F = F' ∧ L = L') := by
 refine qz func98 rfl rfl rfl (qf (qc (qh (ii (0)) rfl (qd (qf (qc (qg (ii (z)) rfl (qg (rsv) rfl (cX (qC runUnderlying103 rfl hrs.slv (cX (je (z - ((rs.length : Int))) rfl rfl (by omega) (by omega) (qh (ii (z - ((rs.length : Int)))) rfl (qd (qf (qf (qc ?_)))))))))))))))))
 refine qg (ii (z - ((rs.length : Int)))) rfl (cX (qI rfl rfl (qd ?_)))
 refine qx (p := (z - ((rs.length : Int)) : Int) < 0) rfl (fun h1 => ?_) (fun h1 => ?_)
 ·refine qf (qc (qh (ii (-1)) rfl (qd (qs (qj (qm (L' := L) [ii (-1)] (ii (-1)) (.tmp rfl .nil) rfl rF rF sR ?_))))))
  exact ⟨(vI (dec_mono (n := rs.length) (by rw [dec_neg (by omega)]; omega) (by unfold szR; omega))), rfl, rfl⟩
 refine qw (qf (qf (qc (qh (ii (0)) rfl (qd (qE (qY (α := Nat) (fun k => [(0, rsv), (1, ii (dec z (rs.length + szTo rs k))), (5, ii ((k : Int)))]) (fun k => L) (fun k F' => F = F' ∧ (k ≤ rs.length) ∧ (0 ≤ dec z (rs.length + szTo rs k))) (fun k => rs.length - k) 0 ⟨rfl, (vI (by show z - rs.length = dec z (rs.length + 0); rw [Nat.add_zero, dec_pos (by omega)])), rfl, ⟨⟩⟩ sR ⟨rfl, (by (try dsimp only) <;> omega), (by show 0 ≤ dec z (rs.length + 0); rw [Nat.add_zero, dec_pos (by omega)]; omega)⟩ ?_)))))))
 rintro k rE _ _ ⟨rfl, hk, hnn⟩
 show X _ _ _ _ (envs [(0, rsv), (1, ii (dec z (rs.length + szTo rs k))), (5, ii ((k : Int)))] rE) _ (L)
 have hdr := dec_range z (rs.length + szTo rs k)
 have hrk := hrb k
 refine qf (qf (qc (qg (ii ((k : Int))) rfl (qg (rsv) rfl (cX (qC runUnderlying103 rfl hrs.slv (cX (qI rfl rfl (qd ?_)))))))))
 refine qx (p := (k : Int) < (rs.length : Int)) rfl (fun h2 => ?_) (fun h2 => ?_)
 ·refine qw (qf (qE (qf (qc (qg (rsv) rfl (qg (ii ((k : Int))) rfl (cX (qA k runUnderlying103 sizeOf167 rfl rfl rfl hrs.slv (by omega) rfl ?_))))))))
  obtain ⟨a1, a2, ha1, ha2, hr1, hr2⟩ := hrs.rd (i := k) (by omega)
  refine cX (qt [a1, a2] isAgg167 sizeOf167 rfl rfl (Rd.two (hr1 _) (hr2 _)) (qg (ii (dec z (rs.length + szTo rs k))) rfl (cX (ql (args := [.agg #[a1, a2], ii (dec z (rs.length + szTo rs k))]) call120 rfl (szEq_spec (z := dec z (rs.length + szTo rs k)) ha1 ha2 (hz := (by first | assumption | rfl | omega | simp)) (hll := (by first | assumption | rfl | omega | simp)) (hlr := (by first | assumption | rfl | omega | simp))) ?_))))
  rintro _ _ _ _ ⟨rfl, rfl, rfl⟩
  refine qh (ii (dec (dec z (rs.length + szTo rs k)) (((rs.getD k ([], [])).1).length + ((rs.getD k ([], [])).2).length))) rfl (qd (qf (qc (qg (ii (dec (dec z (rs.length + szTo rs k)) (((rs.getD k ([], [])).1).length + ((rs.getD k ([], [])).2).length))) rfl (cX (qI rfl rfl (qd ?_)))))))
  refine qx (p := (dec (dec z (rs.length + szTo rs k)) (((rs.getD k ([], [])).1).length + ((rs.getD k ([], [])).2).length) : Int) < 0) rfl (fun h3 => ?_) (fun h3 => ?_)
  ·refine qf (qc (qh (ii (-1)) rfl (qd (qs (qy (qj (qj (qy (qj (qm (L' := L) [ii (-1)] (ii (-1)) (.tmp rfl .nil) rfl rF rF sR ?_))))))))))
   exact ⟨(vI (by have h9 := szTo_le (rs := rs) (k + 1) rs.length (by omega) (Nat.le_refl _); refine dec_mono (n := rs.length + szTo rs (k + 1)) ?_ (by unfold szR; omega); rw [← szTo_succ (by omega), ← Nat.add_assoc, ← dec_dec (by omega)]; omega)), rfl, rfl⟩
  refine qw (qc (qg (ii ((k : Int))) rfl (cX (qM (((k + 1 : Nat) : Int)) rfl rfl (by omega) (by omega) (qh (ii (((k + 1 : Nat) : Int))) rfl (qd ?_))))))
  exact ⟨k + 1, _, FLe.refl _, rF, ⟨rfl, (vI (by rw [dec_dec (by omega), Nat.add_assoc, szTo_succ (by omega)])), rfl, ⟨⟩⟩, sR, ⟨rfl, (by (try dsimp only) <;> omega), (by (try dsimp only); rw [← szTo_succ (by omega), ← Nat.add_assoc, ← dec_dec (by omega)]; omega)⟩, (by omega)⟩
 refine qX (qv (qv (qJ (qf (qc (qg (ii (dec z (rs.length + szTo rs k))) rfl (qh (ii (dec z (rs.length + szTo rs k))) rfl (qd (qs (qm (L' := L) [ii (dec z (rs.length + szTo rs k))] (ii (dec z (rs.length + szTo rs k))) (.tmp rfl .nil) rfl rF rF sR ?_))))))))))
 exact ⟨(vI (by rw [szR, show k = rs.length from by omega])), rfl, rfl⟩

/- laws.eqEqS -/
theorem eqEqS_spec {F : FH} {L : List HP} {av : Value} {a : List (List Int × List Int)} (ha : PairsF F av a) {bv : Value} {b : List (List Int × List Int)} (hb : PairsF F bv b) (hal : a.length ≤ 9223372036854775807) (hbd : ∀ i, i < a.length → (a.getD i ([], [])).1.length ≤ 9223372036854775807 ∧ (a.getD i ([], [])).2.length ≤ 9223372036854775807) :
    Does prog 107 [av, bv] F (L) (fun v F' L' => (.bool (decide (a = b)) : Value) = v ∧ F = F' ∧ L = L') := by
 refine qz func107 rfl rfl rfl (qf (qc (qh (.bool (false)) rfl (qd (qf (qf (qc (qg (av) rfl (cX (qC qT rfl ha.slv (qg (bv) rfl (cX (qC qT rfl hb.slv (cX (XOp.neq rfl rfl (qd ?_))))))))))))))))
 refine qx (p := ((a.length : Int) : Int) ≠ (b.length : Int)) rfl (fun h1 => ?_) (fun h1 => ?_)
 ·refine qf (qc (qh (.bool (false)) rfl (qd (qs (qj (qm (L' := L) [.bool (false)] (.bool (false)) (.tmp rfl .nil) rfl rF rF sR ?_))))))
  exact ⟨(vB (decide_eq_false (fun e => by rw [e] at h1; omega))), rfl, rfl⟩
 refine qw (qf (qf (qc (qh (ii (0)) rfl (qd (qE (qY (α := Nat) (fun k => [(0, av), (1, bv), (5, ii ((k : Int)))]) (fun k => L) (fun k F' => F = F' ∧ (k ≤ a.length) ∧ (∀ i, i < k → a.getD i ([], []) = b.getD i ([], []))) (fun k => a.length - k) 0 ⟨rfl, rfl, rfl, ⟨⟩⟩ sR ⟨rfl, (by (try dsimp only) <;> omega), (fun i hi => absurd hi (by omega))⟩ ?_)))))))
 rintro k rE _ _ ⟨rfl, hk, hall⟩
 show X _ _ _ _ (envs [(0, av), (1, bv), (5, ii ((k : Int)))] rE) _ (L)
 have hbk := hbd k
 refine qf (qf (qc (qg (ii ((k : Int))) rfl (qg (av) rfl (cX (qC qT rfl ha.slv (cX (qI rfl rfl (qd ?_)))))))))
 refine qx (p := (k : Int) < (a.length : Int)) rfl (fun h2 => ?_) (fun h2 => ?_)
 ·refine qw (qf (qE (qf ?_)))
  obtain ⟨a1, a2, ha1, ha2, hr1, hr2⟩ := ha.rd (i := k) (by omega)
  obtain ⟨a3, a4, ha3, ha4, hr3, hr4⟩ := hb.rd (i := k) (by omega)
  refine X.draw [] L 8 [] [[], [], [0, 1], [2], [], [], [4, 5], [6]] (phiL [qe av, qe (ii ((k : Int)) : Value), qe (.pointer (some (elemA av (k * 2)))), qe (.agg #[a1, a2]), qe bv, qe (ii ((k : Int)) : Value), qe (.pointer (some (elemA bv (k * 2)))), qe (.agg #[a3, a4])]) (ownL []) mixed rfl rfl (by kernel_rfl) ?_ ?_
  ·refine pD (fun W R z9 => ?_) ?_
   ·refine qo (qu (av) rfl ?_)
    exact ⟨rfl, rfl, rfl⟩
   refine pD (fun W R z9 => ?_) ?_
   ·refine qo (qu (ii ((k : Int))) rfl ?_)
    exact ⟨rfl, rfl, rfl⟩
   refine pD (fun W R z9 => ?_) ?_
   ·rw [eS (l := [(0, _), (1, _)]) ⟨z9 0 rfl, z9 1 rfl, ⟨⟩⟩]
    refine qo (qA k qT jd rfl rfl rfl ha.slv (by omega) rfl ?_)
    exact ⟨rfl, rfl, rfl⟩
   refine pD (fun W R z9 => ?_) ?_
   ·rw [eS (l := [(2, _)]) ⟨z9 2 rfl, ⟨⟩⟩]
    refine qo (qt [a1, a2] isAgg123 jd rfl rfl (Rd.two (hr1 _) (hr2 _)) ?_)
    exact ⟨rfl, rfl, rfl⟩
   refine pD (fun W R z9 => ?_) ?_
   ·refine qo (qu (bv) rfl ?_)
    exact ⟨rfl, rfl, rfl⟩
   refine pD (fun W R z9 => ?_) ?_
   ·refine qo (qu (ii ((k : Int))) rfl ?_)
    exact ⟨rfl, rfl, rfl⟩
   refine pD (fun W R z9 => ?_) ?_
   ·rw [eS (l := [(4, _), (5, _)]) ⟨z9 4 rfl, z9 5 rfl, ⟨⟩⟩]
    refine qo (qA k qT jd rfl rfl rfl hb.slv (by omega) rfl ?_)
    exact ⟨rfl, rfl, rfl⟩
   refine pD (fun W R z9 => ?_) ?_
   ·rw [eS (l := [(6, _)]) ⟨z9 6 rfl, ⟨⟩⟩]
    refine qo (qt [a3, a4] isAgg123 jd rfl rfl (Rd.two (hr3 _) (hr4 _)) ?_)
    exact ⟨rfl, rfl, rfl⟩
   exact stepsP.nil
  intro W hphi
  rw [eS (l := [(3, _), (7, _)]) ⟨(hphi 3 (by decide)), (hphi 7 (by decide)), ⟨⟩⟩]
  show XL _ _ _ _ _ _ _ (L)
  refine cX (ql (args := [.agg #[a1, a2], .agg #[a3, a4]]) call129 rfl (eqEq_spec ha1 ha2 ha3 ha4 (hbd := (.inl (hbk (by omega)).1)) (hbe := (.inl (hbk (by omega)).2))) ?_)
  rintro _ _ _ _ ⟨rfl, rfl, rfl⟩
  refine cX (jk rfl (qd ?_))
  refine qx (p := ¬((((a.getD k ([], [])).1), ((a.getD k ([], [])).2)) = (((b.getD k ([], [])).1), ((b.getD k ([], [])).2)))) rfl (fun h3 => ?_) (fun h3 => ?_)
  ·refine qf (qc (qh (.bool (false)) rfl (qd (qs (qy (qj (qj (qy (qj (qm (L' := L) [.bool (false)] (.bool (false)) (.tmp rfl .nil) rfl rF rF sR ?_))))))))))
   exact ⟨(vB (decide_eq_false (fun e => by subst e; simp at *))), rfl, rfl⟩
  refine qw (qc (qg (ii ((k : Int))) rfl (cX (qM (((k + 1 : Nat) : Int)) rfl rfl (by omega) (by omega) (qh (ii (((k + 1 : Nat) : Int))) rfl (qd ?_))))))
  exact ⟨k + 1, _, FLe.refl _, rF, ⟨rfl, rfl, rfl, ⟨⟩⟩, sR, ⟨rfl, (by (try dsimp only) <;> omega), (fun i hi => (Nat.lt_or_ge i k).elim (fun h => hall i h) (fun h => by obtain rfl : i = k := (by omega); first | assumption | exact Classical.not_not.1 (by assumption)))⟩, (by omega)⟩
 refine qX (qv (qv (qJ (qf (qc (qh (.bool (true)) rfl (qd (qs (qm (L' := L) [.bool (true)] (.bool (true)) (.tmp rfl .nil) rfl rF rF sR ?_)))))))))
 exact ⟨(vB (decide_eq_true (ext_pair (by omega) (fun i hi => hall i (by omega))))), rfl, rfl⟩
end Go.Proofs.Ytenomejgjcpbdaa
set_option linter.unusedSimpArgs false
set_option linter.unusedVariables false
namespace Go.Proofs.Ytenomejgjcpbdaa
open Go X M Try

/- laws.toSig -/
theorem toSig_spec {F : FH} {L : List HP} {xsv : Value} {xs : List Int} (hxs : IntsF F xsv xs) (hlx : xs.length ≤ 4000000) :
    Does prog 34 [.agg #[xsv]] F (L) (fun v F' L' => ∃ (a : Value), (.agg #[a] : Value) = v ∧ (IntsF F' a xs) ∧ (Fresh F F' (star [intsH 2 a xs])) ∧ L = L') := by
 refine qz func34 rfl rfl rfl (qf (qc (cX (qO [xsv] rfl rfl ?_))))
 intro b1
 refine cX (jr [sN] zeroValue30 rfl ?_)
 intro b2
 refine qd (qf (qc (cX (jr [sN] zeroValue30 rfl ?_))))
 intro b3
 refine qd (qf (qc (cX (qn (0) runUnderlying24 rfl qB (by decide) rfl rfl (cX (qk qK rfl (Rd.own [_, _] rfl rfl) (cX (XOp.frzF <| ql (args := [xsv]) call11 rfl (toInt64S_spec hxs (hlx := (by first | assumption | rfl | omega | simp))) ?_))))))))
 rintro v1 _ _ _ ⟨rfl, hs1, rfl⟩
 refine ⟨_, _, rfl, fun F1 le1 hz1 => ?_⟩
 have hf1 : IntsF F1 v1 ((xs)) := intsH.fz (xs := (xs)) hz1.fz
 refine cX (qn (0) jh rfl qB (by decide) rfl rfl (cX (XOp.store1 [] _ [v1] qB rfl rfl (jf (qU hf1)) rfl rfl rfl (qd (qf (qc (cX (qt [v1] qP qD rfl rfl (Rd.ownN [] rfl rfl) (cX (jl [_] _ [v1] qD rfl rfl rfl (jc (jf (qU hf1)) ones_nil) rfl rfl rfl (qd (qs (qm (L' := L) [.agg #[v1]] (.agg #[v1]) (.cell rfl (loadNV [v1] qP qD rfl (Rd.ownN [_] rfl rfl)) .nil) rfl le1 rF (sD (sD (sD sR))) ?_)))))))))))))
 exact ⟨_, rfl, hf1, (Fresh.one hz1), rfl⟩

/- laws.toEq -/
theorem toEq_spec {F : FH} {L : List HP} {lv : Value} {l : List Int} (hl : IntsF F lv l) {rv : Value} {r : List Int} (hr : IntsF F rv r) (hll : l.length ≤ 4000000) (hlr : r.length ≤ 4000000) :
    Does prog 124 [.agg #[lv, rv]] F (L) (fun v F' L' => ∃ (a : Value), ∃ (b : Value), (.agg #[a, b] : Value) = v ∧ (IntsF F' a l) ∧ (IntsF F' b r) ∧ (Fresh F F' (star [intsH 2 a l, intsH 2 b r])) ∧ L = L') := by
 refine qz func124 rfl rfl rfl (qf (qc (cX (qO [lv, rv] rfl rfl ?_))))
 intro b1
 refine cX (jr [sN, sN] zeroValue123 rfl ?_)
 intro b2
 refine qd (qf (qc (cX (jr [sN, sN] zeroValue123 rfl ?_))))
 intro b3
 refine qd (qf (qc (cX (qn (0) runUnderlying167 rfl qB (by decide) rfl rfl (cX (qk qK rfl (Rd.own [_, _] rfl rfl) (cX (XOp.frzF <| ql (args := [lv]) call11 rfl (toInt64S_spec hl (hlx := (by first | assumption | rfl | omega | simp))) ?_))))))))
 rintro v1 _ _ _ ⟨rfl, hs1, rfl⟩
 refine ⟨_, _, rfl, fun F1 le1 hz1 => ?_⟩
 replace hr := hr.mono le1
 have hf1 : IntsF F1 v1 ((l)) := intsH.fz (xs := (l)) hz1.fz
 refine cX (qn (0) qR rfl qB (by decide) rfl rfl (cX (XOp.store1 [] _ [v1, sN] qB rfl rfl (jf (qU hf1)) rfl rfl rfl (qd (qf (qc (cX (qn (1) runUnderlying167 rfl qB (by decide) rfl rfl (cX (qk qK rfl (Rd.own [_, _] rfl rfl) (cX (XOp.frzF <| ql (args := [rv]) call11 rfl (toInt64S_spec hr (hlx := (by first | assumption | rfl | omega | simp))) ?_))))))))))))
 rintro v2 _ _ _ ⟨rfl, hs2, rfl⟩
 refine ⟨_, _, rfl, fun F2 le2 hz2 => ?_⟩
 replace hf1 := hf1.mono le2
 have hf2 : IntsF F2 v2 ((r)) := intsH.fz (xs := (r)) hz2.fz
 refine cX (qn (1) qR rfl qB (by decide) rfl rfl (cX (XOp.store1 [] _ [v1, v2] qB rfl rfl (jf (qU hf2)) rfl rfl rfl (qd (qf (qc (cX (qt [v1, v2] isAgg123 jd rfl rfl (Rd.ownN [] rfl rfl) (cX (jl [_] _ [v1, v2] jd rfl rfl rfl (jc (jf (qU hf1)) (jc (jf (qU hf2)) ones_nil)) rfl rfl rfl (qd (qs (qm (L' := L) [.agg #[v1, v2]] (.agg #[v1, v2]) (.cell rfl (loadNV [v1, v2] isAgg123 jd rfl (Rd.ownN [_] rfl rfl)) .nil) rfl (qp le1 le2) rF (sD (sD (sD sR))) ?_)))))))))))))
 exact ⟨_, _, rfl, hf1, hf2, (Fresh.app (Fresh.one hz1) le1 (Fresh.one hz2) le2), rfl⟩

/- laws.toEqS -/
theorem toEqS_spec {F : FH} {L : List HP} {xv : Value} {x : List (List Int × List Int)} (hx : PairsF F xv x) (hlx : x.length ≤ 4000000) (hrb : ∀ i, i < x.length → (x.getD i ([], [])).1.length ≤ 4000000 ∧ (x.getD i ([], [])).2.length ≤ 4000000) :
    Does prog 102 [xv] F (L) (fun v F' L' => ∃ (a : Value), (a : Value) = v ∧ (PairsF F' a x) ∧ (Fresh F F' (star [pairsD 2 123 a x])) ∧ L = L') := by
 refine qz func102 rfl rfl rfl (qf (qc (qh (sN) rfl (qd (qf (qc (qg (xv) rfl (cX (qC runUnderlying103 rfl hx.slv (cX (XOp.makeSlice (n := (x).length) (bytes := 48) [sN, sN] qT jd typeInfo123 rfl zeroValue123 rfl rfl rfl rfl (by omega) (by omega) ?_)))))))))))
 intro v1 hv1
 obtain ⟨cs1, hq1, hc1⟩ : ∃ cs, ((List.range (((x).length) * 2)).map fun i => [sN, sN].toArray[i % [sN, sN].toArray.size]!) = cs ∧ PairsC F cs (List.replicate ((x).length) ([], []) : List (List Int × List Int)) := ⟨_, rfl, PairsC.nils _⟩
 rw [hq1]
 refine qh (v1) rfl (qd (qf (qf (qc (qh (ii (0)) rfl (qd (qE ?_)))))))
 obtain ⟨L0, hD0, hS0⟩ := deepNils2 2 x.length
 rw [hq1] at hD0
 refine qY (α := Nat × List (List Int × List Int) × List Value × List HP × FH) (fun xQ => [(0, xv), (3, v1), (4, ii (((xQ.1 : Nat) : Int)))]) (fun xQ => slH 123 2 v1 x.length xQ.2.2.1 :: L) (fun xQ F' => xQ.2.2.2.2 = F' ∧ F ≤ xQ.2.2.2.2 ∧ (PairsC xQ.2.2.2.2 xQ.2.2.1 xQ.2.1) ∧ (xQ.1 ≤ x.length) ∧ (xQ.2.1.length = x.length) ∧ (xQ.2.1.take xQ.1 = x.take xQ.1) ∧ (DeepL 2 (PairO 2) xQ.2.2.1 xQ.2.1 xQ.2.2.2.1) ∧ (Fresh F xQ.2.2.2.2 (star xQ.2.2.2.1))) (fun xQ => x.length - xQ.1) (0, (List.replicate ((x).length) ([], []) : List (List Int × List Int)), cs1, L0, F) ⟨rfl, rfl, rfl, ⟨⟩⟩ (sC sR) ⟨rfl, FLe.refl _, (hc1), (by (try dsimp only) <;> omega), (by simp), (rfl), (hD0), (Fresh.empty hS0)⟩ ?_
 rintro ⟨k, os, cs, Ls, G1⟩ rE _ _ ⟨rfl, leG, hC, hk, hol, hos, hD, hZ⟩
 show X _ _ _ _ (envs [(0, xv), (3, v1), (4, ii ((k : Int)))] rE) _ (slH 123 2 v1 x.length cs :: L)
 replace leG : F ≤ G1 := leG
 dsimp only at hC hk hol hos hD hZ
 have hrk := hrb k
 have leG1 := leG
 replace hx := hx.mono leG1
 refine qf (qf (qc (qg (ii ((k : Int))) rfl (qg (xv) rfl (cX (qC runUnderlying103 rfl hx.slv (cX (qI rfl rfl (qd ?_)))))))))
 refine qx (p := (k : Int) < (x.length : Int)) rfl (fun h1 => ?_) (fun h1 => ?_)
 ·refine qw (qf (qE (qc (qg (v1) rfl (qg (ii ((k : Int))) rfl (qg (xv) rfl (qg (ii ((k : Int))) rfl (cX (qA k runUnderlying103 sizeOf167 rfl rfl rfl hx.slv (by omega) rfl ?_)))))))))
  obtain ⟨a1, a2, ha1, ha2, hr1, hr2⟩ := hx.rd (i := k) (by omega)
  refine cX (qt [a1, a2] isAgg167 sizeOf167 rfl rfl (Rd.two (hr1 _) (hr2 _)) (cX (ql (args := [.agg #[a1, a2]]) call124 rfl (toEq_spec ha1 ha2 (hll := (by first | assumption | rfl | omega | simp)) (hlr := (by first | assumption | rfl | omega | simp))) ?_)))
  rintro _ F1 _ le1 ⟨x1, x2, rfl, hr3, hr4, hr5, rfl⟩
  replace hC := hC.mono le1
  refine cX (qA k qT jd rfl rfl rfl (SlV.own [] rfl) (by omega) rfl (cX (XOp.storeSN (i := k * 2) (m := 2) (vs := [x1, x2]) (cs := cs) [] _ jd rfl rfl rfl (jc (jf (qU hr3)) (jc (jf (qU hr4)) ones_nil)) rfl (show k * 2 + 2 ≤ _ from by have h9 := CO.len hC; (try simp only [List.length_set, List.length_replicate] at h9); omega) (Nat.succ_pos _) ?_)))
  have hc2 := hC.set (j := k) (by (try simp only [List.length_set, List.length_replicate]); omega) hr3 hr4
  refine qd (qc (qg (ii ((k : Int))) rfl (cX (qM (((k + 1 : Nat) : Int)) rfl rfl (by omega) (by omega) (qh (ii (((k + 1 : Nat) : Int))) rfl (qd ?_))))))
  obtain ⟨A, K, B, es, hLs, hel, hR, hg, hput⟩ := hD.at (d := ([], [])) (k := k) (by omega)
  rw [hLs] at hZ
  have hDn := hput _ (((x.getD k ([], [])).1), ((x.getD k ([], [])).2)) [intsH 2 x1 (((x.getD k ([], [])).1)), intsH 2 x2 (((x.getD k ([], [])).2))] rfl ⟨_, _,  rfl, rfl⟩
  exact ⟨(k + 1, (os.set k (((x.getD k ([], [])).1), ((x.getD k ([], [])).2))), (cs.take (k * 2) ++ [x1, x2] ++ cs.drop (k * 2 + 2)), A ++ ([intsH 2 x1 (((x.getD k ([], [])).1)), intsH 2 x2 (((x.getD k ([], [])).2))] ++ B), F1), _, (qp leG1 le1), rF, ⟨rfl, rfl, rfl, ⟨⟩⟩, (sC sR), ⟨rfl, (qp leG1 le1), (hc2), (by (try dsimp only) <;> omega), (by dsimp only; rw [List.length_set]; exact hol), (by dsimp only; rw [take_set_any (by omega), hos, take_succ_getD ([], []) (by omega)]), (hDn), ((Fresh.swap hZ leG1 hr5 le1))⟩, (by omega)⟩
 refine qX (qv (qv (qJ (qf (qc (qg (v1) rfl (qh (v1) rfl (qd (jn [] _ _ rfl (fun F2 le2 hz1 => ?_))))))))))
 replace hC := hC.mono le2
 have hf1 : PairsF F2 v1 os := CO.fz hC (by first | rfl | omega | (rw [List.length_set]; omega) | (simp; done)) hz1.fz
 refine qs (qm (L' := L) [v1] (v1) (.tmp rfl .nil) rfl (qp leG1 le2) rF sR ?_)
 have e : os = x := by rw [← List.take_of_length_le (l := x) (i := k) (by omega), ← hos, List.take_of_length_le (by omega)]
 subst e
 exact ⟨_, rfl, hf1, Fresh.one (Fresh.deep hD hZ leG1 hz1 rfl le2), rfl⟩
end Go.Proofs.Ytenomejgjcpbdaa
set_option linter.unusedSimpArgs false
set_option linter.unusedVariables false
namespace Go.Proofs.Ytenomejgjcpbdaa
open Go X M Try

/- laws.markInt64S -/
theorem markInt64S_spec {F : FH} {L : List HP} {xv : Value} {x : List Int} {z : Int} (hz : 0 ≤ z ∧ z + (((x)).length : Int) ≤ 9000000000) :
    Does prog 25 [xv, ii (z)] F (intsH 2 xv x :: L) (fun v F' L' => ∃ x' : List Int, ((x')) = iota z ((x)).length ∧ (ii (z + (((x)).length : Int)) : Value) = v ∧ F = F' ∧ intsH 2 xv x' :: L = L') := by
 refine qz func25 rfl rfl rfl (qf (qc (qh (ii (0)) rfl (qd (qf (qf (qc (qh (ii (0)) rfl (qd (qE (qY (α := Nat × List Int) (fun xQ => [(0, xv), (1, ii (z + ((xQ.1 : Nat) : Int))), (5, ii (((xQ.1 : Nat) : Int)))]) (fun xQ => intsH 2 xv xQ.2 :: L) (fun xQ F' => F = F' ∧ (xQ.1 ≤ x.length) ∧ (xQ.2 = iota z xQ.1 ++ x.drop xQ.1) ∧ (xQ.2.length = x.length)) (fun xQ => x.length - xQ.1) (0, x) ⟨rfl, (show Value.int .i64 z = ii (z + ((0 : Nat) : Int)) from congrArg (Value.int .i64) (by omega)), rfl, ⟨⟩⟩ (sC sR) ⟨rfl, (by (try dsimp only) <;> omega), (by rw [iota_zero]; rfl), (rfl)⟩ ?_)))))))))))
 rintro ⟨k, os⟩ rE _ _ ⟨rfl, hk, hos, hol⟩
 show X _ _ _ _ (envs [(0, xv), (1, ii (z + (k : Int))), (5, ii ((k : Int)))] rE) _ (intsH 2 xv os :: L)
 dsimp only at hk hos hol
 refine qf (qf (qc (qg (ii ((k : Int))) rfl (qg (xv) rfl (cX (qC qi rfl (intsH.slv [] rfl) (cX (qI rfl rfl (qd ?_)))))))))
 refine qx (p := (k : Int) < (os.length : Int)) rfl (fun h1 => ?_) (fun h1 => ?_)
 ·refine qw (qf (qE (qf (qc (qg (xv) rfl (qg (ii ((k : Int))) rfl (qg (ii (z + (k : Int))) rfl (cX (qA k qi qG rfl rfl rfl (intsH.slv [] rfl) (by omega) (Nat.mul_one _) (cX (intsH.storeX (i := k) (v := xv) [] _ (os.set k (z + (k : Int))) qG rfl rfl rfl (by omega) rfl (qd (qc (qg (ii (z + (k : Int))) rfl (cX (qM ((z + (k : Int)) + 1) rfl rfl (by omega) (by omega) (qh (ii ((z + (k : Int)) + 1)) rfl ?_)))))))))))))))))
  refine qd (qc (qg (ii ((k : Int))) rfl (cX (qM (((k + 1 : Nat) : Int)) rfl rfl (by omega) (by omega) (qh (ii (((k + 1 : Nat) : Int))) rfl (qd ?_))))))
  exact ⟨(k + 1, (os.set k (z + (k : Int)))), _, FLe.refl _, rF, ⟨rfl, (vI (by omega)), rfl, ⟨⟩⟩, (sC sR), ⟨rfl, (by (try dsimp only) <;> omega), (by dsimp only; rw [hos]; exact iota_set (by omega)), (by dsimp only; rw [List.length_set]; exact hol)⟩, (by omega)⟩
 refine qX (qv (qv (qJ (qf (qc (qg (ii (z + (k : Int))) rfl (qh (ii (z + (k : Int))) rfl (qd (qs (qm (L' := intsH 2 xv os :: L) [ii (z + (k : Int))] (ii (z + (k : Int))) (.tmp rfl .nil) rfl rF rF (sC sR) ?_))))))))))
 have hkl : k = x.length := by omega
 subst hkl
 exact ⟨os, by rw [hos, List.drop_eq_nil_of_le (Nat.le_refl _), List.append_nil], rfl, rfl, rfl⟩

/- laws.heldInt64S -/
theorem heldInt64S_spec {F : FH} {L : List HP} {xv : Value} {x : List Int} (hx : IntsF F xv x) {z : Int} (hzb : 0 ≤ z ∧ z + (x.length : Int) ≤ 9000000000) :
    Does prog 26 [xv, ii (z)] F (L) (fun v F' L' => (ii (heldF x z) : Value) = v ∧ F = F' ∧ L = L') := by
 refine qz func26 rfl rfl rfl (qf (qc (qh (ii (0)) rfl (qd (qf (qf (qc (qh (ii (0)) rfl (qd (qE (qY (α := Nat) (fun k => [(0, xv), (1, ii (z + (k : Int))), (5, ii ((k : Int)))]) (fun k => L) (fun k F' => F = F' ∧ (k ≤ x.length) ∧ (x.take k = iota z k)) (fun k => x.length - k) 0 ⟨rfl, (show Value.int .i64 z = ii (z + ((0 : Nat) : Int)) from congrArg (Value.int .i64) (by omega)), rfl, ⟨⟩⟩ sR ⟨rfl, (by (try dsimp only) <;> omega), (rfl)⟩ ?_)))))))))))
 rintro k rE _ _ ⟨rfl, hk, hos⟩
 show X _ _ _ _ (envs [(0, xv), (1, ii (z + (k : Int))), (5, ii ((k : Int)))] rE) _ (L)
 refine qf (qf (qc (qg (ii ((k : Int))) rfl (qg (xv) rfl (cX (qC qi rfl hx.slv (cX (qI rfl rfl (qd ?_)))))))))
 refine qx (p := (k : Int) < (x.length : Int)) rfl (fun h1 => ?_) (fun h1 => ?_)
 ·refine qw (qf (qE (qf (qf (qc (qg (xv) rfl (qg (ii ((k : Int))) rfl (cX (qA k qi qG rfl rfl rfl hx.slv (by omega) (Nat.mul_one _) (cX (qk ja rfl (hx.rd (by omega)) (qg (ii (z + (k : Int))) rfl (cX (XOp.neq rfl rfl (qd ?_)))))))))))))))
  refine qx (p := (x.getD k 0 : Int) ≠ z + (k : Int)) rfl (fun h2 => ?_) (fun h2 => ?_)
  ·refine qf (qc (qh (ii (-1)) rfl (qd (qs (qj (qy (qj (qj (qy (qj (qm (L' := L) [ii (-1)] (ii (-1)) (.tmp rfl .nil) rfl rF rF sR ?_)))))))))))
   exact ⟨(vI (heldF_snoc_no (i := k) (by omega) (by assumption))), rfl, rfl⟩
  refine qw (qc (qg (ii (z + (k : Int))) rfl (cX (qM ((z + (k : Int)) + 1) rfl rfl (by omega) (by omega) (qh (ii ((z + (k : Int)) + 1)) rfl (qd (qc (qg (ii ((k : Int))) rfl (cX (qM (((k + 1 : Nat) : Int)) rfl rfl (by omega) (by omega) (qh (ii (((k + 1 : Nat) : Int))) rfl (qd ?_))))))))))))
  exact ⟨k + 1, _, FLe.refl _, rF, ⟨rfl, (vI (by omega)), rfl, ⟨⟩⟩, sR, ⟨rfl, (by (try dsimp only) <;> omega), (by (try dsimp only); rw [take_succ_getD 0 (by omega), hos, iota_succ]; congr 2; first | assumption | exact Classical.not_not.1 (by assumption) | omega)⟩, (by omega)⟩
 refine qX (qv (qv (qJ (qf (qc (qg (ii (z + (k : Int))) rfl (qh (ii (z + (k : Int))) rfl (qd (qs (qm (L' := L) [ii (z + (k : Int))] (ii (z + (k : Int))) (.tmp rfl .nil) rfl rF rF sR ?_))))))))))
 exact ⟨(vI (held_all (by omega) hos)), rfl, rfl⟩

/- laws.markSig -/
theorem markSig_spec {F : FH} {L : List HP} {xv : Value} {x : List Int} {z : Int} (hz : 0 ≤ z ∧ z + (((x)).length : Int) ≤ 9000000000) :
    Does prog 51 [.agg #[xv], ii (z)] F (intsH 2 xv x :: L) (fun v F' L' => ∃ x' : List Int, ((x')) = iota z ((x)).length ∧ (ii (z + (((x)).length : Int)) : Value) = v ∧ F = F' ∧ intsH 2 xv x' :: L = L') := by
 refine qz func51 rfl rfl rfl (qf (qc (cX (qO [xv] rfl rfl ?_))))
 intro b1
 refine qh (ii (0)) rfl (qd (qf (qc (cX (qn (0) jh rfl qB (by decide) rfl rfl (cX (qk qK rfl (Rd.own [] rfl rfl) (qg (ii (z)) rfl (XL.weaken (ji (A := [_])) ?_)))))))))
 show XL _ _ _ _ _ _ _ (intsH 2 xv x :: cellsH b1 [xv] 30 :: L)
 refine cX (ql (args := [xv, ii (z)]) call25 rfl (markInt64S_spec (by omega)) ?_)
 rintro _ _ _ _ ⟨m1, hm1, rfl, rfl, rfl⟩
 have hml1 := congrArg List.length hm1
 rw [iota_len] at hml1
 try simp only [List.length_append] at hml1
 refine qh (ii (z + (((x)).length : Int))) rfl (qd (qf (qc (qg (ii (z + (((x)).length : Int))) rfl (qh (ii (z + (((x)).length : Int))) rfl (qd (qs (qm (L' := intsH 2 xv m1 :: L) [ii (z + (((x)).length : Int))] (ii (z + (((x)).length : Int))) (.tmp rfl .nil) rfl rF rF (sC (sD sR)) ?_))))))))
 exact ⟨m1, hm1, congrArg (Value.int .i64) (by first | rfl | (simp only [List.length_append]; omega)), rfl, rfl⟩
end Go.Proofs.Ytenomejgjcpbdaa
set_option linter.unusedSimpArgs false
set_option linter.unusedVariables false
namespace Go.Proofs.Ytenomejgjcpbdaa
open Go X M Try
end Go.Proofs.Ytenomejgjcpbdaa
set_option linter.unusedSimpArgs false
set_option linter.unusedVariables false
namespace Go.Proofs.Ytenomejgjcpbdaa
open Go X M Try
end Go.Proofs.Ytenomejgjcpbdaa
set_option linter.unusedSimpArgs false
set_option linter.unusedVariables false
namespace Go.Proofs.Ytenomejgjcpbdaa
open Go X M Try
end Go.Proofs.Ytenomejgjcpbdaa
set_option linter.unusedSimpArgs false
set_option linter.unusedVariables false
namespace Go.Proofs.Ytenomejgjcpbdaa
open Go X M Try
end Go.Proofs.Ytenomejgjcpbdaa
set_option linter.unusedSimpArgs false
set_option linter.unusedVariables false
namespace Go.Proofs.Ytenomejgjcpbdaa
open Go X M Try
end Go.Proofs.Ytenomejgjcpbdaa
set_option linter.unusedSimpArgs false
set_option linter.unusedVariables false
namespace Go.Proofs.Ytenomejgjcpbdaa
open Go X M Try
end Go.Proofs.Ytenomejgjcpbdaa
set_option linter.unusedSimpArgs false
set_option linter.unusedVariables false
namespace Go.Proofs.Ytenomejgjcpbdaa
open Go X M Try

/- spec.SubAt -/
theorem sSubAt_spec {F : FH} {L : List HP} {arv : Value} {ar : List Int} (har : IntsF F arv ar) {tv : Value} {t : List Int} (ht : IntsF F tv t) {p : Int} (hla : ar.length ≤ 4000000) (hlt : t.length ≤ 4000000) :
    Does prog 131 [.agg #[arv], tv, ii (p)] F (L) (fun v F' L' => ∃ (a : Value), (a : Value) = v ∧ (IntsF F' a (if posOk ar t p = true then sub ar t p.toNat else [])) ∧ L = L') := by
 refine qz func131 rfl rfl rfl (qf (qc (cX (qO [arv] rfl rfl ?_))))
 intro b1
 refine qh (sN) rfl (qd (qf (qf (qc (cX (qt [arv] qP qD rfl rfl (Rd.ownN [] rfl rfl) (qg (tv) rfl (cX (ql (args := [.agg #[arv], tv]) call70 rfl (sTermOk_spec har ht (hla := (by first | assumption | rfl | omega | simp)) (hlt := (by first | assumption | rfl | omega | simp))) ?_)))))))))
 rintro _ _ _ _ ⟨rfl, rfl, rfl⟩
 refine cX (qZ rfl (qg (.bool (!(termOk ar t))) rfl ?_))
 by_cases h1 : (!(termOk ar t)) = true
 ·refine qq (t := 11) rfl (vB h1) (qq (t := 11) rfl (vB h1) (qq (t := 11) rfl (vB h1) (qq (t := 11) rfl (vB h1) (cX (qQ (.bool (true)) (vB h1) rfl (qd (X.condT rfl (qf (qc (cX (qS (s := 1) [] [ii (0)] [] qi qG jb rfl (by decide) rfl CellsAre.nil rfl ?_)))))))))))
  intro v1 hv1
  refine qh (v1) rfl (qd ?_)
  show X _ _ _ _ _ _ (intsH 2 v1 ([] : List Int) :: cellsH b1 [arv] 30 :: L)
  refine jn [] _ _ rfl (fun F1 le1 hz1 => ?_)
  replace har := har.mono le1
  replace ht := ht.mono le1
  have hf1 : IntsF F1 v1 ([]) := intsH.fz (xs := []) hz1.fz
  refine qs (qj (qm (L' := L) [v1] (v1) (.tmp rfl .nil) rfl le1 rF (sD sR) ?_))
  exact ⟨_, rfl, by rw [if_neg (by rw [posOk_iff]; simp_all <;> omega)]; exact hf1, rfl⟩
 rw [Bool.not_eq_true] at h1
 refine qr (t := 11) rfl (vB h1) (qu (tv) rfl (qr (t := 11) rfl (vB h1) (qu (ii (p)) rfl (qr (t := 11) rfl (vB h1) (ql (args := [tv, ii (p)]) call47 rfl (l1There_spec (n := p) ht (hbd := (by first | assumption | rfl | omega | simp))) ?_)))))
 rintro _ _ _ _ ⟨rfl, rfl, rfl⟩
 refine qr (t := 11) rfl (vB h1) (jk rfl (cX (qL (.bool (decide (¬(0 ≤ p ∧ p < (t.length : Int))))) (vB h1) rfl (qd ?_))))
 refine qx (p := ¬(0 ≤ p ∧ p < (t.length : Int))) rfl (fun h2 => ?_) (fun h2 => ?_)
 ·refine qf (qc (cX (qS (s := 1) [] [ii (0)] [] qi qG jb rfl (by decide) rfl CellsAre.nil rfl ?_)))
  intro v2 hv2
  refine qh (v2) rfl (qd ?_)
  show X _ _ _ _ _ _ (intsH 2 v2 ([] : List Int) :: cellsH b1 [arv] 30 :: L)
  refine jn [] _ _ rfl (fun F2 le2 hz2 => ?_)
  replace har := har.mono le2
  replace ht := ht.mono le2
  have hf2 : IntsF F2 v2 ([]) := intsH.fz (xs := []) hz2.fz
  refine qs (qj (qm (L' := L) [v2] (v2) (.tmp rfl .nil) rfl le2 rF (sD sR) ?_))
  exact ⟨_, rfl, by rw [if_neg (by rw [posOk_iff]; simp_all <;> omega)]; exact hf2, rfl⟩
 refine qw (qf (qc ?_))
 have ho : termOk ar t = true := by simp_all
 have hpz : 0 ≤ p ∧ p < (t.length : Int) := by simp_all
 refine cX (qt [arv] qP qD rfl rfl (Rd.ownN [] rfl rfl) (qg (tv) rfl (qg (ii (p)) rfl (cX (XOp.frzF <| ql (args := [.agg #[arv], tv, ii (((p).toNat : Nat) : Int)]) call78 (by rw [show (((p).toNat : Nat) : Int) = p from by omega]; rfl) (l1Sub_spec (p := (p).toNat) har ht (ho := (by first | assumption | rfl | omega | simp)) (hp := (by first | assumption | rfl | omega | simp))) ?_)))))
 rintro v3 _ _ _ ⟨rfl, hs1, rfl⟩
 refine ⟨_, _, rfl, fun F3 le3 hz3 => ?_⟩
 have hf3 : IntsF F3 v3 ((sub ar t ((p).toNat))) := intsH.fz (xs := (sub ar t ((p).toNat))) hz3.fz
 refine qh (v3) rfl (qd (qs (qm (L' := L) [v3] (v3) (.tmp rfl .nil) rfl le3 rF (sD sR) ?_)))
 exact ⟨_, rfl, by rw [if_pos (posOk_iff.2 ⟨ho, hpz⟩)]; exact hf3, rfl⟩
end Go.Proofs.Ytenomejgjcpbdaa
set_option linter.unusedSimpArgs false
set_option linter.unusedVariables false
namespace Go.Proofs.Ytenomejgjcpbdaa
open Go X M Try

/- spec.l1Args -/
theorem l1Args_spec {F : FH} {L : List HP} {arv : Value} {ar : List Int} (har : IntsF F arv ar) {tv : Value} {t : List Int} (ht : IntsF F tv t) {p : Nat} (ho : termOk ar t = true) (hp : p < t.length) :
    Does prog 144 [.agg #[arv], tv, ii ((p : Int))] F (L) (fun v F' L' => F = F' ∧ IsSl v ∧ intsH 2 v (argsL ar t p) :: L = L') := by
 refine qz func144 rfl rfl rfl ?_
 have hsl := sigOk_spec (termOk_sig ho)
 have htl := termOk_len ho
 have hsig := termOk_sig ho
 have hA := arity_le hsig (termOk_lt ho hp)
 have hge := termOk_ge ho hp
 have hlt := termOk_lt ho hp
 refine qf (qc (cX (qO [arv] rfl rfl ?_)))
 intro b1
 refine qh (sN) rfl (qd (qf (qc (cX (qS (s := 1) [] [ii (0)] [] qi qG jb rfl (by decide) rfl CellsAre.nil rfl ?_)))))
 intro v1 hv1
 refine qh (v1) rfl (qd (qf (qc (qg (ii ((p : Int))) rfl (cX (qM (((p + 1 : Nat) : Int)) rfl rfl (by omega) (by omega) (qh (ii (((p + 1 : Nat) : Int))) rfl (qd (qf (qf ?_))))))))))
 refine X.draw [slH 2 1 v1 0 [], cellsH b1 [arv] 30] L 5 [] [[], [], [], [1, 2], [3]] (phiL [qe (.agg #[arv]), qe tv, qe (ii ((p : Int)) : Value), qe (.pointer (some (elemA tv (p)))), qe (ii (t.getD p 0))]) (ownL []) mixed rfl rfl (by kernel_rfl) ?_ ?_
 ·refine pD (fun W R z9 => ?_) ?_
  ·refine qo (qt [arv] qP qD rfl rfl (Rd.ownN [_] rfl rfl) ?_)
   exact ⟨rfl, rfl, rfl⟩
  refine pD (fun W R z9 => ?_) ?_
  ·refine qo (qu (tv) rfl ?_)
   exact ⟨rfl, rfl, rfl⟩
  refine pD (fun W R z9 => ?_) ?_
  ·refine qo (qu (ii ((p : Int))) rfl ?_)
   exact ⟨rfl, rfl, rfl⟩
  refine pD (fun W R z9 => ?_) ?_
  ·rw [eS (l := [(1, _), (2, _)]) ⟨z9 1 rfl, z9 2 rfl, ⟨⟩⟩]
   refine qo (qA p qi qG rfl rfl rfl ht.slv (by omega) (Nat.mul_one _) ?_)
   exact ⟨rfl, rfl, rfl⟩
  refine pD (fun W R z9 => ?_) ?_
  ·rw [eS (l := [(3, _)]) ⟨z9 3 rfl, ⟨⟩⟩]
   refine qo (qk ja rfl (ht.rd (by omega)) ?_)
   exact ⟨rfl, rfl, rfl⟩
  exact stepsP.nil
 intro W hphi
 rw [eS (l := [(0, _), (4, _)]) ⟨(hphi 0 (by decide)), (hphi 4 (by decide)), ⟨⟩⟩]
 show XL _ _ _ _ _ _ _ (slH 2 1 v1 0 [] :: cellsH b1 [arv] 30 :: L)
 refine cX (ql (args := [.agg #[arv], ii (t.getD p 0)]) call101 rfl (l1Arity_spec (n := t.getD p 0) har (hla := (by first | assumption | rfl | omega | simp))) ?_)
 rintro _ _ _ _ ⟨rfl, rfl, rfl⟩
 refine qh (ii (sArity ar (t.getD p 0))) rfl (qd (qE (qY (α := Nat × Nat × Value × List Int) (fun xQ => [(1, tv), (3, ptr b1 0), (7, xQ.2.2.1), (8, ii (((xQ.2.1 : Nat) : Int))), (9, ii (((xQ.1 : Nat) : Int)))]) (fun xQ => intsH 2 xQ.2.2.1 xQ.2.2.2 :: cellsH b1 [arv] 30 :: L) (fun xQ F' => F = F' ∧ (IsSl xQ.2.2.1) ∧ (Stand ar t xQ.1 xQ.2.1 (endN ar t p)) ∧ (argsL ar t p = xQ.2.2.2 ++ argsGo ar t xQ.1 xQ.2.1) ∧ (xQ.2.2.2.length + xQ.1 ≤ 3)) (fun xQ => xQ.1) ((arity ar (t.getD p 0)).toNat, p + 1, v1, []) ⟨rfl, rfl, rfl, rfl, (vI (by first | omega | (rw [sArity_eq (by omega)]; omega))), ⟨⟩⟩ (sC (sC sR)) ⟨rfl, ((isSl_lit hv1)), (stand_start ho hp), (rfl), (by rw [List.length_nil]; omega)⟩ ?_)))
 rintro ⟨m, q, ov, os⟩ rE _ _ ⟨rfl, hov, hS, hos, hol⟩
 show X _ _ _ _ (envs [(1, tv), (3, ptr b1 0), (7, ov), (8, ii ((q : Int))), (9, ii ((m : Int)))] rE) _ (intsH 2 ov os :: cellsH b1 [arv] 30 :: L)
 dsimp only at hov hS hos hol
 have hst := fun (h : 1 ≤ m) => stand_step ho (n := m - 1) (by rw [Nat.sub_add_cancel h]; exact hS)
 refine qf (qf (qc (qg (ii ((m : Int))) rfl (cX (js rfl rfl (qd ?_))))))
 refine qx (p := (m : Int) > 0) rfl (fun h1 => ?_) (fun h1 => ?_)
 ·refine qw (qf (qE (qf (qc (qg (ov) rfl (qg (ii ((q : Int))) rfl (cX (qS (s := 1) [ii ((q : Int))] [ii (0)] [(0, [ii ((q : Int))])] qi qG jb rfl (by decide) rfl (.cons rfl CellsAre.nil) rfl ?_))))))))
  intro v2 hv2
  refine cX (XOp.append1 (u := (q : Int)) [_] _ qi typeInfo2 rfl rfl rfl rfl rfl rfl (SlV.own [] rfl) (Rd.sl [] rfl rfl) (by (try simp only [List.length_append, List.length_nil, List.length_cons, List.length_singleton, List.length_take, List.length_drop]); omega) ?_)
  intro v3 hs1 hn1
  refine qh (v3) rfl (qd (qc (cX (qt [arv] qP qD rfl rfl (Rd.ownN [_, _] rfl rfl) (qg (tv) rfl (qg (ii ((q : Int))) rfl (cX (ql (args := [.agg #[arv], tv, ii (q : Int)]) call72 rfl (l1End_ok (p := q) har ht (ho := (by first | assumption | rfl | omega | (left; simp; done) | (right; simp; done))) (hp := (by first | assumption | rfl | omega | (left; simp; done) | (right; simp; done)))) ?_))))))))
  rintro _ _ _ _ ⟨rfl, rfl, rfl⟩
  refine qh (ii (((endN ar t q : Nat) : Int))) rfl (qd (qc (qg (ii ((m : Int))) rfl (cX (je (((m : Int)) - 1) rfl rfl (by omega) (by omega) (qh (ii (((m : Int)) - 1)) rfl (qd ?_)))))))
  exact ⟨(m - 1, endN ar t q, v3, os ++ [(q : Int)]), _, FLe.refl _, rF, ⟨rfl, rfl, rfl, rfl, (vI (by omega)), ⟨⟩⟩, (sD (sC (sC sR))), ⟨rfl, (hs1), ((hst (by omega)).2.1), (args_next ho (by omega) hos), (by dsimp only; rw [List.length_append, List.length_singleton]; omega)⟩, (by omega)⟩
 refine qX (qv (qv (qJ (qf (qc (qg (ov) rfl (qh (ov) rfl (qd (qs (qm (L' := intsH 2 ov os :: L) [ov] (ov) (.tmp rfl .nil) rfl rF rF (sC (sD sR)) ?_))))))))))
 refine ⟨rfl, hov, ?_⟩
 have hxs : (argsL ar t p : List Int) = os := by rw [hos, show m = 0 from by omega]; simp [argsGo]
 exact congrArg (fun z => intsH 2 _ z :: L) hxs
end Go.Proofs.Ytenomejgjcpbdaa
set_option linter.unusedSimpArgs false
set_option linter.unusedVariables false
namespace Go.Proofs.Ytenomejgjcpbdaa
open Go X M Try

end Go.Proofs.Ytenomejgjcpbdaa
set_option linter.unusedSimpArgs false
set_option linter.unusedVariables false
namespace Go.Proofs.Ytenomejgjcpbdaa
open Go X M Try
theorem l2FilledW_spec {F : FH} {L : List HP} {sv : Value} {s : List (List Int)} (hs : RowsF F sv s) {tv : Value} {t : List Int} (ht : IntsF F tv t) (hsl : s.length ≤ 4000000) (hsb : ∀ i, (s.getD i []).length ≤ 4000000) (htl : t.length ≤ 4000000) (htg : ∀ k, k < t.length → -4000000 ≤ t.getD k 0) :
    Does prog 79 [.agg #[sv], tv] F (L) (fun v F' L' => (∃ (a : Value) (b : Bool), (.tuple #[a, .bool b] : Value) = v ∧ (SomesF F' a (fun u => u.length ≤ 60))) ∧ L = L') :=
  (l2Filled_spec hs ht hsl hsb htl htg).mono (by rintro _ F' L' le ⟨a, rfl, h, rfl⟩; exact ⟨⟨a, _, rfl, ⟨_, h, fill_le60⟩⟩, rfl⟩)
end Go.Proofs.Ytenomejgjcpbdaa
set_option linter.unusedSimpArgs false
set_option linter.unusedVariables false
namespace Go.Proofs.Ytenomejgjcpbdaa
open Go X M Try
end Go.Proofs.Ytenomejgjcpbdaa
set_option linter.unusedSimpArgs false
set_option linter.unusedVariables false
namespace Go.Proofs.Ytenomejgjcpbdaa
open Go X M Try

/- impl.EqOk -/
theorem EqOk_spec {F : FH} {L : List HP} {arv : Value} {ar : List Int} (har : IntsF F arv ar) {lv : Value} {l : List Int} (hl : IntsF F lv l) {rv : Value} {r : List Int} (hr : IntsF F rv r) :
    Does prog 126 [.agg #[arv], .agg #[lv, rv]] F (L) (fun v F' L' => (.bool (eqOkL ar (l, r)) : Value) = v ∧ F = F' ∧ L = L') := by
 refine qz func126 rfl rfl rfl (qf (qc (cX (qO [arv] rfl rfl ?_))))
 intro b1
 refine cX (qO [lv, rv] rfl rfl ?_)
 intro b2
 refine qh (.bool (false)) rfl (qd (qf (qc (cX (qt [arv] qP qD rfl rfl (Rd.ownN [_] rfl rfl) (cX (qn (0) qR rfl qB (by decide) rfl rfl (cX (qk qK rfl (Rd.own [] rfl rfl) (cX (ql (args := [.agg #[arv], lv]) call64 rfl (TermOk_spec har hl) ?_)))))))))))
 rintro _ _ _ _ ⟨rfl, rfl, rfl⟩
 refine qg (.bool (termOk ar l)) rfl ?_
 by_cases h1 : (termOk ar l) = true
 ·refine qr (t := 9) rfl (vB h1) (qt [arv] qP qD rfl rfl (Rd.ownN [_] rfl rfl) (qr (t := 9) rfl (vB h1) (qn (1) qR rfl qB (by decide) rfl rfl (qr (t := 9) rfl (vB h1) (qk qK rfl (Rd.own [] rfl rfl) (qr (t := 9) rfl (vB h1) (ql (args := [.agg #[arv], rv]) call64 rfl (TermOk_spec har hr) ?_)))))))
  rintro _ _ _ _ ⟨rfl, rfl, rfl⟩
  refine cX (qQ (.bool (termOk ar r)) (vB h1) rfl (qh (.bool (termOk ar r)) rfl (qd (qs (qm (L' := L) [.bool (termOk ar r)] (.bool (termOk ar r)) (.tmp rfl .nil) rfl rF rF (sD (sD sR)) ?_)))))
  exact ⟨(vB (by unfold eqOkL; simp_all)), rfl, rfl⟩
 rw [Bool.not_eq_true] at h1
 refine qq (t := 9) rfl (vB h1) (qq (t := 9) rfl (vB h1) (qq (t := 9) rfl (vB h1) (qq (t := 9) rfl (vB h1) (cX (qL (.bool (false)) (vB h1) rfl (qh (.bool (false)) rfl (qd (qs (qm (L' := L) [.bool (false)] (.bool (false)) (.tmp rfl .nil) rfl rF rF (sD (sD sR)) ?_)))))))))
 exact ⟨(vB (by unfold eqOkL; simp_all)), rfl, rfl⟩

/- spec.EqOk -/
theorem sEqOk_spec {F : FH} {L : List HP} {arv : Value} {ar : List Int} (har : IntsF F arv ar) {lv : Value} {l : List Int} (hl : IntsF F lv l) {rv : Value} {r : List Int} (hr : IntsF F rv r) (hla : ar.length ≤ 4000000) (hll : l.length ≤ 4000000) (hlr : r.length ≤ 4000000) :
    Does prog 122 [.agg #[arv], .agg #[lv, rv]] F (L) (fun v F' L' => (.bool (eqOkL ar (l, r)) : Value) = v ∧ F = F' ∧ L = L') := by
 refine qz func122 rfl rfl rfl (qf (qc (cX (qO [arv] rfl rfl ?_))))
 intro b1
 refine cX (qO [lv, rv] rfl rfl ?_)
 intro b2
 refine qh (.bool (false)) rfl (qd (qf (qc (cX (qt [arv] qP qD rfl rfl (Rd.ownN [_] rfl rfl) (cX (qn (0) qR rfl qB (by decide) rfl rfl (cX (qk qK rfl (Rd.own [] rfl rfl) (cX (ql (args := [.agg #[arv], lv]) call70 rfl (sTermOk_spec har hl (hla := (by first | assumption | rfl | omega | simp)) (hlt := (by first | assumption | rfl | omega | simp))) ?_)))))))))))
 rintro _ _ _ _ ⟨rfl, rfl, rfl⟩
 refine qg (.bool (termOk ar l)) rfl ?_
 by_cases h1 : (termOk ar l) = true
 ·refine qr (t := 9) rfl (vB h1) (qt [arv] qP qD rfl rfl (Rd.ownN [_] rfl rfl) (qr (t := 9) rfl (vB h1) (qn (1) qR rfl qB (by decide) rfl rfl (qr (t := 9) rfl (vB h1) (qk qK rfl (Rd.own [] rfl rfl) (qr (t := 9) rfl (vB h1) (ql (args := [.agg #[arv], rv]) call70 rfl (sTermOk_spec har hr (hla := (by first | assumption | rfl | omega | simp)) (hlt := (by first | assumption | rfl | omega | simp))) ?_)))))))
  rintro _ _ _ _ ⟨rfl, rfl, rfl⟩
  refine cX (qQ (.bool (termOk ar r)) (vB h1) rfl (qh (.bool (termOk ar r)) rfl (qd (qs (qm (L' := L) [.bool (termOk ar r)] (.bool (termOk ar r)) (.tmp rfl .nil) rfl rF rF (sD (sD sR)) ?_)))))
  exact ⟨(vB (by unfold eqOkL; simp_all)), rfl, rfl⟩
 rw [Bool.not_eq_true] at h1
 refine qq (t := 9) rfl (vB h1) (qq (t := 9) rfl (vB h1) (qq (t := 9) rfl (vB h1) (qq (t := 9) rfl (vB h1) (cX (qL (.bool (false)) (vB h1) rfl (qh (.bool (false)) rfl (qd (qs (qm (L' := L) [.bool (false)] (.bool (false)) (.tmp rfl .nil) rfl rF rF (sD (sD sR)) ?_)))))))))
 exact ⟨(vB (by unfold eqOkL; simp_all)), rfl, rfl⟩
end Go.Proofs.Ytenomejgjcpbdaa
set_option linter.unusedSimpArgs false
set_option linter.unusedVariables false
namespace Go.Proofs.Ytenomejgjcpbdaa
open Go X M Try

/- spec.ArgsAt -/
theorem ArgsAt_spec {F : FH} {L : List HP} {arv : Value} {ar : List Int} (har : IntsF F arv ar) {tv : Value} {t : List Int} (ht : IntsF F tv t) {p : Nat} (ho : termOk ar t = true) (hp : p < t.length) :
    Does prog 130 [.agg #[arv], tv, ii ((p : Int))] F (L) (fun v F' L' => F = F' ∧ IsSl v ∧ intsH 2 v (argsL ar t p) :: L = L') := by
 refine qz func130 rfl rfl rfl ?_
 have hsl := sigOk_spec (termOk_sig ho)
 have htl := termOk_len ho
 refine qf (qc (cX (qO [arv] rfl rfl ?_)))
 intro b1
 refine qh (sN) rfl (qd (qf (qf (qc (cX (qt [arv] qP qD rfl rfl (Rd.ownN [] rfl rfl) (qg (tv) rfl (cX (ql (args := [.agg #[arv], tv]) call70 rfl (sTermOk_spec har ht (hla := (by first | assumption | rfl | omega | simp)) (hlt := (by first | assumption | rfl | omega | simp))) ?_)))))))))
 rintro _ _ _ _ ⟨rfl, rfl, rfl⟩
 refine cX (qZ rfl (qg (.bool (!(termOk ar t))) rfl ?_))
 by_cases h1 : (!(termOk ar t)) = true
 ·exact absurd h1 (by rw [ho]; simp)
 rw [Bool.not_eq_true] at h1
 refine qr (t := 11) rfl (vB h1) (qu (tv) rfl (qr (t := 11) rfl (vB h1) (qu (ii ((p : Int))) rfl (qr (t := 11) rfl (vB h1) (ql (args := [tv, ii ((p : Int))]) call47 rfl (l1There_spec (n := (p : Int)) ht (hbd := (by first | assumption | rfl | omega | simp))) ?_)))))
 rintro _ _ _ _ ⟨rfl, rfl, rfl⟩
 refine qr (t := 11) rfl (vB h1) (jk rfl (cX (qL (.bool (decide (¬(0 ≤ ((p : Int)) ∧ ((p : Int)) < (t.length : Int))))) (vB h1) rfl (qd ?_))))
 refine qx (p := ¬(0 ≤ ((p : Int)) ∧ ((p : Int)) < (t.length : Int))) rfl (fun h2 => ?_) (fun h2 => ?_)
 ·exact absurd h2 (by simp; omega)
 refine qw (qf (qc (cX (qt [arv] qP qD rfl rfl (Rd.ownN [] rfl rfl) (qg (tv) rfl (qg (ii ((p : Int))) rfl (cX (ql (args := [.agg #[arv], tv, ii (p : Int)]) call144 rfl (l1Args_spec (p := p) har ht (ho := (by first | assumption | rfl | omega | simp)) (hp := (by first | assumption | rfl | omega | simp))) ?_))))))))
 rintro v1 _ _ _ ⟨rfl, hs1, rfl⟩
 refine qh (v1) rfl (qd (qs (qm (L' := intsH 2 v1 ((argsL ar t p)) :: L) [v1] (v1) (.tmp rfl .nil) rfl rF rF (sC (sD sR)) ?_)))
 refine ⟨rfl, hs1, ?_⟩
 have hxs : (argsL ar t p : List Int) = (argsL ar t p) := rfl
 exact congrArg (fun z => intsH 2 _ z :: L) hxs

/- spec.SubAt -/
theorem sSubAtO_spec {F : FH} {L : List HP} {arv : Value} {ar : List Int} (har : IntsF F arv ar) {tv : Value} {t : List Int} (ht : IntsF F tv t) {p : Nat} (ho : termOk ar t = true) (hp : p < t.length) :
    Does prog 131 [.agg #[arv], tv, ii ((p : Int))] F (L) (fun v F' L' => ∃ (a : Value), (a : Value) = v ∧ (IntsF F' a (sub ar t p)) ∧ L = L') := by
 refine qz func131 rfl rfl rfl ?_
 have hsl := sigOk_spec (termOk_sig ho)
 have htl := termOk_len ho
 refine qf (qc (cX (qO [arv] rfl rfl ?_)))
 intro b1
 refine qh (sN) rfl (qd (qf (qf (qc (cX (qt [arv] qP qD rfl rfl (Rd.ownN [] rfl rfl) (qg (tv) rfl (cX (ql (args := [.agg #[arv], tv]) call70 rfl (sTermOk_spec har ht (hla := (by first | assumption | rfl | omega | simp)) (hlt := (by first | assumption | rfl | omega | simp))) ?_)))))))))
 rintro _ _ _ _ ⟨rfl, rfl, rfl⟩
 refine cX (qZ rfl (qg (.bool (!(termOk ar t))) rfl ?_))
 by_cases h1 : (!(termOk ar t)) = true
 ·exact absurd h1 (by rw [ho]; simp)
 rw [Bool.not_eq_true] at h1
 refine qr (t := 11) rfl (vB h1) (qu (tv) rfl (qr (t := 11) rfl (vB h1) (qu (ii ((p : Int))) rfl (qr (t := 11) rfl (vB h1) (ql (args := [tv, ii ((p : Int))]) call47 rfl (l1There_spec (n := (p : Int)) ht (hbd := (by first | assumption | rfl | omega | simp))) ?_)))))
 rintro _ _ _ _ ⟨rfl, rfl, rfl⟩
 refine qr (t := 11) rfl (vB h1) (jk rfl (cX (qL (.bool (decide (¬(0 ≤ ((p : Int)) ∧ ((p : Int)) < (t.length : Int))))) (vB h1) rfl (qd ?_))))
 refine qx (p := ¬(0 ≤ ((p : Int)) ∧ ((p : Int)) < (t.length : Int))) rfl (fun h2 => ?_) (fun h2 => ?_)
 ·exact absurd h2 (by simp; omega)
 refine qw (qf (qc (cX (qt [arv] qP qD rfl rfl (Rd.ownN [] rfl rfl) (qg (tv) rfl (qg (ii ((p : Int))) rfl (cX (XOp.frzF <| ql (args := [.agg #[arv], tv, ii (p : Int)]) call78 rfl (l1Sub_spec (p := p) har ht (ho := (by first | assumption | rfl | omega | simp)) (hp := (by first | assumption | rfl | omega | simp))) ?_))))))))
 rintro v1 _ _ _ ⟨rfl, hs1, rfl⟩
 refine ⟨_, _, rfl, fun F1 le1 hz1 => ?_⟩
 have hf1 : IntsF F1 v1 ((sub ar t p)) := intsH.fz (xs := (sub ar t p)) hz1.fz
 refine qh (v1) rfl (qd (qs (qm (L' := L) [v1] (v1) (.tmp rfl .nil) rfl le1 rF (sD sR) ?_)))
 exact ⟨_, rfl, hf1, rfl⟩

/- spec.l3Put -/
theorem l3PutH_spec {F : FH} {L : List HP} {arv : Value} {ar : List Int} (har : IntsF F arv ar) {tv : Value} {t : List Int} (ht : IntsF F tv t) {p : Nat} {uv : Value} {u : List Int} (hu : IntsF F uv u) (ho : termOk ar t = true) (hp : p < t.length) (hul : u.length ≤ 4000000) :
    Does prog 80 [.agg #[arv], tv, ii ((p : Int)), uv] F (L) (fun v F' L' => ∃ (a : Value), (.tuple #[a, .bool ((putL ar t p u).isSome)] : Value) = v ∧ (IntsF F' a ((putL ar t p u).getD [])) ∧ (Fresh F F' (intsH 2 a ((putL ar t p u).getD []))) ∧ L = L') := by
 refine qz func80 rfl rfl rfl ?_
 have hsig := termOk_sig ho
 have hsl := sigOk_spec hsig
 have htl := termOk_len ho
 have hee := endN_spec ho hp
 refine qf (qc (cX (qO [arv] rfl rfl ?_)))
 intro b1
 refine qh (sN) rfl (qh (.bool (false)) rfl (qd (qf (qc (qg (tv) rfl (qg (ii ((p : Int))) rfl (cX (XOp.sliceI 0 p qi qG rfl ht rfl ⟨_, rfl⟩ (by omega) (by omega) ?_))))))))
 intro v1 hv1 hn1
 refine cX (ql (args := [v1]) call32 rfl (l1Copy_spec hv1 (hlt := (by simp; omega))) ?_)
 rintro v2 _ _ _ ⟨rfl, hs1, rfl⟩
 refine qg (uv) rfl (cX (XOp.appendI [] _ qi typeInfo2 rfl rfl rfl rfl rfl rfl hu (by (try simp only [List.length_append, List.length_nil, List.length_cons, List.length_singleton, List.length_take, List.length_drop]); omega) ?_))
 intro v3 hs2 hn2 hm1
 refine qh (v3) rfl (qd (qf (qc (qg (v3) rfl (qg (tv) rfl (cX (qt [arv] qP qD rfl rfl (Rd.ownN [_] rfl rfl) (qg (tv) rfl (qg (ii ((p : Int))) rfl (cX (ql (args := [.agg #[arv], tv, ii (p : Int)]) call72 rfl (l1End_ok (p := p) har ht (ho := (by first | assumption | rfl | omega | (left; simp; done) | (right; simp; done))) (hp := (by first | assumption | rfl | omega | (left; simp; done) | (right; simp; done)))) ?_)))))))))))
 rintro _ _ _ _ ⟨rfl, rfl, rfl⟩
 refine cX (XOp.sliceI (endN ar t p) ((t).length) qi qG rfl ht ⟨_, rfl⟩ rfl (by omega) (by omega) ?_)
 intro v4 hv2 hn3
 refine cX (XOp.appendI [] _ qi typeInfo2 rfl rfl rfl rfl rfl rfl hv2 (by (try simp only [List.length_append, List.length_nil, List.length_cons, List.length_singleton, List.length_take, List.length_drop]); omega) ?_)
 intro v5 hs3 hn4 hm2
 refine qh (v5) rfl (qd (qf (qf (qc (qg (v5) rfl (cX (qC qi rfl (intsH.slv [] rfl) (cX (js rfl rfl (qd ?_))))))))))
 refine qx (p := ((((((((((t.drop 0).take (p - 0))))) ++ u) ++ (((t.drop (endN ar t p)).take (((t).length) - (endN ar t p))))).length : Nat) : Int) : Int) > 60) rfl (fun h1 => ?_) (fun h1 => ?_)
 ·refine qf (qc (cX (qS (s := 1) [] [ii (0)] [] qi qG jb rfl (by decide) rfl CellsAre.nil rfl ?_)))
  intro v6 hv3
  refine qh (v6) rfl (qh (.bool (false)) rfl (qd ?_))
  show X _ _ _ _ _ _ (intsH 2 v6 ([] : List Int) :: intsH 2 v5 (((((((t.drop 0).take (p - 0))))) ++ u) ++ (((t.drop (endN ar t p)).take (((t).length) - (endN ar t p))))) :: cellsH b1 [arv] 30 :: L)
  refine jn [] _ _ rfl (fun F1 le1 hz1 => ?_)
  have hf1 : IntsF F1 v6 ([]) := intsH.fz (xs := []) hz1.fz
  refine qs (qj (qm (L' := L) [v6, .bool (false)] (.tuple #[v6, .bool (false)]) (.tmp rfl (.tmp rfl .nil)) rfl le1 rF (sD (sD sR)) ?_))
  have hz : putL ar t p u = none := putL_none put_three (by omega)
  exact ⟨_, by rw [hz]; rfl, by rw [hz]; exact hf1, by rw [hz]; exact hz1, rfl⟩
 refine qw (qf (qc (qg (v5) rfl (qh (v5) rfl (qh (.bool (true)) rfl (qd (jn [] _ _ rfl (fun F2 le2 hz2 => ?_))))))))
 have hf2 : IntsF F2 v5 (((((((t.drop 0).take (p - 0))))) ++ u) ++ (((t.drop (endN ar t p)).take (((t).length) - (endN ar t p))))) := intsH.fz (xs := ((((((t.drop 0).take (p - 0))))) ++ u) ++ (((t.drop (endN ar t p)).take (((t).length) - (endN ar t p))))) hz2.fz
 refine qs (qm (L' := L) [v5, .bool (true)] (.tuple #[v5, .bool (true)]) (.tmp rfl (.tmp rfl .nil)) rfl le2 rF (sD sR) ?_)
 have hz := putL_some (ar := ar) (t := t) (p := p) (u := u) put_three (by omega)
 exact ⟨_, by rw [hz]; rfl, by rw [hz]; exact hf2, by rw [hz]; exact hz2, rfl⟩

/- spec.l20Match -/
set_option maxHeartbeats 1000000 in
set_option maxRecDepth 20000 in
theorem l20Match_spec_step {n : Nat} (ih : ∀ m : Nat, m < n → ∀ {F : FH} {L : List HP}  {arv : Value} {ar : List Int} (har : IntsF F arv ar) {gv : Value} {g : List (List Int)} (hg : RowsF F gv g) {pv : Value} {p : List Int} (hp : IntsF F pv p) {tv : Value} {t : List Int} (ht : IntsF F tv t) (hn : p.length ≤ m) (hop : termOk ar p = true) (hot : termOk ar t = true) (hgl : g.length = 24), Does prog 108 [.agg #[arv], gv, pv, tv] F L (fun v F' L' => (∃ (a : Value), (.tuple #[a, .bool ((mGo ar t p 0 g).isSome)] : Value) = v ∧ (SomeRowsF F' a (fun g2 => g2.length = 24 ∧ ∀ x, mGo ar t p 0 g = some x → g2 = x))) ∧ L = L')) {F : FH} {L : List HP}  {arv : Value} {ar : List Int} (har : IntsF F arv ar) {gv : Value} {g : List (List Int)} (hg : RowsF F gv g) {pv : Value} {p : List Int} (hp : IntsF F pv p) {tv : Value} {t : List Int} (ht : IntsF F tv t) (hn : p.length ≤ n) (hop : termOk ar p = true) (hot : termOk ar t = true) (hgl : g.length = 24) :
    Does prog 108 [.agg #[arv], gv, pv, tv] F (L) (fun v F' L' => (∃ (a : Value), (.tuple #[a, .bool ((mGo ar t p 0 g).isSome)] : Value) = v ∧ (SomeRowsF F' a (fun g2 => g2.length = 24 ∧ ∀ x, mGo ar t p 0 g = some x → g2 = x))) ∧ L = L') := by
 refine qz func108 rfl rfl rfl ?_
 have hpl := termOk_len hop
 have htl := termOk_len hot
 have hp0 := termOk_ge hop (p := 0) (by omega)
 have hal3 := argsL_le hop (p := 0) (by omega)
 have hap : (([] : List (List Int)) ++ g).length = g.length := rfl
 refine qf (qc (cX (qO [arv] rfl rfl ?_)))
 intro b1
 refine qh (sN) rfl (qh (.bool (false)) rfl (qd (qf (qf (qc (qg (pv) rfl (cX (qC qi rfl hp.slv (cX (XOp.eql rfl rfl (qg (.bool (decide (((p.length : Int) : Int) = 0))) rfl ?_)))))))))))
 by_cases h1 : ((p.length : Int) : Int) = 0
 ·omega
 refine qr (t := 20) rfl (vF h1) (qu (tv) rfl (qr (t := 20) rfl (vF h1) (qC qi rfl ht.slv (qr (t := 20) rfl (vF h1) (XOp.eql rfl rfl (cX (qL (.bool (decide (((t.length : Int) : Int) = 0))) (vF h1) rfl (qd ?_))))))))
 refine qx (p := ((t.length : Int) : Int) = 0) rfl (fun h2 => ?_) (fun h2 => ?_)
 ·omega
 refine qw (qf (qf (qc (qg (pv) rfl (cX (qA 0 qi qG rfl rfl rfl hp.slv (by omega) (Nat.mul_one _) (cX (qk ja rfl (hp.rd (by omega)) (cX (qI rfl rfl (qd ?_)))))))))))
 refine qx (p := (p.getD 0 0 : Int) < 0) rfl (fun h3 => ?_) (fun h3 => ?_)
 ·refine qf (qc (qg (pv) rfl (cX (qA 0 qi qG rfl rfl rfl hp.slv (by omega) (Nat.mul_one _) (cX (qk ja rfl (hp.rd (by omega)) (cX (je ((-1) - (p.getD 0 0)) rfl rfl (by omega) (by omega) (qh (ii ((-1) - (p.getD 0 0))) rfl (qd (qf (qf (qc (qg (gv) rfl (qg (ii ((-1) - (p.getD 0 0))) rfl (cX (qA (((-1) - (p.getD 0 0)).toNat) qV qB rfl rfl (by omega) hg.slv (by omega) (Nat.mul_one _) ?_)))))))))))))))))
  obtain ⟨a1, ha1, hr1⟩ := hg.rd (i := ((-1) - (p.getD 0 0)).toNat) (by omega)
  refine cX (qk qK rfl (hr1 _) (cX (qC qi rfl ha1.slv (cX (js rfl rfl (qd ?_))))))
  refine qx (p := (((((g.getD (((-1) - (p.getD 0 0)).toNat) [])).length : Nat) : Int) : Int) > 0) rfl (fun h4 => ?_) (fun h4 => ?_)
  ·refine qf (qc ?_)
   have hnz : 0 < (g.getD (varIx (p.getD 0 0)) []).length := by unfold varIx; omega
   refine qg (gv) rfl (qg (gv) rfl (qg (ii ((-1) - (p.getD 0 0))) rfl (cX (qA (((-1) - (p.getD 0 0)).toNat) qV qB rfl rfl (by omega) hg.slv (by omega) (Nat.mul_one _) (cX (qk qK rfl (hr1 _) (qg (tv) rfl (cX (ql (args := [a1, tv]) call91 rfl (SameTerm_spec ha1 ht (hbd := (by first | assumption | rfl | omega | (left; simp; done) | (right; simp; done)))) ?_)))))))))
   rintro _ _ _ _ ⟨rfl, rfl, rfl⟩
   refine qh (gv) rfl (qh (.bool (decide (((g.getD (((-1) - (p.getD 0 0)).toNat) [])) = t))) rfl (qd (qs (qj (qj (qm (L' := L) [gv, .bool (decide (((g.getD (((-1) - (p.getD 0 0)).toNat) [])) = t))] (.tuple #[gv, .bool (decide (((g.getD (((-1) - (p.getD 0 0)).toNat) [])) = t))]) (.tmp rfl (.tmp rfl .nil)) rfl rF rF (sD sR) ?_))))))
   have e : mGo ar t p 0 g = if g.getD (varIx (p.getD 0 0)) [] = t then some g else none := by rw [mGo_var hop hot (by omega), if_neg (fun q => by rw [q] at hnz; simp at hnz)]
   exact ⟨⟨_, by rw [e]; split <;> simp_all [varIx], ⟨_, hg, hgl, fun x hx => (by rw [e] at hx; split at hx <;> first | exact Option.some.inj hx | cases hx)⟩⟩, rfl⟩
  refine qw (qf (qc (cX (qS (s := 1) [] [sN] [] qV qB zeroValue22 rfl (by decide) rfl CellsAre.nil rfl ?_))))
  intro v1 hv1
  refine qg (gv) rfl ?_
  have hc1 : RowsC F [] ([] : List (List Int)) := (CO.nil : RowsC F [] [])
  refine cX (XOp.appendRows (bytes := 24) (cs := []) [] _ qV typeInfo22 rfl rfl rfl rfl rfl rfl rfl hc1 hg (by omega) (by omega) ?_)
  intro v2 ds1 hs1 hc2
  refine qh (v2) rfl (qd (qf (qc (qg (v2) rfl (qg (ii ((-1) - (p.getD 0 0))) rfl (qg (tv) rfl (cX (qA (((-1) - (p.getD 0 0)).toNat) qV qB rfl rfl (by omega) (SlV.own [] rfl) (by omega) (Nat.mul_one _) (cX (XOp.storeS (i := ((-1) - (p.getD 0 0)).toNat) (cs := ([] ++ ds1)) [] _ qB rfl rfl (jf (qU ht)) rfl (by have h9 := CO.len hc2; (try simp only [List.length_set, List.length_replicate] at h9 ⊢) <;> omega) ?_))))))))))
  have hc3 := hc2.set (((-1) - (p.getD 0 0)).toNat) ht
  refine qd (qf (qc (qg (v2) rfl (qh (v2) rfl (qh (.bool (true)) rfl (qd (jn [] _ _ rfl (fun F1 le1 hz1 => ?_))))))))
  replace har := har.mono le1
  replace hg := hg.mono le1
  replace hp := hp.mono le1
  replace ht := ht.mono le1
  replace hc3 := hc3.mono le1
  have hf1 : RowsF F1 v2 ((((([] : List (List Int)) ++ g)).set (((-1) - (p.getD 0 0)).toNat) t)) := CO.fz hc3 (by first | rfl | omega | (rw [List.length_set]; omega) | (simp; done)) hz1.fz
  refine qs (qj (qm (L' := L) [v2, .bool (true)] (.tuple #[v2, .bool (true)]) (.tmp rfl (.tmp rfl .nil)) rfl le1 rF (sD sR) ?_))
  have e : mGo ar t p 0 g = some (g.set (varIx (p.getD 0 0)) t) := by rw [mGo_var hop hot (by omega), if_pos (show g.getD (varIx (p.getD 0 0)) [] = [] from len_nil (by unfold varIx; omega))]
  exact ⟨⟨_, by rw [e]; rfl, ⟨_, hf1, by simp; omega, fun x hx => (by rw [e] at hx; exact Option.some.inj hx)⟩⟩, rfl⟩
 refine qw (qf (qf ?_))
 refine X.draw [cellsH b1 [arv] 30] L 6 [] [[], [0], [1], [], [3], [4]] (phiL [qe pv, qe (.pointer (some (elemA pv (0)))), qe (ii (p.getD 0 0)), qe tv, qe (.pointer (some (elemA tv (0)))), qe (ii (t.getD 0 0))]) (ownL []) mixed rfl rfl (by kernel_rfl) ?_ ?_
 ·refine pD (fun W R z9 => ?_) ?_
  ·refine qo (qu (pv) rfl ?_)
   exact ⟨rfl, rfl, rfl⟩
  refine pD (fun W R z9 => ?_) ?_
  ·rw [eS (l := [(0, _)]) ⟨z9 0 rfl, ⟨⟩⟩]
   refine qo (qA 0 qi qG rfl rfl rfl hp.slv (by omega) (Nat.mul_one _) ?_)
   exact ⟨rfl, rfl, rfl⟩
  refine pD (fun W R z9 => ?_) ?_
  ·rw [eS (l := [(1, _)]) ⟨z9 1 rfl, ⟨⟩⟩]
   refine qo (qk ja rfl (hp.rd (by omega)) ?_)
   exact ⟨rfl, rfl, rfl⟩
  refine pD (fun W R z9 => ?_) ?_
  ·refine qo (qu (tv) rfl ?_)
   exact ⟨rfl, rfl, rfl⟩
  refine pD (fun W R z9 => ?_) ?_
  ·rw [eS (l := [(3, _)]) ⟨z9 3 rfl, ⟨⟩⟩]
   refine qo (qA 0 qi qG rfl rfl rfl ht.slv (by omega) (Nat.mul_one _) ?_)
   exact ⟨rfl, rfl, rfl⟩
  refine pD (fun W R z9 => ?_) ?_
  ·rw [eS (l := [(4, _)]) ⟨z9 4 rfl, ⟨⟩⟩]
   refine qo (qk ja rfl (ht.rd (by omega)) ?_)
   exact ⟨rfl, rfl, rfl⟩
  exact stepsP.nil
 intro W hphi
 rw [eS (l := [(2, _), (5, _)]) ⟨(hphi 2 (by decide)), (hphi 5 (by decide)), ⟨⟩⟩]
 show XL _ _ _ _ _ _ _ (cellsH b1 [arv] 30 :: L)
 refine cX (XOp.neq rfl rfl (qd ?_))
 refine qx (p := (p.getD 0 0 : Int) ≠ t.getD 0 0) rfl (fun h5 => ?_) (fun h5 => ?_)
 ·have hd : ¬ p.getD 0 0 = t.getD 0 0 := h5
  refine qf (qc (qg (gv) rfl (qh (gv) rfl (qh (.bool (false)) rfl (qd (qs (qj (qm (L' := L) [gv, .bool (false)] (.tuple #[gv, .bool (false)]) (.tmp rfl (.tmp rfl .nil)) rfl rF rF (sD sR) ?_))))))))
  have e : mGo ar t p 0 g = none := mGo_symN hop (by omega) hd
  exact ⟨⟨_, by rw [e]; rfl, ⟨_, hg, by omega, fun x hx => (by rw [e] at hx; cases hx)⟩⟩, rfl⟩
 have hd0 : p.getD 0 0 = t.getD 0 0 := Classical.not_not.1 h5
 have hll : (argsL ar p 0).length = (argsL ar t 0).length := by rw [argsL_len, argsL_len, hd0]
 refine qw (qf (qc (cX (qt [arv] qP qD rfl rfl (Rd.ownN [] rfl rfl) (qg (pv) rfl (cX (XOp.frzF <| ql (args := [.agg #[arv], pv, ii ((0 : Nat) : Int)]) call130 rfl (ArgsAt_spec (p := 0) har hp (ho := (by first | assumption | rfl | omega | simp)) (hp := (by first | assumption | rfl | omega | simp))) ?_)))))))
 rintro v3 _ _ _ ⟨rfl, hs2, rfl⟩
 refine ⟨_, _, rfl, fun F2 le2 hz2 => ?_⟩
 replace har := har.mono le2
 replace hg := hg.mono le2
 replace hp := hp.mono le2
 replace ht := ht.mono le2
 have hf2 : IntsF F2 v3 ((argsL ar p 0)) := intsH.fz (xs := (argsL ar p 0)) hz2.fz
 refine qh (v3) rfl (qd (qf (qc (cX (qt [arv] qP qD rfl rfl (Rd.ownN [] rfl rfl) (qg (tv) rfl (cX (XOp.frzF <| ql (args := [.agg #[arv], tv, ii ((0 : Nat) : Int)]) call130 rfl (ArgsAt_spec (p := 0) har ht (ho := (by first | assumption | rfl | omega | simp)) (hp := (by first | assumption | rfl | omega | simp))) ?_))))))))
 rintro v4 _ _ _ ⟨rfl, hs3, rfl⟩
 refine ⟨_, _, rfl, fun F3 le3 hz3 => ?_⟩
 replace har := har.mono le3
 replace hg := hg.mono le3
 replace hp := hp.mono le3
 replace ht := ht.mono le3
 replace hf2 := hf2.mono le3
 have hf3 : IntsF F3 v4 ((argsL ar t 0)) := intsH.fz (xs := (argsL ar t 0)) hz3.fz
 refine qh (v4) rfl (qd (qf (qf (qc (qh (ii (0)) rfl (qd (qE (qY (α := Nat × Nat × Nat × Nat × Value × List (List Int) × FH) (fun xQ => [(1, xQ.2.2.2.2.1), (2, pv), (3, tv), (4, ptr b1 0), (12, v3), (13, v4), (14, ii (((xQ.1 : Nat) : Int)))]) (fun xQ => cellsH b1 [arv] 30 :: L) (fun xQ F' => xQ.2.2.2.2.2.2 = F' ∧ F3 ≤ xQ.2.2.2.2.2.2 ∧ (RowsF xQ.2.2.2.2.2.2 xQ.2.2.2.2.1 xQ.2.2.2.2.2.1) ∧ (xQ.2.2.2.2.2.1.length = 24) ∧ (ArgAt ar p xQ.1 xQ.2.1 xQ.2.2.1) ∧ (ArgAt ar t xQ.1 xQ.2.1 xQ.2.2.2.1) ∧ (xQ.2.1 + xQ.1 = (argsL ar p 0).length) ∧ (1 ≤ xQ.2.2.1) ∧ (mGo ar t p 0 g = mGo ar t (p.drop xQ.2.2.1) xQ.2.2.2.1 xQ.2.2.2.2.2.1)) (fun xQ => (argsL ar p 0).length - xQ.1) (0, (argsL ar p 0).length, 1, 1, gv, g, F3) ⟨rfl, rfl, rfl, rfl, rfl, rfl, rfl, ⟨⟩⟩ (sC sR) ⟨rfl, FLe.refl _, (hg), (hgl), (ArgAt.start hop), (by rw [hll]; exact ArgAt.start hot), (rfl), (Nat.le_refl _), (mGo_symS hop hot (by omega) hd0)⟩ ?_))))))))
 rintro ⟨k, m, qa, qb, gv2, gs, G1⟩ rE _ _ ⟨rfl, leG, hgv, hgn, hA, hB, hkm, hqa1, hgo⟩
 show X _ _ _ _ (envs [(1, gv2), (2, pv), (3, tv), (4, ptr b1 0), (12, v3), (13, v4), (14, ii ((k : Int)))] rE) _ (cellsH b1 [arv] 30 :: L)
 replace leG : F3 ≤ G1 := leG
 dsimp only at hgv hgn hA hB hkm hqa1 hgo
 have hxa := fun (h : 1 ≤ m) => ArgAt.next hop (m := m - 1) (by rw [Nat.sub_add_cancel h]; exact hA)
 have hxb := fun (h : 1 ≤ m) => ArgAt.next hot (m := m - 1) (by rw [Nat.sub_add_cancel h]; exact hB)
 have hsa := fun (h : 1 ≤ m) => sub_ok hop (hxa h).2.1
 have hsb := fun (h : 1 ≤ m) => sub_ok hot (hxb h).2.1
 have leG1 := leG
 replace har := har.mono leG1
 replace hp := hp.mono leG1
 replace ht := ht.mono leG1
 replace hf2 := hf2.mono leG1
 replace hf3 := hf3.mono leG1
 refine qf (qf (qc (qg (ii ((k : Int))) rfl (qg (v3) rfl (cX (qC qi rfl hf2.slv (cX (qI rfl rfl (qd ?_)))))))))
 refine qx (p := (k : Int) < ((((argsL ar p 0)).length : Nat) : Int)) rfl (fun h6 => ?_) (fun h6 => ?_)
 ·have h1m : 1 ≤ m := by omega
  have hq1 : ((argsL ar p 0).getD k 0).toNat = qa := by have h9 := (hxa h1m).1; omega
  have hq2 : ((argsL ar t 0).getD k 0).toNat = qb := by have h9 := (hxb h1m).1; omega
  have hq3 : 0 ≤ (argsL ar p 0).getD k 0 := by have h9 := (hxa h1m).1; omega
  have hq4 : 0 ≤ (argsL ar t 0).getD k 0 := by have h9 := (hxb h1m).1; omega
  have hq5 : ((argsL ar p 0).getD k 0).toNat < p.length := by rw [hq1]; exact (hxa h1m).2.1
  have hq6 : ((argsL ar t 0).getD k 0).toNat < t.length := by rw [hq2]; exact (hxb h1m).2.1
  have hq7 : (sub ar p ((argsL ar p 0).getD k 0).toNat).length < p.length := by rw [hq1]; exact argAt_less hop (hxa h1m).2.1 hqa1
  have hq8 : termOk ar (sub ar p ((argsL ar p 0).getD k 0).toNat) = true := sub_ok hop hq5
  have hq9 : termOk ar (sub ar t ((argsL ar t 0).getD k 0).toNat) = true := sub_ok hot hq6
  refine qw (qf (qE (qf ?_)))
  refine X.drawG [cellsH b1 [arv] 30] L 21 [[], [], [], [], [], [], [], [], [], [], [], [], [], [], [], [], [], [16], [16], [], [16]] [[], [], [], [], [], [], [4, 5], [6], [2, 3, 7], [], [], [], [], [11, 12], [13], [9, 10, 14], [0, 1, 8, 15], [16], [16, 17], [16, 17], [16, 18]] [] (phiG [pe (.agg #[arv]), pe gv2, pe (.agg #[arv]), pe pv, pe v3, pe (ii ((k : Int)) : Value), pe (.pointer (some (elemA v3 (k)))), pe (ii (((argsL ar p 0)).getD k 0)), fun FF us v => ((v) : Value) = v ∧ (IntsF FF (v) (sub ar p ((((argsL ar p 0)).getD k 0).toNat))), pe (.agg #[arv]), pe tv, pe v4, pe (ii ((k : Int)) : Value), pe (.pointer (some (elemA v4 (k)))), pe (ii (((argsL ar t 0)).getD k 0)), fun FF us v => ((v) : Value) = v ∧ (IntsF FF (v) (sub ar t ((((argsL ar t 0)).getD k 0).toNat))), fun FF us v => (.tuple #[((tupAt v 0)), .bool ((mGo ar (sub ar t ((((argsL ar t 0)).getD k 0).toNat)) (sub ar p ((((argsL ar p 0)).getD k 0).toNat)) 0 gs).isSome)] : Value) = v ∧ (SomeRowsF FF ((tupAt v 0)) (fun g2 => g2.length = 24 ∧ ∀ x, mGo ar (sub ar t ((((argsL ar t 0)).getD k 0).toNat)) (sub ar p ((((argsL ar p 0)).getD k 0).toNat)) 0 gs = some x → g2 = x)), fun FF us v => v = (.tuple #[((tupAt (us.getD 0 undef) 0)), .bool ((mGo ar (sub ar t ((((argsL ar t 0)).getD k 0).toNat)) (sub ar p ((((argsL ar p 0)).getD k 0).toNat)) 0 gs).isSome)] : Value), fun FF us v => v = ((tupAt (us.getD 0 undef) 0)), pe (.bool ((mGo ar (sub ar t ((((argsL ar t 0)).getD k 0).toNat)) (sub ar p ((((argsL ar p 0)).getD k 0).toNat)) 0 gs).isSome)), fun FF us v => v = ((tupAt (us.getD 0 undef) 0))]) (ownL []) mixed rfl rfl (by kernel_rfl) (by kernel_rfl) (MonoG.get (m1 (m1 (m1 (m1 (m1 (m1 (m1 (m1 (mC (fun le h => ⟨h.1, h.2.mono le⟩) (m1 (m1 (m1 (m1 (m1 (m1 (mC (fun le h => ⟨h.1, h.2.mono le⟩) (mC (fun le h => ⟨h.1, h.2.mono le⟩) (mC (fun le h => h) (mC (fun le h => h) (m1 (mC (fun le h => h) MonoG.nil)))))))))))))))))))))) ?_ ?_
  ·refine gD (fun W Fs R lF z9 => ?_) ?_
   ·replace har := har.mono lF
    replace hp := hp.mono lF
    replace ht := ht.mono lF
    replace hf2 := hf2.mono lF
    replace hf3 := hf3.mono lF
    replace hgv := hgv.mono lF
    refine qo (qt [arv] qP qD rfl rfl (Rd.ownN [] rfl rfl) ?_)
    exact ⟨rfl, rfl⟩
   refine gD (fun W Fs R lF z9 => ?_) ?_
   ·refine qo (qu (gv2) rfl ?_)
    exact ⟨rfl, rfl⟩
   refine gD (fun W Fs R lF z9 => ?_) ?_
   ·replace har := har.mono lF
    replace hp := hp.mono lF
    replace ht := ht.mono lF
    replace hf2 := hf2.mono lF
    replace hf3 := hf3.mono lF
    replace hgv := hgv.mono lF
    refine qo (qt [arv] qP qD rfl rfl (Rd.ownN [] rfl rfl) ?_)
    exact ⟨rfl, rfl⟩
   refine gD (fun W Fs R lF z9 => ?_) ?_
   ·refine qo (qu (pv) rfl ?_)
    exact ⟨rfl, rfl⟩
   refine gD (fun W Fs R lF z9 => ?_) ?_
   ·refine qo (qu (v3) rfl ?_)
    exact ⟨rfl, rfl⟩
   refine gD (fun W Fs R lF z9 => ?_) ?_
   ·refine qo (qu (ii ((k : Int))) rfl ?_)
    exact ⟨rfl, rfl⟩
   refine gD (fun W Fs R lF z9 => ?_) ?_
   ·replace har := har.mono lF
    replace hp := hp.mono lF
    replace ht := ht.mono lF
    replace hf2 := hf2.mono lF
    replace hf3 := hf3.mono lF
    replace hgv := hgv.mono lF
    rw [eS (l := [(4, _), (5, _)]) ⟨z9 4 rfl, z9 5 rfl, ⟨⟩⟩]
    refine qo (qA k qi qG rfl rfl rfl hf2.slv (by omega) (Nat.mul_one _) ?_)
    exact ⟨rfl, rfl⟩
   refine gD (fun W Fs R lF z9 => ?_) ?_
   ·replace har := har.mono lF
    replace hp := hp.mono lF
    replace ht := ht.mono lF
    replace hf2 := hf2.mono lF
    replace hf3 := hf3.mono lF
    replace hgv := hgv.mono lF
    rw [eS (l := [(6, _)]) ⟨z9 6 rfl, ⟨⟩⟩]
    refine qo (qk ja rfl (hf2.rd (by omega)) ?_)
    exact ⟨rfl, rfl⟩
   refine gD (fun W Fs R lF z9 => ?_) ?_
   ·replace har := har.mono lF
    replace hp := hp.mono lF
    replace ht := ht.mono lF
    replace hf3 := hf3.mono lF
    replace hgv := hgv.mono lF
    rw [eS (l := [(2, _), (3, _), (7, _)]) ⟨z9 2 rfl, z9 3 rfl, z9 7 rfl, ⟨⟩⟩]
    refine qo (ql (args := [.agg #[arv], pv, ii (((((argsL ar p 0)).getD k 0).toNat : Nat) : Int)]) call131 (by rw [show (((((argsL ar p 0)).getD k 0).toNat : Nat) : Int) = ((argsL ar p 0)).getD k 0 from by omega]; rfl) (sSubAtO_spec (p := (((argsL ar p 0)).getD k 0).toNat) har hp (ho := (by first | assumption | rfl | omega | simp)) (hp := (by first | assumption | rfl | omega | simp))) ?_)
    rintro _ F7 _ le7 ⟨x4, rfl, hr5, rfl⟩
    replace har := har.mono le7
    replace hp := hp.mono le7
    replace ht := ht.mono le7
    replace hf3 := hf3.mono le7
    replace hgv := hgv.mono le7
    exact ⟨⟨rfl, hr5⟩, rfl⟩
   refine gD (fun W Fs R lF z9 => ?_) ?_
   ·replace har := har.mono lF
    replace hp := hp.mono lF
    replace ht := ht.mono lF
    replace hf3 := hf3.mono lF
    replace hgv := hgv.mono lF
    refine qo (qt [arv] qP qD rfl rfl (Rd.ownN [] rfl rfl) ?_)
    exact ⟨rfl, rfl⟩
   refine gD (fun W Fs R lF z9 => ?_) ?_
   ·refine qo (qu (tv) rfl ?_)
    exact ⟨rfl, rfl⟩
   refine gD (fun W Fs R lF z9 => ?_) ?_
   ·refine qo (qu (v4) rfl ?_)
    exact ⟨rfl, rfl⟩
   refine gD (fun W Fs R lF z9 => ?_) ?_
   ·refine qo (qu (ii ((k : Int))) rfl ?_)
    exact ⟨rfl, rfl⟩
   refine gD (fun W Fs R lF z9 => ?_) ?_
   ·replace har := har.mono lF
    replace hp := hp.mono lF
    replace ht := ht.mono lF
    replace hf3 := hf3.mono lF
    replace hgv := hgv.mono lF
    rw [eS (l := [(11, _), (12, _)]) ⟨z9 11 rfl, z9 12 rfl, ⟨⟩⟩]
    refine qo (qA k qi qG rfl rfl rfl hf3.slv (by omega) (Nat.mul_one _) ?_)
    exact ⟨rfl, rfl⟩
   refine gD (fun W Fs R lF z9 => ?_) ?_
   ·replace har := har.mono lF
    replace hp := hp.mono lF
    replace ht := ht.mono lF
    replace hf3 := hf3.mono lF
    replace hgv := hgv.mono lF
    rw [eS (l := [(13, _)]) ⟨z9 13 rfl, ⟨⟩⟩]
    refine qo (qk ja rfl (hf3.rd (by omega)) ?_)
    exact ⟨rfl, rfl⟩
   refine gD (fun W Fs R lF z9 => ?_) ?_
   ·replace har := har.mono lF
    replace hp := hp.mono lF
    replace ht := ht.mono lF
    replace hgv := hgv.mono lF
    rw [eS (l := [(9, _), (10, _), (14, _)]) ⟨z9 9 rfl, z9 10 rfl, z9 14 rfl, ⟨⟩⟩]
    refine qo (ql (args := [.agg #[arv], tv, ii (((((argsL ar t 0)).getD k 0).toNat : Nat) : Int)]) call131 (by rw [show (((((argsL ar t 0)).getD k 0).toNat : Nat) : Int) = ((argsL ar t 0)).getD k 0 from by omega]; rfl) (sSubAtO_spec (p := (((argsL ar t 0)).getD k 0).toNat) har ht (ho := (by first | assumption | rfl | omega | simp)) (hp := (by first | assumption | rfl | omega | simp))) ?_)
    rintro _ F8 _ le8 ⟨x5, rfl, hr6, rfl⟩
    replace har := har.mono le8
    replace hgv := hgv.mono le8
    exact ⟨⟨rfl, hr6⟩, rfl⟩
   refine gD (fun W Fs R lF z9 => ?_) ?_
   ·obtain ⟨e8, f8_2hr⟩ := z9 8 rfl
    obtain ⟨e15, f15_2hr⟩ := z9 15 rfl
    replace har := har.mono lF
    replace hgv := hgv.mono lF
    rw [eS (l := [(0, _), (1, _), (8, ((W 8))), (15, ((W 15)))]) ⟨z9 0 rfl, z9 1 rfl, (e8).symm, (e15).symm, ⟨⟩⟩]
    refine qo (ql (args := [.agg #[arv], gv2, ((W 8)), ((W 15))]) call108 rfl (ih (((sub ar p ((((argsL ar p 0)).getD k 0).toNat))).length) (by omega) har hgv f8_2hr f15_2hr (hn := (by first | assumption | rfl | omega | simp)) (hop := (by first | assumption | rfl | omega | simp)) (hot := (by first | assumption | rfl | omega | simp)) (hgl := (by first | assumption | rfl | omega | simp))) ?_)
    rintro _ F9 _ le9 ⟨⟨x6, rfl, hr7⟩, rfl⟩
    replace hgv := hgv.mono le9
    replace f8_2hr := f8_2hr.mono le9
    replace f15_2hr := f15_2hr.mono le9
    exact ⟨⟨rfl, hr7⟩, rfl⟩
   refine gD (fun W Fs R lF z9 => ?_) ?_
   ·obtain ⟨e16, f16_2hp_a⟩ := z9 16 rfl
    obtain ⟨t16X2_a, f16_2hp_a, q16_2_a0, q16_2_a1⟩ := f16_2hp_a
    rw [eS (l := [(16, (.tuple #[((tupAt (W 16) 0)), .bool ((mGo ar (sub ar t ((((argsL ar t 0)).getD k 0).toNat)) (sub ar p ((((argsL ar p 0)).getD k 0).toNat)) 0 gs).isSome)]))]) ⟨(e16).symm, ⟨⟩⟩]
    refine qo (qu (.tuple #[((tupAt (W 16) 0)), .bool ((mGo ar (sub ar t ((((argsL ar t 0)).getD k 0).toNat)) (sub ar p ((((argsL ar p 0)).getD k 0).toNat)) 0 gs).isSome)]) rfl ?_)
    exact ⟨rfl, rfl⟩
   refine gD (fun W Fs R lF z9 => ?_) ?_
   ·obtain ⟨e16, f16_2hp_a⟩ := z9 16 rfl
    obtain ⟨t16X2_a, f16_2hp_a, q16_2_a0, q16_2_a1⟩ := f16_2hp_a
    have e17 : W 17 = (.tuple #[((tupAt (W 16) 0)), .bool ((mGo ar (sub ar t ((((argsL ar t 0)).getD k 0).toNat)) (sub ar p ((((argsL ar p 0)).getD k 0).toNat)) 0 gs).isSome)] : Value) := z9 17 rfl
    rw [eS (l := [(16, (.tuple #[((tupAt (W 16) 0)), .bool ((mGo ar (sub ar t ((((argsL ar t 0)).getD k 0).toNat)) (sub ar p ((((argsL ar p 0)).getD k 0).toNat)) 0 gs).isSome)])), (17, (.tuple #[((tupAt (W 16) 0)), .bool ((mGo ar (sub ar t ((((argsL ar t 0)).getD k 0).toNat)) (sub ar p ((((argsL ar p 0)).getD k 0).toNat)) 0 gs).isSome)]))]) ⟨(e16).symm, e17, ⟨⟩⟩]
    refine qo (qF (((tupAt (W 16) 0))) rfl rfl ?_)
    exact ⟨rfl, rfl⟩
   refine gD (fun W Fs R lF z9 => ?_) ?_
   ·obtain ⟨e16, f16_2hp_a⟩ := z9 16 rfl
    obtain ⟨t16X2_a, f16_2hp_a, q16_2_a0, q16_2_a1⟩ := f16_2hp_a
    have e17 : W 17 = (.tuple #[((tupAt (W 16) 0)), .bool ((mGo ar (sub ar t ((((argsL ar t 0)).getD k 0).toNat)) (sub ar p ((((argsL ar p 0)).getD k 0).toNat)) 0 gs).isSome)] : Value) := z9 17 rfl
    rw [eS (l := [(16, (.tuple #[((tupAt (W 16) 0)), .bool ((mGo ar (sub ar t ((((argsL ar t 0)).getD k 0).toNat)) (sub ar p ((((argsL ar p 0)).getD k 0).toNat)) 0 gs).isSome)])), (17, (.tuple #[((tupAt (W 16) 0)), .bool ((mGo ar (sub ar t ((((argsL ar t 0)).getD k 0).toNat)) (sub ar p ((((argsL ar p 0)).getD k 0).toNat)) 0 gs).isSome)]))]) ⟨(e16).symm, e17, ⟨⟩⟩]
    refine qo (qF (.bool ((mGo ar (sub ar t ((((argsL ar t 0)).getD k 0).toNat)) (sub ar p ((((argsL ar p 0)).getD k 0).toNat)) 0 gs).isSome)) rfl rfl ?_)
    exact ⟨rfl, rfl⟩
   refine gD (fun W Fs R lF z9 => ?_) ?_
   ·obtain ⟨e16, f16_2hp_a⟩ := z9 16 rfl
    obtain ⟨t16X2_a, f16_2hp_a, q16_2_a0, q16_2_a1⟩ := f16_2hp_a
    have e18 : W 18 = ((tupAt (W 16) 0)) := z9 18 rfl
    rw [eS (l := [(16, (.tuple #[((tupAt (W 16) 0)), .bool ((mGo ar (sub ar t ((((argsL ar t 0)).getD k 0).toNat)) (sub ar p ((((argsL ar p 0)).getD k 0).toNat)) 0 gs).isSome)])), (18, ((tupAt (W 16) 0)))]) ⟨(e16).symm, e18, ⟨⟩⟩]
    refine qo (XOp.assign (((tupAt (W 16) 0))) rfl ?_)
    exact ⟨rfl, rfl⟩
   exact stepsG.nil
  intro W F10 le10 hphi
  obtain ⟨e8, f8_2hr⟩ := hphi 8 (by decide)
  obtain ⟨e15, f15_2hr⟩ := hphi 15 (by decide)
  obtain ⟨e16, f16_2hp_a⟩ := hphi 16 (by decide)
  obtain ⟨t16X2_a, f16_2hp_a, q16_2_a0, q16_2_a1⟩ := f16_2hp_a
  have e17 : W 17 = (.tuple #[((tupAt (W 16) 0)), .bool ((mGo ar (sub ar t ((((argsL ar t 0)).getD k 0).toNat)) (sub ar p ((((argsL ar p 0)).getD k 0).toNat)) 0 gs).isSome)] : Value) := hphi 17 (by decide)
  have e18 : W 18 = ((tupAt (W 16) 0)) := hphi 18 (by decide)
  have e20 : W 20 = ((tupAt (W 16) 0)) := hphi 20 (by decide)
  generalize hu1 : ((W 8)) = u1 at e8 f8_2hr e15 f15_2hr e16 f16_2hp_a e17 e18 e20
  generalize hu2 : ((W 15)) = u2 at e8 f8_2hr e15 f15_2hr e16 f16_2hp_a e17 e18 e20
  generalize hu3 : ((tupAt (W 16) 0)) = u3 at e8 f8_2hr e15 f15_2hr e16 f16_2hp_a e17 e18 e20
  rw [eS (l := [(16, (.tuple #[u3, .bool ((mGo ar (sub ar t ((((argsL ar t 0)).getD k 0).toNat)) (sub ar p ((((argsL ar p 0)).getD k 0).toNat)) 0 gs).isSome)])), (19, _), (20, u3)]) ⟨(e16).symm, (hphi 19 (by decide)), e20, ⟨⟩⟩]
  replace hgv := hgv.mono le10
  show XL _ _ _ _ _ _ _ (cellsH b1 [arv] 30 :: L)
  refine qh (.bool ((mGo ar (sub ar t ((((argsL ar t 0)).getD k 0).toNat)) (sub ar p ((((argsL ar p 0)).getD k 0).toNat)) 0 gs).isSome)) rfl (qd (qf (qf (qc (qg (.bool ((mGo ar (sub ar t ((((argsL ar t 0)).getD k 0).toNat)) (sub ar p ((((argsL ar p 0)).getD k 0).toNat)) 0 gs).isSome)) rfl (cX (qZ rfl (qd ?_))))))))
  refine jq (t := !((mGo ar (sub ar t ((((argsL ar t 0)).getD k 0).toNat)) (sub ar p ((((argsL ar p 0)).getD k 0).toNat)) 0 gs).isSome)) rfl (fun h7 => ?_) (fun h7 => ?_)
  ·have hmf : (mGo ar (sub ar t qb) (sub ar p qa) 0 gs).isSome = false := by have h9 := Bool.not_inj (y := false) h7; rw [hq1, hq2] at h9; exact h9
   refine qf (qc (qg (gv2) rfl (qh (gv2) rfl (qh (.bool (false)) rfl (qd (qs (qj (qy (qj (qj (qy (qj (qm (L' := L) [gv2, .bool (false)] (.tuple #[gv2, .bool (false)]) (.tmp rfl (.tmp rfl .nil)) rfl (qp (qp (qp le2 le3) leG1) le10) rF (sD sR) ?_)))))))))))))
   have e : mGo ar t p 0 g = none := hgo.trans (mGo_argN hop hot (hxa h1m).2.1 (hxb h1m).2.1 hmf)
   exact ⟨⟨_, by rw [e]; rfl, ⟨_, hgv, by omega, fun x hx => (by rw [e] at hx; cases hx)⟩⟩, rfl⟩
  have hms : mGo ar (sub ar t qb) (sub ar p qa) 0 gs = some t16X2_a := opt_is (by have h9 := Bool.not_inj (y := true) h7; rw [hq1, hq2] at h9; exact h9) (fun r hr => q16_2_a1 r (by rw [hq1, hq2]; exact hr))
  refine qw (qc (qg (u3) rfl (qh (u3) rfl (qd (qc (qg (ii ((k : Int))) rfl (cX (qM (((k + 1 : Nat) : Int)) rfl rfl (by omega) (by omega) (qh (ii (((k + 1 : Nat) : Int))) rfl (qd ?_))))))))))
  exact ⟨(k + 1, m - 1, endN ar p qa, endN ar t qb, u3, t16X2_a, F10), _, (qp leG1 le10), rF, ⟨rfl, rfl, rfl, rfl, rfl, rfl, rfl, ⟨⟩⟩, (sC sR), ⟨rfl, (qp leG1 le10), (f16_2hp_a), (q16_2_a0), ((hxa (by omega)).2.2), ((hxb (by omega)).2.2), (by (try dsimp only) <;> omega), (by have h9 := endN_spec hop (hxa h1m).2.1; (try dsimp only); omega), (hgo.trans (mGo_argS hop hot (hxa (by omega)).2.1 (hxb (by omega)).2.1 hms))⟩, (by omega)⟩
 have h0m : m = 0 := by omega
 subst h0m
 have hqa := ArgAt.done hA
 have hqb := ArgAt.done hB
 refine qX (qv (qv (qJ (qf (qc (qg (gv2) rfl (qh (gv2) rfl (qh (.bool (true)) rfl (qd (qs (qm (L' := L) [gv2, .bool (true)] (.tuple #[gv2, .bool (true)]) (.tmp rfl (.tmp rfl .nil)) rfl (qp (qp le2 le3) leG1) rF (sD sR) ?_)))))))))))
 have e : mGo ar t p 0 g = some gs := hgo.trans (mGo_done (by omega))
 exact ⟨⟨_, by rw [e]; rfl, ⟨_, hgv, hgn, fun x hx => (by rw [e] at hx; exact Option.some.inj hx)⟩⟩, rfl⟩

theorem l20Match_spec (n : Nat) : ∀ {F : FH} {L : List HP}  {arv : Value} {ar : List Int} (har : IntsF F arv ar) {gv : Value} {g : List (List Int)} (hg : RowsF F gv g) {pv : Value} {p : List Int} (hp : IntsF F pv p) {tv : Value} {t : List Int} (ht : IntsF F tv t) (hn : p.length ≤ n) (hop : termOk ar p = true) (hot : termOk ar t = true) (hgl : g.length = 24), Does prog 108 [.agg #[arv], gv, pv, tv] F L (fun v F' L' => (∃ (a : Value), (.tuple #[a, .bool ((mGo ar t p 0 g).isSome)] : Value) = v ∧ (SomeRowsF F' a (fun g2 => g2.length = 24 ∧ ∀ x, mGo ar t p 0 g = some x → g2 = x))) ∧ L = L') := by
  induction n using Nat.strongRecOn with
  | _ n ih =>
    intros
    exact l20Match_spec_step ih (by assumption) (by assumption) (by assumption) (by assumption) (by assumption) (by assumption) (by assumption) (by assumption)
end Go.Proofs.Ytenomejgjcpbdaa
