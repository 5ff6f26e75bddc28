/-
  Walks, one after the other (part 1).
-/
import Derived.Test.YteodlimhopibkaaGreatQAEL1
import Derived.Test.YteodlimhopibkaaGreatProg
import Derived.KernelRfl
set_option linter.unusedSimpArgs false
set_option linter.unusedVariables false
namespace Go.Proofs.YteodlimhopibkaaGreat
open Go X M Tryz
theorem qc : type_of% @FLe.trans := @FLe.trans
theorem qd : type_of% @X.region := @X.region
theorem qf : type_of% @XL.nil := @XL.nil
theorem qg : type_of% @X.seq := @X.seq
theorem qh : type_of% @runUnderlying24 := @runUnderlying24
theorem qi : type_of% @XL.mv := @XL.mv
theorem qj : type_of% @XL.as := @XL.as
theorem qk : type_of% @XG.op := @XG.op
theorem ql : type_of% @thenQ_ret := @thenQ_ret
theorem qm : type_of% @XOp.load1 := @XOp.load1
theorem qn : type_of% @XOp.call := @XOp.call
theorem qo : type_of% @XOp.move := @XOp.move
theorem qp : type_of% @XL.no := @XL.no
theorem qq : type_of% @XOp.fieldP := @XOp.fieldP
theorem qr : type_of% @XL.yes := @XL.yes
theorem qs : type_of% @XOp.loadN := @XOp.loadN
theorem qt : type_of% @retEnd := @retEnd
theorem qu : type_of% @X.ret := @X.ret
theorem qv : type_of% @IntsF.isSl := @IntsF.isSl
theorem qw : type_of% @ones_cons := @ones_cons
theorem qx : type_of% @XOp.buildSlice := @XOp.buildSlice
theorem qy : type_of% @sizeOf24 := @sizeOf24
theorem qz : type_of% @X.skip := @X.skip
theorem qA : type_of% @thenQ_exit := @thenQ_exit
theorem qB : type_of% @sizeOf26 := @sizeOf26
theorem qC : type_of% @sizeOf2 := @sizeOf2
theorem qD : type_of% @XOp.indexS := @XOp.indexS
theorem qE : type_of% @XOp.lenS := @XOp.lenS
theorem qF : type_of% @runUnderlying29 := @runUnderlying29
theorem qG : type_of% @XOp.extract := @XOp.extract
theorem qH : type_of% @X.condD := @X.condD
theorem qI : type_of% @blockQ_ret := @blockQ_ret
theorem qJ : type_of% @one_sl := @one_sl
theorem qK : type_of% @sizeOf29 := @sizeOf29
theorem qL : type_of% @Does.of_X := @Does.of_X
theorem qM : type_of% @XOp.pickF := @XOp.pickF
theorem qN : type_of% @XOp.pickT := @XOp.pickT
theorem qO : type_of% @XOp.storeN := @XOp.storeN
theorem qP : type_of% @zeroValue2 := @zeroValue2
theorem qQ : type_of% @X.block := @X.block
theorem qR : type_of% @runUnderlying51 := @runUnderlying51
theorem qS : type_of% @XOp.addR := @XOp.addR
theorem qT : type_of% @ones_nil := @ones_nil
theorem qU : type_of% @runUnderlying27 := @runUnderlying27
theorem qV : type_of% @blockQ_exit := @blockQ_exit
theorem qW : type_of% @isAgg26 := @isAgg26
theorem qX : type_of% @isAgg24 := @isAgg24
theorem qY : type_of% @isAgg29 := @isAgg29
theorem qZ : type_of% @Does.at := @Does.at
theorem ja : type_of% @runUnderlying70 := @runUnderlying70
theorem jb : type_of% @XOp.lss := @XOp.lss
theorem jc : type_of% @runUnderlying26 := @runUnderlying26
theorem jd : type_of% @runUnderlying95 := @runUnderlying95
theorem je : type_of% @XOp.box := @XOp.box
theorem jf : type_of% @XL.freezeF := @XL.freezeF
theorem jg : type_of% @XOp.notB := @XOp.notB
theorem jh : type_of% @runUnderlying49 := @runUnderlying49
theorem ji : type_of% @X.freezeF := @X.freezeF
theorem jj : type_of% @isAgg2 := @isAgg2
theorem jk : type_of% @XOp.build := @XOp.build
theorem jl : type_of% @XOp.subR := @XOp.subR
theorem jm : type_of% @XOp.alloc := @XOp.alloc
theorem jn : type_of% @X.exit := @X.exit
theorem jo : type_of% @XOp.assign := @XOp.assign
theorem jp : type_of% @sizeOf27 := @sizeOf27
theorem jq : type_of% @XG.yes := @XG.yes
theorem jr : type_of% @X.loop := @X.loop
theorem js : type_of% @X.cond := @X.cond
theorem jt : type_of% @loadNV := @loadNV
theorem ju : type_of% @runUnderlying40 := @runUnderlying40
theorem jv : type_of% @sizeOf51 := @sizeOf51
theorem jw : type_of% @runUnderlying71 := @runUnderlying71
theorem jx : type_of% @sizeOf49 := @sizeOf49
theorem jy : type_of% @sizeOf70 := @sizeOf70
theorem jz : type_of% @isAgg27 := @isAgg27
theorem jA : type_of% @XOp.nilCheck := @XOp.nilCheck
theorem jB : type_of% @runUnderlying44 := @runUnderlying44
theorem jC : type_of% @XG.no := @XG.no
theorem jD : type_of% @XOp.eql := @XOp.eql
theorem jE : type_of% @isSl_lit := @isSl_lit
theorem jF : type_of% @XOp.gtr := @XOp.gtr
theorem jG : type_of% @X.drawG := @X.drawG
theorem jH : type_of% @X.condT := @X.condT
theorem jI : type_of% @runUnderlying114 := @runUnderlying114
theorem jJ : type_of% @sizeOf95 := @sizeOf95
theorem jK : type_of% @sizeOf71 := @sizeOf71
theorem jL : type_of% @XOp.store1 := @XOp.store1
theorem jM : type_of% @zeroValue71 := @zeroValue71
theorem jN : type_of% @Sub.trans := @Sub.trans
theorem jO : type_of% @call42 := @call42
theorem jP : type_of% @zeroValue51 := @zeroValue51
theorem jQ : type_of% @zeroValue29 := @zeroValue29
theorem jR : type_of% @XOp.frzF := @XOp.frzF
theorem jS : type_of% @X.condF := @X.condF
theorem jT : type_of% @zeroValue95 := @zeroValue95
theorem jU : type_of% @sizeOf40 := @sizeOf40
theorem jV : type_of% @XOp.fieldE := @XOp.fieldE
theorem jW : type_of% @XOp.geq := @XOp.geq
theorem jX : type_of% @sizeOf89 := @sizeOf89
theorem jY : type_of% @XG.noU := @XG.noU
theorem jZ : type_of% @runUnderlying38 := @runUnderlying38
theorem ya : type_of% @runUnderlying75 := @runUnderlying75
theorem yb : type_of% @sizeOf38 := @sizeOf38
theorem yc : type_of% @Sub.keep := @Sub.keep
theorem yd : type_of% @XOp.appendI := @XOp.appendI

theorem mixed : prog.follows .mixedOrders = true := by kernel_rfl

/- impl.arityAt -/
theorem arityAt_spec {F : FH} {L : List HP} {arv : Value} {ar : List Int} (har : IntsF F arv ar) {n : Int} (hn : n < (ar.length : Int)) :
    Does prog 107 [.agg #[arv], ii (n)] F (L) (fun v F' L' => (ii (arity ar n) : Value) = v ∧ F = F' ∧ L = L') := by
 refine qL func107 rfl rfl rfl (qg (qd (cX (je [arv] rfl rfl ?_))))
 intro b1
 refine qj (ii (0)) rfl (qf (qg (qg (qd (qi (ii (n)) rfl (cX (jb rfl rfl (qf ?_))))))))
 refine qH (p := (n : Int) < 0) rfl (fun h1 => ?_) (fun h1 => ?_)
 ·refine qg (qd (qj (ii (0)) rfl (qf (qu (ql (qt (L' := L) [ii (0)] (ii (0)) (.tmp rfl .nil) rfl rF rF (sD sR) ?_))))))
  exact ⟨(vI (by simp [arity, *])), rfl, rfl⟩
 refine qz (qg (qd (cX (qq (0) jc rfl qy (by decide) rfl rfl (cX (qm qX rfl (Rd.own [] rfl rfl) (qi (ii (n)) rfl (cX (qD ((n).toNat) qh qC rfl rfl (by omega) har.slv (by omega) (Nat.mul_one _) (cX (qm jj rfl (har.rd (by omega)) (qj (ii (ar.getD ((n).toNat) 0)) rfl (qf (qu (qt (L' := L) [ii (ar.getD ((n).toNat) 0)] (ii (ar.getD ((n).toNat) 0)) (.tmp rfl .nil) rfl rF rF (sD sR) ?_)))))))))))))))
 exact ⟨(vI (by simp [arity, *])), rfl, rfl⟩

/- impl.SigOk -/
theorem SigOk_spec {F : FH} {L : List HP} {arv : Value} {ar : List Int} (har : IntsF F arv ar) :
    Does prog 53 [.agg #[arv]] F (L) (fun v F' L' => (.bool (sigOk ar) : Value) = v ∧ F = F' ∧ L = L') := by
 refine qL func53 rfl rfl rfl (qg (qd (cX (je [arv] rfl rfl ?_))))
 intro b1
 refine qj (.bool (false)) rfl (qf (qg (qg (qd (cX (qq (0) jc rfl qy (by decide) rfl rfl (cX (qm qX rfl (Rd.own [] rfl rfl) (cX (qE qh rfl har.slv (cX (jb rfl rfl (qi (.bool (decide (((ar.length : Int) : Int) < 1))) rfl ?_)))))))))))))
 by_cases h1 : ((ar.length : Int) : Int) < 1
 ·refine qp (t := 9) rfl (vT h1) (qp (t := 9) rfl (vT h1) (qp (t := 9) rfl (vT h1) (qp (t := 9) rfl (vT h1) (cX (qN (.bool (true)) (vT h1) rfl (qf (jH rfl (qg (qd (qj (.bool (false)) rfl (qf ?_)))))))))))
  refine qu (ql (qt (L' := L) [.bool (false)] (.bool (false)) (.tmp rfl .nil) rfl rF rF (sD sR) ?_))
  exact ⟨(vB (sigOk_short (by omega))), rfl, rfl⟩
 refine qr (t := 9) rfl (vF h1) (qq (0) jc rfl qy (by decide) rfl rfl (qr (t := 9) rfl (vF h1) (qm qX rfl (Rd.own [] rfl rfl) (qr (t := 9) rfl (vF h1) (qE qh rfl har.slv (qr (t := 9) rfl (vF h1) (jF rfl rfl (cX (qM (.bool (decide (((ar.length : Int) : Int) > 8))) (vF h1) rfl (qf ?_))))))))))
 refine qH (p := ((ar.length : Int) : Int) > 8) rfl (fun h2 => ?_) (fun h2 => ?_)
 ·refine qg (qd (qj (.bool (false)) rfl (qf (qu (ql (qt (L' := L) [.bool (false)] (.bool (false)) (.tmp rfl .nil) rfl rF rF (sD sR) ?_))))))
  exact ⟨(vB (sigOk_short (by omega))), rfl, rfl⟩
 refine qz (qg (qg (qd (cX (qq (0) jc rfl qy (by decide) rfl rfl (cX (qm qX rfl (Rd.own [] rfl rfl) (cX (qE qh rfl har.slv (qi (ii (0)) rfl (qf (qQ (jr (α := Nat) (fun k => [(16, arv), (17, ii ((ar.length : Int))), (18, ii ((k : Int)))]) (fun k => cellsH b1 [arv] 26 :: L) (fun k F' => F = F' ∧ (k ≤ ar.length) ∧ (∀ i, i < k → 0 ≤ ar.getD i 0 ∧ ar.getD i 0 ≤ 3)) (fun k => ar.length - k) 0 ⟨rfl, rfl, rfl, ⟨⟩⟩ (sC sR) ⟨rfl, (by omega), (fun i hi => absurd hi (by omega))⟩ ?_)))))))))))))
 rintro k rE _ _ ⟨rfl, hk, hall⟩
 show X _ _ _ _ (envs [(16, arv), (17, ii ((ar.length : Int))), (18, ii ((k : Int)))] rE) _ (cellsH b1 [arv] 26 :: L)
 refine qg (qd (cX (jb rfl rfl (qf (qg ?_)))))
 refine qH (p := (k : Int) < (ar.length : Int)) rfl (fun h3 => ?_) (fun h3 => ?_)
 ·refine qz (qg (qQ (qg (qd (cX (qD k qh qC rfl rfl rfl har.slv (by omega) (Nat.mul_one _) (cX (qm jj rfl (har.rd (by omega)) (qj (ii (ar.getD k 0)) rfl (qf (qg (qd (qi (ii (ar.getD k 0)) rfl (cX (jb rfl rfl (qi (.bool (decide ((ar.getD k 0 : Int) < 0))) rfl ?_))))))))))))))))
  by_cases h4 : (ar.getD k 0 : Int) < 0
  ·refine qp (t := 24) rfl (vT h4) (qp (t := 24) rfl (vT h4) (cX (qN (.bool (true)) (vT h4) rfl (qf (jH rfl (qg (qd (qj (.bool (false)) rfl (qf (qu (qI (ql (ql (qI (ql (qt (L' := L) [.bool (false)] (.bool (false)) (.tmp rfl .nil) rfl rF rF (sD sR) ?_))))))))))))))))
   exact ⟨(vB (sigOk_bad (i := k) (by omega) (by omega))), rfl, rfl⟩
  refine qr (t := 24) rfl (vF h4) (qo (ii (ar.getD k 0)) rfl (qr (t := 24) rfl (vF h4) (jF rfl rfl (cX (qM (.bool (decide ((ar.getD k 0 : Int) > 3))) (vF h4) rfl (qf ?_))))))
  refine qH (p := (ar.getD k 0 : Int) > 3) rfl (fun h5 => ?_) (fun h5 => ?_)
  ·refine qg (qd (qj (.bool (false)) rfl (qf (qu (qI (ql (ql (qI (ql (qt (L' := L) [.bool (false)] (.bool (false)) (.tmp rfl .nil) rfl rF rF (sD sR) ?_))))))))))
   exact ⟨(vB (sigOk_bad (i := k) (by omega) (by omega))), rfl, rfl⟩
  refine qz (qd (cX (qS (((k + 1 : Nat) : Int)) rfl rfl (by omega) (by omega) (qi (ii (((k + 1 : Nat) : Int))) rfl (qf ?_)))))
  exact ⟨k + 1, _, FLe.refl _, rF, ⟨rfl, rfl, rfl, ⟨⟩⟩, (sC sR), ⟨rfl, (by omega), (fun i hi => (Nat.lt_or_ge i k).elim (fun h => hall i h) (fun h => by obtain rfl : i = k := (by omega); omega))⟩, (by omega)⟩
 refine jn (qA (qA (qV (qg (qd (qj (.bool (true)) rfl (qf (qu (qt (L' := L) [.bool (true)] (.bool (true)) (.tmp rfl .nil) rfl rF rF (sD sR) ?_)))))))))
 exact ⟨(vB (sigOk_of (by omega) (by omega) (fun i hi => hall i (by omega)))), rfl, rfl⟩

/- (*impl.cursor).next -/
theorem next_spec {F : FH} {L : List HP} {c p : Nat} {arv : Value} {ar : List Int} (har : IntsF F arv ar) {tv : Value} {t : List Int} (ht : IntsF F tv t) (hb : t.length ≤ 4000000) :
    Does prog 98 [ptr c 0] F (cellsH c [arv, tv, ii ((p : Int))] 114 :: L) (fun v F' L' => F = F' ∧ ((p < t.length ∧ t.getD p 0 < (ar.length : Int) ∧ (ii (arity ar (t.getD p 0)) : Value) = v ∧ cellsH c [arv, tv, ii ((p + 1 : Nat) : Int)] 114 :: L = L') ∨ (¬ (p < t.length ∧ t.getD p 0 < (ar.length : Int)) ∧ (ii (-1) : Value) = v ∧ cellsH c [arv, tv, ii (p : Int)] 114 :: L = L'))) := by
 refine qL func98 rfl rfl rfl (qg (qd (qj (ii (0)) rfl (qf (qg (qg ?_))))))
 by_cases h1 : (p : Int) ≥ (t.length : Int)
 ·refine X.draw [cellsH c [arv, tv, ii ((p : Int))] 114] L 27 [] [[], [0], [1], [2], [], [4], [5], [6], [7], [3, 8], [9], [10], [10, 11], [10, 12], [10, 13], [10], [10, 15], [10, 16], [10, 17], [10, 14, 18], [10, 19], [10], [10, 21], [10, 22], [10, 23], [10, 24], [10, 25]] (phiL [qe (ptr c 0), qe (ptr c 0), qe (ptr c 2), qe (ii ((p : Int)) : Value), qe (ptr c 0), qe (ptr c 0), qe (ptr c 1), qe tv, qe (ii ((t.length : Int)) : Value), qe (.bool (decide ((p : Int) ≥ (t.length : Int))) : Value), qe (.bool (decide ((p : Int) ≥ (t.length : Int))) : Value), qe undef, qe undef, qe undef, qe undef, qe undef, qe undef, qe undef, qe undef, qe undef, qe undef, qe undef, qe undef, qe undef, qe undef, qe undef, qe undef]) (ownL []) mixed rfl rfl (by kernel_rfl) ?_ ?_
  ·refine pD (fun W R z9 => ?_) ?_
   ·refine qk (qo (ptr c 0) rfl ?_)
    exact ⟨rfl, rfl, rfl⟩
   refine pD (fun W R z9 => ?_) ?_
   ·rw [zA 0 (z9 0 rfl)]
    refine qk (jA rfl ?_)
    exact ⟨rfl, rfl, rfl⟩
   refine pD (fun W R z9 => ?_) ?_
   ·rw [zA 1 (z9 1 rfl)]
    refine qk (qq (2) jI rfl sizeOf3 (by decide) rfl rfl ?_)
    exact ⟨rfl, rfl, rfl⟩
   refine pD (fun W R z9 => ?_) ?_
   ·rw [zA 2 (z9 2 rfl)]
    refine qk (qm isAgg3 rfl (Rd.own [] rfl rfl) ?_)
    exact ⟨rfl, rfl, rfl⟩
   refine pD (fun W R z9 => ?_) ?_
   ·refine qk (qo (ptr c 0) rfl ?_)
    exact ⟨rfl, rfl, rfl⟩
   refine pD (fun W R z9 => ?_) ?_
   ·rw [zA 4 (z9 4 rfl)]
    refine qk (jA rfl ?_)
    exact ⟨rfl, rfl, rfl⟩
   refine pD (fun W R z9 => ?_) ?_
   ·rw [zA 5 (z9 5 rfl)]
    refine qk (qq (1) jI rfl qy (by decide) rfl rfl ?_)
    exact ⟨rfl, rfl, rfl⟩
   refine pD (fun W R z9 => ?_) ?_
   ·rw [zA 6 (z9 6 rfl)]
    refine qk (qm qX rfl (Rd.own [] rfl rfl) ?_)
    exact ⟨rfl, rfl, rfl⟩
   refine pD (fun W R z9 => ?_) ?_
   ·rw [zA 7 (z9 7 rfl)]
    refine qk (qE qh rfl ht.slv ?_)
    exact ⟨rfl, rfl, rfl⟩
   refine pD (fun W R z9 => ?_) ?_
   ·rw [zB 3 8 (z9 3 rfl) (z9 8 rfl)]
    refine qk (jW rfl rfl ?_)
    exact ⟨rfl, rfl, rfl⟩
   refine pD (fun W R z9 => ?_) ?_
   ·rw [zA 9 (z9 9 rfl)]
    refine qk (qo (.bool (decide ((p : Int) ≥ (t.length : Int)))) rfl ?_)
    exact ⟨rfl, rfl, rfl⟩
   refine pD (fun W R z9 => ?_) ?_
   ·rw [zA 10 (z9 10 rfl)]
    exact jC (t := 13) rfl (vT h1) ⟨rfl, rfl, rfl⟩
   refine pD (fun W R z9 => ?_) ?_
   ·rw [eS (l := [(10, _), (11, undef)]) ⟨z9 10 rfl, z9 11 rfl, ⟨⟩⟩]
    exact jC (t := 13) rfl (vT h1) ⟨rfl, rfl, rfl⟩
   refine pD (fun W R z9 => ?_) ?_
   ·rw [eS (l := [(10, _), (12, undef)]) ⟨z9 10 rfl, z9 12 rfl, ⟨⟩⟩]
    exact jC (t := 13) rfl (vT h1) ⟨rfl, rfl, rfl⟩
   refine pD (fun W R z9 => ?_) ?_
   ·rw [eS (l := [(10, _), (13, undef)]) ⟨z9 10 rfl, z9 13 rfl, ⟨⟩⟩]
    exact jC (t := 13) rfl (vT h1) ⟨rfl, rfl, rfl⟩
   refine pD (fun W R z9 => ?_) ?_
   ·rw [zA 10 (z9 10 rfl)]
    exact jC (t := 13) rfl (vT h1) ⟨rfl, rfl, rfl⟩
   refine pD (fun W R z9 => ?_) ?_
   ·rw [eS (l := [(10, _), (15, undef)]) ⟨z9 10 rfl, z9 15 rfl, ⟨⟩⟩]
    exact jC (t := 13) rfl (vT h1) ⟨rfl, rfl, rfl⟩
   refine pD (fun W R z9 => ?_) ?_
   ·rw [eS (l := [(10, _), (16, undef)]) ⟨z9 10 rfl, z9 16 rfl, ⟨⟩⟩]
    exact jC (t := 13) rfl (vT h1) ⟨rfl, rfl, rfl⟩
   refine pD (fun W R z9 => ?_) ?_
   ·rw [eS (l := [(10, _), (17, undef)]) ⟨z9 10 rfl, z9 17 rfl, ⟨⟩⟩]
    exact jC (t := 13) rfl (vT h1) ⟨rfl, rfl, rfl⟩
   refine pD (fun W R z9 => ?_) ?_
   ·rw [eS (l := [(10, _), (14, undef), (18, undef)]) ⟨z9 10 rfl, z9 14 rfl, z9 18 rfl, ⟨⟩⟩]
    exact jC (t := 13) rfl (vT h1) ⟨rfl, rfl, rfl⟩
   refine pD (fun W R z9 => ?_) ?_
   ·rw [eS (l := [(10, _), (19, undef)]) ⟨z9 10 rfl, z9 19 rfl, ⟨⟩⟩]
    exact jC (t := 13) rfl (vT h1) ⟨rfl, rfl, rfl⟩
   refine pD (fun W R z9 => ?_) ?_
   ·rw [zA 10 (z9 10 rfl)]
    exact jC (t := 13) rfl (vT h1) ⟨rfl, rfl, rfl⟩
   refine pD (fun W R z9 => ?_) ?_
   ·rw [eS (l := [(10, _), (21, undef)]) ⟨z9 10 rfl, z9 21 rfl, ⟨⟩⟩]
    exact jC (t := 13) rfl (vT h1) ⟨rfl, rfl, rfl⟩
   refine pD (fun W R z9 => ?_) ?_
   ·rw [eS (l := [(10, _), (22, undef)]) ⟨z9 10 rfl, z9 22 rfl, ⟨⟩⟩]
    exact jC (t := 13) rfl (vT h1) ⟨rfl, rfl, rfl⟩
   refine pD (fun W R z9 => ?_) ?_
   ·rw [eS (l := [(10, _), (23, undef)]) ⟨z9 10 rfl, z9 23 rfl, ⟨⟩⟩]
    exact jC (t := 13) rfl (vT h1) ⟨rfl, rfl, rfl⟩
   refine pD (fun W R z9 => ?_) ?_
   ·rw [eS (l := [(10, _), (24, undef)]) ⟨z9 10 rfl, z9 24 rfl, ⟨⟩⟩]
    exact jC (t := 13) rfl (vT h1) ⟨rfl, rfl, rfl⟩
   refine pD (fun W R z9 => ?_) ?_
   ·rw [eS (l := [(10, _), (25, undef)]) ⟨z9 10 rfl, z9 25 rfl, ⟨⟩⟩]
    exact jC (t := 13) rfl (vT h1) ⟨rfl, rfl, rfl⟩
   exact stepsP.nil
  intro W hphi
  rw [eS (l := [(10, _), (20, undef), (26, undef)]) ⟨(hphi 10 (by decide)), (hphi 20 (by decide)), (hphi 26 (by decide)), ⟨⟩⟩]
  show XL _ _ _ _ _ _ _ (cellsH c [arv, tv, ii ((p : Int))] 114 :: L)
  refine qp (t := 13) rfl (vT h1) (cX (qN (.bool (true)) (vT h1) rfl (qf (jH rfl (qg (qd (qj (ii (-1)) rfl (qf (qu (ql (qt (L' := cellsH c [arv, tv, ii ((p : Int))] 114 :: L) [ii (-1)] (ii (-1)) (.tmp rfl .nil) rfl rF rF (sC sR) ?_)))))))))))
  exact ⟨rfl, .inr ⟨by omega, rfl, rfl⟩⟩
 refine X.draw [cellsH c [arv, tv, ii ((p : Int))] 114] L 27 [] [[], [0], [1], [2], [], [4], [5], [6], [7], [3, 8], [9], [10], [10, 11], [10, 12], [10, 13], [10], [10, 15], [10, 16], [10, 17], [10, 14, 18], [10, 19], [10], [10, 21], [10, 22], [10, 23], [10, 24], [10, 25]] (phiL [qe (ptr c 0), qe (ptr c 0), qe (ptr c 2), qe (ii ((p : Int)) : Value), qe (ptr c 0), qe (ptr c 0), qe (ptr c 1), qe tv, qe (ii ((t.length : Int)) : Value), qe (.bool (decide ((p : Int) ≥ (t.length : Int))) : Value), qe (.bool (decide ((p : Int) ≥ (t.length : Int))) : Value), qe (ptr c 0), qe (ptr c 0), qe (ptr c 1), qe tv, qe (ptr c 0), qe (ptr c 0), qe (ptr c 2), qe (ii ((p : Int)) : Value), qe (.pointer (some (elemA tv (p)))), qe (ii (t.getD p 0)), qe (ptr c 0), qe (ptr c 0), qe (ptr c 0), qe (ptr c 0), qe arv, qe (ii ((ar.length : Int)) : Value)]) (ownL []) mixed rfl rfl (by kernel_rfl) ?_ ?_
 ·refine pD (fun W R z9 => ?_) ?_
  ·refine qk (qo (ptr c 0) rfl ?_)
   exact ⟨rfl, rfl, rfl⟩
  refine pD (fun W R z9 => ?_) ?_
  ·rw [zA 0 (z9 0 rfl)]
   refine qk (jA rfl ?_)
   exact ⟨rfl, rfl, rfl⟩
  refine pD (fun W R z9 => ?_) ?_
  ·rw [zA 1 (z9 1 rfl)]
   refine qk (qq (2) jI rfl sizeOf3 (by decide) rfl rfl ?_)
   exact ⟨rfl, rfl, rfl⟩
  refine pD (fun W R z9 => ?_) ?_
  ·rw [zA 2 (z9 2 rfl)]
   refine qk (qm isAgg3 rfl (Rd.own [] rfl rfl) ?_)
   exact ⟨rfl, rfl, rfl⟩
  refine pD (fun W R z9 => ?_) ?_
  ·refine qk (qo (ptr c 0) rfl ?_)
   exact ⟨rfl, rfl, rfl⟩
  refine pD (fun W R z9 => ?_) ?_
  ·rw [zA 4 (z9 4 rfl)]
   refine qk (jA rfl ?_)
   exact ⟨rfl, rfl, rfl⟩
  refine pD (fun W R z9 => ?_) ?_
  ·rw [zA 5 (z9 5 rfl)]
   refine qk (qq (1) jI rfl qy (by decide) rfl rfl ?_)
   exact ⟨rfl, rfl, rfl⟩
  refine pD (fun W R z9 => ?_) ?_
  ·rw [zA 6 (z9 6 rfl)]
   refine qk (qm qX rfl (Rd.own [] rfl rfl) ?_)
   exact ⟨rfl, rfl, rfl⟩
  refine pD (fun W R z9 => ?_) ?_
  ·rw [zA 7 (z9 7 rfl)]
   refine qk (qE qh rfl ht.slv ?_)
   exact ⟨rfl, rfl, rfl⟩
  refine pD (fun W R z9 => ?_) ?_
  ·rw [zB 3 8 (z9 3 rfl) (z9 8 rfl)]
   refine qk (jW rfl rfl ?_)
   exact ⟨rfl, rfl, rfl⟩
  refine pD (fun W R z9 => ?_) ?_
  ·rw [zA 9 (z9 9 rfl)]
   refine qk (qo (.bool (decide ((p : Int) ≥ (t.length : Int)))) rfl ?_)
   exact ⟨rfl, rfl, rfl⟩
  refine pD (fun W R z9 => ?_) ?_
  ·rw [zA 10 (z9 10 rfl)]
   refine jq (t := 13) rfl (vF h1) (qo (ptr c 0) rfl ?_)
   exact ⟨rfl, rfl, rfl⟩
  refine pD (fun W R z9 => ?_) ?_
  ·rw [zB 10 11 (z9 10 rfl) (z9 11 rfl)]
   refine jq (t := 13) rfl (vF h1) (jA rfl ?_)
   exact ⟨rfl, rfl, rfl⟩
  refine pD (fun W R z9 => ?_) ?_
  ·rw [zB 10 12 (z9 10 rfl) (z9 12 rfl)]
   refine jq (t := 13) rfl (vF h1) (qq (1) jI rfl qy (by decide) rfl rfl ?_)
   exact ⟨rfl, rfl, rfl⟩
  refine pD (fun W R z9 => ?_) ?_
  ·rw [zB 10 13 (z9 10 rfl) (z9 13 rfl)]
   refine jq (t := 13) rfl (vF h1) (qm qX rfl (Rd.own [] rfl rfl) ?_)
   exact ⟨rfl, rfl, rfl⟩
  refine pD (fun W R z9 => ?_) ?_
  ·rw [zA 10 (z9 10 rfl)]
   refine jq (t := 13) rfl (vF h1) (qo (ptr c 0) rfl ?_)
   exact ⟨rfl, rfl, rfl⟩
  refine pD (fun W R z9 => ?_) ?_
  ·rw [zB 10 15 (z9 10 rfl) (z9 15 rfl)]
   refine jq (t := 13) rfl (vF h1) (jA rfl ?_)
   exact ⟨rfl, rfl, rfl⟩
  refine pD (fun W R z9 => ?_) ?_
  ·rw [zB 10 16 (z9 10 rfl) (z9 16 rfl)]
   refine jq (t := 13) rfl (vF h1) (qq (2) jI rfl sizeOf3 (by decide) rfl rfl ?_)
   exact ⟨rfl, rfl, rfl⟩
  refine pD (fun W R z9 => ?_) ?_
  ·rw [zB 10 17 (z9 10 rfl) (z9 17 rfl)]
   refine jq (t := 13) rfl (vF h1) (qm isAgg3 rfl (Rd.own [] rfl rfl) ?_)
   exact ⟨rfl, rfl, rfl⟩
  refine pD (fun W R z9 => ?_) ?_
  ·rw [eS (l := [(10, _), (14, _), (18, _)]) ⟨z9 10 rfl, z9 14 rfl, z9 18 rfl, ⟨⟩⟩]
   refine jq (t := 13) rfl (vF h1) (qD p qh qC rfl rfl rfl ht.slv (by omega) (Nat.mul_one _) ?_)
   exact ⟨rfl, rfl, rfl⟩
  refine pD (fun W R z9 => ?_) ?_
  ·rw [zB 10 19 (z9 10 rfl) (z9 19 rfl)]
   refine jq (t := 13) rfl (vF h1) (qm jj rfl (ht.rd (by omega)) ?_)
   exact ⟨rfl, rfl, rfl⟩
  refine pD (fun W R z9 => ?_) ?_
  ·rw [zA 10 (z9 10 rfl)]
   refine jq (t := 13) rfl (vF h1) (qo (ptr c 0) rfl ?_)
   exact ⟨rfl, rfl, rfl⟩
  refine pD (fun W R z9 => ?_) ?_
  ·rw [zB 10 21 (z9 10 rfl) (z9 21 rfl)]
   refine jq (t := 13) rfl (vF h1) (jA rfl ?_)
   exact ⟨rfl, rfl, rfl⟩
  refine pD (fun W R z9 => ?_) ?_
  ·rw [zB 10 22 (z9 10 rfl) (z9 22 rfl)]
   refine jq (t := 13) rfl (vF h1) (qq (0) jI rfl qB (by decide) rfl rfl ?_)
   exact ⟨rfl, rfl, rfl⟩
  refine pD (fun W R z9 => ?_) ?_
  ·rw [zB 10 23 (z9 10 rfl) (z9 23 rfl)]
   refine jq (t := 13) rfl (vF h1) (qq (0) jc rfl qy (by decide) rfl rfl ?_)
   exact ⟨rfl, rfl, rfl⟩
  refine pD (fun W R z9 => ?_) ?_
  ·rw [zB 10 24 (z9 10 rfl) (z9 24 rfl)]
   refine jq (t := 13) rfl (vF h1) (qm qX rfl (Rd.own [] rfl rfl) ?_)
   exact ⟨rfl, rfl, rfl⟩
  refine pD (fun W R z9 => ?_) ?_
  ·rw [zB 10 25 (z9 10 rfl) (z9 25 rfl)]
   refine jq (t := 13) rfl (vF h1) (qE qh rfl har.slv ?_)
   exact ⟨rfl, rfl, rfl⟩
  exact stepsP.nil
 intro W hphi
 rw [eS (l := [(10, _), (20, _), (26, _)]) ⟨(hphi 10 (by decide)), (hphi 20 (by decide)), (hphi 26 (by decide)), ⟨⟩⟩]
 show XL _ _ _ _ _ _ _ (cellsH c [arv, tv, ii ((p : Int))] 114 :: L)
 refine qr (t := 13) rfl (vF h1) (jW rfl rfl (cX (qM (.bool (decide ((t.getD p 0 : Int) ≥ (ar.length : Int)))) (vF h1) rfl (qf ?_))))
 refine qH (p := (t.getD p 0 : Int) ≥ (ar.length : Int)) rfl (fun h2 => ?_) (fun h2 => ?_)
 ·refine qg (qd (qj (ii (-1)) rfl (qf (qu (ql (qt (L' := cellsH c [arv, tv, ii ((p : Int))] 114 :: L) [ii (-1)] (ii (-1)) (.tmp rfl .nil) rfl rF rF (sC sR) ?_))))))
  exact ⟨rfl, .inr ⟨by omega, rfl, rfl⟩⟩
 refine qz (qg (qd (qi (ptr c 0) rfl (cX (jA rfl (cX (qq (2) jI rfl sizeOf3 (by decide) rfl rfl (cX (qm isAgg3 rfl (Rd.own [] rfl rfl) (cX (qS (((p + 1 : Nat) : Int)) rfl rfl (by omega) (by omega) (cX (jA rfl (cX (qq (2) jI rfl sizeOf3 (by decide) rfl rfl (cX (jL [] _ [arv, tv, ii (((p + 1 : Nat) : Int))] sizeOf3 rfl rfl rfl rfl rfl rfl (qf (qg ?_)))))))))))))))))))
 refine X.draw [cellsH c [arv, tv, ii (((p + 1 : Nat) : Int))] 114] L 15 [] [[], [0], [1], [2], [], [4], [5], [6], [], [8], [9], [10], [11], [7, 12], [13]] (phiL [qe (ptr c 0), qe (ptr c 0), qe (ptr c 0), qe (.agg #[arv]), qe (ptr c 0), qe (ptr c 0), qe (ptr c 1), qe tv, qe (ptr c 0), qe (ptr c 0), qe (ptr c 2), qe (ii (((p + 1 : Nat) : Int)) : Value), qe (ii ((p : Int)) : Value), qe (.pointer (some (elemA tv (p)))), qe (ii (t.getD p 0))]) (ownL []) mixed rfl rfl (by kernel_rfl) ?_ ?_
 ·refine pD (fun W R z9 => ?_) ?_
  ·refine qk (qo (ptr c 0) rfl ?_)
   exact ⟨rfl, rfl, rfl⟩
  refine pD (fun W R z9 => ?_) ?_
  ·rw [zA 0 (z9 0 rfl)]
   refine qk (jA rfl ?_)
   exact ⟨rfl, rfl, rfl⟩
  refine pD (fun W R z9 => ?_) ?_
  ·rw [zA 1 (z9 1 rfl)]
   refine qk (qq (0) jI rfl qB (by decide) rfl rfl ?_)
   exact ⟨rfl, rfl, rfl⟩
  refine pD (fun W R z9 => ?_) ?_
  ·rw [zA 2 (z9 2 rfl)]
   refine qk (qs [arv] qW qB rfl rfl (Rd.ownN [] rfl rfl) ?_)
   exact ⟨rfl, rfl, rfl⟩
  refine pD (fun W R z9 => ?_) ?_
  ·refine qk (qo (ptr c 0) rfl ?_)
   exact ⟨rfl, rfl, rfl⟩
  refine pD (fun W R z9 => ?_) ?_
  ·rw [zA 4 (z9 4 rfl)]
   refine qk (jA rfl ?_)
   exact ⟨rfl, rfl, rfl⟩
  refine pD (fun W R z9 => ?_) ?_
  ·rw [zA 5 (z9 5 rfl)]
   refine qk (qq (1) jI rfl qy (by decide) rfl rfl ?_)
   exact ⟨rfl, rfl, rfl⟩
  refine pD (fun W R z9 => ?_) ?_
  ·rw [zA 6 (z9 6 rfl)]
   refine qk (qm qX rfl (Rd.own [] rfl rfl) ?_)
   exact ⟨rfl, rfl, rfl⟩
  refine pD (fun W R z9 => ?_) ?_
  ·refine qk (qo (ptr c 0) rfl ?_)
   exact ⟨rfl, rfl, rfl⟩
  refine pD (fun W R z9 => ?_) ?_
  ·rw [zA 8 (z9 8 rfl)]
   refine qk (jA rfl ?_)
   exact ⟨rfl, rfl, rfl⟩
  refine pD (fun W R z9 => ?_) ?_
  ·rw [zA 9 (z9 9 rfl)]
   refine qk (qq (2) jI rfl sizeOf3 (by decide) rfl rfl ?_)
   exact ⟨rfl, rfl, rfl⟩
  refine pD (fun W R z9 => ?_) ?_
  ·rw [zA 10 (z9 10 rfl)]
   refine qk (qm isAgg3 rfl (Rd.own [] rfl rfl) ?_)
   exact ⟨rfl, rfl, rfl⟩
  refine pD (fun W R z9 => ?_) ?_
  ·rw [zA 11 (z9 11 rfl)]
   refine qk (jl ((p : Int)) rfl rfl (by omega) (by omega) ?_)
   exact ⟨rfl, rfl, rfl⟩
  refine pD (fun W R z9 => ?_) ?_
  ·rw [zB 7 12 (z9 7 rfl) (z9 12 rfl)]
   refine qk (qD p qh qC rfl rfl rfl ht.slv (by omega) (Nat.mul_one _) ?_)
   exact ⟨rfl, rfl, rfl⟩
  refine pD (fun W R z9 => ?_) ?_
  ·rw [zA 13 (z9 13 rfl)]
   refine qk (qm jj rfl (ht.rd (by omega)) ?_)
   exact ⟨rfl, rfl, rfl⟩
  exact stepsP.nil
 intro W hphi
 rw [zB 3 14 (hphi 3 (by decide)) (hphi 14 (by decide))]
 show XL _ _ _ _ _ _ _ (cellsH c [arv, tv, ii (((p + 1 : Nat) : Int))] 114 :: L)
 refine cX (qn (args := [.agg #[arv], ii (t.getD p 0)]) call107 rfl (arityAt_spec (n := t.getD p 0) har (hn := (by first | assumption | rfl | omega | simp))) ?_)
 rintro _ _ _ _ ⟨rfl, rfl, rfl⟩
 refine qj (ii (arity ar (t.getD p 0))) rfl (qf (qu (qt (L' := cellsH c [arv, tv, ii (((p + 1 : Nat) : Int))] 114 :: L) [ii (arity ar (t.getD p 0))] (ii (arity ar (t.getD p 0))) (.tmp rfl .nil) rfl rF rF (sC sR) ?_)))
 exact ⟨rfl, .inl ⟨by omega, by omega, rfl, rfl⟩⟩

/- (*impl.cursor).skip -/
theorem skip_spec {F : FH} {L : List HP} {c p0 : Nat} {arv : Value} {ar : List Int} (har : IntsF F arv ar) {tv : Value} {t : List Int} (ht : IntsF F tv t) (hb : t.length ≤ 4000000) (hs : sigOk ar = true) (hp : p0 ≤ t.length) :
    Does prog 80 [ptr c 0] F (cellsH c [arv, tv, ii ((p0 : Int))] 114 :: L) (fun v F' L' => F = F' ∧ ∃ q : Nat, (.bool (endGo ar (t.drop p0) 1).isSome : Value) = v ∧ (∀ e, endGo ar (t.drop p0) 1 = some e → q = p0 + e) ∧ cellsH c [arv, tv, ii (q : Int)] 114 :: L = L') := by
 refine qL func80 rfl rfl rfl (qg (qd (qj (.bool (false)) rfl (qf (qg (qg (qd (qj (ii (1)) rfl (qf (qQ (jr (α := Nat × Nat) (fun xQ => [(0, ptr c 0), (3, ii (((xQ.1 : Nat) : Int)))]) (fun xQ => cellsH c [arv, tv, ii (((xQ.2 : Nat) : Int))] 114 :: L) (fun xQ F' => F = F' ∧ (endGo ar (t.drop p0) 1 = (endGo ar (t.drop xQ.2) xQ.1).map (· + (xQ.2 - p0))) ∧ (p0 ≤ xQ.2 ∧ xQ.2 ≤ t.length) ∧ (xQ.1 ≤ 1 + 3 * xQ.2)) (fun xQ => t.length - xQ.2) (1, p0) ⟨rfl, rfl, ⟨⟩⟩ (sC sR) ⟨rfl, (by simp), (by omega), (by omega)⟩ ?_)))))))))))
 rintro ⟨k, p⟩ rE _ _ ⟨rfl, hi, h1, h2⟩
 show X _ _ _ _ (envs [(0, ptr c 0), (3, ii ((k : Int)))] rE) _ (cellsH c [arv, tv, ii ((p : Int))] 114 :: L)
 dsimp only at hi h1 h2
 refine qg (qg (qd (qi (ii ((k : Int))) rfl (cX (jF rfl rfl (qf ?_))))))
 refine qH (p := (k : Int) > 0) rfl (fun h1 => ?_) (fun h1 => ?_)
 ·refine qz (qg (qQ (qg (qd (qi (ptr c 0) rfl (cX (qn (args := [ptr c 0]) call98 rfl (next_spec (p := p) har ht (by omega)) ?_)))))))
  rintro _ _ _ _ ⟨rfl, ⟨hn1a, hn1b, rfl, rfl⟩ | ⟨hn1c, rfl, rfl⟩⟩
  ·have hA := arity_le hs hn1b
   refine qj (ii (arity ar ((t).getD p 0))) rfl (qf (qg (qg (qd (qi (ii (arity ar ((t).getD p 0))) rfl (cX (jb rfl rfl (qf ?_))))))))
   refine qH (p := (arity ar ((t).getD p 0) : Int) < 0) rfl (fun h2 => ?_) (fun h2 => ?_)
   ·omega
   refine qz (qd (qi (ii ((k : Int))) rfl (qi (ii (arity ar ((t).getD p 0))) rfl (cX (qS (((k + (arity ar (t.getD p 0)).toNat : Nat) : Int)) rfl rfl (by omega) (by omega) (qj (ii (((k + (arity ar (t.getD p 0)).toNat : Nat) : Int))) rfl (qf (qd (qi (ii (((k + (arity ar (t.getD p 0)).toNat : Nat) : Int))) rfl (cX (jl (((k - 1 + (arity ar (t.getD p 0)).toNat : Nat) : Int)) rfl rfl (by omega) (by omega) (qj (ii (((k - 1 + (arity ar (t.getD p 0)).toNat : Nat) : Int))) rfl (qf ?_)))))))))))))
   exact ⟨(k - 1 + (arity ar (t.getD p 0)).toNat, p + 1), _, FLe.refl _, rF, ⟨rfl, rfl, ⟨⟩⟩, (sC sR), ⟨rfl, (by rw [hi, endGo_step (by omega) (by omega) (by omega), Option.map_map]; congr 1; funext e; simp; omega), (by omega), (by omega)⟩, (by omega)⟩
  refine qj (ii (-1)) rfl (qf (qg (qg (qd (qi (ii (-1)) rfl (cX (jb rfl rfl (qf (jH rfl (qg (qd (qj (.bool (false)) rfl (qf (qu (ql (qI (ql (ql (qI (ql (qt (L' := cellsH c [arv, tv, ii ((p : Int))] 114 :: L) [.bool (false)] (.bool (false)) (.tmp rfl .nil) rfl rF rF (sC sR) ?_)))))))))))))))))))))
  have hz : endGo ar (t.drop p0) 1 = none := by rw [hi, endGo_none (by omega) (by omega)]; rfl
  refine ⟨rfl, p, ?_, ?_, rfl⟩
  · rw [hz]; rfl
  · intro e he; rw [hz] at he; cases he
 refine jn (qA (qA (qV (qg (qd (qj (.bool (true)) rfl (qf (qu (qt (L' := cellsH c [arv, tv, ii ((p : Int))] 114 :: L) [.bool (true)] (.bool (true)) (.tmp rfl .nil) rfl rF rF (sC sR) ?_)))))))))
 obtain rfl : k = 0 := by omega
 have hz : endGo ar (t.drop p0) 1 = some (p - p0) := by rw [hi]; simp [endGo]
 refine ⟨rfl, p, ?_, ?_, rfl⟩
 · rw [hz]; rfl
 · intro e he; rw [hz] at he; cases he; omega

/- impl.endAt -/
theorem endAt_spec {F : FH} {L : List HP} {arv : Value} {ar : List Int} (har : IntsF F arv ar) {tv : Value} {t : List Int} (ht : IntsF F tv t) {p : Nat} (hs : sigOk ar = true) (hb : t.length ≤ 4000000) (hp : p ≤ t.length) :
    Does prog 48 [.agg #[arv], tv, ii ((p : Int))] F (L) (fun v F' L' => (ii (endZ ar t p) : Value) = v ∧ F = F' ∧ L = L') := by
 refine qL func48 rfl rfl rfl (qg (qd (cX (je [arv] rfl rfl ?_))))
 intro b1
 refine qj (ii (0)) rfl (qf (qg (qd (cX (qs [arv] qW qB rfl rfl (Rd.ownN [] rfl rfl) (qi (tv) rfl (qi (ii ((p : Int))) rfl (cX (jk [arv, tv, ii ((p : Int))] [sN, sN, ii (0)] [(0, 1), (1, 1), (2, 1)] [(0, [arv]), (1, [tv]), (2, [ii ((p : Int))])] jI zeroValue114 rfl (.cons rfl qB (.cons rfl qy (.cons rfl sizeOf3 PlacesAre.nil))) rfl (.cons rfl (.cons (cells_one (qv ht)) (.cons rfl CellsAre.nil))) (cX (jm [sN, sN, ii (0)] zeroValue114 rfl ?_)))))))))))
 intro b2
 refine cX (qO [] _ [arv, tv, ii ((p : Int))] sizeOf114 rfl rfl rfl (qw (qJ (qv har)) (qw (qJ (qv ht)) (qw rfl qT))) rfl rfl rfl (qf (qg (qg (qd (cX (qn (args := [ptr b2 0]) call80 rfl (skip_spec (p0 := p) har ht (by omega) hs (by omega)) ?_)))))))
 rintro _ _ _ _ ⟨rfl, q1, rfl, hq1, rfl⟩
 refine cX (jg rfl (qf ?_))
 refine js (t := !((endGo ar (t.drop p) 1).isSome)) rfl (fun h1 => ?_) (fun h1 => ?_)
 ·refine qg (qd (qj (ii (-1)) rfl (qf (qu (ql (qt (L' := L) [ii (-1)] (ii (-1)) (.tmp rfl .nil) rfl rF rF (sD (sD sR)) ?_))))))
  exact ⟨(vI (endZ_none (by rw [Bool.eq_false_iff] at *; simpa using h1))), rfl, rfl⟩
 refine qz (qg (qd (cX (qq (2) jI rfl sizeOf3 (by decide) rfl rfl (cX (qm isAgg3 rfl (Rd.own [] rfl rfl) (qj (ii ((q1 : Int))) rfl (qf (qu (qt (L' := L) [ii ((q1 : Int))] (ii ((q1 : Int))) (.tmp rfl .nil) rfl rF rF (sD (sD sR)) ?_))))))))))
 exact ⟨(vI (endZ_some hq1 (by simpa using h1))), rfl, rfl⟩

/- slices.Min[[]int64,int64] -/
theorem Min_spec {F : FH} {L : List HP} {xsv : Value} {xs : List Int} (hxs : IntsF F xsv xs) (h1 : 1 ≤ xs.length) (hbd : xs.length ≤ 4000000) :
    Does prog 71 [xsv] F (L) (fun v F' L' => (ii (minL xs) : Value) = v ∧ F = F' ∧ L = L') := by
 refine qL func71 rfl rfl rfl (qg (qd (qj (ii (0)) rfl (qf (qg (qg (qd (qi (xsv) rfl (cX (qE qh rfl hxs.slv (cX (jb rfl rfl (qf ?_)))))))))))))
 refine qH (p := ((xs.length : Int) : Int) < 1) rfl (fun h1 => ?_) (fun h1 => ?_)
 ·omega
 refine qz (qg (qd (qi (xsv) rfl (cX (qD 0 qh qC rfl rfl rfl hxs.slv (by omega) (Nat.mul_one _) (cX (qm jj rfl (hxs.rd (by omega)) (qj (ii (xs.getD 0 0)) rfl (qf (qg (qg (qd (qj (ii (1)) rfl (qf (qQ (jr (α := Nat) (fun k => [(0, xsv), (3, ii (minL (xs.take k))), (4, ii ((k : Int)))]) (fun k => L) (fun k F' => F = F' ∧ (1 ≤ k ∧ k ≤ xs.length)) (fun k => xs.length - k) 1 ⟨rfl, (vI (minL_take1 (xs := xs) (by omega)).symm), rfl, ⟨⟩⟩ sR ⟨rfl, (by omega)⟩ ?_))))))))))))))))
 rintro k rE _ _ ⟨rfl, hk⟩
 show X _ _ _ _ (envs [(0, xsv), (3, ii (minL (xs.take k))), (4, ii ((k : Int)))] rE) _ (L)
 refine qg (qg (qd (qi (ii ((k : Int))) rfl (qi (xsv) rfl (cX (qE qh rfl hxs.slv (cX (jb rfl rfl (qf ?_)))))))))
 refine qH (p := (k : Int) < (xs.length : Int)) rfl (fun h2 => ?_) (fun h2 => ?_)
 ·refine qz (qg (qQ (qd (qi (ii (minL (xs.take k))) rfl (qi (xsv) rfl (qi (ii ((k : Int))) rfl (cX (qD k qh qC rfl rfl rfl hxs.slv (by omega) (Nat.mul_one _) (cX (qm jj rfl (hxs.rd (by omega)) (cX (XOp.min2R (a := minL (xs.take k)) (b := xs.getD k 0) (minL (xs.take (k + 1))) rfl rfl ((minL_step (by omega) (by omega)).symm) (qj (ii (minL (xs.take (k + 1)))) rfl (qf (qd (qi (ii ((k : Int))) rfl ?_))))))))))))))))
  refine cX (qS (((k + 1 : Nat) : Int)) rfl rfl (by omega) (by omega) (qj (ii (((k + 1 : Nat) : Int))) rfl (qf ?_)))
  exact ⟨k + 1, _, FLe.refl _, rF, ⟨rfl, rfl, rfl, ⟨⟩⟩, sR, ⟨rfl, (by omega)⟩, (by omega)⟩
 refine jn (qA (qA (qV (qg (qd (qi (ii (minL (xs.take k))) rfl (qj (ii (minL (xs.take k))) rfl (qf (qu (qt (L' := L) [ii (minL (xs.take k))] (ii (minL (xs.take k))) (.tmp rfl .nil) rfl rF rF sR ?_))))))))))
 exact ⟨(vI (by rw [minL_take_all (by omega)])), rfl, rfl⟩

/- slices.Equal[[]int64,int64] -/
theorem Equal_spec {F : FH} {L : List HP} {av : Value} {a : List Int} (ha : IntsF F av a) {bv : Value} {b : List Int} (hb : IntsF F bv b) (hbd : a.length ≤ 9223372036854775807 ∨ b.length ≤ 9223372036854775807) :
    Does prog 89 [av, bv] F (L) (fun v F' L' => (.bool (decide (a = b)) : Value) = v ∧ F = F' ∧ L = L') := by
 refine qL func89 rfl rfl rfl (qg (qd (qj (.bool (false)) rfl (qf (qg (qg (qd (qi (av) rfl (cX (qE qh rfl ha.slv (qi (bv) rfl (cX (qE qh rfl hb.slv (cX (XOp.neq rfl rfl (qf ?_))))))))))))))))
 refine qH (p := ((a.length : Int) : Int) ≠ (b.length : Int)) rfl (fun h1 => ?_) (fun h1 => ?_)
 ·refine qg (qd (qj (.bool (false)) rfl (qf (qu (ql (qt (L' := L) [.bool (false)] (.bool (false)) (.tmp rfl .nil) rfl rF rF sR ?_))))))
  exact ⟨(vB (decide_eq_false (fun e => by rw [e] at h1; omega))), rfl, rfl⟩
 refine qz (qg (qg (qd (qi (av) rfl (cX (qE qh rfl ha.slv (qi (ii (0)) rfl (qf (qQ (jr (α := Nat) (fun k => [(0, av), (1, bv), (12, ii ((a.length : Int))), (13, ii ((k : Int)))]) (fun k => L) (fun k F' => F = F' ∧ (k ≤ a.length) ∧ (∀ i, i < k → a.getD i 0 = b.getD i 0)) (fun k => a.length - k) 0 ⟨rfl, rfl, rfl, rfl, ⟨⟩⟩ sR ⟨rfl, (by omega), (fun i hi => absurd hi (by omega))⟩ ?_))))))))))
 rintro k rE _ _ ⟨rfl, hk, hall⟩
 show X _ _ _ _ (envs [(0, av), (1, bv), (12, ii ((a.length : Int))), (13, ii ((k : Int)))] rE) _ (L)
 refine qg (qd (cX (jb rfl rfl (qf (qg ?_)))))
 refine qH (p := (k : Int) < (a.length : Int)) rfl (fun h2 => ?_) (fun h2 => ?_)
 ·refine qz (qg (qQ (qg (qd (qi (ii ((k : Int))) rfl (qj (ii ((k : Int))) rfl (qf (qg ?_))))))))
  refine X.draw [] L 8 [] [[], [], [0, 1], [2], [], [], [4, 5], [6]] (phiL [qe av, qe (ii ((k : Int)) : Value), qe (.pointer (some (elemA av (k)))), qe (ii (a.getD k 0)), qe bv, qe (ii ((k : Int)) : Value), qe (.pointer (some (elemA bv (k)))), qe (ii (b.getD k 0))]) (ownL []) mixed rfl rfl (by kernel_rfl) ?_ ?_
  ·refine pD (fun W R z9 => ?_) ?_
   ·refine qk (qo (av) rfl ?_)
    exact ⟨rfl, rfl, rfl⟩
   refine pD (fun W R z9 => ?_) ?_
   ·refine qk (qo (ii ((k : Int))) rfl ?_)
    exact ⟨rfl, rfl, rfl⟩
   refine pD (fun W R z9 => ?_) ?_
   ·rw [zB 0 1 (z9 0 rfl) (z9 1 rfl)]
    refine qk (qD k qh qC rfl rfl rfl ha.slv (by omega) (Nat.mul_one _) ?_)
    exact ⟨rfl, rfl, rfl⟩
   refine pD (fun W R z9 => ?_) ?_
   ·rw [zA 2 (z9 2 rfl)]
    refine qk (qm jj rfl (ha.rd (by omega)) ?_)
    exact ⟨rfl, rfl, rfl⟩
   refine pD (fun W R z9 => ?_) ?_
   ·refine qk (qo (bv) rfl ?_)
    exact ⟨rfl, rfl, rfl⟩
   refine pD (fun W R z9 => ?_) ?_
   ·refine qk (qo (ii ((k : Int))) rfl ?_)
    exact ⟨rfl, rfl, rfl⟩
   refine pD (fun W R z9 => ?_) ?_
   ·rw [zB 4 5 (z9 4 rfl) (z9 5 rfl)]
    refine qk (qD k qh qC rfl rfl rfl hb.slv (by omega) (Nat.mul_one _) ?_)
    exact ⟨rfl, rfl, rfl⟩
   refine pD (fun W R z9 => ?_) ?_
   ·rw [zA 6 (z9 6 rfl)]
    refine qk (qm jj rfl (hb.rd (by omega)) ?_)
    exact ⟨rfl, rfl, rfl⟩
   exact stepsP.nil
  intro W hphi
  rw [zB 3 7 (hphi 3 (by decide)) (hphi 7 (by decide))]
  show XL _ _ _ _ _ _ _ (L)
  refine cX (XOp.neq rfl rfl (qf ?_))
  refine qH (p := (a.getD k 0 : Int) ≠ b.getD k 0) rfl (fun h3 => ?_) (fun h3 => ?_)
  ·refine qg (qd (qj (.bool (false)) rfl (qf (qu (qI (ql (ql (qI (ql (qt (L' := L) [.bool (false)] (.bool (false)) (.tmp rfl .nil) rfl rF rF sR ?_))))))))))
   exact ⟨(vB (decide_eq_false (ne_of_getD (i := k) (by omega)))), rfl, rfl⟩
  refine qz (qd (cX (qS (((k + 1 : Nat) : Int)) rfl rfl (by omega) (by omega) (qi (ii (((k + 1 : Nat) : Int))) rfl (qf ?_)))))
  exact ⟨k + 1, _, FLe.refl _, rF, ⟨rfl, rfl, rfl, rfl, ⟨⟩⟩, sR, ⟨rfl, (by omega), (fun i hi => (Nat.lt_or_ge i k).elim (fun h => hall i h) (fun h => by obtain rfl : i = k := (by omega); omega))⟩, (by omega)⟩
 refine jn (qA (qA (qV (qg (qd (qj (.bool (true)) rfl (qf (qu (qt (L' := L) [.bool (true)] (.bool (true)) (.tmp rfl .nil) rfl rF rF sR ?_)))))))))
 exact ⟨(vB (decide_eq_true (ext_getD (by omega) (fun i hi => hall i (by omega))))), rfl, rfl⟩

/- spec.SameTerm -/
theorem SameTerm_spec {F : FH} {L : List HP} {av : Value} {a : List Int} (ha : IntsF F av a) {bv : Value} {b : List Int} (hb : IntsF F bv b) (hbd : a.length ≤ 9223372036854775807 ∨ b.length ≤ 9223372036854775807) :
    Does prog 10 [av, bv] F (L) (fun v F' L' => (.bool (decide (a = b)) : Value) = v ∧ F = F' ∧ L = L') := by
 refine qL func10 rfl rfl rfl (qg (qd (qj (.bool (false)) rfl (qf (qg (qg (qd (qi (av) rfl (cX (qE qh rfl ha.slv (qi (bv) rfl (cX (qE qh rfl hb.slv (cX (XOp.neq rfl rfl (qf ?_))))))))))))))))
 refine qH (p := ((a.length : Int) : Int) ≠ (b.length : Int)) rfl (fun h1 => ?_) (fun h1 => ?_)
 ·refine qg (qd (qj (.bool (false)) rfl (qf (qu (ql (qt (L' := L) [.bool (false)] (.bool (false)) (.tmp rfl .nil) rfl rF rF sR ?_))))))
  exact ⟨(vB (decide_eq_false (fun e => by rw [e] at h1; omega))), rfl, rfl⟩
 refine qz (qg (qg (qd (qj (ii (0)) rfl (qf (qQ (jr (α := Nat) (fun k => [(0, av), (1, bv), (5, ii ((k : Int)))]) (fun k => L) (fun k F' => F = F' ∧ (k ≤ a.length) ∧ (∀ i, i < k → a.getD i 0 = b.getD i 0)) (fun k => a.length - k) 0 ⟨rfl, rfl, rfl, ⟨⟩⟩ sR ⟨rfl, (by omega), (fun i hi => absurd hi (by omega))⟩ ?_)))))))
 rintro k rE _ _ ⟨rfl, hk, hall⟩
 show X _ _ _ _ (envs [(0, av), (1, bv), (5, ii ((k : Int)))] rE) _ (L)
 refine qg (qg (qd (qi (ii ((k : Int))) rfl (qi (av) rfl (cX (qE qh rfl ha.slv (cX (jb rfl rfl (qf ?_)))))))))
 refine qH (p := (k : Int) < (a.length : Int)) rfl (fun h2 => ?_) (fun h2 => ?_)
 ·refine qz (qg (qQ (qg ?_)))
  refine X.draw [] L 8 [] [[], [], [0, 1], [2], [], [], [4, 5], [6]] (phiL [qe av, qe (ii ((k : Int)) : Value), qe (.pointer (some (elemA av (k)))), qe (ii (a.getD k 0)), qe bv, qe (ii ((k : Int)) : Value), qe (.pointer (some (elemA bv (k)))), qe (ii (b.getD k 0))]) (ownL []) mixed rfl rfl (by kernel_rfl) ?_ ?_
  ·refine pD (fun W R z9 => ?_) ?_
   ·refine qk (qo (av) rfl ?_)
    exact ⟨rfl, rfl, rfl⟩
   refine pD (fun W R z9 => ?_) ?_
   ·refine qk (qo (ii ((k : Int))) rfl ?_)
    exact ⟨rfl, rfl, rfl⟩
   refine pD (fun W R z9 => ?_) ?_
   ·rw [zB 0 1 (z9 0 rfl) (z9 1 rfl)]
    refine qk (qD k qh qC rfl rfl rfl ha.slv (by omega) (Nat.mul_one _) ?_)
    exact ⟨rfl, rfl, rfl⟩
   refine pD (fun W R z9 => ?_) ?_
   ·rw [zA 2 (z9 2 rfl)]
    refine qk (qm jj rfl (ha.rd (by omega)) ?_)
    exact ⟨rfl, rfl, rfl⟩
   refine pD (fun W R z9 => ?_) ?_
   ·refine qk (qo (bv) rfl ?_)
    exact ⟨rfl, rfl, rfl⟩
   refine pD (fun W R z9 => ?_) ?_
   ·refine qk (qo (ii ((k : Int))) rfl ?_)
    exact ⟨rfl, rfl, rfl⟩
   refine pD (fun W R z9 => ?_) ?_
   ·rw [zB 4 5 (z9 4 rfl) (z9 5 rfl)]
    refine qk (qD k qh qC rfl rfl rfl hb.slv (by omega) (Nat.mul_one _) ?_)
    exact ⟨rfl, rfl, rfl⟩
   refine pD (fun W R z9 => ?_) ?_
   ·rw [zA 6 (z9 6 rfl)]
    refine qk (qm jj rfl (hb.rd (by omega)) ?_)
    exact ⟨rfl, rfl, rfl⟩
   exact stepsP.nil
  intro W hphi
  rw [zB 3 7 (hphi 3 (by decide)) (hphi 7 (by decide))]
  show XL _ _ _ _ _ _ _ (L)
  refine cX (XOp.neq rfl rfl (qf ?_))
  refine qH (p := (a.getD k 0 : Int) ≠ b.getD k 0) rfl (fun h3 => ?_) (fun h3 => ?_)
  ·refine qg (qd (qj (.bool (false)) rfl (qf (qu (qI (ql (ql (qI (ql (qt (L' := L) [.bool (false)] (.bool (false)) (.tmp rfl .nil) rfl rF rF sR ?_))))))))))
   exact ⟨(vB (decide_eq_false (ne_of_getD (i := k) (by omega)))), rfl, rfl⟩
  refine qz (qd (qi (ii ((k : Int))) rfl (cX (qS (((k + 1 : Nat) : Int)) rfl rfl (by omega) (by omega) (qj (ii (((k + 1 : Nat) : Int))) rfl (qf ?_))))))
  exact ⟨k + 1, _, FLe.refl _, rF, ⟨rfl, rfl, rfl, ⟨⟩⟩, sR, ⟨rfl, (by omega), (fun i hi => (Nat.lt_or_ge i k).elim (fun h => hall i h) (fun h => by obtain rfl : i = k := (by omega); omega))⟩, (by omega)⟩
 refine jn (qA (qA (qV (qg (qd (qj (.bool (true)) rfl (qf (qu (qt (L' := L) [.bool (true)] (.bool (true)) (.tmp rfl .nil) rfl rF rF sR ?_)))))))))
 exact ⟨(vB (decide_eq_true (ext_getD (by omega) (fun i hi => hall i (by omega))))), rfl, rfl⟩

/- slices.Index[[]int64,int64] -/
theorem Index_spec {F : FH} {L : List HP} {xsv : Value} {xs : List Int} (hxs : IntsF F xsv xs) {n : Int} (hbd : xs.length ≤ 9223372036854775807) :
    Does prog 95 [xsv, ii (n)] F (L) (fun v F' L' => (ii (indexZ xs n) : Value) = v ∧ F = F' ∧ L = L') := by
 refine qL func95 rfl rfl rfl (qg (qd (qj (ii (0)) rfl (qf (qg (qg (qd (qi (xsv) rfl (cX (qE qh rfl hxs.slv (qi (ii (0)) rfl (qf (qQ (jr (α := Nat) (fun k => [(0, xsv), (1, ii (n)), (7, ii ((xs.length : Int))), (8, ii ((k : Int)))]) (fun k => L) (fun k F' => F = F' ∧ (k ≤ xs.length) ∧ (∀ i, i < k → xs.getD i 0 ≠ n)) (fun k => xs.length - k) 0 ⟨rfl, rfl, rfl, rfl, ⟨⟩⟩ sR ⟨rfl, (by omega), (fun i hi => absurd hi (by omega))⟩ ?_))))))))))))))
 rintro k rE _ _ ⟨rfl, hk, hall⟩
 show X _ _ _ _ (envs [(0, xsv), (1, ii (n)), (7, ii ((xs.length : Int))), (8, ii ((k : Int)))] rE) _ (L)
 refine qg (qd (cX (jb rfl rfl (qf (qg ?_)))))
 refine qH (p := (k : Int) < (xs.length : Int)) rfl (fun h1 => ?_) (fun h1 => ?_)
 ·refine qz (qg (qQ (qg (qd (qi (ii ((k : Int))) rfl (qj (ii ((k : Int))) rfl (qf (qg (qd (qi (ii (n)) rfl (qi (xsv) rfl (qi (ii ((k : Int))) rfl (cX (qD k qh qC rfl rfl rfl hxs.slv (by omega) (Nat.mul_one _) (cX (qm jj rfl (hxs.rd (by omega)) (cX (jD rfl rfl ?_))))))))))))))))))
  refine qf ?_
  refine qH (p := (n : Int) = xs.getD k 0) rfl (fun h2 => ?_) (fun h2 => ?_)
  ·refine qg (qd (qi (ii ((k : Int))) rfl (qj (ii ((k : Int))) rfl (qf (qu (qI (ql (ql (qI (ql (qt (L' := L) [ii ((k : Int))] (ii ((k : Int))) (.tmp rfl .nil) rfl rF rF sR ?_)))))))))))
   exact ⟨(vI (indexZ_some (by omega) (by omega) hall)), rfl, rfl⟩
  refine qz (qd (cX (qS (((k + 1 : Nat) : Int)) rfl rfl (by omega) (by omega) (qi (ii (((k + 1 : Nat) : Int))) rfl (qf ?_)))))
  exact ⟨k + 1, _, FLe.refl _, rF, ⟨rfl, rfl, rfl, rfl, ⟨⟩⟩, sR, ⟨rfl, (by omega), (fun i hi => (Nat.lt_or_ge i k).elim (fun h => hall i h) (fun h => by obtain rfl : i = k := (by omega); omega))⟩, (by omega)⟩
 refine jn (qA (qA (qV (qg (qd (qj (ii (-1)) rfl (qf (qu (qt (L' := L) [ii (-1)] (ii (-1)) (.tmp rfl .nil) rfl rF rF sR ?_)))))))))
 exact ⟨(vI (indexZ_none (fun i hi => hall i (by omega)))), rfl, rfl⟩

/- slices.Contains[[]int64,int64] -/
theorem Contains_spec {F : FH} {L : List HP} {xsv : Value} {xs : List Int} (hxs : IntsF F xsv xs) {n : Int} (hbd : xs.length ≤ 9223372036854775807) :
    Does prog 70 [xsv, ii (n)] F (L) (fun v F' L' => (.bool (decide (n ∈ xs)) : Value) = v ∧ F = F' ∧ L = L') := by
 refine qL func70 rfl rfl rfl (qg (qd (qj (.bool (false)) rfl (qf (qg (qd (qi (xsv) rfl (qi (ii (n)) rfl (cX (qn (args := [xsv, ii (n)]) call95 rfl (Index_spec (n := n) hxs (hbd := (by first | assumption | rfl | omega | simp))) ?_))))))))))
 rintro _ _ _ _ ⟨rfl, rfl, rfl⟩
 refine cX (jW rfl rfl (qj (.bool (decide ((indexZ xs n : Int) ≥ 0))) rfl (qf (qu (qt (L' := L) [.bool (decide ((indexZ xs n : Int) ≥ 0))] (.bool (decide ((indexZ xs n : Int) ≥ 0))) (.tmp rfl .nil) rfl rF rF sR ?_)))))
 exact ⟨(vB (decide_eq_decide.2 indexZ_mem.symm)), rfl, rfl⟩

/- spec.l1Has -/
theorem l1Has_spec {F : FH} {L : List HP} {xsv : Value} {xs : List Int} (hxs : IntsF F xsv xs) {n : Int} (hbd : xs.length ≤ 9223372036854775807) :
    Does prog 102 [xsv, ii (n)] F (L) (fun v F' L' => (.bool (decide (n ∈ xs)) : Value) = v ∧ F = F' ∧ L = L') := by
 refine qL func102 rfl rfl rfl (qg (qd (qj (.bool (false)) rfl (qf (qg (qg (qd (qj (ii (0)) rfl (qf (qQ (jr (α := Nat) (fun k => [(0, xsv), (1, ii (n)), (5, ii ((k : Int)))]) (fun k => L) (fun k F' => F = F' ∧ (k ≤ xs.length) ∧ (∀ i, i < k → xs.getD i 0 ≠ n)) (fun k => xs.length - k) 0 ⟨rfl, rfl, rfl, ⟨⟩⟩ sR ⟨rfl, (by omega), (fun i hi => absurd hi (by omega))⟩ ?_)))))))))))
 rintro k rE _ _ ⟨rfl, hk, hall⟩
 show X _ _ _ _ (envs [(0, xsv), (1, ii (n)), (5, ii ((k : Int)))] rE) _ (L)
 refine qg (qg (qd (qi (ii ((k : Int))) rfl (qi (xsv) rfl (cX (qE qh rfl hxs.slv (cX (jb rfl rfl (qf ?_)))))))))
 refine qH (p := (k : Int) < (xs.length : Int)) rfl (fun h1 => ?_) (fun h1 => ?_)
 ·refine qz (qg (qQ (qg (qd (qi (xsv) rfl (qi (ii ((k : Int))) rfl (cX (qD k qh qC rfl rfl rfl hxs.slv (by omega) (Nat.mul_one _) (cX (qm jj rfl (hxs.rd (by omega)) (qi (ii (n)) rfl (cX (jD rfl rfl (qf ?_))))))))))))))
  refine qH (p := (xs.getD k 0 : Int) = n) rfl (fun h2 => ?_) (fun h2 => ?_)
  ·refine qg (qd (qj (.bool (true)) rfl (qf (qu (qI (ql (ql (qI (ql (qt (L' := L) [.bool (true)] (.bool (true)) (.tmp rfl .nil) rfl rF rF sR ?_))))))))))
   exact ⟨(vB (decide_eq_true (mem_of_getD (k := k) (by omega) (by omega)))), rfl, rfl⟩
  refine qz (qd (qi (ii ((k : Int))) rfl (cX (qS (((k + 1 : Nat) : Int)) rfl rfl (by omega) (by omega) (qj (ii (((k + 1 : Nat) : Int))) rfl (qf ?_))))))
  exact ⟨k + 1, _, FLe.refl _, rF, ⟨rfl, rfl, rfl, ⟨⟩⟩, sR, ⟨rfl, (by omega), (fun i hi => (Nat.lt_or_ge i k).elim (fun h => hall i h) (fun h => by obtain rfl : i = k := (by omega); omega))⟩, (by omega)⟩
 refine jn (qA (qA (qV (qg (qd (qj (.bool (false)) rfl (qf (qu (qt (L' := L) [.bool (false)] (.bool (false)) (.tmp rfl .nil) rfl rF rF sR ?_)))))))))
 exact ⟨(vB (decide_eq_false (not_mem_of_getD (fun i hi => hall i (by omega))))), rfl, rfl⟩

/- spec.l1In -/
theorem l1In_spec {F : FH} {L : List HP} {n : Int} {a : Int} {b : Int} :
    Does prog 35 [ii (n), ii (a), ii (b)] F (L) (fun v F' L' => (.bool (decide (a ≤ n ∧ n ≤ b)) : Value) = v ∧ F = F' ∧ L = L') := by
 refine qL func35 rfl rfl rfl (qg (qd (qj (.bool (false)) rfl (qf (qg (qd (qi (ii (n)) rfl (qi (ii (a)) rfl (cX (jW rfl rfl (qi (.bool (decide ((n : Int) ≥ a))) rfl ?_)))))))))))
 by_cases h1 : (n : Int) ≥ a
 ·refine qr (t := 10) rfl (vT h1) (qo (ii (n)) rfl (qr (t := 10) rfl (vT h1) (qo (ii (b)) rfl (qr (t := 10) rfl (vT h1) (XOp.leq rfl rfl (cX (qN (.bool (decide ((n : Int) ≤ b))) (vT h1) rfl (qj (.bool (decide ((n : Int) ≤ b))) rfl (qf (qu (qt (L' := L) [.bool (decide ((n : Int) ≤ b))] (.bool (decide ((n : Int) ≤ b))) (.tmp rfl .nil) rfl rF rF sR ?_)))))))))))
  exact ⟨(vB (decide_eq_decide.2 (by omega))), rfl, rfl⟩
 refine qp (t := 10) rfl (vF h1) (qp (t := 10) rfl (vF h1) (qp (t := 10) rfl (vF h1) (cX (qM (.bool (false)) (vF h1) rfl (qj (.bool (false)) rfl (qf (qu (qt (L' := L) [.bool (false)] (.bool (false)) (.tmp rfl .nil) rfl rF rF sR ?_))))))))
 exact ⟨(vB (decide_eq_false (by omega))), rfl, rfl⟩

/- spec.l1There -/
theorem l1There_spec {F : FH} {L : List HP} {tv : Value} {t : List Int} (ht : IntsF F tv t) {n : Int} (hbd : t.length ≤ 9223372036854775807) :
    Does prog 34 [tv, ii (n)] F (L) (fun v F' L' => (.bool (decide (0 ≤ n ∧ n < (t.length : Int))) : Value) = v ∧ F = F' ∧ L = L') := by
 refine qL func34 rfl rfl rfl (qg (qd (qj (.bool (false)) rfl (qf (qg (qd (qi (ii (n)) rfl (qi (tv) rfl (cX (qE qh rfl ht.slv (cX (jl (((t.length : Int)) - 1) rfl rfl (by omega) (by omega) (cX (qn (args := [ii (n), ii (0), ii (((t.length : Int)) - 1)]) call35 rfl (l1In_spec (n := n) (a := 0) (b := ((t.length : Int)) - 1)) ?_))))))))))))))
 rintro _ _ _ _ ⟨rfl, rfl, rfl⟩
 refine qj (.bool (decide (0 ≤ n ∧ n ≤ (((t.length : Int)) - 1)))) rfl (qf (qu (qt (L' := L) [.bool (decide (0 ≤ n ∧ n ≤ (((t.length : Int)) - 1)))] (.bool (decide (0 ≤ n ∧ n ≤ (((t.length : Int)) - 1)))) (.tmp rfl .nil) rfl rF rF sR ?_)))
 exact ⟨(vB (decide_eq_decide.2 (by omega))), rfl, rfl⟩

/- spec.l1Arity -/
theorem l1Arity_spec {F : FH} {L : List HP} {arv : Value} {ar : List Int} (har : IntsF F arv ar) {n : Int} (hla : ar.length ≤ 4000000) :
    Does prog 81 [.agg #[arv], ii (n)] F (L) (fun v F' L' => (ii (sArity ar n) : Value) = v ∧ F = F' ∧ L = L') := by
 refine qL func81 rfl rfl rfl (qg (qd (cX (je [arv] rfl rfl ?_))))
 intro b1
 refine qj (ii (0)) rfl (qf (qg (qQ (qg (qd (qi (ii (n)) rfl (cX (qn (args := [ii (n), ii (-24), ii (-1)]) call35 rfl (l1In_spec (n := n) (a := -24) (b := -1)) ?_))))))))
 rintro _ _ _ _ ⟨rfl, rfl, rfl⟩
 refine qj (.bool (decide ((-24) ≤ n ∧ n ≤ (-1)))) rfl (qf ?_)
 refine qH (p := (-24) ≤ n ∧ n ≤ (-1)) rfl (fun h1 => ?_) (fun h1 => ?_)
 ·refine qg (qd (qj (ii (0)) rfl (qf (qu (qI (ql (qt (L' := L) [ii (0)] (ii (0)) (.tmp rfl .nil) rfl rF rF (sD sR) ?_)))))))
  exact ⟨(vI (by unfold sArity; split <;> (try split) <;> first | rfl | omega)), rfl, rfl⟩
 refine qg (qd (qi (ii (n)) rfl (cX (qq (0) jc rfl qy (by decide) rfl rfl (cX (qm qX rfl (Rd.own [] rfl rfl) (cX (qE qh rfl har.slv (cX (jl (((ar.length : Int)) - 1) rfl rfl (by omega) (by omega) (cX (qn (args := [ii (n), ii (0), ii (((ar.length : Int)) - 1)]) call35 rfl (l1In_spec (n := n) (a := 0) (b := ((ar.length : Int)) - 1)) ?_))))))))))))
 rintro _ _ _ _ ⟨rfl, rfl, rfl⟩
 refine qj (.bool (decide (0 ≤ n ∧ n ≤ (((ar.length : Int)) - 1)))) rfl (qf ?_)
 refine qH (p := 0 ≤ n ∧ n ≤ (((ar.length : Int)) - 1)) rfl (fun h2 => ?_) (fun h2 => ?_)
 ·refine qg (qd (cX (qq (0) jc rfl qy (by decide) rfl rfl (cX (qm qX rfl (Rd.own [] rfl rfl) (qi (ii (n)) rfl (cX (qD ((n).toNat) qh qC rfl rfl (by omega) har.slv (by omega) (Nat.mul_one _) (cX (qm jj rfl (har.rd (by omega)) (qj (ii (ar.getD ((n).toNat) 0)) rfl (qf (qu (qI (ql (qt (L' := L) [ii (ar.getD ((n).toNat) 0)] (ii (ar.getD ((n).toNat) 0)) (.tmp rfl .nil) rfl rF rF (sD sR) ?_))))))))))))))))
  exact ⟨(vI (by unfold sArity; split <;> (try split) <;> first | rfl | omega)), rfl, rfl⟩
 refine qz (qg (qd (qj (ii (-1)) rfl (qf (qu (qt (L' := L) [ii (-1)] (ii (-1)) (.tmp rfl .nil) rfl rF rF (sD sR) ?_))))))
 exact ⟨(vI (by unfold sArity; split <;> (try split) <;> first | rfl | omega)), rfl, rfl⟩

/- spec.SigOk -/
theorem sSigOk_spec {F : FH} {L : List HP} {arv : Value} {ar : List Int} (har : IntsF F arv ar) (hla : ar.length ≤ 4000000) :
    Does prog 56 [.agg #[arv]] F (L) (fun v F' L' => (.bool (sigOk ar) : Value) = v ∧ F = F' ∧ L = L') := by
 refine qL func56 rfl rfl rfl (qg (qd (cX (je [arv] rfl rfl ?_))))
 intro b1
 refine qj (.bool (false)) rfl (qf (qg (qg (qd (cX (qq (0) jc rfl qy (by decide) rfl rfl (cX (qm qX rfl (Rd.own [] rfl rfl) (cX (qE qh rfl har.slv (cX (qn (args := [ii ((ar.length : Int)), ii (1), ii (8)]) call35 rfl (l1In_spec (n := (ar.length : Int)) (a := 1) (b := 8)) ?_))))))))))))
 rintro _ _ _ _ ⟨rfl, rfl, rfl⟩
 refine cX (XOp.notD rfl (qf ?_))
 refine qH (p := ¬(1 ≤ ((ar.length : Int)) ∧ ((ar.length : Int)) ≤ 8)) rfl (fun h1 => ?_) (fun h1 => ?_)
 ·refine qg (qd (qj (.bool (false)) rfl (qf (qu (ql (qt (L' := L) [.bool (false)] (.bool (false)) (.tmp rfl .nil) rfl rF rF (sD sR) ?_))))))
  exact ⟨(vB (sigOk_short (by omega))), rfl, rfl⟩
 refine qz (qg (qg (qd (qj (ii (0)) rfl (qf (qQ (jr (α := Nat) (fun k => [(1, ptr b1 0), (3, ii ((k : Int)))]) (fun k => cellsH b1 [arv] 26 :: L) (fun k F' => F = F' ∧ (k ≤ ar.length) ∧ (∀ i, i < k → 0 ≤ ar.getD i 0 ∧ ar.getD i 0 ≤ 3)) (fun k => ar.length - k) 0 ⟨rfl, rfl, ⟨⟩⟩ (sC sR) ⟨rfl, (by omega), (fun i hi => absurd hi (by omega))⟩ ?_)))))))
 rintro k rE _ _ ⟨rfl, hk, hall⟩
 show X _ _ _ _ (envs [(1, ptr b1 0), (3, ii ((k : Int)))] rE) _ (cellsH b1 [arv] 26 :: L)
 refine qg (qg (qd (qi (ii ((k : Int))) rfl (cX (qq (0) jc rfl qy (by decide) rfl rfl (cX (qm qX rfl (Rd.own [] rfl rfl) (cX (qE qh rfl har.slv (cX (jb rfl rfl (qf ?_))))))))))))
 refine qH (p := (k : Int) < (ar.length : Int)) rfl (fun h2 => ?_) (fun h2 => ?_)
 ·refine qz (qg (qQ (qg (qd (cX (qq (0) jc rfl qy (by decide) rfl rfl (cX (qm qX rfl (Rd.own [] rfl rfl) (qi (ii ((k : Int))) rfl (cX (qD k qh qC rfl rfl rfl har.slv (by omega) (Nat.mul_one _) (cX (qm jj rfl (har.rd (by omega)) (cX (qn (args := [ii (ar.getD k 0), ii (0), ii (3)]) call35 rfl (l1In_spec (n := ar.getD k 0) (a := 0) (b := 3)) ?_)))))))))))))))
  rintro _ _ _ _ ⟨rfl, rfl, rfl⟩
  refine cX (XOp.notD rfl (qf ?_))
  refine qH (p := ¬(0 ≤ (ar.getD k 0) ∧ (ar.getD k 0) ≤ 3)) rfl (fun h3 => ?_) (fun h3 => ?_)
  ·refine qg (qd (qj (.bool (false)) rfl (qf (qu (qI (ql (ql (qI (ql (qt (L' := L) [.bool (false)] (.bool (false)) (.tmp rfl .nil) rfl rF rF (sD sR) ?_))))))))))
   exact ⟨(vB (sigOk_bad (i := k) (by omega) (by omega))), rfl, rfl⟩
  refine qz (qd (qi (ii ((k : Int))) rfl (cX (qS (((k + 1 : Nat) : Int)) rfl rfl (by omega) (by omega) (qj (ii (((k + 1 : Nat) : Int))) rfl (qf ?_))))))
  exact ⟨k + 1, _, FLe.refl _, rF, ⟨rfl, rfl, ⟨⟩⟩, (sC sR), ⟨rfl, (by omega), (fun i hi => (Nat.lt_or_ge i k).elim (fun h => hall i h) (fun h => by obtain rfl : i = k := (by omega); omega))⟩, (by omega)⟩
 refine jn (qA (qA (qV (qg (qd (qj (.bool (true)) rfl (qf (qu (qt (L' := L) [.bool (true)] (.bool (true)) (.tmp rfl .nil) rfl rF rF (sD sR) ?_)))))))))
 exact ⟨(vB (sigOk_of (by omega) (by omega) (fun i hi => hall i (by omega)))), rfl, rfl⟩

/- spec.l1End -/
theorem l1End_spec {F : FH} {L : List HP} {arv : Value} {ar : List Int} (har : IntsF F arv ar) {tv : Value} {t : List Int} (ht : IntsF F tv t) {p0 : Nat} (hs : sigOk ar = true) (hlt : t.length ≤ 4000000) (hp : p0 ≤ t.length) :
    Does prog 50 [.agg #[arv], tv, ii ((p0 : Int))] F (L) (fun v F' L' => (ii (sEndZ ar t p0) : Value) = v ∧ F = F' ∧ L = L') := by
 refine qL func50 rfl rfl rfl ?_
 have hsl := sigOk_spec hs
 refine qg (qd (cX (je [arv] rfl rfl ?_)))
 intro b1
 refine qj (ii (0)) rfl (qf (qg (qd (qj (ii (1)) rfl (qf (qg (qg (qd (qi (ii ((p0 : Int))) rfl (qj (ii ((p0 : Int))) rfl (qf (qQ (jr (α := Nat × Nat) (fun xQ => [(1, tv), (3, ptr b1 0), (7, ii (((xQ.1 : Nat) : Int))), (8, ii (((xQ.2 : Nat) : Int)))]) (fun xQ => cellsH b1 [arv] 26 :: L) (fun xQ F' => F = F' ∧ (sEndGo ar (t.drop p0) 1 = (sEndGo ar (t.drop xQ.2) xQ.1).map (· + (xQ.2 - p0))) ∧ (p0 ≤ xQ.2 ∧ xQ.2 ≤ t.length) ∧ (1 ≤ xQ.1 ∧ xQ.1 ≤ 1 + 3 * xQ.2)) (fun xQ => t.length - xQ.2) (1, p0) ⟨rfl, rfl, rfl, rfl, ⟨⟩⟩ (sC sR) ⟨rfl, (by simp), (by omega), (by omega)⟩ ?_)))))))))))))
 rintro ⟨k, p⟩ rE _ _ ⟨rfl, hi, h1, h2⟩
 show X _ _ _ _ (envs [(1, tv), (3, ptr b1 0), (7, ii ((k : Int))), (8, ii ((p : Int)))] rE) _ (cellsH b1 [arv] 26 :: L)
 dsimp only at hi h1 h2
 refine qg (qg (qd (qi (ii ((p : Int))) rfl (qi (tv) rfl (cX (qE qh rfl ht.slv (cX (jb rfl rfl (qf ?_)))))))))
 refine qH (p := (p : Int) < (t.length : Int)) rfl (fun h1 => ?_) (fun h1 => ?_)
 ·refine qz (qg (qQ (qg ?_)))
  refine X.draw [cellsH b1 [arv] 26] L 5 [] [[], [], [], [1, 2], [3]] (phiL [qe (.agg #[arv]), qe tv, qe (ii ((p : Int)) : Value), qe (.pointer (some (elemA tv (p)))), qe (ii (t.getD p 0))]) (ownL []) mixed rfl rfl (by kernel_rfl) ?_ ?_
  ·refine pD (fun W R z9 => ?_) ?_
   ·refine qk (qs [arv] qW qB rfl rfl (Rd.ownN [] rfl rfl) ?_)
    exact ⟨rfl, rfl, rfl⟩
   refine pD (fun W R z9 => ?_) ?_
   ·refine qk (qo (tv) rfl ?_)
    exact ⟨rfl, rfl, rfl⟩
   refine pD (fun W R z9 => ?_) ?_
   ·refine qk (qo (ii ((p : Int))) rfl ?_)
    exact ⟨rfl, rfl, rfl⟩
   refine pD (fun W R z9 => ?_) ?_
   ·rw [zB 1 2 (z9 1 rfl) (z9 2 rfl)]
    refine qk (qD p qh qC rfl rfl rfl ht.slv (by omega) (Nat.mul_one _) ?_)
    exact ⟨rfl, rfl, rfl⟩
   refine pD (fun W R z9 => ?_) ?_
   ·rw [zA 3 (z9 3 rfl)]
    refine qk (qm jj rfl (ht.rd (by omega)) ?_)
    exact ⟨rfl, rfl, rfl⟩
   exact stepsP.nil
  intro W hphi
  rw [zB 0 4 (hphi 0 (by decide)) (hphi 4 (by decide))]
  show XL _ _ _ _ _ _ _ (cellsH b1 [arv] 26 :: L)
  refine cX (qn (args := [.agg #[arv], ii (t.getD p 0)]) call81 rfl (l1Arity_spec (n := t.getD p 0) har (hla := (by first | assumption | rfl | omega | simp))) ?_)
  rintro _ _ _ _ ⟨rfl, rfl, rfl⟩
  refine qj (ii (sArity ar (t.getD p 0))) rfl (qf (qg (qg (qd (qi (ii (sArity ar (t.getD p 0))) rfl (cX (jb rfl rfl (qf ?_))))))))
  refine qH (p := (sArity ar (t.getD p 0) : Int) < 0) rfl (fun h2 => ?_) (fun h2 => ?_)
  ·rw [sArity_neg hs] at h2
   refine qg (qd (qj (ii (-1)) rfl (qf (qu (ql (qI (ql (ql (qI (ql (qt (L' := L) [ii (-1)] (ii (-1)) (.tmp rfl .nil) rfl rF rF (sD sR) ?_)))))))))))
   exact ⟨(vI (by unfold sEndZ; rw [hi, sEndGo_none (by omega) (by omega)]; rfl)), rfl, rfl⟩
  have hA : -24 ≤ t.getD p 0 ∧ t.getD p 0 < ar.length := by rw [sArity_neg hs] at h2; omega
  have hB := arity_le hs hA.2
  have hC := sArity_eq hA
  refine qz (qg (qd (qi (ii ((k : Int))) rfl (qi (ii (sArity ar (t.getD p 0))) rfl (cX (qS (((k + (arity ar (t.getD p 0)).toNat : Nat) : Int)) rfl rfl (by omega) (by omega) (cX (jl (((k - 1 + (arity ar (t.getD p 0)).toNat : Nat) : Int)) rfl rfl (by omega) (by omega) (qj (ii (((k - 1 + (arity ar (t.getD p 0)).toNat : Nat) : Int))) rfl (qf (qg (qd (qi (ii (((k - 1 + (arity ar (t.getD p 0)).toNat : Nat) : Int))) rfl (cX (jD rfl rfl (qf ?_))))))))))))))))
  refine qH (p := (((k - 1 + (arity ar (t.getD p 0)).toNat : Nat) : Int) : Int) = 0) rfl (fun h3 => ?_) (fun h3 => ?_)
  ·refine qg (qd (qi (ii ((p : Int))) rfl (cX (qS (((p + 1 : Nat) : Int)) rfl rfl (by omega) (by omega) (qj (ii (((p + 1 : Nat) : Int))) rfl (qf (qu (qI (ql (ql (qI (ql (qt (L' := L) [ii (((p + 1 : Nat) : Int))] (ii (((p + 1 : Nat) : Int))) (.tmp rfl .nil) rfl rF rF (sD sR) ?_)))))))))))))
   exact ⟨(vI (by have hz := sEndGo_step (ar := ar) (t := t) (p := p) (k := k) (by omega) (by omega) hA; rw [show k - 1 + (arity ar (t.getD p 0)).toNat = 0 from by omega] at hz; unfold sEndZ; rw [hi, hz]; simp [sEndGo]; omega)), rfl, rfl⟩
  refine qz (qd (qi (ii ((p : Int))) rfl (cX (qS (((p + 1 : Nat) : Int)) rfl rfl (by omega) (by omega) (qj (ii (((p + 1 : Nat) : Int))) rfl (qf ?_))))))
  exact ⟨(k - 1 + (arity ar (t.getD p 0)).toNat, p + 1), _, FLe.refl _, rF, ⟨rfl, rfl, rfl, rfl, ⟨⟩⟩, (sC sR), ⟨rfl, (by rw [hi, sEndGo_step (by omega) (by omega) (by omega), Option.map_map]; congr 1; funext e; simp; omega), (by omega), (by omega)⟩, (by omega)⟩
 refine jn (qA (qA (qV (qg (qd (qj (ii (-1)) rfl (qf (qu (qt (L' := L) [ii (-1)] (ii (-1)) (.tmp rfl .nil) rfl rF rF (sD sR) ?_)))))))))
 exact ⟨(vI (by unfold sEndZ; rw [hi, sEndGo_none (by omega) (by omega)]; rfl)), rfl, rfl⟩

/- impl.TermOk -/
theorem TermOk_spec {F : FH} {L : List HP} {arv : Value} {ar : List Int} (har : IntsF F arv ar) {tv : Value} {t : List Int} (ht : IntsF F tv t) :
    Does prog 38 [.agg #[arv], tv] F (L) (fun v F' L' => (.bool (termOk ar t) : Value) = v ∧ F = F' ∧ L = L') := by
 refine qL func38 rfl rfl rfl (qg (qd (cX (je [arv] rfl rfl ?_))))
 intro b1
 refine qj (.bool (false)) rfl (qf (qg (qd (cX (qs [arv] qW qB rfl rfl (Rd.ownN [] rfl rfl) (cX (qn (args := [.agg #[arv]]) call53 rfl (SigOk_spec har) ?_)))))))
 rintro _ _ _ _ ⟨rfl, rfl, rfl⟩
 refine qi (.bool (sigOk ar)) rfl ?_
 by_cases h1 : (sigOk ar) = true
 ·refine qr (t := 7) rfl (vB h1) (qo (tv) rfl (qr (t := 7) rfl (vB h1) (qE qh rfl ht.slv (qr (t := 7) rfl (vB h1) (jF rfl rfl (cX (qN (.bool (decide (((t.length : Int) : Int) > 0))) (vB h1) rfl (qi (.bool (decide (((t.length : Int) : Int) > 0))) rfl ?_))))))))
  by_cases h2 : ((t.length : Int) : Int) > 0
  ·refine qr (t := 12) rfl (vT h2) (qo (tv) rfl (qr (t := 12) rfl (vT h2) (qE qh rfl ht.slv (qr (t := 12) rfl (vT h2) (XOp.leq rfl rfl (cX (qN (.bool (decide (((t.length : Int) : Int) ≤ 60))) (vT h2) rfl (qi (.bool (decide (((t.length : Int) : Int) ≤ 60))) rfl ?_))))))))
   by_cases h3 : ((t.length : Int) : Int) ≤ 60
   ·refine qr (t := 17) rfl (vT h3) (qo (tv) rfl (qr (t := 17) rfl (vT h3) (qn (args := [tv]) call71 rfl (Min_spec ht (h1 := (by first | assumption | rfl | omega | simp)) (hbd := (by first | assumption | rfl | omega | simp))) ?_)))
    rintro _ _ _ _ ⟨rfl, rfl, rfl⟩
    refine qr (t := 17) rfl (vT h3) (jW rfl rfl (cX (qN (.bool (decide ((minL t : Int) ≥ -24))) (vT h3) rfl (qi (.bool (decide ((minL t : Int) ≥ -24))) rfl ?_))))
    by_cases h4 : (minL t : Int) ≥ -24
    ·refine qr (t := 22) rfl (vT h4) (qs [arv] qW qB rfl rfl (Rd.ownN [] rfl rfl) (qr (t := 22) rfl (vT h4) (qo (tv) rfl (qr (t := 22) rfl (vT h4) (qn (args := [.agg #[arv], tv, ii ((0 : Nat) : Int)]) call48 rfl (endAt_spec (p := 0) har ht (hs := (by first | assumption | rfl | omega | simp)) (hb := (by first | assumption | rfl | omega | simp)) (hp := (by first | assumption | rfl | omega | simp))) ?_)))))
     rintro _ _ _ _ ⟨rfl, rfl, rfl⟩
     refine qr (t := 22) rfl (vT h4) (qo (tv) rfl (qr (t := 22) rfl (vT h4) (qE qh rfl ht.slv (qr (t := 22) rfl (vT h4) (jD rfl rfl (cX (qN (.bool (decide ((endZ ar t 0 : Int) = (t.length : Int)))) (vT h4) rfl (qj (.bool (decide ((endZ ar t 0 : Int) = (t.length : Int)))) rfl (qf (qu (qt (L' := L) [.bool (decide ((endZ ar t 0 : Int) = (t.length : Int)))] (.bool (decide ((endZ ar t 0 : Int) = (t.length : Int)))) (.tmp rfl .nil) rfl rF rF (sD sR) ?_)))))))))))
     exact ⟨(vB (termOk_of (by assumption) (by omega) (by omega) (by omega))), rfl, rfl⟩
    refine qp (t := 22) rfl (vF h4) (qp (t := 22) rfl (vF h4) (qp (t := 22) rfl (vF h4) (qp (t := 22) rfl (vF h4) (qp (t := 22) rfl (vF h4) (qp (t := 22) rfl (vF h4) (cX (qM (.bool (false)) (vF h4) rfl (qj (.bool (false)) rfl (qf (qu (qt (L' := L) [.bool (false)] (.bool (false)) (.tmp rfl .nil) rfl rF rF (sD sR) ?_)))))))))))
    exact ⟨(vB (by first | (refine termOk_nosig ?_; assumption) | (refine termOk_short ?_; omega) | (refine termOk_min ?_ ?_ <;> omega))), rfl, rfl⟩
   refine qp (t := 17) rfl (vF h3) (qp (t := 17) rfl (vF h3) (qp (t := 17) rfl (vF h3) (cX (qM (.bool (false)) (vF h3) rfl (qi (.bool (false)) rfl (qp (t := 22) rfl rfl (qp (t := 22) rfl rfl (qp (t := 22) rfl rfl (qp (t := 22) rfl rfl (qp (t := 22) rfl rfl ?_))))))))))
   refine qp (t := 22) rfl rfl (cX (qM (.bool (false)) rfl rfl (qj (.bool (false)) rfl (qf (qu (qt (L' := L) [.bool (false)] (.bool (false)) (.tmp rfl .nil) rfl rF rF (sD sR) ?_))))))
   exact ⟨(vB (by first | (refine termOk_nosig ?_; assumption) | (refine termOk_short ?_; omega) | (refine termOk_min ?_ ?_ <;> omega))), rfl, rfl⟩
  refine qp (t := 12) rfl (vF h2) (qp (t := 12) rfl (vF h2) (qp (t := 12) rfl (vF h2) (cX (qM (.bool (false)) (vF h2) rfl (qi (.bool (false)) rfl (qp (t := 17) rfl rfl (qp (t := 17) rfl rfl (qp (t := 17) rfl rfl (cX (qM (.bool (false)) rfl rfl (qi (.bool (false)) rfl ?_)))))))))))
  refine qp (t := 22) rfl rfl (qp (t := 22) rfl rfl (qp (t := 22) rfl rfl (qp (t := 22) rfl rfl (qp (t := 22) rfl rfl (qp (t := 22) rfl rfl (cX (qM (.bool (false)) rfl rfl (qj (.bool (false)) rfl (qf (qu (qt (L' := L) [.bool (false)] (.bool (false)) (.tmp rfl .nil) rfl rF rF (sD sR) ?_)))))))))))
  exact ⟨(vB (by first | (refine termOk_nosig ?_; assumption) | (refine termOk_short ?_; omega) | (refine termOk_min ?_ ?_ <;> omega))), rfl, rfl⟩
 rw [Bool.not_eq_true] at h1
 refine qp (t := 7) rfl (vB h1) (qp (t := 7) rfl (vB h1) (qp (t := 7) rfl (vB h1) (cX (qM (.bool (false)) (vB h1) rfl (qi (.bool (false)) rfl (qp (t := 12) rfl rfl (qp (t := 12) rfl rfl (qp (t := 12) rfl rfl (cX (qM (.bool (false)) rfl rfl (qi (.bool (false)) rfl ?_)))))))))))
 refine qp (t := 17) rfl rfl (qp (t := 17) rfl rfl (qp (t := 17) rfl rfl (cX (qM (.bool (false)) rfl rfl (qi (.bool (false)) rfl (qp (t := 22) rfl rfl (qp (t := 22) rfl rfl (qp (t := 22) rfl rfl (qp (t := 22) rfl rfl (qp (t := 22) rfl rfl ?_))))))))))
 refine qp (t := 22) rfl rfl (cX (qM (.bool (false)) rfl rfl (qj (.bool (false)) rfl (qf (qu (qt (L' := L) [.bool (false)] (.bool (false)) (.tmp rfl .nil) rfl rF rF (sD sR) ?_))))))
 exact ⟨(vB (by first | (refine termOk_nosig ?_; assumption) | (refine termOk_short ?_; omega) | (refine termOk_min ?_ ?_ <;> omega))), rfl, rfl⟩

/- spec.TermOk -/
theorem sTermOk_spec {F : FH} {L : List HP} {arv : Value} {ar : List Int} (har : IntsF F arv ar) {tv : Value} {t : List Int} (ht : IntsF F tv t) (hla : ar.length ≤ 4000000) (hlt : t.length ≤ 4000000) :
    Does prog 44 [.agg #[arv], tv] F (L) (fun v F' L' => (.bool (termOk ar t) : Value) = v ∧ F = F' ∧ L = L') := by
 refine qL func44 rfl rfl rfl (qg (qd (cX (je [arv] rfl rfl ?_))))
 intro b1
 refine qj (.bool (false)) rfl (qf (qg (qd (cX (qs [arv] qW qB rfl rfl (Rd.ownN [] rfl rfl) (cX (qn (args := [.agg #[arv]]) call56 rfl (sSigOk_spec har (hla := (by first | assumption | rfl | omega | simp))) ?_)))))))
 rintro _ _ _ _ ⟨rfl, rfl, rfl⟩
 refine qi (.bool (sigOk ar)) rfl ?_
 by_cases h1 : (sigOk ar) = true
 ·refine qr (t := 7) rfl (vB h1) (qo (tv) rfl (qr (t := 7) rfl (vB h1) (qE qh rfl ht.slv (qr (t := 7) rfl (vB h1) (qn (args := [ii ((t.length : Int)), ii (1), ii (60)]) call35 rfl (l1In_spec (n := (t.length : Int)) (a := 1) (b := 60)) ?_)))))
  rintro _ _ _ _ ⟨rfl, rfl, rfl⟩
  refine cX (qN (.bool (decide (1 ≤ ((t.length : Int)) ∧ ((t.length : Int)) ≤ 60))) (vB h1) rfl (qi (.bool (decide (1 ≤ ((t.length : Int)) ∧ ((t.length : Int)) ≤ 60))) rfl ?_))
  by_cases h2 : 1 ≤ ((t.length : Int)) ∧ ((t.length : Int)) ≤ 60
  ·refine qr (t := 12) rfl (vT h2) (qs [arv] qW qB rfl rfl (Rd.ownN [] rfl rfl) (qr (t := 12) rfl (vT h2) (qo (tv) rfl (qr (t := 12) rfl (vT h2) (qn (args := [.agg #[arv], tv, ii ((0 : Nat) : Int)]) call50 rfl (l1End_spec (p0 := 0) har ht (hs := (by first | assumption | rfl | omega | simp)) (hlt := (by first | assumption | rfl | omega | simp)) (hp := (by first | assumption | rfl | omega | simp))) ?_)))))
   rintro _ _ _ _ ⟨rfl, rfl, rfl⟩
   refine qr (t := 12) rfl (vT h2) (qo (tv) rfl (qr (t := 12) rfl (vT h2) (qE qh rfl ht.slv (qr (t := 12) rfl (vT h2) (jD rfl rfl (cX (qN (.bool (decide ((sEndZ ar t 0 : Int) = (t.length : Int)))) (vT h2) rfl (qj (.bool (decide ((sEndZ ar t 0 : Int) = (t.length : Int)))) rfl (qf (qu (qt (L' := L) [.bool (decide ((sEndZ ar t 0 : Int) = (t.length : Int)))] (.bool (decide ((sEndZ ar t 0 : Int) = (t.length : Int)))) (.tmp rfl .nil) rfl rF rF (sD sR) ?_)))))))))))
   exact ⟨(vB (termOk_s (by assumption) (by omega))), rfl, rfl⟩
  refine qp (t := 12) rfl (vF h2) (qp (t := 12) rfl (vF h2) (qp (t := 12) rfl (vF h2) (qp (t := 12) rfl (vF h2) (qp (t := 12) rfl (vF h2) (qp (t := 12) rfl (vF h2) (cX (qM (.bool (false)) (vF h2) rfl (qj (.bool (false)) rfl (qf (qu (qt (L' := L) [.bool (false)] (.bool (false)) (.tmp rfl .nil) rfl rF rF (sD sR) ?_)))))))))))
  exact ⟨(vB (by first | (refine termOk_nosig ?_; assumption) | (refine termOk_short ?_; omega))), rfl, rfl⟩
 rw [Bool.not_eq_true] at h1
 refine qp (t := 7) rfl (vB h1) (qp (t := 7) rfl (vB h1) (qp (t := 7) rfl (vB h1) (cX (qM (.bool (false)) (vB h1) rfl (qi (.bool (false)) rfl (qp (t := 12) rfl rfl (qp (t := 12) rfl rfl (qp (t := 12) rfl rfl (qp (t := 12) rfl rfl (qp (t := 12) rfl rfl ?_))))))))))
 refine qp (t := 12) rfl rfl (cX (qM (.bool (false)) rfl rfl (qj (.bool (false)) rfl (qf (qu (qt (L' := L) [.bool (false)] (.bool (false)) (.tmp rfl .nil) rfl rF rF (sD sR) ?_))))))
 exact ⟨(vB (by first | (refine termOk_nosig ?_; assumption) | (refine termOk_short ?_; omega))), rfl, rfl⟩

theorem endAt_ok {F : FH} {L : List HP} {p : Nat} {arv : Value} {ar : List Int} (har : IntsF F arv ar) {tv : Value} {t : List Int} (ht : IntsF F tv t) (ho : termOk ar t = true) (hp : p < t.length) :
    Does prog 48 [.agg #[arv], tv, ii (p : Int)] F L (fun v F' L' => (ii ((endN ar t p : Nat) : Int) : Value) = v ∧ F = F' ∧ L = L') := by
  have hl := termOk_len ho
  have h := endAt_spec (F := F) (L := L) (p := p) har ht (termOk_sig ho) (by omega) (by omega)
  rw [endZ_endN ho hp] at h
  exact h

theorem l1End_ok {F : FH} {L : List HP} {p : Nat} {arv : Value} {ar : List Int} (har : IntsF F arv ar) {tv : Value} {t : List Int} (ht : IntsF F tv t) (ho : termOk ar t = true) (hp : p < t.length) :
    Does prog 50 [.agg #[arv], tv, ii (p : Int)] F L (fun v F' L' => (ii ((endN ar t p : Nat) : Int) : Value) = v ∧ F = F' ∧ L = L') := by
  have hl := termOk_len ho
  have h := l1End_spec (F := F) (L := L) (p0 := p) har ht (termOk_sig ho) (by omega) (by omega)
  rw [sEndZ_endN ho hp] at h
  exact h


/- impl.subAt -/
theorem subAt_spec {F : FH} {L : List HP} {arv : Value} {ar : List Int} (har : IntsF F arv ar) {tv : Value} {t : List Int} (ht : IntsF F tv t) {p : Nat} (ho : termOk ar t = true) (hp : p < t.length) (hnn : isNil tv = false) :
    Does prog 59 [.agg #[arv], tv, ii ((p : Int))] F (L) (fun v F' L' => F = F' ∧ L = L' ∧ IntsF F v (sub ar t p) ∧ isNil v = false) := by
 refine qL func59 rfl rfl rfl ?_
 have hsl := sigOk_spec (termOk_sig ho)
 have htl := termOk_len ho
 have hsig := termOk_sig ho
 have hee := endN_spec ho hp
 refine qg (qd (cX (je [arv] rfl rfl ?_)))
 intro b1
 refine qj (sN) rfl (qf (qg (qd (qi (tv) rfl (qi (ii ((p : Int))) rfl (cX (qs [arv] qW qB rfl rfl (Rd.ownN [] rfl rfl) (qi (tv) rfl (qi (ii ((p : Int))) rfl (cX (qn (args := [.agg #[arv], tv, ii (p : Int)]) call48 rfl (endAt_ok (p := p) har ht (ho := (by first | assumption | rfl | omega | (left; simp; done) | (right; simp; done))) (hp := (by first | assumption | rfl | omega | (left; simp; done) | (right; simp; done)))) ?_)))))))))))
 rintro _ _ _ _ ⟨rfl, rfl, rfl⟩
 refine cX (XOp.sliceI p (endN ar t p) qh qC rfl ht ⟨_, rfl⟩ ⟨_, rfl⟩ (by omega) (by omega) ?_)
 intro v1 hv1 hn1
 refine qj (v1) rfl (qf (qu (qt (L' := L) [v1] (v1) (.tmp rfl .nil) rfl rF rF (sD sR) ?_)))
 exact ⟨rfl, rfl, hv1, by rw [hn1]; exact hnn⟩

/- spec.l1Copy -/
theorem l1Copy_spec {F : FH} {L : List HP} {tv : Value} {t : List Int} (ht : IntsF F tv t) (hlt : t.length ≤ 4000000) :
    Does prog 31 [tv] F (L) (fun v F' L' => F = F' ∧ IsSl v ∧ intsH 2 v t :: L = L') := by
 refine qL func31 rfl rfl rfl (qg (qd (qj (sN) rfl (qf (qg (qd (cX (qx (s := 1) [] [ii (0)] [] qh qC qP rfl (by decide) rfl CellsAre.nil rfl ?_))))))))
 intro v1 hv1
 refine qi (tv) rfl ?_
 show XL _ _ _ _ _ _ _ (intsH 2 v1 ([] : List Int) :: L)
 refine cX (yd [] _ qh typeInfo2 rfl rfl rfl rfl rfl rfl ht (by (try simp only [List.length_append, List.length_nil, List.length_cons, List.length_singleton, List.length_take, List.length_drop]); omega) ?_)
 intro v2 hs1 hn1 hm1
 refine qj (v2) rfl (qf (qu (qt (L' := intsH 2 v2 (([] : List Int) ++ t) :: L) [v2] (v2) (.tmp rfl .nil) rfl rF rF (sC sR) ?_)))
 refine ⟨rfl, hs1, ?_⟩
 have hxs : (t : List Int) = ([] : List Int) ++ t := by simp
 exact congrArg (fun z => intsH 2 _ z :: L) hxs

/- slices.Clone[[]int64,int64] -/
theorem Clone_spec {F : FH} {L : List HP} {tv : Value} {t : List Int} (ht : IntsF F tv t) (hlt : t.length ≤ 4000000) :
    Does prog 22 [tv] F (L) (fun v F' L' => F = F' ∧ IsSl v ∧ intsH 2 v t :: L = L') := by
 refine qL func22 rfl rfl rfl (qg (qd (qj (sN) rfl (qf (qg (qg (qd (qi (tv) rfl (cX (XOp.eqNil qh rfl rfl (qv ht) (qf ?_)))))))))))
 refine js (t := isNil tv) rfl (fun h1 => ?_) (fun h1 => ?_)
 ·refine qg (qd (qj (sN) rfl (qf (qu (ql (qt (L' := intsH 2 (sN) ([]) :: L) [sN] (sN) (.tmp rfl .nil) rfl rF rF (jN (intsH.addNil 2 none _) (sC sR)) ?_))))))
  refine ⟨rfl, ⟨_, _, _, rfl⟩, ?_⟩
  have hxs : (t : List Int) = [] := by exact nil_of_isNil ht h1
  exact congrArg (fun z => intsH 2 _ z :: L) hxs
 refine qz (qg (qd (cX (qx (s := 1) [] [ii (0)] [] qh qC qP rfl (by decide) rfl CellsAre.nil rfl ?_))))
 intro v1 hv1
 refine qi (tv) rfl ?_
 show XL _ _ _ _ _ _ _ (intsH 2 v1 ([] : List Int) :: L)
 refine cX (yd [] _ qh typeInfo2 rfl rfl rfl rfl rfl rfl ht (by (try simp only [List.length_append, List.length_nil, List.length_cons, List.length_singleton, List.length_take, List.length_drop]); omega) ?_)
 intro v2 hs1 hn1 hm1
 refine qj (v2) rfl (qf (qu (qt (L' := intsH 2 v2 (([] : List Int) ++ t) :: L) [v2] (v2) (.tmp rfl .nil) rfl rF rF (sC sR) ?_)))
 refine ⟨rfl, hs1, ?_⟩
 have hxs : (t : List Int) = ([] : List Int) ++ t := by simp
 exact congrArg (fun z => intsH 2 _ z :: L) hxs

/- spec.l1Sub -/
theorem l1Sub_spec {F : FH} {L : List HP} {arv : Value} {ar : List Int} (har : IntsF F arv ar) {tv : Value} {t : List Int} (ht : IntsF F tv t) {p : Nat} (ho : termOk ar t = true) (hp : p < t.length) :
    Does prog 65 [.agg #[arv], tv, ii ((p : Int))] F (L) (fun v F' L' => F = F' ∧ IsSl v ∧ intsH 2 v (sub ar t p) :: L = L') := by
 refine qL func65 rfl rfl rfl ?_
 have hsl := sigOk_spec (termOk_sig ho)
 have htl := termOk_len ho
 have hsig := termOk_sig ho
 have hee := endN_spec ho hp
 refine qg (qd (cX (je [arv] rfl rfl ?_)))
 intro b1
 refine qj (sN) rfl (qf (qg (qd (qi (tv) rfl (qi (ii ((p : Int))) rfl (cX (qs [arv] qW qB rfl rfl (Rd.ownN [] rfl rfl) (qi (tv) rfl (qi (ii ((p : Int))) rfl (cX (qn (args := [.agg #[arv], tv, ii (p : Int)]) call50 rfl (l1End_ok (p := p) har ht (ho := (by first | assumption | rfl | omega | (left; simp; done) | (right; simp; done))) (hp := (by first | assumption | rfl | omega | (left; simp; done) | (right; simp; done)))) ?_)))))))))))
 rintro _ _ _ _ ⟨rfl, rfl, rfl⟩
 refine cX (XOp.sliceI p (endN ar t p) qh qC rfl ht ⟨_, rfl⟩ ⟨_, rfl⟩ (by omega) (by omega) ?_)
 intro v1 hv1 hn1
 refine cX (qn (args := [v1]) call31 rfl (l1Copy_spec hv1 (hlt := (by rw [List.length_take, List.length_drop]; omega))) ?_)
 rintro v2 _ _ _ ⟨rfl, hs1, rfl⟩
 refine qj (v2) rfl (qf (qu (qt (L' := intsH 2 v2 (((((t.drop p).take ((endN ar t p) - p))))) :: L) [v2] (v2) (.tmp rfl .nil) rfl rF rF (sC (sD sR)) ?_)))
 refine ⟨rfl, hs1, ?_⟩
 have hxs : (sub ar t p : List Int) = ((((t.drop p).take ((endN ar t p) - p)))) := rfl
 exact congrArg (fun z => intsH 2 _ z :: L) hxs

/- spec.RuleOk -/
theorem sRuleOk_spec {F : FH} {L : List HP} {arv : Value} {ar : List Int} (har : IntsF F arv ar) {lv : Value} {l : List Int} (hl : IntsF F lv l) {rv : Value} {r : List Int} (hr : IntsF F rv r) (hla : ar.length ≤ 4000000) (hlb : l.length ≤ 4000000) (hlc : r.length ≤ 4000000) :
    Does prog 91 [.agg #[arv], .agg #[lv, rv]] F (L) (fun v F' L' => (.bool (ruleOk ar l r) : Value) = v ∧ F = F' ∧ L = L') := by
 refine qL func91 rfl rfl rfl (qg (qd (cX (je [arv] rfl rfl ?_))))
 intro b1
 refine cX (je [lv, rv] rfl rfl ?_)
 intro b2
 refine qj (.bool (false)) rfl (qf (qg (qg (qd (cX (qs [arv] qW qB rfl rfl (Rd.ownN [_] rfl rfl) (cX (qq (0) jB rfl qy (by decide) rfl rfl (cX (qm qX rfl (Rd.own [] rfl rfl) (cX (qn (args := [.agg #[arv], lv]) call44 rfl (sTermOk_spec har hl (hla := (by first | assumption | rfl | omega | simp)) (hlt := (by first | assumption | rfl | omega | simp))) ?_))))))))))))
 rintro _ _ _ _ ⟨rfl, rfl, rfl⟩
 refine cX (jg rfl (qi (.bool (!(termOk ar l))) rfl ?_))
 by_cases h1 : (!(termOk ar l)) = true
 ·refine qp (t := 11) rfl (vB h1) (qp (t := 11) rfl (vB h1) (qp (t := 11) rfl (vB h1) (qp (t := 11) rfl (vB h1) (qp (t := 11) rfl (vB h1) (cX (qN (.bool (true)) (vB h1) rfl (qi (.bool (true)) rfl (qp (t := 18) rfl rfl (qp (t := 18) rfl rfl (qp (t := 18) rfl rfl ?_))))))))))
  refine qp (t := 18) rfl rfl (qp (t := 18) rfl rfl (cX (qN (.bool (true)) rfl rfl (qf (jH rfl (qg (qd (qj (.bool (false)) rfl (qf (qu (ql (qt (L' := L) [.bool (false)] (.bool (false)) (.tmp rfl .nil) rfl rF rF (sD (sD sR)) ?_))))))))))))
  exact ⟨(vB (ruleOk_false (fun h => by have := h.left; have := h.right; have := h.head; simp_all <;> omega))), rfl, rfl⟩
 rw [Bool.not_eq_true] at h1
 have hlo : termOk ar l = true := by simpa using h1
 have hl60 := termOk_len hlo
 refine qr (t := 11) rfl (vB h1) (qs [arv] qW qB rfl rfl (Rd.ownN [_] rfl rfl) (qr (t := 11) rfl (vB h1) (qq (1) jB rfl qy (by decide) rfl rfl (qr (t := 11) rfl (vB h1) (qm qX rfl (Rd.own [] rfl rfl) (qr (t := 11) rfl (vB h1) (qn (args := [.agg #[arv], rv]) call44 rfl (sTermOk_spec har hr (hla := (by first | assumption | rfl | omega | simp)) (hlt := (by first | assumption | rfl | omega | simp))) ?_)))))))
 rintro _ _ _ _ ⟨rfl, rfl, rfl⟩
 refine qr (t := 11) rfl (vB h1) (jg rfl (cX (qM (.bool (!(termOk ar r))) (vB h1) rfl (qi (.bool (!(termOk ar r))) rfl ?_))))
 by_cases h2 : (!(termOk ar r)) = true
 ·refine qp (t := 18) rfl (vB h2) (qp (t := 18) rfl (vB h2) (qp (t := 18) rfl (vB h2) (qp (t := 18) rfl (vB h2) (qp (t := 18) rfl (vB h2) (cX (qN (.bool (true)) (vB h2) rfl (qf (jH rfl (qg (qd (qj (.bool (false)) rfl ?_)))))))))))
  refine qf (qu (ql (qt (L' := L) [.bool (false)] (.bool (false)) (.tmp rfl .nil) rfl rF rF (sD (sD sR)) ?_)))
  exact ⟨(vB (ruleOk_false (fun h => by have := h.left; have := h.right; have := h.head; simp_all <;> omega))), rfl, rfl⟩
 rw [Bool.not_eq_true] at h2
 have hro : termOk ar r = true := by simpa using h2
 have hr60 := termOk_len hro
 refine qr (t := 18) rfl (vB h2) (qq (0) jB rfl qy (by decide) rfl rfl (qr (t := 18) rfl (vB h2) (qm qX rfl (Rd.own [] rfl rfl) (qr (t := 18) rfl (vB h2) (qD 0 qh qC rfl rfl rfl hl.slv (by omega) (Nat.mul_one _) (qr (t := 18) rfl (vB h2) (qm jj rfl (hl.rd (by omega)) (qr (t := 18) rfl (vB h2) (jb rfl rfl (cX (qM (.bool (decide ((l.getD 0 0 : Int) < 0))) (vB h2) rfl (qf ?_))))))))))))
 refine qH (p := (l.getD 0 0 : Int) < 0) rfl (fun h3 => ?_) (fun h3 => ?_)
 ·refine qg (qd (qj (.bool (false)) rfl (qf (qu (ql (qt (L' := L) [.bool (false)] (.bool (false)) (.tmp rfl .nil) rfl rF rF (sD (sD sR)) ?_))))))
  exact ⟨(vB (ruleOk_false (fun h => by have := h.left; have := h.right; have := h.head; simp_all <;> omega))), rfl, rfl⟩
 refine qz (qg (qg (qd (qj (ii (0)) rfl (qf (qQ (jr (α := Nat) (fun k => [(3, ptr b2 0), (5, ii ((k : Int)))]) (fun k => cellsH b2 [lv, rv] 44 :: cellsH b1 [arv] 26 :: L) (fun k F' => F = F' ∧ (k ≤ r.length) ∧ (∀ i, i < k → r.getD i 0 < 0 → r.getD i 0 ∈ l)) (fun k => r.length - k) 0 ⟨rfl, rfl, ⟨⟩⟩ (sC (sC sR)) ⟨rfl, (by omega), (fun i hi => absurd hi (by omega))⟩ ?_)))))))
 rintro k rE _ _ ⟨rfl, hk, hall⟩
 show X _ _ _ _ (envs [(3, ptr b2 0), (5, ii ((k : Int)))] rE) _ (cellsH b2 [lv, rv] 44 :: cellsH b1 [arv] 26 :: L)
 refine qg (qg (qd (qi (ii ((k : Int))) rfl (cX (qq (1) jB rfl qy (by decide) rfl rfl (cX (qm qX rfl (Rd.own [] rfl rfl) (cX (qE qh rfl hr.slv (cX (jb rfl rfl (qf ?_))))))))))))
 refine qH (p := (k : Int) < (r.length : Int)) rfl (fun h4 => ?_) (fun h4 => ?_)
 ·refine qz (qg (qQ (qg ?_)))
  by_cases h5 : (r.getD k 0 : Int) < 0
  ·refine X.draw [cellsH b2 [lv, rv] 44, cellsH b1 [arv] 26] L 14 [] [[], [0], [], [1, 2], [3], [4], [5], [6], [6, 7], [6], [6, 9], [6], [6, 10, 11], [6, 12]] (phiL [qe (ptr b2 1), qe rv, qe (ii ((k : Int)) : Value), qe (.pointer (some (elemA rv (k)))), qe (ii (r.getD k 0)), qe (.bool (decide ((r.getD k 0 : Int) < 0)) : Value), qe (.bool (decide ((r.getD k 0 : Int) < 0)) : Value), qe (ptr b2 0), qe lv, qe (ptr b2 1), qe rv, qe (ii ((k : Int)) : Value), qe (.pointer (some (elemA rv (k)))), qe (ii (r.getD k 0))]) (ownL []) mixed rfl rfl (by kernel_rfl) ?_ ?_
   ·refine pD (fun W R z9 => ?_) ?_
    ·refine qk (qq (1) jB rfl qy (by decide) rfl rfl ?_)
     exact ⟨rfl, rfl, rfl⟩
    refine pD (fun W R z9 => ?_) ?_
    ·rw [zA 0 (z9 0 rfl)]
     refine qk (qm qX rfl (Rd.own [] rfl rfl) ?_)
     exact ⟨rfl, rfl, rfl⟩
    refine pD (fun W R z9 => ?_) ?_
    ·refine qk (qo (ii ((k : Int))) rfl ?_)
     exact ⟨rfl, rfl, rfl⟩
    refine pD (fun W R z9 => ?_) ?_
    ·rw [zB 1 2 (z9 1 rfl) (z9 2 rfl)]
     refine qk (qD k qh qC rfl rfl rfl hr.slv (by omega) (Nat.mul_one _) ?_)
     exact ⟨rfl, rfl, rfl⟩
    refine pD (fun W R z9 => ?_) ?_
    ·rw [zA 3 (z9 3 rfl)]
     refine qk (qm jj rfl (hr.rd (by omega)) ?_)
     exact ⟨rfl, rfl, rfl⟩
    refine pD (fun W R z9 => ?_) ?_
    ·rw [zA 4 (z9 4 rfl)]
     refine qk (jb rfl rfl ?_)
     exact ⟨rfl, rfl, rfl⟩
    refine pD (fun W R z9 => ?_) ?_
    ·rw [zA 5 (z9 5 rfl)]
     refine qk (qo (.bool (decide ((r.getD k 0 : Int) < 0))) rfl ?_)
     exact ⟨rfl, rfl, rfl⟩
    refine pD (fun W R z9 => ?_) ?_
    ·rw [zA 6 (z9 6 rfl)]
     refine jq (t := 38) rfl (vT h5) (qq (0) jB rfl qy (by decide) rfl rfl ?_)
     exact ⟨rfl, rfl, rfl⟩
    refine pD (fun W R z9 => ?_) ?_
    ·rw [zB 6 7 (z9 6 rfl) (z9 7 rfl)]
     refine jq (t := 38) rfl (vT h5) (qm qX rfl (Rd.own [] rfl rfl) ?_)
     exact ⟨rfl, rfl, rfl⟩
    refine pD (fun W R z9 => ?_) ?_
    ·rw [zA 6 (z9 6 rfl)]
     refine jq (t := 38) rfl (vT h5) (qq (1) jB rfl qy (by decide) rfl rfl ?_)
     exact ⟨rfl, rfl, rfl⟩
    refine pD (fun W R z9 => ?_) ?_
    ·rw [zB 6 9 (z9 6 rfl) (z9 9 rfl)]
     refine jq (t := 38) rfl (vT h5) (qm qX rfl (Rd.own [] rfl rfl) ?_)
     exact ⟨rfl, rfl, rfl⟩
    refine pD (fun W R z9 => ?_) ?_
    ·rw [zA 6 (z9 6 rfl)]
     refine jq (t := 38) rfl (vT h5) (qo (ii ((k : Int))) rfl ?_)
     exact ⟨rfl, rfl, rfl⟩
    refine pD (fun W R z9 => ?_) ?_
    ·rw [eS (l := [(6, _), (10, _), (11, _)]) ⟨z9 6 rfl, z9 10 rfl, z9 11 rfl, ⟨⟩⟩]
     refine jq (t := 38) rfl (vT h5) (qD k qh qC rfl rfl rfl hr.slv (by omega) (Nat.mul_one _) ?_)
     exact ⟨rfl, rfl, rfl⟩
    refine pD (fun W R z9 => ?_) ?_
    ·rw [zB 6 12 (z9 6 rfl) (z9 12 rfl)]
     refine jq (t := 38) rfl (vT h5) (qm jj rfl (hr.rd (by omega)) ?_)
     exact ⟨rfl, rfl, rfl⟩
    exact stepsP.nil
   intro W hphi
   rw [eS (l := [(6, _), (8, _), (13, _)]) ⟨(hphi 6 (by decide)), (hphi 8 (by decide)), (hphi 13 (by decide)), ⟨⟩⟩]
   show XL _ _ _ _ _ _ _ (cellsH b2 [lv, rv] 44 :: cellsH b1 [arv] 26 :: L)
   refine qr (t := 38) rfl (vT h5) (qn (args := [lv, ii (r.getD k 0)]) call102 rfl (l1Has_spec (n := r.getD k 0) hl (hbd := (by first | assumption | rfl | omega | simp))) ?_)
   rintro _ _ _ _ ⟨rfl, rfl, rfl⟩
   refine qr (t := 38) rfl (vT h5) (XOp.notD rfl (cX (qN (.bool (decide (¬((r.getD k 0) ∈ l)))) (vT h5) rfl (qf ?_))))
   refine qH (p := ¬((r.getD k 0) ∈ l)) rfl (fun h6 => ?_) (fun h6 => ?_)
   ·refine qg (qd (qj (.bool (false)) rfl (qf (qu (qI (ql (ql (qI (ql (qt (L' := L) [.bool (false)] (.bool (false)) (.tmp rfl .nil) rfl rF rF (sD (sD sR)) ?_))))))))))
    exact ⟨(vB (ruleOk_false (fun h => by have := h.vars (r.getD k 0) (mem_of_getD (k := k) (by omega) rfl); simp_all))), rfl, rfl⟩
   refine qz (qd (qi (ii ((k : Int))) rfl (cX (qS (((k + 1 : Nat) : Int)) rfl rfl (by omega) (by omega) (qj (ii (((k + 1 : Nat) : Int))) rfl (qf ?_))))))
   exact ⟨k + 1, _, FLe.refl _, rF, ⟨rfl, rfl, ⟨⟩⟩, (sC (sC sR)), ⟨rfl, (by omega), (fun i hi h0 => (Nat.lt_or_ge i k).elim (fun h => hall i h h0) (fun h => by obtain rfl : i = k := (by omega); first | assumption | (exfalso; omega) | simp_all))⟩, (by omega)⟩
  refine X.draw [cellsH b2 [lv, rv] 44, cellsH b1 [arv] 26] L 14 [] [[], [0], [], [1, 2], [3], [4], [5], [6], [6, 7], [6], [6, 9], [6], [6, 10, 11], [6, 12]] (phiL [qe (ptr b2 1), qe rv, qe (ii ((k : Int)) : Value), qe (.pointer (some (elemA rv (k)))), qe (ii (r.getD k 0)), qe (.bool (decide ((r.getD k 0 : Int) < 0)) : Value), qe (.bool (decide ((r.getD k 0 : Int) < 0)) : Value), qe undef, qe undef, qe undef, qe undef, qe undef, qe undef, qe undef]) (ownL []) mixed rfl rfl (by kernel_rfl) ?_ ?_
  ·refine pD (fun W R z9 => ?_) ?_
   ·refine qk (qq (1) jB rfl qy (by decide) rfl rfl ?_)
    exact ⟨rfl, rfl, rfl⟩
   refine pD (fun W R z9 => ?_) ?_
   ·rw [zA 0 (z9 0 rfl)]
    refine qk (qm qX rfl (Rd.own [] rfl rfl) ?_)
    exact ⟨rfl, rfl, rfl⟩
   refine pD (fun W R z9 => ?_) ?_
   ·refine qk (qo (ii ((k : Int))) rfl ?_)
    exact ⟨rfl, rfl, rfl⟩
   refine pD (fun W R z9 => ?_) ?_
   ·rw [zB 1 2 (z9 1 rfl) (z9 2 rfl)]
    refine qk (qD k qh qC rfl rfl rfl hr.slv (by omega) (Nat.mul_one _) ?_)
    exact ⟨rfl, rfl, rfl⟩
   refine pD (fun W R z9 => ?_) ?_
   ·rw [zA 3 (z9 3 rfl)]
    refine qk (qm jj rfl (hr.rd (by omega)) ?_)
    exact ⟨rfl, rfl, rfl⟩
   refine pD (fun W R z9 => ?_) ?_
   ·rw [zA 4 (z9 4 rfl)]
    refine qk (jb rfl rfl ?_)
    exact ⟨rfl, rfl, rfl⟩
   refine pD (fun W R z9 => ?_) ?_
   ·rw [zA 5 (z9 5 rfl)]
    refine qk (qo (.bool (decide ((r.getD k 0 : Int) < 0))) rfl ?_)
    exact ⟨rfl, rfl, rfl⟩
   refine pD (fun W R z9 => ?_) ?_
   ·rw [zA 6 (z9 6 rfl)]
    exact jC (t := 38) rfl (vF h5) ⟨rfl, rfl, rfl⟩
   refine pD (fun W R z9 => ?_) ?_
   ·rw [eS (l := [(6, _), (7, undef)]) ⟨z9 6 rfl, z9 7 rfl, ⟨⟩⟩]
    exact jC (t := 38) rfl (vF h5) ⟨rfl, rfl, rfl⟩
   refine pD (fun W R z9 => ?_) ?_
   ·rw [zA 6 (z9 6 rfl)]
    exact jC (t := 38) rfl (vF h5) ⟨rfl, rfl, rfl⟩
   refine pD (fun W R z9 => ?_) ?_
   ·rw [eS (l := [(6, _), (9, undef)]) ⟨z9 6 rfl, z9 9 rfl, ⟨⟩⟩]
    exact jC (t := 38) rfl (vF h5) ⟨rfl, rfl, rfl⟩
   refine pD (fun W R z9 => ?_) ?_
   ·rw [zA 6 (z9 6 rfl)]
    exact jC (t := 38) rfl (vF h5) ⟨rfl, rfl, rfl⟩
   refine pD (fun W R z9 => ?_) ?_
   ·rw [eS (l := [(6, _), (10, undef), (11, undef)]) ⟨z9 6 rfl, z9 10 rfl, z9 11 rfl, ⟨⟩⟩]
    exact jC (t := 38) rfl (vF h5) ⟨rfl, rfl, rfl⟩
   refine pD (fun W R z9 => ?_) ?_
   ·rw [eS (l := [(6, _), (12, undef)]) ⟨z9 6 rfl, z9 12 rfl, ⟨⟩⟩]
    exact jC (t := 38) rfl (vF h5) ⟨rfl, rfl, rfl⟩
   exact stepsP.nil
  intro W hphi
  rw [eS (l := [(6, _), (8, undef), (13, undef)]) ⟨(hphi 6 (by decide)), (hphi 8 (by decide)), (hphi 13 (by decide)), ⟨⟩⟩]
  show XL _ _ _ _ _ _ _ (cellsH b2 [lv, rv] 44 :: cellsH b1 [arv] 26 :: L)
  refine qp (t := 38) rfl (vF h5) (qp (t := 38) rfl (vF h5) (cX (qM (.bool (false)) (vF h5) rfl (qf (jS rfl (qz (qd (qi (ii ((k : Int))) rfl (cX (qS (((k + 1 : Nat) : Int)) rfl rfl (by omega) (by omega) (qj (ii (((k + 1 : Nat) : Int))) rfl (qf ?_))))))))))))
  exact ⟨k + 1, _, FLe.refl _, rF, ⟨rfl, rfl, ⟨⟩⟩, (sC (sC sR)), ⟨rfl, (by omega), (fun i hi h0 => (Nat.lt_or_ge i k).elim (fun h => hall i h h0) (fun h => by obtain rfl : i = k := (by omega); first | assumption | (exfalso; omega) | simp_all))⟩, (by omega)⟩
 refine jn (qA (qA (qV (qg (qd (qj (.bool (true)) rfl (qf (qu (qt (L' := L) [.bool (true)] (.bool (true)) (.tmp rfl .nil) rfl rF rF (sD (sD sR)) ?_)))))))))
 exact ⟨(vB (ruleOk_iff.2 ⟨hlo, hro, by omega, fun n hn h0 => by obtain ⟨i, hi, rfl⟩ := List.getElem_of_mem hn; have := hall i (by omega); simp [List.getD, hi] at this; exact this h0⟩)), rfl, rfl⟩

/- spec.SystemOk -/
theorem sSystemOk_spec {F : FH} {L : List HP} {arv : Value} {ar : List Int} (har : IntsF F arv ar) {rsv : Value} {rs : List (List Int × List Int)} (hrs : PairsF F rsv rs) (hla : ar.length ≤ 4000000) (hlr : rs.length ≤ 4000000) (hrb : ∀ i, i < rs.length → (rs.getD i ([], [])).1.length ≤ 4000000 ∧ (rs.getD i ([], [])).2.length ≤ 4000000) :
    Does prog 63 [.agg #[arv, rsv]] F (L) (fun v F' L' => (.bool (sysOk ar rs) : Value) = v ∧ F = F' ∧ L = L') := by
 refine qL func63 rfl rfl rfl (qg (qd (cX (je [arv, rsv] rfl rfl ?_))))
 intro b1
 refine qj (.bool (false)) rfl (qf (qg (qg (qd (cX (qq (0) ju rfl qB (by decide) rfl rfl (cX (qs [arv] qW qB rfl rfl (Rd.ownN [] rfl rfl) (cX (qn (args := [.agg #[arv]]) call56 rfl (sSigOk_spec har (hla := (by first | assumption | rfl | omega | simp))) ?_))))))))))
 rintro _ _ _ _ ⟨rfl, rfl, rfl⟩
 refine cX (jg rfl (qi (.bool (!(sigOk ar))) rfl ?_))
 by_cases h1 : (!(sigOk ar)) = true
 ·refine qp (t := 8) rfl (vB h1) (qp (t := 8) rfl (vB h1) (qp (t := 8) rfl (vB h1) (qp (t := 8) rfl (vB h1) (cX (qN (.bool (true)) (vB h1) rfl (qf (jH rfl (qg (qd (qj (.bool (false)) rfl (qf ?_)))))))))))
  refine qu (ql (qt (L' := L) [.bool (false)] (.bool (false)) (.tmp rfl .nil) rfl rF rF (sD sR) ?_))
  exact ⟨(vB (sysOk_false (fun h => by have := h.1; have := h.2.1; simp_all <;> omega))), rfl, rfl⟩
 rw [Bool.not_eq_true] at h1
 refine qr (t := 8) rfl (vB h1) (qq (1) ju rfl yb (by decide) rfl rfl (qr (t := 8) rfl (vB h1) (qm isAgg38 rfl (Rd.own [] rfl rfl) (qr (t := 8) rfl (vB h1) (qE jZ rfl hrs.slv (qr (t := 8) rfl (vB h1) (jF rfl rfl (cX (qM (.bool (decide (((rs.length : Int) : Int) > 12))) (vB h1) rfl (qf ?_))))))))))
 refine qH (p := ((rs.length : Int) : Int) > 12) rfl (fun h2 => ?_) (fun h2 => ?_)
 ·refine qg (qd (qj (.bool (false)) rfl (qf (qu (ql (qt (L' := L) [.bool (false)] (.bool (false)) (.tmp rfl .nil) rfl rF rF (sD sR) ?_))))))
  exact ⟨(vB (sysOk_false (fun h => by have := h.1; have := h.2.1; simp_all <;> omega))), rfl, rfl⟩
 refine qz (qg (qg (qd (qj (ii (0)) rfl (qf (qQ (jr (α := Nat) (fun k => [(1, ptr b1 0), (3, ii ((k : Int)))]) (fun k => cellsH b1 [arv, rsv] 40 :: L) (fun k F' => F = F' ∧ (k ≤ rs.length) ∧ (∀ i, i < k → ruleOk ar (rs.getD i ([], [])).1 (rs.getD i ([], [])).2 = true)) (fun k => rs.length - k) 0 ⟨rfl, rfl, ⟨⟩⟩ (sC sR) ⟨rfl, (by omega), (fun i hi => absurd hi (by omega))⟩ ?_)))))))
 rintro k rE _ _ ⟨rfl, hk, hall⟩
 show X _ _ _ _ (envs [(1, ptr b1 0), (3, ii ((k : Int)))] rE) _ (cellsH b1 [arv, rsv] 40 :: L)
 refine qg (qg (qd (qi (ii ((k : Int))) rfl (cX (qq (1) ju rfl yb (by decide) rfl rfl (cX (qm isAgg38 rfl (Rd.own [] rfl rfl) (cX (qE jZ rfl hrs.slv (cX (jb rfl rfl (qf ?_))))))))))))
 refine qH (p := (k : Int) < (rs.length : Int)) rfl (fun h3 => ?_) (fun h3 => ?_)
 ·refine qz (qg (qQ (qg ?_)))
  obtain ⟨a1, a2, ha1, ha2, hr1, hr2⟩ := hrs.rd (i := k) (by omega)
  refine X.draw [cellsH b1 [arv, rsv] 40] L 7 [] [[], [0], [], [2], [], [3, 4], [5]] (phiL [qe (ptr b1 0), qe (.agg #[arv]), qe (ptr b1 1), qe rsv, qe (ii ((k : Int)) : Value), qe (.pointer (some (elemA rsv (k * 2)))), qe (.agg #[a1, a2])]) (ownL []) mixed rfl rfl (by kernel_rfl) ?_ ?_
  ·refine pD (fun W R z9 => ?_) ?_
   ·refine qk (qq (0) ju rfl qB (by decide) rfl rfl ?_)
    exact ⟨rfl, rfl, rfl⟩
   refine pD (fun W R z9 => ?_) ?_
   ·rw [zA 0 (z9 0 rfl)]
    refine qk (qs [arv] qW qB rfl rfl (Rd.ownN [] rfl rfl) ?_)
    exact ⟨rfl, rfl, rfl⟩
   refine pD (fun W R z9 => ?_) ?_
   ·refine qk (qq (1) ju rfl yb (by decide) rfl rfl ?_)
    exact ⟨rfl, rfl, rfl⟩
   refine pD (fun W R z9 => ?_) ?_
   ·rw [zA 2 (z9 2 rfl)]
    refine qk (qm isAgg38 rfl (Rd.own [] rfl rfl) ?_)
    exact ⟨rfl, rfl, rfl⟩
   refine pD (fun W R z9 => ?_) ?_
   ·refine qk (qo (ii ((k : Int))) rfl ?_)
    exact ⟨rfl, rfl, rfl⟩
   refine pD (fun W R z9 => ?_) ?_
   ·rw [zB 3 4 (z9 3 rfl) (z9 4 rfl)]
    refine qk (qD k jZ sizeOf44 rfl rfl rfl hrs.slv (by omega) rfl ?_)
    exact ⟨rfl, rfl, rfl⟩
   refine pD (fun W R z9 => ?_) ?_
   ·rw [zA 5 (z9 5 rfl)]
    refine qk (qs [a1, a2] isAgg44 sizeOf44 rfl rfl (Rd.two (hr1 _) (hr2 _)) ?_)
    exact ⟨rfl, rfl, rfl⟩
   exact stepsP.nil
  intro W hphi
  rw [zB 1 6 (hphi 1 (by decide)) (hphi 6 (by decide))]
  show XL _ _ _ _ _ _ _ (cellsH b1 [arv, rsv] 40 :: L)
  refine cX (qn (args := [.agg #[arv], .agg #[a1, a2]]) call91 rfl (sRuleOk_spec har ha1 ha2 (hla := (by first | assumption | rfl | omega | simp)) (hlb := ((hrb k (by omega)).1)) (hlc := ((hrb k (by omega)).2))) ?_)
  rintro _ _ _ _ ⟨rfl, rfl, rfl⟩
  refine cX (jg rfl (qf ?_))
  refine js (t := !(ruleOk ar ((rs.getD k ([], [])).1) ((rs.getD k ([], [])).2))) rfl (fun h4 => ?_) (fun h4 => ?_)
  ·refine qg (qd (qj (.bool (false)) rfl (qf (qu (qI (ql (ql (qI (ql (qt (L' := L) [.bool (false)] (.bool (false)) (.tmp rfl .nil) rfl rF rF (sD sR) ?_))))))))))
   exact ⟨(vB (sysOk_false (fun h => by have := h.2.2 k (by omega); simp_all))), rfl, rfl⟩
  refine qz (qd (qi (ii ((k : Int))) rfl (cX (qS (((k + 1 : Nat) : Int)) rfl rfl (by omega) (by omega) (qj (ii (((k + 1 : Nat) : Int))) rfl (qf ?_))))))
  exact ⟨k + 1, _, FLe.refl _, rF, ⟨rfl, rfl, ⟨⟩⟩, (sC sR), ⟨rfl, (by omega), (fun i hi => (Nat.lt_or_ge i k).elim (fun h => hall i h) (fun h => by obtain rfl : i = k := (by omega); first | assumption | simp_all))⟩, (by omega)⟩
 refine jn (qA (qA (qV (qg (qd (qj (.bool (true)) rfl (qf (qu (qt (L' := L) [.bool (true)] (.bool (true)) (.tmp rfl .nil) rfl rF rF (sD sR) ?_)))))))))
 exact ⟨(vB (sysOk_iff.2 ⟨by first | assumption | simp_all, by omega, fun i hi => hall i (by omega)⟩)), rfl, rfl⟩

/- impl.matchInto -/
theorem matchInto_spec {F : FH} {L : List HP} {arv : Value} {ar : List Int} (har : IntsF F arv ar) {pv : Value} {p : List Int} (hp : IntsF F pv p) {tv : Value} {t : List Int} (ht : IntsF F tv t) {bs : List Value} {b : RowL} (hb : BindC F bs b) (hbl : b.length = 24) (ho : termOk ar t = true) (hpl : p.length ≤ 4000000) (hpg : ∀ k, k < p.length → -24 ≤ p.getD k 0) :
    Does prog 58 [.agg #[arv], pv, tv, .agg (bs).toArray] F (L) (fun v F' L' => F = F' ∧ ∃ (bs : List Value), ∃ (bl : RowL), (.tuple #[.agg (bs).toArray, .bool ((mGo ar t p 0 b).isSome)] : Value) = v ∧ (BindC F' bs bl) ∧ (bl.length = 24) ∧ (∀ r, mGo ar t p 0 b = some r → bl = r) ∧ L = L') := by
 refine qL func58 rfl rfl rfl ?_
 have hsl := sigOk_spec (termOk_sig ho)
 have htl := termOk_len ho
 have hnn := notNil_of_pos ht (by omega)
 refine qg (qd (cX (je [arv] rfl rfl ?_)))
 intro b1
 refine cX (je bs rfl rfl ?_)
 intro b2
 refine cX (jm (List.replicate 24 (sN)) zeroValue89 rfl ?_)
 intro b3
 have hc1 : BindC F _ _ := BindC.nils 24
 refine qj (.bool (false)) rfl (qf (qg (qd (qj (ii (0)) rfl (qf (qg (qg (qd (qi (pv) rfl (cX (qE qh rfl hp.slv (qi (ii (0)) rfl (qf (qQ (jr (α := Nat × Nat × List Value × RowL) (fun xQ => [(2, tv), (4, ptr b1 0), (7, ptr b2 0), (8, ptr b3 0), (10, ii (((xQ.2.1 : Nat) : Int))), (14, pv), (15, ii ((p.length : Int))), (16, ii (((xQ.1 : Nat) : Int)))]) (fun xQ => cellsH b3 (List.replicate 24 (sN)) 89 :: cellsH b2 xQ.2.2.1 89 :: cellsH b1 [arv] 26 :: L) (fun xQ F' => F = F' ∧ (BindC F xQ.2.2.1 xQ.2.2.2) ∧ (xQ.2.2.2.length = 24) ∧ (xQ.1 ≤ p.length) ∧ (xQ.2.1 ≤ t.length) ∧ (mGo ar t p 0 b = mGo ar t (p.drop xQ.1) xQ.2.1 xQ.2.2.2)) (fun xQ => p.length - xQ.1) (0, 0, bs, b) ⟨rfl, rfl, rfl, rfl, rfl, rfl, rfl, rfl, ⟨⟩⟩ (sC (sC (sC sR))) ⟨rfl, (hb), (hbl), (by (try dsimp only) <;> omega), (by (try dsimp only) <;> omega), (rfl)⟩ ?_)))))))))))))))
 rintro ⟨k, i, bs, bl⟩ rE _ _ ⟨rfl, hbc, hbl2, hk, hi, hm⟩
 show X _ _ _ _ (envs [(2, tv), (4, ptr b1 0), (7, ptr b2 0), (8, ptr b3 0), (10, ii ((i : Int))), (14, pv), (15, ii ((p.length : Int))), (16, ii ((k : Int)))] rE) _ (cellsH b3 (List.replicate 24 (sN)) 89 :: cellsH b2 bs 89 :: cellsH b1 [arv] 26 :: L)
 dsimp only at hbc hbl2 hk hi hm
 have hpk := hpg k
 have hsl2 := fun h => sub_length (p := i) ho h
 have hee := fun h => endN_spec (p := i) ho h
 refine qg (qd (cX (jb rfl rfl (qf (qg ?_)))))
 refine qH (p := (k : Int) < (p.length : Int)) rfl (fun h1 => ?_) (fun h1 => ?_)
 ·refine qz (qg (qQ (qg (qd (cX (qD k qh qC rfl rfl rfl hp.slv (by omega) (Nat.mul_one _) (cX (qm jj rfl (hp.rd (by omega)) (qj (ii (p.getD k 0)) rfl (qf (qg (qg (qd (qi (ii ((i : Int))) rfl (qi (tv) rfl (cX (qE qh rfl ht.slv (cX (jW rfl rfl (qf ?_))))))))))))))))))))
  refine qH (p := (i : Int) ≥ (t.length : Int)) rfl (fun h2 => ?_) (fun h2 => ?_)
  ·refine qg (qd (cX (qs bs isAgg89 jX (by have := CO.len hbc; (try simp only [List.length_set, List.length_replicate] at this ⊢) <;> omega) rfl (Rd.ownN [_] rfl take_all) (cX (qO [] _ bs jX rfl rfl (by have := CO.len hbc; (try simp only [List.length_set, List.length_replicate] at this ⊢) <;> omega) hbc.ones rfl (Nat.ble_eq_true_of_le (Nat.le_of_eq (by have := CO.len hc1; (try simp only [List.length_set, List.length_replicate] at this ⊢) <;> omega))) (arr_over (by have := CO.len hc1; (try simp only [List.length_set, List.length_replicate] at this ⊢) <;> omega)) (qj (.bool (false)) rfl (qf (qu (ql (qI (ql (ql (qI (ql (qt (L' := L) [.agg (bs).toArray, .bool (false)] (.tuple #[.agg (bs).toArray, .bool (false)]) (.cell rfl (jt bs isAgg89 jX (by have := CO.len hbc; (try simp only [List.length_set, List.length_replicate] at this ⊢) <;> omega) (Rd.ownN [] rfl take_all)) (.tmp rfl .nil)) rfl rF rF (sD (sD (sD sR))) ?_)))))))))))))))
   have hz : mGo ar t p 0 b = none := hm.trans (mGo_short (by omega) (by omega))
   refine ⟨rfl, _, _, by rw [hz]; rfl, hbc, by (try simp only [List.length_set]) <;> omega, fun r hr => ?_, rfl⟩
   rw [hz] at hr; cases hr
  refine qz (qg (qg (qd (qi (ii (p.getD k 0)) rfl (cX (jW rfl rfl (qf ?_)))))))
  refine qH (p := (p.getD k 0 : Int) ≥ 0) rfl (fun h3 => ?_) (fun h3 => ?_)
  ·refine qg (qg (qd (qi (tv) rfl (qi (ii ((i : Int))) rfl (cX (qD i qh qC rfl rfl rfl ht.slv (by omega) (Nat.mul_one _) (cX (qm jj rfl (ht.rd (by omega)) (qi (ii (p.getD k 0)) rfl (cX (XOp.neq rfl rfl (qf ?_))))))))))))
   refine qH (p := (t.getD i 0 : Int) ≠ p.getD k 0) rfl (fun h4 => ?_) (fun h4 => ?_)
   ·refine qg (qd (cX (qs bs isAgg89 jX (by have := CO.len hbc; (try simp only [List.length_set, List.length_replicate] at this ⊢) <;> omega) rfl (Rd.ownN [_] rfl take_all) (cX (qO [] _ bs jX rfl rfl (by have := CO.len hbc; (try simp only [List.length_set, List.length_replicate] at this ⊢) <;> omega) hbc.ones rfl (Nat.ble_eq_true_of_le (Nat.le_of_eq (by have := CO.len hc1; (try simp only [List.length_set, List.length_replicate] at this ⊢) <;> omega))) (arr_over (by have := CO.len hc1; (try simp only [List.length_set, List.length_replicate] at this ⊢) <;> omega)) (qj (.bool (false)) rfl (qf (qu (ql (ql (qI (ql (ql (qI (ql (qt (L' := L) [.agg (bs).toArray, .bool (false)] (.tuple #[.agg (bs).toArray, .bool (false)]) (.cell rfl (jt bs isAgg89 jX (by have := CO.len hbc; (try simp only [List.length_set, List.length_replicate] at this ⊢) <;> omega) (Rd.ownN [] rfl take_all)) (.tmp rfl .nil)) rfl rF rF (sD (sD (sD sR))) ?_))))))))))))))))
    have hz : mGo ar t p 0 b = none := hm.trans (mGo_ne (by omega) (by omega) (by omega) (by assumption))
    refine ⟨rfl, _, _, by rw [hz]; rfl, hbc, by (try simp only [List.length_set]) <;> omega, fun r hr => ?_, rfl⟩
    rw [hz] at hr; cases hr
   refine qz (qg (qd (qi (ii ((i : Int))) rfl (cX (qS (((i + 1 : Nat) : Int)) rfl rfl (by omega) (by omega) (qj (ii (((i + 1 : Nat) : Int))) rfl (qf (jn (qA (qV (qd (cX (qS (((k + 1 : Nat) : Int)) rfl rfl (by omega) (by omega) (qi (ii (((k + 1 : Nat) : Int))) rfl (qf ?_)))))))))))))))
   exact ⟨(k + 1, i + 1, bs, bl), _, FLe.refl _, rF, ⟨rfl, rfl, rfl, rfl, rfl, rfl, rfl, rfl, ⟨⟩⟩, (sC (sC (sC sR))), ⟨rfl, (hbc), (by (try simp only [List.length_set]) <;> omega), (by (try dsimp only) <;> omega), (by (try dsimp only) <;> omega), (hm.trans (mGo_sym (by omega) (by omega) (by omega) (by omega)))⟩, (by omega)⟩
  refine qz (qg (qd (cX (qs [arv] qW qB rfl rfl (Rd.ownN [_, _] rfl rfl) (qi (tv) rfl (qi (ii ((i : Int))) rfl (cX (qn (args := [.agg #[arv], tv, ii (i : Int)]) call59 rfl (subAt_spec (p := i) har ht (ho := (by first | assumption | rfl | omega | simp)) (hp := (by first | assumption | rfl | omega | simp)) (hnn := (by first | assumption | rfl | omega | simp))) ?_))))))))
  rintro v1 _ _ _ ⟨rfl, rfl, hv1, hn1⟩
  refine qj (v1) rfl (qf (qg (qg (qd (qi (ii (p.getD k 0)) rfl (cX (jl ((-1) - (p.getD k 0)) rfl rfl (by omega) (by omega) (cX (XOp.indexA (i := (-1) - (p.getD k 0)) (((-1) - (p.getD k 0)).toNat) (((-1) - (p.getD k 0)).toNat) runUnderlying89 qy rfl rfl (by omega) (by omega) (by omega) ?_)))))))))
  obtain ⟨a1, ha1, hn2, he1⟩ := hbc.get (i := ((-1) - (p.getD k 0)).toNat) (by omega)
  refine cX (qm qX rfl (Rd.own [_] rfl he1) (cX (XOp.eqNil qh rfl rfl (qv ha1) (qf ?_))))
  refine js (t := isNil a1) rfl (fun h5 => ?_) (fun h5 => ?_)
  ·refine qd (qi (ii (p.getD k 0)) rfl (cX (jl ((-1) - (p.getD k 0)) rfl rfl (by omega) (by omega) (qi (v1) rfl (cX (XOp.indexA (i := (-1) - (p.getD k 0)) (((-1) - (p.getD k 0)).toNat) (((-1) - (p.getD k 0)).toNat) runUnderlying89 qy rfl rfl (by omega) (by omega) (by omega) (cX (jL [_] _ (bs.set (((-1) - (p.getD k 0)).toNat) v1) qy rfl rfl (qJ (qv hv1)) rfl (blt_of (by have := CO.len hbc; (try simp only [List.length_set, List.length_replicate] at this ⊢) <;> omega)) rfl ?_))))))))
   have hc2 := hbc.set (((-1) - (p.getD k 0)).toNat) hv1 (by simp [*, sub_ne ho (show i < t.length by omega)])
   refine qf (qd (qi (ii ((i : Int))) rfl (qi (v1) rfl (cX (qE qh rfl hv1.slv (cX (qS (((i + (((sub ar t i)).length) : Nat) : Int)) rfl rfl (by omega) (by omega) (qj (ii (((i + (((sub ar t i)).length) : Nat) : Int))) rfl (qf (qd (cX (qS (((k + 1 : Nat) : Int)) rfl rfl (by omega) (by omega) (qi (ii (((k + 1 : Nat) : Int))) rfl (qf ?_))))))))))))))
   exact ⟨(k + 1, i + (((sub ar t i)).length), (bs.set (((-1) - (p.getD k 0)).toNat) v1), (bl.set (((-1) - (p.getD k 0)).toNat) ((sub ar t i)))), _, FLe.refl _, rF, ⟨rfl, rfl, rfl, rfl, rfl, rfl, rfl, rfl, ⟨⟩⟩, (sC (sC (sC sR))), ⟨rfl, (hc2), (by (try simp only [List.length_set]) <;> omega), (by (try dsimp only) <;> omega), (by (try dsimp only) <;> omega), (hm.trans (mGo_new (by omega) (by omega) (by omega) (of_decide_eq_true (hn2.symm.trans (by assumption)))))⟩, (by omega)⟩
  refine qg (qd (qi (ii (p.getD k 0)) rfl (cX (jl ((-1) - (p.getD k 0)) rfl rfl (by omega) (by omega) (cX (XOp.indexA (i := (-1) - (p.getD k 0)) (((-1) - (p.getD k 0)).toNat) (((-1) - (p.getD k 0)).toNat) runUnderlying89 qy rfl rfl (by omega) (by omega) (by omega) (cX (qm qX rfl (Rd.own [_] rfl he1) (qi (v1) rfl (cX (qn (args := [a1, v1]) call89 rfl (Equal_spec ha1 hv1 (hbd := (by first | assumption | rfl | omega | (left; simp; done) | (right; simp; done)))) ?_)))))))))))
  rintro _ _ _ _ ⟨rfl, rfl, rfl⟩
  refine cX (XOp.notD rfl (qf ?_))
  refine qH (p := ¬(((bl.getD (((-1) - (p.getD k 0)).toNat) [])) = ((sub ar t i)))) rfl (fun h6 => ?_) (fun h6 => ?_)
  ·refine qg (qd (cX (qs bs isAgg89 jX (by have := CO.len hbc; (try simp only [List.length_set, List.length_replicate] at this ⊢) <;> omega) rfl (Rd.ownN [_] rfl take_all) (cX (qO [] _ bs jX rfl rfl (by have := CO.len hbc; (try simp only [List.length_set, List.length_replicate] at this ⊢) <;> omega) hbc.ones rfl (Nat.ble_eq_true_of_le (Nat.le_of_eq (by have := CO.len hc1; (try simp only [List.length_set, List.length_replicate] at this ⊢) <;> omega))) (arr_over (by have := CO.len hc1; (try simp only [List.length_set, List.length_replicate] at this ⊢) <;> omega)) (qj (.bool (false)) rfl (qf (qu (ql (qI (ql (ql (qI (ql (qt (L' := L) [.agg (bs).toArray, .bool (false)] (.tuple #[.agg (bs).toArray, .bool (false)]) (.cell rfl (jt bs isAgg89 jX (by have := CO.len hbc; (try simp only [List.length_set, List.length_replicate] at this ⊢) <;> omega) (Rd.ownN [] rfl take_all)) (.tmp rfl .nil)) rfl rF rF (sD (sD (sD sR))) ?_)))))))))))))))
   have hz : mGo ar t p 0 b = none := hm.trans (mGo_clash (by omega) (by omega) (by omega) (of_decide_eq_false (hn2.symm.trans (by assumption))) (by assumption))
   refine ⟨rfl, _, _, by rw [hz]; rfl, hbc, by (try simp only [List.length_set]) <;> omega, fun r hr => ?_, rfl⟩
   rw [hz] at hr; cases hr
  refine qz (qd (qi (ii ((i : Int))) rfl (qi (v1) rfl (cX (qE qh rfl hv1.slv (cX (qS (((i + (((sub ar t i)).length) : Nat) : Int)) rfl rfl (by omega) (by omega) (qj (ii (((i + (((sub ar t i)).length) : Nat) : Int))) rfl (qf (qd (cX (qS (((k + 1 : Nat) : Int)) rfl rfl (by omega) (by omega) (qi (ii (((k + 1 : Nat) : Int))) rfl (qf ?_))))))))))))))
  exact ⟨(k + 1, i + (((sub ar t i)).length), bs, bl), _, FLe.refl _, rF, ⟨rfl, rfl, rfl, rfl, rfl, rfl, rfl, rfl, ⟨⟩⟩, (sC (sC (sC sR))), ⟨rfl, (hbc), (by (try simp only [List.length_set]) <;> omega), (by (try dsimp only) <;> omega), (by (try dsimp only) <;> omega), (hm.trans (mGo_same (by omega) (by omega) (by omega) (of_decide_eq_false (hn2.symm.trans (by assumption))) (by first | assumption | exact Classical.not_not.1 (by assumption))))⟩, (by omega)⟩
 refine jn (qA (qA (qV (qg (qd (cX (qs bs isAgg89 jX (by have := CO.len hbc; (try simp only [List.length_set, List.length_replicate] at this ⊢) <;> omega) rfl (Rd.ownN [_] rfl take_all) (cX (qO [] _ bs jX rfl rfl (by have := CO.len hbc; (try simp only [List.length_set, List.length_replicate] at this ⊢) <;> omega) hbc.ones rfl (Nat.ble_eq_true_of_le (Nat.le_of_eq (by have := CO.len hc1; (try simp only [List.length_set, List.length_replicate] at this ⊢) <;> omega))) (arr_over (by have := CO.len hc1; (try simp only [List.length_set, List.length_replicate] at this ⊢) <;> omega)) (qj (.bool (true)) rfl (qf (qu (qt (L' := L) [.agg (bs).toArray, .bool (true)] (.tuple #[.agg (bs).toArray, .bool (true)]) (.cell rfl (jt bs isAgg89 jX (by have := CO.len hbc; (try simp only [List.length_set, List.length_replicate] at this ⊢) <;> omega) (Rd.ownN [] rfl take_all)) (.tmp rfl .nil)) rfl rF rF (sD (sD (sD sR))) ?_)))))))))))))
 have hz : mGo ar t p 0 b = some bl := hm.trans (mGo_done (by omega))
 refine ⟨rfl, _, _, by rw [hz]; rfl, hbc, by (try simp only [List.length_set]) <;> omega, fun r hr => ?_, rfl⟩
 rw [hz] at hr; exact Option.some.inj hr

/- (impl.bindings).subst -/
theorem subst_spec {F : FH} {L : List HP} {bs : List Value} {b : RowL} (hb : BindC F bs b) (hbl : b.length = 24) :
    Does prog 61 [.agg (bs).toArray] F (L) (fun v F' L' => ∃ (a : Value), (.agg #[a] : Value) = v ∧ (RowsF F' a b) ∧ L = L') := by
 refine qL func61 rfl rfl rfl (qg (qd (cX (je bs rfl rfl ?_))))
 intro b1
 refine cX (jm [sN] jT rfl ?_)
 intro b2
 refine qf (qg (qd (cX (XOp.sliceArr (cs := bs) [_] _ runUnderlying89 qy rfl (by have := CO.len hb; (try simp only [List.length_set, List.length_replicate] at this ⊢) <;> omega) rfl ?_))))
 intro v1 hv1
 have hc1 := BindC.rows hb
 refine cX (jk [v1] [sN] [(0, 1)] [(0, [v1])] jd jT rfl (.cons rfl jy PlacesAre.nil) rfl (.cons (cells_one ⟨_, _, _, hv1⟩) CellsAre.nil) (cX (qO [] _ [v1] jJ rfl rfl rfl (qw (qJ ⟨_, _, _, hv1⟩) qT) rfl rfl rfl (qf (ji [_] _ _ rfl (fun F1 le1 hz1 => ?_))))))
 replace hc1 := hc1.mono le1
 have hf1 : RowsF F1 v1 b := CO.fz hc1 (by first | rfl | omega | (rw [List.length_set]; omega) | (simp; done)) hz1.fz
 refine qu (qt (L' := L) [.agg #[v1]] (.agg #[v1]) (.cell rfl (jt [v1] isAgg95 jJ rfl (Rd.ownN [] rfl rfl)) .nil) rfl le1 rF (sD sR) ?_)
 exact ⟨_, rfl, hf1, rfl⟩

/- slices.Grow[[]int64,int64] -/
theorem GrowNil_spec {F : FH} {L : List HP}  {n : Nat} (hg1 : 1 ≤ n) (hn : n ≤ 400000000) :
    Does prog 94 [sN, ii ((n : Int))] F (L) (fun v F' L' => F = F' ∧ IsSl v ∧ intsH 2 v ([]) :: L = L') := by
 refine qL func94 rfl rfl rfl (qg (qd (qj (sN) rfl (qf (qg (qg (qd (qi (ii ((n : Int))) rfl (cX (jb rfl rfl (qf ?_)))))))))))
 refine qH (p := (n : Int) < 0) rfl (fun h1 => ?_) (fun h1 => ?_)
 ·omega
 refine qz (qg (qg (qd (qi (ii ((n : Int))) rfl (qi (sN) rfl (cX (XOp.capNil qh rfl (qi (sN) rfl (cX (qE qh rfl SlV.nil (cX (jl (0 - (((0 : Nat) : Int))) rfl rfl (by omega) (by omega) (cX (jl (((n : Int)) - (0 - (((0 : Nat) : Int)))) rfl rfl (by omega) (by omega) (qj (ii (((n : Int)) - (0 - (((0 : Nat) : Int))))) rfl (qf (qg (qd ?_))))))))))))))))))
 refine qi (ii (((n : Int)) - (0 - (((0 : Nat) : Int))))) rfl (cX (jF rfl rfl (qf ?_)))
 refine qH (p := (((n : Int)) - (0 - (((0 : Nat) : Int))) : Int) > 0) rfl (fun h2 => ?_) (fun h2 => ?_)
 ·refine qd (qi (sN) rfl (qi (sN) rfl (cX (XOp.capNil qh rfl (cX (XOp.sliceNil qh qC rfl ⟨_, rfl⟩ (qi (ii (((n : Int)) - (0 - (((0 : Nat) : Int))))) rfl (cX (XOp.appendZ (s := 1) (bytes := 8) (n := (((n : Int)) - (0 - (((0 : Nat) : Int)))).toNat) [ii (0)] qh runUnderlying3 typeInfo2 rfl rfl rfl rfl rfl (by decide) rfl (by rw [show (((((n : Int)) - (0 - (((0 : Nat) : Int)))).toNat : Nat) : Int) = ((n : Int)) - (0 - (((0 : Nat) : Int))) from by omega]; rfl) (by omega) (by omega) (by omega) ?_)))))))))
  intro v1 hv1
  have hv2 : IsSl v1 := by obtain ⟨b0, c0, h0⟩ := hv1; exact ⟨_, _, _, h0⟩
  rw [intsH_zeros]
  refine qi (sN) rfl (cX (qE qh rfl SlV.nil (cX (XOp.sliceOwn (cs := List.map (Value.int .i64) ((List.replicate ((((n : Int)) - (0 - (((0 : Nat) : Int)))).toNat) 0))) [] _ 0 qh qC rfl rfl ⟨_, rfl⟩ (Nat.zero_le _) ?_))))
  intro v2 hs1
  show XL _ _ _ _ _ _ _ (intsH 2 v2 ([]) :: L)
  refine qj (v2) rfl (qf (qg (qd (qi (v2) rfl (qj (v2) rfl (qf (qu (qt (L' := intsH 2 v2 ([]) :: L) [v2] (v2) (.tmp rfl .nil) rfl rF rF (sC sR) ?_))))))))
  refine ⟨rfl, hs1, ?_⟩
  have hxs : ([] : List Int) = [] := rfl
  exact congrArg (fun z => intsH 2 _ z :: L) hxs
 omega

/- slices.Concat[[]int64,int64] -/
theorem Concat_spec {F : FH} {L : List HP} {xsv : Value} {xs : List (List Int)} (hxs : RowsF F xsv xs) (hg1 : 1 ≤ xs.flatten.length) (hn : xs.length ≤ 10) (hb : ∀ i, i < xs.length → (xs.getD i []).length ≤ 4000000) :
    Does prog 68 [xsv] F (L) (fun v F' L' => F = F' ∧ IsSl v ∧ intsH 2 v xs.flatten :: L = L') := by
 refine qL func68 rfl rfl rfl (qg (qd (qj (sN) rfl (qf (qg (qd (qj (ii (0)) rfl (qf (qg (qg (qd (qi (xsv) rfl (cX (qE ja rfl hxs.slv (qi (ii (0)) rfl (qf (qQ ?_)))))))))))))))))
 refine jr (α := Nat × Nat) (fun xQ => [(0, xsv), (3, ii (((xQ.2 : Nat) : Int))), (9, xsv), (10, ii ((xs.length : Int))), (11, ii (((xQ.1 : Nat) : Int)))]) (fun xQ => L) (fun xQ F' => F = F' ∧ (xQ.1 ≤ xs.length) ∧ (xQ.2 = (xs.take xQ.1).flatten.length) ∧ (xQ.2 ≤ xQ.1 * 4000000)) (fun xQ => xs.length - xQ.1) (0, 0) ⟨rfl, rfl, rfl, rfl, rfl, ⟨⟩⟩ sR ⟨rfl, (by (try dsimp only) <;> omega), (rfl), (by (try dsimp only) <;> omega)⟩ ?_
 rintro ⟨k, z⟩ rE _ _ ⟨rfl, hk, hz, hz2⟩
 show X _ _ _ _ (envs [(0, xsv), (3, ii ((z : Int))), (9, xsv), (10, ii ((xs.length : Int))), (11, ii ((k : Int)))] rE) _ (L)
 dsimp only at hk hz hz2
 have hbk := hb k
 have hft := fun h => congrArg List.length (flatten_take (xs := xs) (k := k) h)
 simp only [List.length_append] at hft
 refine qg (qd (cX (jb rfl rfl (qf (qg ?_)))))
 refine qH (p := (k : Int) < (xs.length : Int)) rfl (fun h1 => ?_) (fun h1 => ?_)
 ·refine qz (qg (qQ (qg (qd (cX (qD k ja qy rfl rfl rfl hxs.slv (by omega) (Nat.mul_one _) ?_))))))
  obtain ⟨a1, ha1, hr1⟩ := hxs.rd (i := k) (by omega)
  refine cX (qm qX rfl (hr1 _) (qj (a1) rfl (qf (qg (qd (qi (ii ((z : Int))) rfl (qi (a1) rfl (cX (qE qh rfl ha1.slv (cX (qS (((z + (((xs.getD k [])).length) : Nat) : Int)) rfl rfl (by omega) (by omega) (qj (ii (((z + (((xs.getD k [])).length) : Nat) : Int))) rfl (qf (qg (qd (qi (ii (((z + (((xs.getD k [])).length) : Nat) : Int))) rfl ?_))))))))))))))))
  refine cX (jb rfl rfl (qf ?_))
  refine qH (p := (((z + (((xs.getD k [])).length) : Nat) : Int) : Int) < 0) rfl (fun h2 => ?_) (fun h2 => ?_)
  ·omega
  refine qz (qd (cX (qS (((k + 1 : Nat) : Int)) rfl rfl (by omega) (by omega) (qi (ii (((k + 1 : Nat) : Int))) rfl (qf ?_)))))
  exact ⟨(k + 1, z + (((xs.getD k [])).length)), _, FLe.refl _, rF, ⟨rfl, rfl, rfl, rfl, rfl, ⟨⟩⟩, sR, ⟨rfl, (by (try dsimp only) <;> omega), (by (try dsimp only) <;> omega), (by (try dsimp only) <;> omega)⟩, (by omega)⟩
 refine jn (qA (qA (qV (qg (qd ?_)))))
 have hz1 : 1 ≤ z := by rw [hz, show xs.take k = xs from List.take_of_length_le (by omega)]; exact hg1
 refine qi (ii ((z : Int))) rfl (cX (qn (args := [sN, ii (z : Int)]) call94 rfl (GrowNil_spec (n := z) (hg1 := (hz1)) (hn := (by omega))) ?_))
 rintro v1 _ _ _ ⟨rfl, hs1, rfl⟩
 refine qj (v1) rfl (qf (qg (qg (qd (qi (xsv) rfl (cX (qE ja rfl hxs.slv (qi (ii (0)) rfl (qf (qQ (jr (α := Nat × Value × List Int) (fun xQ => [(6, xQ.2.1), (25, xsv), (26, ii ((xs.length : Int))), (27, ii (((xQ.1 : Nat) : Int)))]) (fun xQ => intsH 2 xQ.2.1 xQ.2.2 :: L) (fun xQ F' => F = F' ∧ (IsSl xQ.2.1) ∧ (xQ.1 ≤ xs.length) ∧ (xQ.2.2 = (xs.take xQ.1).flatten)) (fun xQ => xs.length - xQ.1) (0, v1, ([])) ⟨rfl, rfl, rfl, rfl, ⟨⟩⟩ (sC sR) ⟨rfl, (hs1), (by (try dsimp only) <;> omega), (rfl)⟩ ?_)))))))))))
 rintro ⟨k, ov, os⟩ rE _ _ ⟨rfl, hov, hk, hos⟩
 show X _ _ _ _ (envs [(6, ov), (25, xsv), (26, ii ((xs.length : Int))), (27, ii ((k : Int)))] rE) _ (intsH 2 ov os :: L)
 dsimp only at hov hk hos
 have hbk := hb k
 have hol : os.length ≤ k * 4000000 := by rw [hos]; exact flatten_bound hb k (by omega)
 refine qg (qd (cX (jb rfl rfl (qf (qg ?_)))))
 refine qH (p := (k : Int) < (xs.length : Int)) rfl (fun h3 => ?_) (fun h3 => ?_)
 ·refine qz (qg (qQ (qg (qd (cX (qD k ja qy rfl rfl rfl hxs.slv (by omega) (Nat.mul_one _) ?_))))))
  obtain ⟨a2, ha2, hr2⟩ := hxs.rd (i := k) (by omega)
  refine cX (qm qX rfl (hr2 _) (qj (a2) rfl (qf (qd (qi (ov) rfl (qi (a2) rfl (cX (yd [] _ qh typeInfo2 rfl rfl rfl rfl rfl rfl ha2 (by (try simp only [List.length_append, List.length_nil, List.length_cons, List.length_singleton, List.length_take, List.length_drop]); omega) ?_))))))))
  intro v2 hs2 hn1 hm1
  refine qj (v2) rfl (qf (qd (cX (qS (((k + 1 : Nat) : Int)) rfl rfl (by omega) (by omega) (qi (ii (((k + 1 : Nat) : Int))) rfl (qf ?_))))))
  exact ⟨(k + 1, v2, os ++ ((xs.getD k []))), _, FLe.refl _, rF, ⟨rfl, rfl, rfl, rfl, ⟨⟩⟩, (sC sR), ⟨rfl, (hs2), (by (try dsimp only) <;> omega), ((by dsimp only; rw [hos, flatten_take (by omega)]))⟩, (by omega)⟩
 refine jn (qA (qA (qV (qg (qd (qi (ov) rfl (qj (ov) rfl (qf (qu (qt (L' := intsH 2 ov os :: L) [ov] (ov) (.tmp rfl .nil) rfl rF rF (sC sR) ?_))))))))))
 refine ⟨rfl, hov, ?_⟩
 have hxs : (xs.flatten : List Int) = os := by rw [hos, List.take_of_length_le (by omega)]
 exact congrArg (fun z => intsH 2 _ z :: L) hxs

/- impl.put -/
theorem put_spec {F : FH} {L : List HP} {arv : Value} {ar : List Int} (har : IntsF F arv ar) {tv : Value} {t : List Int} (ht : IntsF F tv t) {p : Nat} {uv : Value} {u : List Int} (hu : IntsF F uv u) (ho : termOk ar t = true) (hp : p < t.length) (hul : 1 ≤ u.length ∧ u.length ≤ 4000000) :
    Does prog 62 [.agg #[arv], tv, ii ((p : Int)), uv] F (L) (fun v F' L' => ∃ (a : Value), (.tuple #[a, .bool ((putL ar t p u).isSome)] : Value) = v ∧ (IntsF F' a ((putL ar t p u).getD [])) ∧ ((putL ar t p u).isSome = true → isNil a = false) ∧ (Fresh F F' (intsH 2 a ((putL ar t p u).getD []))) ∧ L = L') := by
 refine qL func62 rfl rfl rfl ?_
 have hsig := termOk_sig ho
 have hsl := sigOk_spec hsig
 have htl := termOk_len ho
 have hee := endN_spec ho hp
 refine qg (qd (cX (je [arv] rfl rfl ?_)))
 intro b1
 refine qj (sN) rfl (qj (.bool (false)) rfl (qf (qg ?_)))
 refine jG [cellsH b1 [arv] 26] L 10 [] [[], [], [0, 1], [], [], [], [], [], [5, 6, 7], [4, 8]] [] (phiG [pe tv, pe (ii ((p : Int)) : Value), fun FF us v => (v : Value) = v ∧ (IntsF FF v ((t.drop 0).take (p - 0))) ∧ (isNil v = isNil tv), pe uv, pe tv, pe (.agg #[arv]), pe tv, pe (ii ((p : Int)) : Value), pe (ii (((endN ar t p : Nat) : Int)) : Value), fun FF us v => (v : Value) = v ∧ (IntsF FF v ((t.drop (endN ar t p)).take (((t).length) - (endN ar t p)))) ∧ (isNil v = isNil tv)]) (ownL []) mixed rfl rfl (by kernel_rfl) (by kernel_rfl) (MonoG.get (m1 (m1 (mC (fun le h => ⟨h.1, h.2.1.mono le, h.2.2⟩) (m1 (m1 (m1 (m1 (m1 (m1 (mC (fun le h => ⟨h.1, h.2.1.mono le, h.2.2⟩) MonoG.nil))))))))))) ?_ ?_
 ·refine gD (fun W Fs R lF z9 => ?_) ?_
  ·refine qk (qo (tv) rfl ?_)
   exact ⟨rfl, rfl⟩
  refine gD (fun W Fs R lF z9 => ?_) ?_
  ·refine qk (qo (ii ((p : Int))) rfl ?_)
   exact ⟨rfl, rfl⟩
  refine gD (fun W Fs R lF z9 => ?_) ?_
  ·replace har := har.mono lF
   replace ht := ht.mono lF
   replace hu := hu.mono lF
   rw [zB 0 1 (z9 0 rfl) (z9 1 rfl)]
   refine qk (XOp.sliceI 0 p qh qC rfl ht rfl ⟨_, rfl⟩ (by omega) (by omega) ?_)
   intro v3 hv3 hn3
   exact ⟨⟨rfl, hv3, hn3⟩, rfl⟩
  refine gD (fun W Fs R lF z9 => ?_) ?_
  ·refine qk (qo (uv) rfl ?_)
   exact ⟨rfl, rfl⟩
  refine gD (fun W Fs R lF z9 => ?_) ?_
  ·refine qk (qo (tv) rfl ?_)
   exact ⟨rfl, rfl⟩
  refine gD (fun W Fs R lF z9 => ?_) ?_
  ·replace har := har.mono lF
   replace ht := ht.mono lF
   replace hu := hu.mono lF
   refine qk (qs [arv] qW qB rfl rfl (Rd.ownN [] rfl rfl) ?_)
   exact ⟨rfl, rfl⟩
  refine gD (fun W Fs R lF z9 => ?_) ?_
  ·refine qk (qo (tv) rfl ?_)
   exact ⟨rfl, rfl⟩
  refine gD (fun W Fs R lF z9 => ?_) ?_
  ·refine qk (qo (ii ((p : Int))) rfl ?_)
   exact ⟨rfl, rfl⟩
  refine gD (fun W Fs R lF z9 => ?_) ?_
  ·replace har := har.mono lF
   replace ht := ht.mono lF
   replace hu := hu.mono lF
   rw [eS (l := [(5, _), (6, _), (7, _)]) ⟨z9 5 rfl, z9 6 rfl, z9 7 rfl, ⟨⟩⟩]
   refine qk (qn (args := [.agg #[arv], tv, ii (p : Int)]) call48 rfl (endAt_ok (p := p) har ht (ho := (by first | assumption | rfl | omega | (left; simp; done) | (right; simp; done))) (hp := (by first | assumption | rfl | omega | (left; simp; done) | (right; simp; done)))) ?_)
   rintro _ _ _ _ ⟨rfl, rfl, rfl⟩
   exact ⟨rfl, rfl⟩
  refine gD (fun W Fs R lF z9 => ?_) ?_
  ·replace har := har.mono lF
   replace ht := ht.mono lF
   replace hu := hu.mono lF
   rw [zB 4 8 (z9 4 rfl) (z9 8 rfl)]
   refine qk (XOp.sliceI (endN ar t p) ((t).length) qh qC rfl ht ⟨_, rfl⟩ rfl (by omega) (by omega) ?_)
   intro v4 hv4 hn4
   exact ⟨⟨rfl, hv4, hn4⟩, rfl⟩
  exact stepsG.nil
 intro W F1 le1 hphi
 obtain ⟨e2, f2_1hv, f2_1hn⟩ := hphi 2 (by decide)
 obtain ⟨e9, f9_1hv, f9_1hn⟩ := hphi 9 (by decide)
 generalize hu1 : (W 2) = u1 at e2 f2_1hv f2_1hn e9 f9_1hv f9_1hn
 generalize hu2 : (W 9) = u2 at e2 f2_1hv f2_1hn e9 f9_1hv f9_1hn
 rw [eS (l := [(2, u1), (3, _), (9, u2)]) ⟨hu1, (hphi 3 (by decide)), hu2, ⟨⟩⟩]
 replace hu := hu.mono le1
 show XL _ _ _ _ _ _ _ (cellsH b1 [arv] 26 :: L)
 refine cX (qx (s := 1) [u1, uv, u2] [sN] [(0, [u1]), (1, [uv]), (2, [u2])] ja qy zeroValue24 rfl (by decide) rfl (.cons (cells_one (qv f2_1hv)) (.cons (cells_one (qv hu)) (.cons (cells_one (qv f9_1hv)) CellsAre.nil))) rfl ?_)
 intro v5 hv5
 have hc1 : RowsC F1 [u1, uv, u2] ([((t.drop 0).take (p - 0)), u, ((t.drop (endN ar t p)).take (((t).length) - (endN ar t p)))] : List (List Int)) := (RowsC.snoc (RowsC.snoc (RowsC.snoc (CO.nil : RowsC F1 [] []) f2_1hv) hu) f9_1hv)
 refine jf [] _ _ rfl (fun F2 le2 hz1 => ?_)
 replace hc1 := hc1.mono le2
 have hf1 : RowsF F2 v5 (([((t.drop 0).take (p - 0)), u, ((t.drop (endN ar t p)).take (((t).length) - (endN ar t p)))] : List (List Int))) := CO.fz hc1 (by first | rfl | omega | (rw [List.length_set]; omega) | (simp; done)) hz1.fz
 refine cX (jR <| qn (args := [v5]) call68 rfl (Concat_spec hf1 (hg1 := (by simp; omega)) (hn := (by first | assumption | rfl | omega | simp)) (hb := (fun i hi => by match i, hi with | 0, _ => simp; omega | 1, _ => simp; omega | 2, _ => simp; omega))) ?_)
 rintro v6 _ _ _ ⟨rfl, hs1, rfl⟩
 refine ⟨_, _, rfl, fun F3 le3 hz2 => ?_⟩
 have hf2 : IntsF F3 v6 (((([((t.drop 0).take (p - 0)), u, ((t.drop (endN ar t p)).take (((t).length) - (endN ar t p)))] : List (List Int))).flatten)) := intsH.fz (xs := ((([((t.drop 0).take (p - 0)), u, ((t.drop (endN ar t p)).take (((t).length) - (endN ar t p)))] : List (List Int))).flatten)) hz2.fz
 refine qj (v6) rfl (qf (qg (qg (qd (qi (v6) rfl (cX (qE qh rfl hf2.slv (cX (jF rfl rfl (qf ?_))))))))))
 refine qH (p := ((((((([((t.drop 0).take (p - 0)), u, ((t.drop (endN ar t p)).take (((t).length) - (endN ar t p)))] : List (List Int))).flatten)).length : Nat) : Int) : Int) > 60) rfl (fun h1 => ?_) (fun h1 => ?_)
 ·refine qg (qd (qj (sN) rfl (qj (.bool (false)) rfl (qf (qu (ql (qt (L' := L) [sN, .bool (false)] (.tuple #[sN, .bool (false)]) (.tmp rfl (.tmp rfl .nil)) rfl (qc (qc le1 le2) le3) rF (sD sR) ?_)))))))
  have hz : putL ar t p u = none := putL_none put_flat (by omega)
  exact ⟨_, by rw [hz]; rfl, by rw [hz]; exact IntsF.nilV, fun h => (by rw [hz] at h; cases h), by rw [hz]; exact Fresh.ofNil _, rfl⟩
 refine qz (qg (qd (qi (v6) rfl (qj (v6) rfl (qj (.bool (true)) rfl (qf (qu (qt (L' := L) [v6, .bool (true)] (.tuple #[v6, .bool (true)]) (.tmp rfl (.tmp rfl .nil)) rfl (qc (qc le1 le2) le3) rF (sD sR) ?_))))))))
 have hz := putL_some (ar := ar) (t := t) (p := p) (u := u) put_flat (by omega)
 exact ⟨_, by rw [hz]; rfl, by rw [hz]; exact hf2, fun _ => notNil_of_pos hf2 (by rw [put_flat]; simp; omega), by rw [hz]; exact (hz2.base (qc le1 le2)), rfl⟩

/- (impl.Subst).byVar -/
theorem byVar_spec {F : FH} {L : List HP} {sv : Value} {s : List (List Int)} (hs : RowsF F sv s) {i : Nat} (hsl : s.length ≤ 4000000) :
    Does prog 104 [.agg #[sv], ii ((i : Int))] F (L) (fun v F' L' => F = F' ∧ ∃ (a : Value), (a : Value) = v ∧ (IntsF F' a (s.getD i [])) ∧ (isNil a = decide (s.getD i [] = [])) ∧ L = L') := by
 refine qL func104 rfl rfl rfl (qg (qd (cX (je [sv] rfl rfl ?_))))
 intro b1
 refine qj (sN) rfl (qf (qg (qg (qd (qi (ii ((i : Int))) rfl (cX (qq (0) jd rfl jy (by decide) rfl rfl (cX (qm isAgg70 rfl (Rd.own [] rfl rfl) (cX (qE ja rfl hs.slv (cX (jW rfl rfl (qi (.bool (decide ((i : Int) ≥ (s.length : Int)))) rfl ?_))))))))))))))
 by_cases h1 : (i : Int) ≥ (s.length : Int)
 ·refine qp (t := 10) rfl (vT h1) (qp (t := 10) rfl (vT h1) (qp (t := 10) rfl (vT h1) (qp (t := 10) rfl (vT h1) (qp (t := 10) rfl (vT h1) (qp (t := 10) rfl (vT h1) (qp (t := 10) rfl (vT h1) (cX (qN (.bool (true)) (vT h1) rfl (qf (jH rfl ?_))))))))))
  refine qg (qd (qj (sN) rfl (qf (qu (ql (qt (L' := L) [sN] (sN) (.tmp rfl .nil) rfl rF rF (sD sR) ?_))))))
  have e : s.getD i [] = [] := by first | exact List.eq_nil_of_length_eq_zero (by omega) | (rw [List.getD_eq_getElem?_getD, List.getElem?_eq_none (by omega)]; rfl)
  exact ⟨rfl, _, rfl, by rw [e]; exact IntsF.nilV, by rw [e]; rfl, rfl⟩
 refine qr (t := 10) rfl (vF h1) (qq (0) jd rfl jy (by decide) rfl rfl (qr (t := 10) rfl (vF h1) (qm isAgg70 rfl (Rd.own [] rfl rfl) (qr (t := 10) rfl (vF h1) (qo (ii ((i : Int))) rfl (qr (t := 10) rfl (vF h1) (qD i ja qy rfl rfl rfl hs.slv (by omega) (Nat.mul_one _) ?_)))))))
 obtain ⟨a1, ha1, hr1⟩ := hs.rd (i := i) (by omega)
 refine qr (t := 10) rfl (vF h1) (qm qX rfl (hr1 _) (qr (t := 10) rfl (vF h1) (qE qh rfl ha1.slv (qr (t := 10) rfl (vF h1) (jD rfl rfl (cX (qM (.bool (decide ((((((s.getD i [])).length : Nat) : Int) : Int) = 0))) (vF h1) rfl (qf ?_))))))))
 refine qH (p := (((((s.getD i [])).length : Nat) : Int) : Int) = 0) rfl (fun h2 => ?_) (fun h2 => ?_)
 ·refine qg (qd (qj (sN) rfl (qf (qu (ql (qt (L' := L) [sN] (sN) (.tmp rfl .nil) rfl rF rF (sD sR) ?_))))))
  have e : s.getD i [] = [] := by first | exact List.eq_nil_of_length_eq_zero (by omega) | (rw [List.getD_eq_getElem?_getD, List.getElem?_eq_none (by omega)]; rfl)
  exact ⟨rfl, _, rfl, by rw [e]; exact IntsF.nilV, by rw [e]; rfl, rfl⟩
 refine qz (qg (qd (cX (qq (0) jd rfl jy (by decide) rfl rfl (cX (qm isAgg70 rfl (Rd.own [] rfl rfl) (qi (ii ((i : Int))) rfl (cX (qD i ja qy rfl rfl rfl hs.slv (by omega) (Nat.mul_one _) (cX (qm qX rfl (hr1 _) (qj (a1) rfl (qf (qu (qt (L' := L) [a1] (a1) (.tmp rfl .nil) rfl rF rF (sD sR) ?_)))))))))))))))
 have e : s.getD i [] ≠ [] := by intro e; have := congrArg List.length e; simp only [List.length_nil] at this; omega
 exact ⟨rfl, _, rfl, ha1, by rw [notNil_of_pos ha1 (List.length_pos_iff.2 e)]; exact (decide_eq_false e).symm, rfl⟩

/- (impl.Subst).lookup$1 -/
theorem lookup1_spec {F : FH} {L : List HP} {n : Int} {sv : Value} {s : List (List Int)} (hs : RowsF F sv s) {b : Nat} (hzb : FzC F b [sv]) (hsl : s.length ≤ 4000000) (hg : -4000000 ≤ n) :
    Does prog 103 [ii (n), ptr b 0] F (L) (fun v F' L' => F = F' ∧ ∃ (a : Value), (a : Value) = v ∧ (IntsF F' a (lkN s n)) ∧ (isNil a = decide (lkN s n = [])) ∧ L = L') := by
 refine qL func103 rfl rfl rfl (qg (qd (qj (sN) rfl (qf (qg (qg (qd (qi (ii (n)) rfl (cX (jW rfl rfl (qf ?_)))))))))))
 refine qH (p := (n : Int) ≥ 0) rfl (fun h1 => ?_) (fun h1 => ?_)
 ·refine qg (qd (qj (sN) rfl (qf (qu (ql (qt (L' := L) [sN] (sN) (.tmp rfl .nil) rfl rF rF sR ?_))))))
  have e : lkN s n = [] := lkN_pos (by omega)
  exact ⟨rfl, _, rfl, by rw [e]; exact IntsF.nilV, by rw [e]; rfl, rfl⟩
 refine qz (qg (qd (cX (qs [sv] isAgg95 jJ rfl rfl (FzC.rd hzb rfl) (qi (ii (n)) rfl (cX (jl ((-1) - n) rfl rfl (by omega) (by omega) (cX (qn (args := [.agg #[sv], ii ((((-1) - n).toNat : Nat) : Int)]) call104 (by rw [show ((((-1) - n).toNat : Nat) : Int) = (-1) - n from by omega]; rfl) (byVar_spec (i := ((-1) - n).toNat) hs (hsl := (by first | assumption | rfl | omega | simp))) ?_)))))))))
 rintro _ _ _ _ ⟨rfl, x1, rfl, hr1, hr2, rfl⟩
 refine qj (x1) rfl (qf (qu (qt (L' := L) [x1] (x1) (.tmp rfl .nil) rfl rF rF sR ?_)))
 have e : lkN s n = s.getD (varIx n) [] := lkN_neg (by omega)
 exact ⟨rfl, _, rfl, by rw [e]; exact hr1, by rw [e]; exact hr2, rfl⟩

/- (impl.Subst).lookup -/
theorem lookup_spec {F : FH} {L : List HP} {sv : Value} {s : List (List Int)} (hs : RowsF F sv s) :
    Does prog 90 [.agg #[sv]] F (L) (fun v F' L' => ∃ (b : Nat), (.func (.func 103) #[] #[ptr b 0] : Value) = v ∧ (FzC F' b [sv]) ∧ L = L') := by
 refine qL func90 rfl rfl rfl (qg (qd (cX (je [sv] rfl rfl ?_))))
 intro b1
 refine qj (.nilFunc) rfl (qf (qg (qd (cX (XOp.makeFuncL [] [ptr b1 0] rfl rfl (qj (.func (.func 103) #[] #[ptr b1 0]) rfl (qf (X.freeze [] _ _ rfl (fun F1 le1 hz1 => ?_)))))))))
 have hf1 : FzC F1 b1 [sv] := Fz.cells hz1
 refine qu (qt (L' := L) [.func (.func 103) #[] #[ptr b1 0]] (.func (.func 103) #[] #[ptr b1 0]) (.tmp rfl .nil) rfl le1 rF sR ?_)
 exact ⟨_, rfl, hf1, rfl⟩

/- impl.fill -/
theorem fill_spec {F : FH} {L : List HP} {sv : Value} {s : List (List Int)} (hs : RowsF F sv s) {tv : Value} {t : List Int} (ht : IntsF F tv t) (hsl : s.length ≤ 4000000) (hsb : ∀ i, (s.getD i []).length ≤ 4000000) (htl : t.length ≤ 4000000) (htg : ∀ k, k < t.length → -4000000 ≤ t.getD k 0) :
    Does prog 60 [.agg #[sv], tv] F (L) (fun v F' L' => ∃ (a : Value), (.tuple #[a, .bool ((fillL s t).isSome)] : Value) = v ∧ (IntsF F' a ((fillL s t).getD [])) ∧ (Fresh F F' (intsH 2 a ((fillL s t).getD []))) ∧ L = L') := by
 refine qL func60 rfl rfl rfl (qg (qd (cX (je [sv] rfl rfl ?_))))
 intro b1
 refine qj (sN) rfl (qj (.bool (false)) rfl (qf (qg (qd (cX (qs [sv] isAgg95 jJ rfl rfl (Rd.ownN [] rfl rfl) (cX (qn (args := [.agg #[sv]]) call90 rfl (lookup_spec hs) ?_))))))))
 rintro _ F1 _ le1 ⟨x1, rfl, hr1, rfl⟩
 replace hs := hs.mono le1
 replace ht := ht.mono le1
 refine qj (.func (.func 103) #[] #[ptr x1 0]) rfl (qf (qg (qd (qi (tv) rfl (cX (qE qh rfl ht.slv (cX (XOp.makeSlice0 (n := (t).length) (bytes := 8) [ii (0)] qh qC typeInfo2 rfl qP rfl rfl rfl rfl (by omega) (by omega) ?_))))))))
 intro v1 hv1
 have hs1 : IsSl v1 := by obtain ⟨b0, h0⟩ := hv1; exact ⟨_, _, _, h0⟩
 show XL _ _ _ _ _ _ _ (intsH 2 v1 ([]) :: cellsH b1 [sv] 95 :: L)
 refine qj (v1) rfl (qf (qg (qg (qd (qi (tv) rfl (cX (qE qh rfl ht.slv (qi (ii (0)) rfl (qf (qQ (jr (α := Nat × Value × List Int) (fun xQ => [(6, .func (.func 103) #[] #[ptr x1 0]), (7, xQ.2.1), (16, tv), (17, ii ((t.length : Int))), (18, ii (((xQ.1 : Nat) : Int)))]) (fun xQ => intsH 2 xQ.2.1 xQ.2.2 :: cellsH b1 [sv] 95 :: L) (fun xQ F' => F1 = F' ∧ (IsSl xQ.2.1) ∧ (xQ.1 ≤ t.length) ∧ (fillL s t = fillGo s (t.drop xQ.1) xQ.2.2) ∧ (xQ.2.2.length ≤ 60)) (fun xQ => t.length - xQ.1) (0, v1, []) ⟨rfl, rfl, rfl, rfl, rfl, ⟨⟩⟩ (sC (sC sR)) ⟨rfl, (hs1), (by (try dsimp only) <;> omega), (rfl), (by simp)⟩ ?_)))))))))))
 rintro ⟨k, ov, os⟩ rE _ _ ⟨rfl, hov, hk, hm, hol⟩
 show X _ _ _ _ (envs [(6, .func (.func 103) #[] #[ptr x1 0]), (7, ov), (16, tv), (17, ii ((t.length : Int))), (18, ii ((k : Int)))] rE) _ (intsH 2 ov os :: cellsH b1 [sv] 95 :: L)
 dsimp only at hov hk hm hol
 have htk := htg k
 refine qg (qd (cX (jb rfl rfl (qf (qg ?_)))))
 refine qH (p := (k : Int) < (t.length : Int)) rfl (fun h1 => ?_) (fun h1 => ?_)
 ·refine qz (qg (qQ (qg (qd (cX (qD k qh qC rfl rfl rfl ht.slv (by omega) (Nat.mul_one _) (cX (qm jj rfl (ht.rd (by omega)) (qj (ii (t.getD k 0)) rfl (qf (qg (qg (qd (qi (.func (.func 103) #[] #[ptr x1 0]) rfl (qi (ii (t.getD k 0)) rfl (cX (XOp.callV (first := []) (captured := [ptr x1 0]) (args := [ii (t.getD k 0), ptr x1 0]) call103 rfl rfl (lookup1_spec (n := t.getD k 0) hs hr1 (hsl := (by first | assumption | rfl | omega | simp)) (hg := (by first | assumption | rfl | omega | simp))) ?_)))))))))))))))))
  rintro _ _ _ _ ⟨rfl, x2, rfl, hr2, hr3, rfl⟩
  skip
  refine qj (x2) rfl (qf (qg (qd (qi (x2) rfl (cX (XOp.eqNil qh rfl rfl (qv hr2) (qf ?_)))))))
  refine js (t := isNil x2) rfl (fun h2 => ?_) (fun h2 => ?_)
  ·refine qd (qi (ov) rfl (qi (ii (t.getD k 0)) rfl (cX (qx (s := 1) [ii (t.getD k 0)] [ii (0)] [(0, [ii (t.getD k 0)])] qh qC qP rfl (by decide) rfl (.cons rfl CellsAre.nil) rfl ?_))))
   intro v2 hv2
   refine cX (XOp.append1 (u := t.getD k 0) [_] _ qh typeInfo2 rfl rfl rfl rfl rfl rfl (SlV.own [] rfl) (Rd.sl [] rfl rfl) (by (try simp only [List.length_append, List.length_nil, List.length_cons, List.length_singleton, List.length_take, List.length_drop]); omega) ?_)
   intro v3 hs2 hn1
   refine qj (v3) rfl (qf (qg (qd (qi (v3) rfl (cX (qE qh rfl (intsH.slv [_] rfl) (cX (jF rfl rfl (qf ?_)))))))))
   refine qH (p := ((((os ++ [t.getD k 0]).length : Nat) : Int) : Int) > 60) rfl (fun h3 => ?_) (fun h3 => ?_)
   ·refine qg (qd (qj (sN) rfl (qj (.bool (false)) rfl (qf (qu (qI (ql (ql (qI (ql (qt (L' := L) [sN, .bool (false)] (.tuple #[sN, .bool (false)]) (.tmp rfl (.tmp rfl .nil)) rfl le1 rF (sD (sD (sD sR))) ?_)))))))))))
    have hz : fillL s t = none := hm.trans (fillGo_long (a := os ++ [t.getD k 0]) (by omega) (by rw [lk_of_nil (of_decide_eq_true (hr3.symm.trans (by assumption)))]) (by omega))
    exact ⟨_, by rw [hz]; rfl, by rw [hz]; exact IntsF.nilV, by rw [hz]; exact Fresh.ofNil _, rfl⟩
   refine qz (qd (cX (qS (((k + 1 : Nat) : Int)) rfl rfl (by omega) (by omega) (qi (ii (((k + 1 : Nat) : Int))) rfl (qf ?_)))))
   exact ⟨(k + 1, v3, os ++ [t.getD k 0]), _, FLe.refl _, rF, ⟨rfl, rfl, rfl, rfl, rfl, ⟨⟩⟩, (sD (sC (sC sR))), ⟨rfl, (hs2), (by (try dsimp only) <;> omega), (by dsimp only; exact hm.trans (fillGo_next (by omega) (by rw [lk_of_nil (of_decide_eq_true (hr3.symm.trans (by assumption)))]) (by omega))), (by dsimp only; omega)⟩, (by omega)⟩
  refine qd ?_
  have hlb : (lkN s (t.getD k 0)).length ≤ 4000000 := lkN_bound hsb
  refine qi (ov) rfl (qi (x2) rfl (cX (yd [] _ qh typeInfo2 rfl rfl rfl rfl rfl rfl hr2 (by (try simp only [List.length_append, List.length_nil, List.length_cons, List.length_singleton, List.length_take, List.length_drop]); omega) ?_)))
  intro v4 hs3 hn2 hm1
  refine qj (v4) rfl (qf (qg (qd (qi (v4) rfl (cX (qE qh rfl (intsH.slv [] rfl) (cX (jF rfl rfl (qf ?_)))))))))
  refine qH (p := ((((os ++ (lkN s (t.getD k 0))).length : Nat) : Int) : Int) > 60) rfl (fun h4 => ?_) (fun h4 => ?_)
  ·refine qg (qd (qj (sN) rfl (qj (.bool (false)) rfl (qf (qu (qI (ql (ql (qI (ql (qt (L' := L) [sN, .bool (false)] (.tuple #[sN, .bool (false)]) (.tmp rfl (.tmp rfl .nil)) rfl le1 rF (sD (sD sR)) ?_)))))))))))
   have hz : fillL s t = none := hm.trans (fillGo_long (a := os ++ (lkN s (t.getD k 0))) (by omega) (by rw [lk_of_ne (of_decide_eq_false (hr3.symm.trans (by assumption)))]) (by omega))
   exact ⟨_, by rw [hz]; rfl, by rw [hz]; exact IntsF.nilV, by rw [hz]; exact Fresh.ofNil _, rfl⟩
  refine qz (qd (cX (qS (((k + 1 : Nat) : Int)) rfl rfl (by omega) (by omega) (qi (ii (((k + 1 : Nat) : Int))) rfl (qf ?_)))))
  exact ⟨(k + 1, v4, os ++ (lkN s (t.getD k 0))), _, FLe.refl _, rF, ⟨rfl, rfl, rfl, rfl, rfl, ⟨⟩⟩, (sC (sC sR)), ⟨rfl, (hs3), (by (try dsimp only) <;> omega), (by dsimp only; exact hm.trans (fillGo_next (by omega) (by rw [lk_of_ne (of_decide_eq_false (hr3.symm.trans (by assumption)))]) (by omega))), (by dsimp only; omega)⟩, (by omega)⟩
 refine jn (qA (qA (qV (qg (qd (qi (ov) rfl (qj (ov) rfl (qj (.bool (true)) rfl (qf (ji [] _ _ rfl (fun F3 le3 hz1 => ?_)))))))))))
 have hf1 : IntsF F3 ov os := intsH.fz (xs := os) hz1.fz
 refine qu (qt (L' := L) [ov, .bool (true)] (.tuple #[ov, .bool (true)]) (.tmp rfl (.tmp rfl .nil)) rfl (qc le1 le3) rF (sD sR) ?_)
 have hz : fillL s t = some os := hm.trans (fillGo_done (by omega))
 exact ⟨_, by rw [hz]; rfl, by rw [hz]; exact hf1, by rw [hz]; exact (hz1.base le1), rfl⟩

/- spec.l2Gives -/
theorem l2Gives_spec {F : FH} {L : List HP} {sv : Value} {s : List (List Int)} (hs : RowsF F sv s) {i : Nat} (hsl : s.length ≤ 4000000) (hi : i ≤ 4000000) (hsb : (s.getD i []).length ≤ 4000000) :
    Does prog 93 [.agg #[sv], ii ((i : Int))] F (L) (fun v F' L' => F = F' ∧ IsSl v ∧ intsH 2 v (lk s (-1 - (i : Int))) :: L = L') := by
 refine qL func93 rfl rfl rfl (qg (qd (cX (je [sv] rfl rfl ?_))))
 intro b1
 refine qj (sN) rfl (qf (qg (qg (qd (qi (ii ((i : Int))) rfl (cX (qq (0) jd rfl jy (by decide) rfl rfl (cX (qm isAgg70 rfl (Rd.own [] rfl rfl) (cX (qE ja rfl hs.slv (cX (jb rfl rfl (qi (.bool (decide ((i : Int) < (s.length : Int)))) rfl ?_))))))))))))))
 by_cases h1 : (i : Int) < (s.length : Int)
 ·refine qr (t := 10) rfl (vT h1) (qq (0) jd rfl jy (by decide) rfl rfl (qr (t := 10) rfl (vT h1) (qm isAgg70 rfl (Rd.own [] rfl rfl) (qr (t := 10) rfl (vT h1) (qo (ii ((i : Int))) rfl (qr (t := 10) rfl (vT h1) (qD i ja qy rfl rfl rfl hs.slv (by omega) (Nat.mul_one _) ?_)))))))
  obtain ⟨a1, ha1, hr1⟩ := hs.rd (i := i) (by omega)
  refine qr (t := 10) rfl (vT h1) (qm qX rfl (hr1 _) (qr (t := 10) rfl (vT h1) (qE qh rfl ha1.slv (qr (t := 10) rfl (vT h1) (jF rfl rfl (cX (qN (.bool (decide ((((((s.getD i [])).length : Nat) : Int) : Int) > 0))) (vT h1) rfl (qf ?_))))))))
  refine qH (p := (((((s.getD i [])).length : Nat) : Int) : Int) > 0) rfl (fun h2 => ?_) (fun h2 => ?_)
  ·refine qg (qd (cX (qq (0) jd rfl jy (by decide) rfl rfl (cX (qm isAgg70 rfl (Rd.own [] rfl rfl) (qi (ii ((i : Int))) rfl (cX (qD i ja qy rfl rfl rfl hs.slv (by omega) (Nat.mul_one _) (cX (qm qX rfl (hr1 _) (cX (qn (args := [a1]) call31 rfl (l1Copy_spec ha1 (hlt := (by first | assumption | rfl | omega | simp))) ?_))))))))))))
   rintro v1 _ _ _ ⟨rfl, hs1, rfl⟩
   refine qj (v1) rfl (qf (qu (ql (qt (L' := intsH 2 v1 ((((s.getD i [])))) :: L) [v1] (v1) (.tmp rfl .nil) rfl rF rF (sC (sD sR)) ?_))))
   refine ⟨rfl, hs1, ?_⟩
   have hxs : (lk s (-1 - (i : Int)) : List Int) = (((s.getD i []))) := lk_copy (by omega)
   exact congrArg (fun z => intsH 2 _ z :: L) hxs
  refine qz (qg (qd (qi (ii ((i : Int))) rfl (cX (jl ((-1) - ((i : Int))) rfl rfl (by omega) (by omega) (cX (qx (s := 1) [ii ((-1) - ((i : Int)))] [ii (0)] [(0, [ii ((-1) - ((i : Int)))])] qh qC qP rfl (by decide) rfl (.cons rfl CellsAre.nil) rfl ?_)))))))
  intro v2 hv1
  refine qj (v2) rfl (qf (qu (qt (L' := intsH 2 v2 ([(-1) - ((i : Int))]) :: L) [v2] (v2) (.tmp rfl .nil) rfl rF rF (sC (sD sR)) ?_)))
  refine ⟨rfl, (jE hv1), ?_⟩
  have hxs : (lk s (-1 - (i : Int)) : List Int) = [(-1) - ((i : Int))] := lk_self (by first | omega | (rw [getD_out (by omega)]; simp))
  exact congrArg (fun z => intsH 2 _ z :: L) hxs
 refine qp (t := 10) rfl (vF h1) (qp (t := 10) rfl (vF h1) (qp (t := 10) rfl (vF h1) (qp (t := 10) rfl (vF h1) (qp (t := 10) rfl (vF h1) (qp (t := 10) rfl (vF h1) (qp (t := 10) rfl (vF h1) (cX (qM (.bool (false)) (vF h1) rfl (qf (jS rfl ?_))))))))))
 refine qz (qg (qd (qi (ii ((i : Int))) rfl (cX (jl ((-1) - ((i : Int))) rfl rfl (by omega) (by omega) (cX (qx (s := 1) [ii ((-1) - ((i : Int)))] [ii (0)] [(0, [ii ((-1) - ((i : Int)))])] qh qC qP rfl (by decide) rfl (.cons rfl CellsAre.nil) rfl ?_)))))))
 intro v3 hv2
 refine qj (v3) rfl (qf (qu (qt (L' := intsH 2 v3 ([(-1) - ((i : Int))]) :: L) [v3] (v3) (.tmp rfl .nil) rfl rF rF (sC (sD sR)) ?_)))
 refine ⟨rfl, (jE hv2), ?_⟩
 have hxs : (lk s (-1 - (i : Int)) : List Int) = [(-1) - ((i : Int))] := lk_self (by first | omega | (rw [getD_out (by omega)]; simp))
 exact congrArg (fun z => intsH 2 _ z :: L) hxs

/- spec.l2Plain -/
theorem l2Plain_spec {F : FH} {L : List HP} {sv : Value} {s : List (List Int)} (hs : RowsF F sv s) (hsl : s.length ≤ 24) (hsb : ∀ i, (s.getD i []).length ≤ 4000000) :
    Does prog 92 [.agg #[sv]] F (L) (fun v F' L' => ∃ (a : Value), (.agg #[a] : Value) = v ∧ (RowsF F' a (plainL s)) ∧ L = L') := by
 refine qL func92 rfl rfl rfl (qg (qd (cX (je [sv] rfl rfl ?_))))
 intro b1
 refine cX (jm [sN] jT rfl ?_)
 intro b2
 refine qf (qg (qd (cX (jk [sN] [sN] [(0, 1)] [] jd jT rfl (.cons rfl jy PlacesAre.nil) rfl CellsAre.nil (cX (jm [sN] jT rfl ?_))))))
 intro b3
 refine cX (qO [] _ [sN] jJ rfl rfl rfl (qw rfl qT) rfl rfl rfl (qf (qg (qg (qd (qj (ii (0)) rfl (qf (qQ (jr (α := Nat × Value × RowL × FH) (fun xQ => [(1, ptr b1 0), (2, ptr b2 0), (3, ptr b3 0), (4, ii (((xQ.1 : Nat) : Int)))]) (fun xQ => rowsH 24 xQ.2.2.2 xQ.2.1 xQ.2.2.1 :: cellsH b3 [xQ.2.1] 95 :: cellsH b2 [sN] 95 :: cellsH b1 [sv] 95 :: L) (fun xQ F' => xQ.2.2.2 = F' ∧ F ≤ xQ.2.2.2 ∧ (IsSl xQ.2.1) ∧ (xQ.2.2.1 = (plainGo 0 s).take xQ.1) ∧ (xQ.1 ≤ s.length)) (fun xQ => s.length - xQ.1) (0, sN, [], F) ⟨rfl, rfl, rfl, rfl, ⟨⟩⟩ (coH.addNil none (sC (sC (sC sR)))) ⟨rfl, FLe.refl _, (⟨_, _, _, rfl⟩), (rfl), (by (try dsimp only) <;> omega)⟩ ?_)))))))))
 rintro ⟨k, ov, os, G1⟩ rE _ _ ⟨rfl, leG, hov, hos, hk⟩
 show X _ _ _ _ (envs [(1, ptr b1 0), (2, ptr b2 0), (3, ptr b3 0), (4, ii ((k : Int)))] rE) _ (rowsH 24 G1 ov os :: cellsH b3 [ov] 95 :: cellsH b2 [sN] 95 :: cellsH b1 [sv] 95 :: L)
 replace leG : F ≤ G1 := leG
 dsimp only at hov hos hk
 have hol : os.length ≤ k := by rw [hos, List.length_take]; omega
 have hsbk := hsb k
 have hlkb : (lk s (-1 - (k : Int))).length ≤ 4000000 := by rw [lk_var]; split <;> simp; exact hsbk
 have leG1 := leG
 replace hs := hs.mono leG1
 refine X.open [] rfl (fun cs1 hc1 => ?_)
 replace hc1 : RowsC G1 cs1 os := hc1
 refine qg (qg (qd (qi (ii ((k : Int))) rfl (cX (qq (0) jd rfl jy (by decide) rfl rfl (cX (qm isAgg70 rfl (Rd.own [_, _, _] rfl rfl) (cX (qE ja rfl hs.slv (cX (jb rfl rfl (qf ?_))))))))))))
 refine qH (p := (k : Int) < (s.length : Int)) rfl (fun h1 => ?_) (fun h1 => ?_)
 ·refine qz (qg (qQ (qg (qd (cX (qs [sv] isAgg95 jJ rfl rfl (Rd.ownN [_, _, _] rfl rfl) (qi (ii ((k : Int))) rfl (cX (jR <| qn (args := [.agg #[sv], ii (k : Int)]) call93 rfl (l2Gives_spec (i := k) hs (hsl := (by first | assumption | rfl | omega | simp)) (hi := (by first | assumption | rfl | omega | simp)) (hsb := (hsb k))) ?_)))))))))
  rintro v1 _ _ _ ⟨rfl, hs1, rfl⟩
  refine ⟨_, _, rfl, fun F1 le1 hz1 => ?_⟩
  replace hc1 := hc1.mono le1
  have hf1 : IntsF F1 v1 ((lk s (-1 - (k : Int)))) := intsH.fz (xs := (lk s (-1 - (k : Int)))) hz1.fz
  refine qj (v1) rfl (qf (qg (qg (qd (qi (v1) rfl (cX (qE qh rfl hf1.slv (cX (jD rfl rfl (qi (.bool (decide ((((((lk s (-1 - (k : Int)))).length : Nat) : Int) : Int) = 1))) rfl ?_))))))))))
  by_cases h2 : (((((lk s (-1 - (k : Int)))).length : Nat) : Int) : Int) = 1
  ·refine qr (t := 20) rfl (vT h2) (qo (v1) rfl (qr (t := 20) rfl (vT h2) (qD 0 qh qC rfl rfl rfl hf1.slv (by omega) (Nat.mul_one _) (qr (t := 20) rfl (vT h2) (qm jj rfl (hf1.rd (by omega)) (qr (t := 20) rfl (vT h2) (qo (ii ((k : Int))) rfl (qr (t := 20) rfl (vT h2) (jl ((-1) - ((k : Int))) rfl rfl (by omega) (by omega) (qr (t := 20) rfl (vT h2) (jD rfl rfl (cX (qN (.bool (decide ((((lk s (-1 - (k : Int)))).getD 0 0 : Int) = (-1) - ((k : Int))))) (vT h2) rfl (qf ?_))))))))))))))
   refine qH (p := (((lk s (-1 - (k : Int)))).getD 0 0 : Int) = (-1) - ((k : Int))) rfl (fun h3 => ?_) (fun h3 => ?_)
   ·refine qd (cX (qx (s := 1) [] [ii (0)] [] qh qC qP rfl (by decide) rfl CellsAre.nil rfl ?_))
    intro v2 hv1
    refine qj (v2) rfl (qf (qd (cX (qq (0) jd rfl jy (by decide) rfl rfl (cX (qm isAgg70 rfl (Rd.own [_, _] rfl rfl) (qi (v2) rfl (cX (qx (s := 1) [v2] [sN] [(0, [v2])] ja qy zeroValue24 rfl (by decide) rfl (.cons (cells_one (jE hv1)) CellsAre.nil) rfl ?_)))))))))
    intro v3 hv2
    show XL _ _ _ _ _ _ _ (slH 24 1 v3 1 [v2] :: intsH 2 v2 ([] : List Int) :: slH 24 1 ov ((os).length) cs1 :: cellsH b3 [ov] 95 :: cellsH b2 [sN] 95 :: cellsH b1 [sv] 95 :: L)
    refine jf [_] _ _ rfl (fun F2 le2 hz2 => ?_)
    replace hc1 := hc1.mono le2
    replace hf1 := hf1.mono le2
    have hf2 : IntsF F2 v2 ([]) := intsH.fz (xs := []) hz2.fz
    refine cX (XOp.append (m := 1) (bytes := 24) (cs := cs1) [_] _ [v2] ja typeInfo24 rfl rfl rfl rfl rfl rfl rfl (SlV.own [] rfl) rfl (Rd.lit [] rfl) (qw (qJ (qv hf2)) qT) (by (try simp only [List.length_append, List.length_nil, List.length_cons, List.length_singleton]); omega) (by (try simp only [List.length_append, List.length_nil, List.length_cons, List.length_singleton]); omega) ?_)
    intro v4 hs2 hn1 hm1
    have hc2 := RowsC.snoc hc1 hf2
    refine cX (qq (0) jd rfl jy (by decide) rfl rfl (cX (jL [_, _] _ [v4] jy rfl rfl (qJ hs2) rfl rfl rfl (qf (qd (qi (ii ((k : Int))) rfl (cX (qS (((k + 1 : Nat) : Int)) rfl rfl (by omega) (by omega) (qj (ii (((k + 1 : Nat) : Int))) rfl (qf ?_))))))))))
    exact ⟨(k + 1, v4, os ++ [[]], F2), _, (qc (qc leG1 le1) le2), rF, ⟨rfl, rfl, rfl, rfl, ⟨⟩⟩, (sD (coH.close hc2 (by first | rfl | simp) (sC (sC (sC sR))))), ⟨rfl, (qc (qc leG1 le1) le2), (hs2), (by dsimp only; rw [hos, plainGo_take (by omega), plainGo_self (one_eq (by omega) (by omega))]), (by (try dsimp only) <;> omega)⟩, (by omega)⟩
   refine qz (qd (cX (qq (0) jd rfl jy (by decide) rfl rfl (cX (qm isAgg70 rfl (Rd.own [_] rfl rfl) (qi (v1) rfl (cX (qx (s := 1) [v1] [sN] [(0, [v1])] ja qy zeroValue24 rfl (by decide) rfl (.cons (cells_one (qv hf1)) CellsAre.nil) rfl ?_))))))))
   intro v5 hv3
   refine cX (XOp.append (m := 1) (bytes := 24) (cs := cs1) [_] _ [v1] ja typeInfo24 rfl rfl rfl rfl rfl rfl rfl (SlV.own [] rfl) rfl (Rd.lit [] rfl) (qw (qJ (qv hf1)) qT) (by (try simp only [List.length_append, List.length_nil, List.length_cons, List.length_singleton]); omega) (by (try simp only [List.length_append, List.length_nil, List.length_cons, List.length_singleton]); omega) ?_)
   intro v6 hs3 hn2 hm2
   have hc3 := RowsC.snoc hc1 hf1
   refine cX (qq (0) jd rfl jy (by decide) rfl rfl (cX (jL [_, _] _ [v6] jy rfl rfl (qJ hs3) rfl rfl rfl (qf (qd (qi (ii ((k : Int))) rfl (cX (qS (((k + 1 : Nat) : Int)) rfl rfl (by omega) (by omega) (qj (ii (((k + 1 : Nat) : Int))) rfl (qf ?_))))))))))
   exact ⟨(k + 1, v6, os ++ [(lk s (-1 - (k : Int)))], F1), _, (qc leG1 le1), rF, ⟨rfl, rfl, rfl, rfl, ⟨⟩⟩, (sD (coH.close hc3 (by first | rfl | simp) (sC (sC (sC sR))))), ⟨rfl, (qc leG1 le1), (hs3), (by dsimp only; rw [hos, plainGo_take (by omega), plainGo_other (by intro e; have e1 := congrArg List.length e; have e2 := congrArg (fun l => l.getD 0 0) e; simp only [List.length_singleton, List.getD_cons_zero] at e1 e2; omega)]), (by (try dsimp only) <;> omega)⟩, (by omega)⟩
  refine qp (t := 20) rfl (vF h2) (qp (t := 20) rfl (vF h2) (qp (t := 20) rfl (vF h2) (qp (t := 20) rfl (vF h2) (qp (t := 20) rfl (vF h2) (qp (t := 20) rfl (vF h2) (cX (qM (.bool (false)) (vF h2) rfl (qf (jS rfl (qz (qd ?_)))))))))))
  refine cX (qq (0) jd rfl jy (by decide) rfl rfl (cX (qm isAgg70 rfl (Rd.own [_] rfl rfl) (qi (v1) rfl (cX (qx (s := 1) [v1] [sN] [(0, [v1])] ja qy zeroValue24 rfl (by decide) rfl (.cons (cells_one (qv hf1)) CellsAre.nil) rfl ?_))))))
  intro v7 hv4
  refine cX (XOp.append (m := 1) (bytes := 24) (cs := cs1) [_] _ [v1] ja typeInfo24 rfl rfl rfl rfl rfl rfl rfl (SlV.own [] rfl) rfl (Rd.lit [] rfl) (qw (qJ (qv hf1)) qT) (by (try simp only [List.length_append, List.length_nil, List.length_cons, List.length_singleton]); omega) (by (try simp only [List.length_append, List.length_nil, List.length_cons, List.length_singleton]); omega) ?_)
  intro v8 hs4 hn3 hm3
  have hc4 := RowsC.snoc hc1 hf1
  refine cX (qq (0) jd rfl jy (by decide) rfl rfl (cX (jL [_, _] _ [v8] jy rfl rfl (qJ hs4) rfl rfl rfl (qf (qd (qi (ii ((k : Int))) rfl (cX (qS (((k + 1 : Nat) : Int)) rfl rfl (by omega) (by omega) (qj (ii (((k + 1 : Nat) : Int))) rfl (qf ?_))))))))))
  exact ⟨(k + 1, v8, os ++ [(lk s (-1 - (k : Int)))], F1), _, (qc leG1 le1), rF, ⟨rfl, rfl, rfl, rfl, ⟨⟩⟩, (sD (coH.close hc4 (by first | rfl | simp) (sC (sC (sC sR))))), ⟨rfl, (qc leG1 le1), (hs4), (by dsimp only; rw [hos, plainGo_take (by omega), plainGo_other (by intro e; have e1 := congrArg List.length e; have e2 := congrArg (fun l => l.getD 0 0) e; simp only [List.length_singleton, List.getD_cons_zero] at e1 e2; omega)]), (by (try dsimp only) <;> omega)⟩, (by omega)⟩
 refine jn (qA (qA (qV (qg (qQ (jr (α := Value × RowL × FH) (fun xQ => [(2, ptr b2 0), (3, ptr b3 0)]) (fun xQ => rowsH 24 xQ.2.2 xQ.1 xQ.2.1 :: cellsH b3 [xQ.1] 95 :: cellsH b2 [sN] 95 :: cellsH b1 [sv] 95 :: L) (fun xQ F' => xQ.2.2 = F' ∧ G1 ≤ xQ.2.2 ∧ (IsSl xQ.1) ∧ (trim xQ.2.1 = plainL s) ∧ (xQ.2.1.length ≤ 24)) (fun xQ => xQ.2.1.length) (ov, os, G1) ⟨rfl, rfl, ⟨⟩⟩ (coH.close hc1 (by first | rfl | simp) (sC (sC (sC sR)))) ⟨rfl, FLe.refl _, (hov), (by dsimp only; rw [hos, plainL, List.take_of_length_le (by rw [plainGo_length]; omega)]), (by dsimp only; rw [hos, List.length_take, plainGo_length]; omega)⟩ ?_))))))
 rintro ⟨ov2, os2, G2⟩ rE _ _ ⟨rfl, leG, hov2, hos2, hl2⟩
 show X _ _ _ _ (envs [(2, ptr b2 0), (3, ptr b3 0)] rE) _ (rowsH 24 G2 ov2 os2 :: cellsH b3 [ov2] 95 :: cellsH b2 [sN] 95 :: cellsH b1 [sv] 95 :: L)
 replace leG : G1 ≤ G2 := leG
 dsimp only at hov2 hos2 hl2
 have leG2 := leG
 refine X.open [] rfl (fun cs2 hc5 => ?_)
 replace hc5 : RowsC G2 cs2 os2 := hc5
 refine qg (qg (qd (cX (qq (0) jd rfl jy (by decide) rfl rfl (cX (qm isAgg70 rfl (Rd.own [_] rfl rfl) (cX (qE ja rfl (SlV.own [] rfl) (cX (jF rfl rfl (qi (.bool (decide (((os2.length : Int) : Int) > 0))) rfl ?_)))))))))))
 by_cases h4 : ((os2.length : Int) : Int) > 0
 ·refine qr (t := 39) rfl (vT h4) (qq (0) jd rfl jy (by decide) rfl rfl (qr (t := 39) rfl (vT h4) (qm isAgg70 rfl (Rd.own [_] rfl rfl) (qr (t := 39) rfl (vT h4) (qq (0) jd rfl jy (by decide) rfl rfl (qr (t := 39) rfl (vT h4) (qm isAgg70 rfl (Rd.own [_] rfl rfl) (qr (t := 39) rfl (vT h4) (qE ja rfl (SlV.own [] rfl) (qr (t := 39) rfl (vT h4) (jl (((os2.length - 1 : Nat) : Int)) rfl rfl (by omega) (by omega) (qr (t := 39) rfl (vT h4) (qD (os2.length - 1) ja qy rfl rfl rfl (SlV.own [] rfl) (by omega) (Nat.mul_one _) ?_)))))))))))))
  obtain ⟨a1, ha1, he1⟩ := hc5.get (i := os2.length - 1) (by omega)
  refine qr (t := 39) rfl (vT h4) (qm qX rfl (Rd.sl [] rfl he1) (qr (t := 39) rfl (vT h4) (qE qh rfl ha1.slv (qr (t := 39) rfl (vT h4) (jD rfl rfl (cX (qN (.bool (decide ((((((os2.getD (os2.length - 1) [])).length : Nat) : Int) : Int) = 0))) (vT h4) rfl (qf ?_))))))))
  refine qH (p := (((((os2.getD (os2.length - 1) [])).length : Nat) : Int) : Int) = 0) rfl (fun h5 => ?_) (fun h5 => ?_)
  ·refine qz (qQ (qd (cX (qq (0) jd rfl jy (by decide) rfl rfl (cX (qm isAgg70 rfl (Rd.own [_] rfl rfl) (cX (qq (0) jd rfl jy (by decide) rfl rfl (cX (qm isAgg70 rfl (Rd.own [_] rfl rfl) (cX (qE ja rfl (SlV.own [] rfl) (cX (jl (((os2.length - 1 : Nat) : Int)) rfl rfl (by omega) (by omega) (cX (XOp.sliceOwn (cs := cs2) [] _ (os2.length - 1) ja qy rfl rfl ⟨_, rfl⟩ (by omega) ?_))))))))))))))))
   intro v9 hs5
   have hc6 : RowsC G2 _ _ := CO.take hc5 (k := os2.length - 1) (by omega)
   refine cX (qq (0) jd rfl jy (by decide) rfl rfl (cX (jL [_] _ [v9] jy rfl rfl (qJ hs5) rfl rfl rfl (qf ?_))))
   exact ⟨(v9, (os2.take (os2.length - 1)), G2), _, leG2, rF, ⟨rfl, rfl, ⟨⟩⟩, (coH.close hc6 (by first | rfl | simp) (sC (sC (sC sR)))), ⟨rfl, leG2, (hs5), (by dsimp only; rw [trim_cut (by omega) (List.eq_nil_of_length_eq_zero (by omega))]; exact hos2), (by dsimp only; rw [List.length_take]; omega)⟩, (by dsimp only; rw [List.length_take]; omega)⟩
  refine jn (qA (qA (qV (qg (qd (cX (qs [ov2] isAgg95 jJ rfl rfl (Rd.ownN [_] rfl rfl) (cX (qO [_, _] _ [ov2] jJ rfl rfl rfl (qw (qJ hov2) qT) rfl rfl rfl (qf (ji [] _ _ rfl (fun F3 le3 hz3 => ?_))))))))))))
  replace hc5 := hc5.mono le3
  have hf3 : RowsF F3 ov2 os2 := CO.fz hc5 (by first | rfl | omega | (rw [List.length_set]; omega) | (simp; done)) hz3.fz
  refine qu (qt (L' := L) [.agg #[ov2]] (.agg #[ov2]) (.cell rfl (jt [ov2] isAgg95 jJ rfl (Rd.ownN [_] rfl rfl)) .nil) rfl (qc (qc leG1 leG2) le3) rF (sD (sD (sD sR))) ?_)
  have e : os2 = plainL s := by rw [← hos2]; exact (trim_last (fun h0 e => by have := congrArg List.length e; simp only [List.length_nil] at this; omega)).symm
  exact ⟨_, rfl, by rw [← e]; exact hf3, rfl⟩
 refine qp (t := 39) rfl (vF h4) (qp (t := 39) rfl (vF h4) (qp (t := 39) rfl (vF h4) (qp (t := 39) rfl (vF h4) (qp (t := 39) rfl (vF h4) (qp (t := 39) rfl (vF h4) (qp (t := 39) rfl (vF h4) (qp (t := 39) rfl (vF h4) (qp (t := 39) rfl (vF h4) (qp (t := 39) rfl (vF h4) ?_)))))))))
 refine cX (qM (.bool (false)) (vF h4) rfl (qf (jS rfl (jn (qA (qA (qV (qg (qd (cX (qs [ov2] isAgg95 jJ rfl rfl (Rd.ownN [_] rfl rfl) (cX (qO [_, _] _ [ov2] jJ rfl rfl rfl (qw (qJ hov2) qT) rfl rfl rfl (qf (ji [] _ _ rfl (fun F4 le4 hz4 => ?_))))))))))))))))
 replace hc5 := hc5.mono le4
 have hf4 : RowsF F4 ov2 os2 := CO.fz hc5 (by first | rfl | omega | (rw [List.length_set]; omega) | (simp; done)) hz4.fz
 refine qu (qt (L' := L) [.agg #[ov2]] (.agg #[ov2]) (.cell rfl (jt [ov2] isAgg95 jJ rfl (Rd.ownN [_] rfl rfl)) .nil) rfl (qc (qc leG1 leG2) le4) rF (sD (sD (sD sR))) ?_)
 have e : os2 = plainL s := by rw [← hos2]; exact (trim_last (fun h0 e => by have := congrArg List.length e; simp only [List.length_nil] at this; omega)).symm
 exact ⟨_, rfl, by rw [← e]; exact hf4, rfl⟩

/- spec.l4Match -/
theorem l4Match_spec {F : FH} {L : List HP} {arv : Value} {ar : List Int} (har : IntsF F arv ar) {pv : Value} {p : List Int} (hp : IntsF F pv p) {tv : Value} {t : List Int} (ht : IntsF F tv t) (ho : termOk ar t = true) (hpo : termOk ar p = true) :
    Does prog 64 [.agg #[arv], pv, tv] F (L) (fun v F' L' => ∃ (a : Value), (.tuple #[.agg #[a], .bool ((matchB ar p t).isSome)] : Value) = v ∧ (RowsF F' a (matchP ar p t)) ∧ L = L') := by
 refine qL func64 rfl rfl rfl ?_
 have hpl := termOk_len hpo
 have hpg := fun k (hk : k < p.length) => termOk_ge hpo hk
 have htl := termOk_len ho
 have hsl := sigOk_spec (termOk_sig ho)
 refine qg (qd (cX (je [arv] rfl rfl ?_)))
 intro b1
 refine cX (jm [sN] jT rfl ?_)
 intro b2
 refine qj (.bool (false)) rfl (qf (qg (qd (cX (XOp.makeSlice (n := 24) (bytes := 24) [sN] ja qy typeInfo24 rfl zeroValue24 rfl rfl rfl rfl (by omega) (by omega) ?_)))))
 intro v1 hv1
 rw [nils]
 have hc1 : RowsC F _ _ := RowsC.nils 24
 refine cX (jk [v1] [sN] [(0, 1)] [(0, [v1])] jd jT rfl (.cons rfl jy PlacesAre.nil) rfl (.cons (cells_one (jE hv1)) CellsAre.nil) (cX (jm [sN] jT rfl ?_)))
 intro b3
 refine cX (qO [] _ [v1] jJ rfl rfl rfl (qw (qJ (jE hv1)) qT) rfl rfl rfl (qf (qg (qd (qj (ii (0)) rfl (qf (qg (qg (qd (qj (ii (0)) rfl (qf (qQ (jr (α := Nat × Nat × RowL × FH) (fun xQ => [(1, pv), (2, tv), (3, ptr b1 0), (6, ptr b2 0), (8, ptr b3 0), (9, ii (((xQ.2.1 : Nat) : Int))), (10, ii (((xQ.1 : Nat) : Int)))]) (fun xQ => cellsH b3 [v1] 95 :: rowsH 24 xQ.2.2.2 v1 xQ.2.2.1 :: cellsH b2 [sN] 95 :: cellsH b1 [arv] 26 :: L) (fun xQ F' => xQ.2.2.2 = F' ∧ F ≤ xQ.2.2.2 ∧ (xQ.2.2.1.length = 24) ∧ (xQ.1 ≤ p.length) ∧ (xQ.2.1 ≤ t.length) ∧ (matchB ar p t = mGo ar t (p.drop xQ.1) xQ.2.1 xQ.2.2.1)) (fun xQ => p.length - xQ.1) (0, 0, (List.replicate 24 [] : List (List Int)), F) ⟨rfl, rfl, rfl, rfl, rfl, rfl, rfl, ⟨⟩⟩ (sC (coH.close hc1 (by first | rfl | simp) (sC (sC sR)))) ⟨rfl, FLe.refl _, (by simp), (by (try dsimp only) <;> omega), (by (try dsimp only) <;> omega), (rfl)⟩ ?_)))))))))))))
 rintro ⟨k, i, bl, G1⟩ rE _ _ ⟨rfl, leG, hbl, hk, hi, hm⟩
 show X _ _ _ _ (envs [(1, pv), (2, tv), (3, ptr b1 0), (6, ptr b2 0), (8, ptr b3 0), (9, ii ((i : Int))), (10, ii ((k : Int)))] rE) _ (cellsH b3 [v1] 95 :: rowsH 24 G1 v1 bl :: cellsH b2 [sN] 95 :: cellsH b1 [arv] 26 :: L)
 replace leG : F ≤ G1 := leG
 dsimp only at hbl hk hi hm
 have hpk := hpg k
 have hsl2 := fun h => sub_length (p := i) ho h
 have hee := fun h => endN_spec (p := i) ho h
 have leG1 := leG
 replace har := har.mono leG1
 replace hp := hp.mono leG1
 replace ht := ht.mono leG1
 refine X.open [_] rfl (fun cs1 hc2 => ?_)
 replace hc2 : RowsC G1 cs1 bl := hc2
 refine qg (qg (qd (qi (ii ((k : Int))) rfl (qi (pv) rfl (cX (qE qh rfl hp.slv (cX (jb rfl rfl (qf ?_)))))))))
 refine qH (p := (k : Int) < (p.length : Int)) rfl (fun h1 => ?_) (fun h1 => ?_)
 ·refine qz (qg (qQ (qg (qg (qd (qi (ii ((i : Int))) rfl (qi (tv) rfl (cX (qE qh rfl ht.slv (cX (jW rfl rfl (qf ?_))))))))))))
  refine qH (p := (i : Int) ≥ (t.length : Int)) rfl (fun h2 => ?_) (fun h2 => ?_)
  ·refine qg (qd (cX (jk [sN] [sN] [(0, 1)] [] jd jT rfl (.cons rfl jy PlacesAre.nil) rfl CellsAre.nil (cX (qO [_, _] _ [sN] jJ rfl rfl rfl (qw rfl qT) rfl rfl rfl (qj (.bool (false)) rfl (qf (qu (ql (qI (ql (ql (qI (ql (qt (L' := L) [.agg #[sN], .bool (false)] (.tuple #[.agg #[sN], .bool (false)]) (.cell rfl (jt [sN] isAgg95 jJ rfl (Rd.ownN [_, _] rfl rfl)) (.tmp rfl .nil)) rfl leG1 rF (sD (sD (sD (sD sR)))) ?_)))))))))))))))
   have hz : matchB ar p t = none := hm.trans (mGo_short (by omega) (by omega))
   exact ⟨_, by rw [hz]; rfl, by rw [matchP, hz]; exact SlOf.nilV, rfl⟩
  refine qz (qg (qg (qd (qi (pv) rfl (qi (ii ((k : Int))) rfl (cX (qD k qh qC rfl rfl rfl hp.slv (by omega) (Nat.mul_one _) (cX (qm jj rfl (hp.rd (by omega)) (cX (jW rfl rfl (qf ?_))))))))))))
  refine qH (p := (p.getD k 0 : Int) ≥ 0) rfl (fun h3 => ?_) (fun h3 => ?_)
  ·refine qg (qg ?_)
   refine X.draw [cellsH b3 [v1] 95, slH 24 1 v1 ((bl).length) cs1, cellsH b2 [sN] 95, cellsH b1 [arv] 26] L 8 [] [[], [], [0, 1], [2], [], [], [4, 5], [6]] (phiL [qe pv, qe (ii ((k : Int)) : Value), qe (.pointer (some (elemA pv (k)))), qe (ii (p.getD k 0)), qe tv, qe (ii ((i : Int)) : Value), qe (.pointer (some (elemA tv (i)))), qe (ii (t.getD i 0))]) (ownL []) mixed rfl rfl (by kernel_rfl) ?_ ?_
   ·refine pD (fun W R z9 => ?_) ?_
    ·refine qk (qo (pv) rfl ?_)
     exact ⟨rfl, rfl, rfl⟩
    refine pD (fun W R z9 => ?_) ?_
    ·refine qk (qo (ii ((k : Int))) rfl ?_)
     exact ⟨rfl, rfl, rfl⟩
    refine pD (fun W R z9 => ?_) ?_
    ·rw [zB 0 1 (z9 0 rfl) (z9 1 rfl)]
     refine qk (qD k qh qC rfl rfl rfl hp.slv (by omega) (Nat.mul_one _) ?_)
     exact ⟨rfl, rfl, rfl⟩
    refine pD (fun W R z9 => ?_) ?_
    ·rw [zA 2 (z9 2 rfl)]
     refine qk (qm jj rfl (hp.rd (by omega)) ?_)
     exact ⟨rfl, rfl, rfl⟩
    refine pD (fun W R z9 => ?_) ?_
    ·refine qk (qo (tv) rfl ?_)
     exact ⟨rfl, rfl, rfl⟩
    refine pD (fun W R z9 => ?_) ?_
    ·refine qk (qo (ii ((i : Int))) rfl ?_)
     exact ⟨rfl, rfl, rfl⟩
    refine pD (fun W R z9 => ?_) ?_
    ·rw [zB 4 5 (z9 4 rfl) (z9 5 rfl)]
     refine qk (qD i qh qC rfl rfl rfl ht.slv (by omega) (Nat.mul_one _) ?_)
     exact ⟨rfl, rfl, rfl⟩
    refine pD (fun W R z9 => ?_) ?_
    ·rw [zA 6 (z9 6 rfl)]
     refine qk (qm jj rfl (ht.rd (by omega)) ?_)
     exact ⟨rfl, rfl, rfl⟩
    exact stepsP.nil
   intro W hphi
   rw [zB 3 7 (hphi 3 (by decide)) (hphi 7 (by decide))]
   show XL _ _ _ _ _ _ _ (cellsH b3 [v1] 95 :: slH 24 1 v1 ((bl).length) cs1 :: cellsH b2 [sN] 95 :: cellsH b1 [arv] 26 :: L)
   refine cX (XOp.neq rfl rfl (qf ?_))
   refine qH (p := (p.getD k 0 : Int) ≠ t.getD i 0) rfl (fun h4 => ?_) (fun h4 => ?_)
   ·refine qg (qd (cX (jk [sN] [sN] [(0, 1)] [] jd jT rfl (.cons rfl jy PlacesAre.nil) rfl CellsAre.nil (cX (qO [_, _] _ [sN] jJ rfl rfl rfl (qw rfl qT) rfl rfl rfl (qj (.bool (false)) rfl (qf (qu (ql (ql (qI (ql (ql (qI (ql (qt (L' := L) [.agg #[sN], .bool (false)] (.tuple #[.agg #[sN], .bool (false)]) (.cell rfl (jt [sN] isAgg95 jJ rfl (Rd.ownN [_, _] rfl rfl)) (.tmp rfl .nil)) rfl leG1 rF (sD (sD (sD (sD sR)))) ?_))))))))))))))))
    have hz : matchB ar p t = none := hm.trans (mGo_ne (by omega) (by omega) (by omega) (by omega))
    exact ⟨_, by rw [hz]; rfl, by rw [matchP, hz]; exact SlOf.nilV, rfl⟩
   refine qz (qg (qd (qi (ii ((i : Int))) rfl (cX (qS (((i + 1 : Nat) : Int)) rfl rfl (by omega) (by omega) (qj (ii (((i + 1 : Nat) : Int))) rfl (qf (jn (qA (qV (qd (qi (ii ((k : Int))) rfl (cX (qS (((k + 1 : Nat) : Int)) rfl rfl (by omega) (by omega) (qj (ii (((k + 1 : Nat) : Int))) rfl ?_)))))))))))))))
   refine qf ?_
   exact ⟨(k + 1, i + 1, bl, G1), _, leG1, rF, ⟨rfl, rfl, rfl, rfl, rfl, rfl, rfl, ⟨⟩⟩, (sC (coH.close hc2 (by first | rfl | simp) (sC (sC sR)))), ⟨rfl, leG1, (by (try dsimp only); (try simp only [List.length_set]) <;> omega), (by (try dsimp only) <;> omega), (by (try dsimp only) <;> omega), (hm.trans (mGo_sym (by omega) (by omega) (by omega) (by omega)))⟩, (by omega)⟩
  refine qz (qg (qd (cX (qs [arv] qW qB rfl rfl (Rd.ownN [_, _, _] rfl rfl) (qi (tv) rfl (qi (ii ((i : Int))) rfl (cX (jR <| qn (args := [.agg #[arv], tv, ii (i : Int)]) call65 rfl (l1Sub_spec (p := i) har ht (ho := (by first | assumption | rfl | omega | simp)) (hp := (by first | assumption | rfl | omega | simp))) ?_))))))))
  rintro v2 _ _ _ ⟨rfl, hs1, rfl⟩
  refine ⟨_, _, rfl, fun F1 le1 hz1 => ?_⟩
  replace hp := hp.mono le1
  replace hc2 := hc2.mono le1
  have hf1 : IntsF F1 v2 ((sub ar t i)) := intsH.fz (xs := (sub ar t i)) hz1.fz
  refine qj (v2) rfl (qf (qg ?_))
  refine X.draw [cellsH b3 [v1] 95, slH 24 1 v1 ((bl).length) cs1, cellsH b2 [sN] 95, cellsH b1 [arv] 26] L 7 [] [[], [0], [], [], [2, 3], [4], [5]] (phiL [qe (ptr b3 0), qe v1, qe pv, qe (ii ((k : Int)) : Value), qe (.pointer (some (elemA pv (k)))), qe (ii (p.getD k 0)), qe (ii ((-1) - (p.getD k 0)))]) (ownL []) mixed rfl rfl (by kernel_rfl) ?_ ?_
  ·refine pD (fun W R z9 => ?_) ?_
   ·refine qk (qq (0) jd rfl jy (by decide) rfl rfl ?_)
    exact ⟨rfl, rfl, rfl⟩
   refine pD (fun W R z9 => ?_) ?_
   ·rw [zA 0 (z9 0 rfl)]
    refine qk (qm isAgg70 rfl (Rd.own [] rfl rfl) ?_)
    exact ⟨rfl, rfl, rfl⟩
   refine pD (fun W R z9 => ?_) ?_
   ·refine qk (qo (pv) rfl ?_)
    exact ⟨rfl, rfl, rfl⟩
   refine pD (fun W R z9 => ?_) ?_
   ·refine qk (qo (ii ((k : Int))) rfl ?_)
    exact ⟨rfl, rfl, rfl⟩
   refine pD (fun W R z9 => ?_) ?_
   ·rw [zB 2 3 (z9 2 rfl) (z9 3 rfl)]
    refine qk (qD k qh qC rfl rfl rfl hp.slv (by omega) (Nat.mul_one _) ?_)
    exact ⟨rfl, rfl, rfl⟩
   refine pD (fun W R z9 => ?_) ?_
   ·rw [zA 4 (z9 4 rfl)]
    refine qk (qm jj rfl (hp.rd (by omega)) ?_)
    exact ⟨rfl, rfl, rfl⟩
   refine pD (fun W R z9 => ?_) ?_
   ·rw [zA 5 (z9 5 rfl)]
    refine qk (jl ((-1) - (p.getD k 0)) rfl rfl (by omega) (by omega) ?_)
    exact ⟨rfl, rfl, rfl⟩
   exact stepsP.nil
  intro W hphi
  rw [zB 1 6 (hphi 1 (by decide)) (hphi 6 (by decide))]
  show XL _ _ _ _ _ _ _ (cellsH b3 [v1] 95 :: slH 24 1 v1 ((bl).length) cs1 :: cellsH b2 [sN] 95 :: cellsH b1 [arv] 26 :: L)
  refine cX (qD (((-1) - (p.getD k 0)).toNat) ja qy rfl rfl (by omega) (SlV.own [_] rfl) (by omega) (Nat.mul_one _) ?_)
  obtain ⟨a1, ha1, he1⟩ := hc2.get (i := ((-1) - (p.getD k 0)).toNat) (by omega)
  refine cX (qm qX rfl (Rd.sl [_] rfl he1) (qj (a1) rfl (qf (qg (qg (qd (qi (a1) rfl (cX (qE qh rfl ha1.slv (cX (jF rfl rfl (qi (.bool (decide ((((((bl.getD (((-1) - (p.getD k 0)).toNat) [])).length : Nat) : Int) : Int) > 0))) rfl ?_))))))))))))
  by_cases h5 : (((((bl.getD (((-1) - (p.getD k 0)).toNat) [])).length : Nat) : Int) : Int) > 0
  ·refine qr (t := 59) rfl (vT h5) (qo (a1) rfl (qr (t := 59) rfl (vT h5) (qo (v2) rfl (qr (t := 59) rfl (vT h5) (qn (args := [a1, v2]) call10 rfl (SameTerm_spec ha1 hf1 (hbd := (by first | assumption | rfl | omega | (left; simp; done) | (right; simp; done)))) ?_)))))
   rintro _ _ _ _ ⟨rfl, rfl, rfl⟩
   refine qr (t := 59) rfl (vT h5) (XOp.notD rfl (cX (qN (.bool (decide (¬(((bl.getD (((-1) - (p.getD k 0)).toNat) [])) = ((sub ar t i)))))) (vT h5) rfl (qf ?_))))
   refine qH (p := ¬(((bl.getD (((-1) - (p.getD k 0)).toNat) [])) = ((sub ar t i)))) rfl (fun h6 => ?_) (fun h6 => ?_)
   ·refine qg (qd (cX (jk [sN] [sN] [(0, 1)] [] jd jT rfl (.cons rfl jy PlacesAre.nil) rfl CellsAre.nil (cX (qO [_, _] _ [sN] jJ rfl rfl rfl (qw rfl qT) rfl rfl rfl (qj (.bool (false)) rfl (qf (qu (ql (qI (ql (ql (qI (ql (qt (L' := L) [.agg #[sN], .bool (false)] (.tuple #[.agg #[sN], .bool (false)]) (.cell rfl (jt [sN] isAgg95 jJ rfl (Rd.ownN [_, _] rfl rfl)) (.tmp rfl .nil)) rfl (qc leG1 le1) rF (sD (sD (sD (sD sR)))) ?_)))))))))))))))
    have hz : matchB ar p t = none := hm.trans (mGo_clash (by omega) (by omega) (by omega) (by intro e; have := congrArg List.length (show bl.getD (-1 - p.getD k 0).toNat [] = [] from e); simp only [List.length_nil] at this; omega) (by assumption))
    exact ⟨_, by rw [hz]; rfl, by rw [matchP, hz]; exact SlOf.nilV, rfl⟩
   refine qz (qg ?_)
   refine X.draw [cellsH b3 [v1] 95, slH 24 1 v1 ((bl).length) cs1, cellsH b2 [sN] 95, cellsH b1 [arv] 26] L 8 [] [[], [0], [], [], [2, 3], [4], [5]] (phiL [qe (ptr b3 0), qe v1, qe pv, qe (ii ((k : Int)) : Value), qe (.pointer (some (elemA pv (k)))), qe (ii (p.getD k 0)), qe (ii ((-1) - (p.getD k 0))), qe v2]) (ownL []) mixed rfl rfl (by kernel_rfl) ?_ ?_
   ·refine pD (fun W R z9 => ?_) ?_
    ·refine qk (qq (0) jd rfl jy (by decide) rfl rfl ?_)
     exact ⟨rfl, rfl, rfl⟩
    refine pD (fun W R z9 => ?_) ?_
    ·rw [zA 0 (z9 0 rfl)]
     refine qk (qm isAgg70 rfl (Rd.own [] rfl rfl) ?_)
     exact ⟨rfl, rfl, rfl⟩
    refine pD (fun W R z9 => ?_) ?_
    ·refine qk (qo (pv) rfl ?_)
     exact ⟨rfl, rfl, rfl⟩
    refine pD (fun W R z9 => ?_) ?_
    ·refine qk (qo (ii ((k : Int))) rfl ?_)
     exact ⟨rfl, rfl, rfl⟩
    refine pD (fun W R z9 => ?_) ?_
    ·rw [zB 2 3 (z9 2 rfl) (z9 3 rfl)]
     refine qk (qD k qh qC rfl rfl rfl hp.slv (by omega) (Nat.mul_one _) ?_)
     exact ⟨rfl, rfl, rfl⟩
    refine pD (fun W R z9 => ?_) ?_
    ·rw [zA 4 (z9 4 rfl)]
     refine qk (qm jj rfl (hp.rd (by omega)) ?_)
     exact ⟨rfl, rfl, rfl⟩
    refine pD (fun W R z9 => ?_) ?_
    ·rw [zA 5 (z9 5 rfl)]
     refine qk (jl ((-1) - (p.getD k 0)) rfl rfl (by omega) (by omega) ?_)
     exact ⟨rfl, rfl, rfl⟩
    refine pD (fun W R z9 => ?_) ?_
    ·refine qk (qo (v2) rfl ?_)
     exact ⟨rfl, rfl, rfl⟩
    exact stepsP.nil
   intro W hphi
   rw [eS (l := [(1, _), (6, _), (7, _)]) ⟨(hphi 1 (by decide)), (hphi 6 (by decide)), (hphi 7 (by decide)), ⟨⟩⟩]
   show XL _ _ _ _ _ _ _ (cellsH b3 [v1] 95 :: slH 24 1 v1 ((bl).length) cs1 :: cellsH b2 [sN] 95 :: cellsH b1 [arv] 26 :: L)
   refine cX (qD (((-1) - (p.getD k 0)).toNat) ja qy rfl rfl (by omega) (SlV.own [_] rfl) (by omega) (Nat.mul_one _) (cX (XOp.storeS (i := ((-1) - (p.getD k 0)).toNat) (cs := cs1) [_] _ qy rfl rfl (qJ (qv hf1)) rfl (by have h9 := CO.len hc2; (try simp only [List.length_set, List.length_replicate] at h9 ⊢) <;> omega) ?_)))
   have hc3 := hc2.set (((-1) - (p.getD k 0)).toNat) hf1
   refine qf (qd (qi (ii ((i : Int))) rfl (qi (v2) rfl (cX (qE qh rfl hf1.slv (cX (qS (((i + (((sub ar t i)).length) : Nat) : Int)) rfl rfl (by omega) (by omega) (qj (ii (((i + (((sub ar t i)).length) : Nat) : Int))) rfl (qf (qd (qi (ii ((k : Int))) rfl (cX (qS (((k + 1 : Nat) : Int)) rfl rfl (by omega) (by omega) (qj (ii (((k + 1 : Nat) : Int))) rfl ?_))))))))))))))
   refine qf ?_
   exact ⟨(k + 1, i + (((sub ar t i)).length), (bl.set (((-1) - (p.getD k 0)).toNat) ((sub ar t i))), F1), _, (qc leG1 le1), rF, ⟨rfl, rfl, rfl, rfl, rfl, rfl, rfl, ⟨⟩⟩, (sC (coH.close hc3 (by first | rfl | simp) (sC (sC sR)))), ⟨rfl, (qc leG1 le1), (by (try dsimp only); (try simp only [List.length_set]) <;> omega), (by (try dsimp only) <;> omega), (by (try dsimp only) <;> omega), (hm.trans (m4_next (by omega) (by omega) (by omega) (by first | (left; exact List.eq_nil_of_length_eq_zero (show (bl.getD (-1 - p.getD k 0).toNat []).length = 0 by omega)) | (right; first | assumption | exact Classical.not_not.1 (by assumption)))))⟩, (by omega)⟩
  refine qp (t := 59) rfl (vF h5) (qp (t := 59) rfl (vF h5) (qp (t := 59) rfl (vF h5) (qp (t := 59) rfl (vF h5) (cX (qM (.bool (false)) (vF h5) rfl (qf (jS rfl (qz (qg ?_)))))))))
  refine X.draw [cellsH b3 [v1] 95, slH 24 1 v1 ((bl).length) cs1, cellsH b2 [sN] 95, cellsH b1 [arv] 26] L 8 [] [[], [0], [], [], [2, 3], [4], [5]] (phiL [qe (ptr b3 0), qe v1, qe pv, qe (ii ((k : Int)) : Value), qe (.pointer (some (elemA pv (k)))), qe (ii (p.getD k 0)), qe (ii ((-1) - (p.getD k 0))), qe v2]) (ownL []) mixed rfl rfl (by kernel_rfl) ?_ ?_
  ·refine pD (fun W R z9 => ?_) ?_
   ·refine qk (qq (0) jd rfl jy (by decide) rfl rfl ?_)
    exact ⟨rfl, rfl, rfl⟩
   refine pD (fun W R z9 => ?_) ?_
   ·rw [zA 0 (z9 0 rfl)]
    refine qk (qm isAgg70 rfl (Rd.own [] rfl rfl) ?_)
    exact ⟨rfl, rfl, rfl⟩
   refine pD (fun W R z9 => ?_) ?_
   ·refine qk (qo (pv) rfl ?_)
    exact ⟨rfl, rfl, rfl⟩
   refine pD (fun W R z9 => ?_) ?_
   ·refine qk (qo (ii ((k : Int))) rfl ?_)
    exact ⟨rfl, rfl, rfl⟩
   refine pD (fun W R z9 => ?_) ?_
   ·rw [zB 2 3 (z9 2 rfl) (z9 3 rfl)]
    refine qk (qD k qh qC rfl rfl rfl hp.slv (by omega) (Nat.mul_one _) ?_)
    exact ⟨rfl, rfl, rfl⟩
   refine pD (fun W R z9 => ?_) ?_
   ·rw [zA 4 (z9 4 rfl)]
    refine qk (qm jj rfl (hp.rd (by omega)) ?_)
    exact ⟨rfl, rfl, rfl⟩
   refine pD (fun W R z9 => ?_) ?_
   ·rw [zA 5 (z9 5 rfl)]
    refine qk (jl ((-1) - (p.getD k 0)) rfl rfl (by omega) (by omega) ?_)
    exact ⟨rfl, rfl, rfl⟩
   refine pD (fun W R z9 => ?_) ?_
   ·refine qk (qo (v2) rfl ?_)
    exact ⟨rfl, rfl, rfl⟩
   exact stepsP.nil
  intro W hphi
  rw [eS (l := [(1, _), (6, _), (7, _)]) ⟨(hphi 1 (by decide)), (hphi 6 (by decide)), (hphi 7 (by decide)), ⟨⟩⟩]
  show XL _ _ _ _ _ _ _ (cellsH b3 [v1] 95 :: slH 24 1 v1 ((bl).length) cs1 :: cellsH b2 [sN] 95 :: cellsH b1 [arv] 26 :: L)
  refine cX (qD (((-1) - (p.getD k 0)).toNat) ja qy rfl rfl (by omega) (SlV.own [_] rfl) (by omega) (Nat.mul_one _) (cX (XOp.storeS (i := ((-1) - (p.getD k 0)).toNat) (cs := cs1) [_] _ qy rfl rfl (qJ (qv hf1)) rfl (by have h9 := CO.len hc2; (try simp only [List.length_set, List.length_replicate] at h9 ⊢) <;> omega) ?_)))
  have hc4 := hc2.set (((-1) - (p.getD k 0)).toNat) hf1
  refine qf (qd (qi (ii ((i : Int))) rfl (qi (v2) rfl (cX (qE qh rfl hf1.slv (cX (qS (((i + (((sub ar t i)).length) : Nat) : Int)) rfl rfl (by omega) (by omega) (qj (ii (((i + (((sub ar t i)).length) : Nat) : Int))) rfl (qf (qd (qi (ii ((k : Int))) rfl (cX (qS (((k + 1 : Nat) : Int)) rfl rfl (by omega) (by omega) (qj (ii (((k + 1 : Nat) : Int))) rfl ?_))))))))))))))
  refine qf ?_
  exact ⟨(k + 1, i + (((sub ar t i)).length), (bl.set (((-1) - (p.getD k 0)).toNat) ((sub ar t i))), F1), _, (qc leG1 le1), rF, ⟨rfl, rfl, rfl, rfl, rfl, rfl, rfl, ⟨⟩⟩, (sC (coH.close hc4 (by first | rfl | simp) (sC (sC sR)))), ⟨rfl, (qc leG1 le1), (by (try dsimp only); (try simp only [List.length_set]) <;> omega), (by (try dsimp only) <;> omega), (by (try dsimp only) <;> omega), (hm.trans (m4_next (by omega) (by omega) (by omega) (by first | (left; exact List.eq_nil_of_length_eq_zero (show (bl.getD (-1 - p.getD k 0).toNat []).length = 0 by omega)) | (right; first | assumption | exact Classical.not_not.1 (by assumption)))))⟩, (by omega)⟩
 refine jn (qA (qA (qV (qg (qd (cX (qs [v1] isAgg95 jJ rfl rfl (Rd.ownN [] rfl rfl) ?_)))))))
 have hmb := (matchB_len (hm.trans (mGo_done (by omega)))).2
 refine jf [_] _ _ rfl (fun F2 le2 hz2 => ?_)
 replace hc2 := hc2.mono le2
 have hf2 : RowsF F2 v1 bl := CO.fz hc2 (by first | rfl | omega | (rw [List.length_set]; omega) | (simp; done)) hz2.fz
 refine cX (qn (args := [.agg #[v1]]) call92 rfl (l2Plain_spec hf2 (hsl := (by omega)) (hsb := (fun j => by have := hmb j; omega))) ?_)
 rintro _ F3 _ le3 ⟨x1, rfl, hr1, rfl⟩
 refine cX (qO [_] _ [x1] jJ rfl rfl rfl (qw (qJ (RowsF.isSl hr1)) qT) rfl rfl rfl (qj (.bool (true)) rfl (qf (qu (qt (L' := L) [.agg #[x1], .bool (true)] (.tuple #[.agg #[x1], .bool (true)]) (.cell rfl (jt [x1] isAgg95 jJ rfl (Rd.ownN [_] rfl rfl)) (.tmp rfl .nil)) rfl (qc (qc leG1 le2) le3) rF (sD (sD (sD sR))) ?_)))))
 have hz : matchB ar p t = some bl := hm.trans (mGo_done (by omega))
 exact ⟨_, by rw [hz]; rfl, by rw [matchP, hz]; exact hr1, rfl⟩

/- spec.l7Right -/
theorem l7Right_spec {F : FH} {L : List HP} {arv : Value} {ar : List Int} (har : IntsF F arv ar) {rsv : Value} {rs : List (List Int × List Int)} (hrs : PairsF F rsv rs) {tv : Value} {t : List Int} (ht : IntsF F tv t) (hla : ar.length ≤ 4000000) (hlr : rs.length ≤ 4000000) (hrb : ∀ i, i < rs.length → (rs.getD i ([], [])).1.length ≤ 4000000 ∧ (rs.getD i ([], [])).2.length ≤ 4000000) (hlt : t.length ≤ 4000000) :
    Does prog 33 [.agg #[arv, rsv], tv] F (L) (fun v F' L' => (.bool (rightB ar rs t) : Value) = v ∧ F = F' ∧ L = L') := by
 refine qL func33 rfl rfl rfl (qg (qd (cX (je [arv, rsv] rfl rfl ?_))))
 intro b1
 refine qj (.bool (false)) rfl (qf (qg (qd (cX (qs [arv, rsv] isAgg40 jU rfl rfl (Rd.ownN [] rfl rfl) (cX (qn (args := [.agg #[arv, rsv]]) call63 rfl (sSystemOk_spec har hrs (hla := (by first | assumption | rfl | omega | simp)) (hlr := (by first | assumption | rfl | omega | simp)) (hrb := (by first | assumption | rfl | omega | simp))) ?_)))))))
 rintro _ _ _ _ ⟨rfl, rfl, rfl⟩
 refine qi (.bool (sysOk ar rs)) rfl ?_
 by_cases h1 : (sysOk ar rs) = true
 ·refine qr (t := 7) rfl (vB h1) (qq (0) ju rfl qB (by decide) rfl rfl (qr (t := 7) rfl (vB h1) (qs [arv] qW qB rfl rfl (Rd.ownN [] rfl rfl) (qr (t := 7) rfl (vB h1) (qo (tv) rfl (qr (t := 7) rfl (vB h1) (qn (args := [.agg #[arv], tv]) call44 rfl (sTermOk_spec har ht (hla := (by first | assumption | rfl | omega | simp)) (hlt := (by first | assumption | rfl | omega | simp))) ?_)))))))
  rintro _ _ _ _ ⟨rfl, rfl, rfl⟩
  refine cX (qN (.bool (termOk ar t)) (vB h1) rfl (qj (.bool (termOk ar t)) rfl (qf (qu (qt (L' := L) [.bool (termOk ar t)] (.bool (termOk ar t)) (.tmp rfl .nil) rfl rF rF (sD sR) ?_)))))
  exact ⟨(vB (by rw [rightB]; simp_all)), rfl, rfl⟩
 rw [Bool.not_eq_true] at h1
 refine qp (t := 7) rfl (vB h1) (qp (t := 7) rfl (vB h1) (qp (t := 7) rfl (vB h1) (qp (t := 7) rfl (vB h1) (cX (qM (.bool (false)) (vB h1) rfl (qj (.bool (false)) rfl (qf (qu (qt (L' := L) [.bool (false)] (.bool (false)) (.tmp rfl .nil) rfl rF rF (sD sR) ?_)))))))))
 exact ⟨(vB (by rw [rightB]; simp_all)), rfl, rfl⟩

/- spec.l2Filled -/
theorem l2Filled_spec {F : FH} {L : List HP} {sv : Value} {s : List (List Int)} (hs : RowsF F sv s) {tv : Value} {t : List Int} (ht : IntsF F tv t) (hsl : s.length ≤ 4000000) (hsb : ∀ i, (s.getD i []).length ≤ 4000000) (htl : t.length ≤ 4000000) (htg : ∀ k, k < t.length → -4000000 ≤ t.getD k 0) :
    Does prog 66 [.agg #[sv], tv] F (L) (fun v F' L' => ∃ (a : Value), (.tuple #[a, .bool ((fillL s t).isSome)] : Value) = v ∧ (IntsF F' a ((fillL s t).getD [])) ∧ L = L') := by
 refine qL func66 rfl rfl rfl (qg (qd (cX (je [sv] rfl rfl ?_))))
 intro b1
 refine qj (sN) rfl (qj (.bool (false)) rfl (qf (qg (qd (cX (qx (s := 1) [] [ii (0)] [] qh qC qP rfl (by decide) rfl CellsAre.nil rfl ?_))))))
 intro v1 hv1
 refine qj (v1) rfl (qf (qg (qg (qd (qj (ii (0)) rfl (qf (qQ (jr (α := Nat × Value × List Int) (fun xQ => [(1, tv), (2, ptr b1 0), (6, xQ.2.1), (7, ii (((xQ.1 : Nat) : Int)))]) (fun xQ => intsH 2 xQ.2.1 xQ.2.2 :: cellsH b1 [sv] 95 :: L) (fun xQ F' => F = F' ∧ (IsSl xQ.2.1) ∧ (xQ.1 ≤ t.length) ∧ (fillL s t = fillGo s (t.drop xQ.1) xQ.2.2) ∧ (xQ.2.2.length ≤ 60)) (fun xQ => t.length - xQ.1) (0, v1, []) ⟨rfl, rfl, rfl, rfl, ⟨⟩⟩ (sC (sC sR)) ⟨rfl, ((jE hv1)), (by (try dsimp only) <;> omega), (rfl), (by simp)⟩ ?_))))))))
 rintro ⟨k, ov, os⟩ rE _ _ ⟨rfl, hov, hk, hm, hol⟩
 show X _ _ _ _ (envs [(1, tv), (2, ptr b1 0), (6, ov), (7, ii ((k : Int)))] rE) _ (intsH 2 ov os :: cellsH b1 [sv] 95 :: L)
 dsimp only at hov hk hm hol
 have htk := htg k
 have hlk0 := lk_bound (N := 4000000) (by omega) hsb (-1 - (((-1 - t.getD k 0).toNat : Nat) : Int))
 refine qg (qg (qd (qi (ii ((k : Int))) rfl (qi (tv) rfl (cX (qE qh rfl ht.slv (cX (jb rfl rfl (qf ?_)))))))))
 refine qH (p := (k : Int) < (t.length : Int)) rfl (fun h1 => ?_) (fun h1 => ?_)
 ·refine qz (qg (qQ (qg (qg (qd (qi (tv) rfl (qi (ii ((k : Int))) rfl (cX (qD k qh qC rfl rfl rfl ht.slv (by omega) (Nat.mul_one _) (cX (qm jj rfl (ht.rd (by omega)) (cX (jb rfl rfl (qf ?_))))))))))))))
  refine qH (p := (t.getD k 0 : Int) < 0) rfl (fun h2 => ?_) (fun h2 => ?_)
  ·refine jG [intsH 2 ov os, cellsH b1 [sv] 95] L 8 [] [[], [], [], [], [2, 3], [4], [5], [1, 6]] [] (phiG [pe ov, pe (.agg #[sv]), pe tv, pe (ii ((k : Int)) : Value), pe (.pointer (some (elemA tv (k)))), pe (ii (t.getD k 0)), pe (ii ((-1) - (t.getD k 0))), fun FF us v => ((v) : Value) = v ∧ (IntsF FF (v) (lk s (-1 - ((((-1) - (t.getD k 0)).toNat) : Int))))]) (ownL []) mixed rfl rfl (by kernel_rfl) (by kernel_rfl) (MonoG.get (m1 (m1 (m1 (m1 (m1 (m1 (m1 (mC (fun le h => ⟨h.1, h.2.mono le⟩) MonoG.nil))))))))) ?_ ?_
   ·refine gD (fun W Fs R lF z9 => ?_) ?_
    ·refine qk (qo (ov) rfl ?_)
     exact ⟨rfl, rfl⟩
    refine gD (fun W Fs R lF z9 => ?_) ?_
    ·replace hs := hs.mono lF
     replace ht := ht.mono lF
     refine qk (qs [sv] isAgg95 jJ rfl rfl (Rd.ownN [_] rfl rfl) ?_)
     exact ⟨rfl, rfl⟩
    refine gD (fun W Fs R lF z9 => ?_) ?_
    ·refine qk (qo (tv) rfl ?_)
     exact ⟨rfl, rfl⟩
    refine gD (fun W Fs R lF z9 => ?_) ?_
    ·refine qk (qo (ii ((k : Int))) rfl ?_)
     exact ⟨rfl, rfl⟩
    refine gD (fun W Fs R lF z9 => ?_) ?_
    ·replace hs := hs.mono lF
     replace ht := ht.mono lF
     rw [zB 2 3 (z9 2 rfl) (z9 3 rfl)]
     refine qk (qD k qh qC rfl rfl rfl ht.slv (by omega) (Nat.mul_one _) ?_)
     exact ⟨rfl, rfl⟩
    refine gD (fun W Fs R lF z9 => ?_) ?_
    ·replace hs := hs.mono lF
     replace ht := ht.mono lF
     rw [zA 4 (z9 4 rfl)]
     refine qk (qm jj rfl (ht.rd (by omega)) ?_)
     exact ⟨rfl, rfl⟩
    refine gD (fun W Fs R lF z9 => ?_) ?_
    ·rw [zA 5 (z9 5 rfl)]
     refine qk (jl ((-1) - (t.getD k 0)) rfl rfl (by omega) (by omega) ?_)
     exact ⟨rfl, rfl⟩
    refine gD (fun W Fs R lF z9 => ?_) ?_
    ·replace hs := hs.mono lF
     replace ht := ht.mono lF
     rw [zB 1 6 (z9 1 rfl) (z9 6 rfl)]
     refine qk (jR <| qn (args := [.agg #[sv], ii ((((-1) - (t.getD k 0)).toNat : Nat) : Int)]) call93 (by rw [show ((((-1) - (t.getD k 0)).toNat : Nat) : Int) = (-1) - (t.getD k 0) from by omega]; rfl) (l2Gives_spec (i := ((-1) - (t.getD k 0)).toNat) hs (hsl := (by first | assumption | rfl | omega | simp)) (hi := (by first | assumption | rfl | omega | simp)) (hsb := (hsb _))) ?_)
     rintro v3 _ _ _ ⟨rfl, hs2, rfl⟩
     refine ⟨_, _, rfl, fun F1 le1 hz1 => ?_⟩
     replace ht := ht.mono le1
     have hf1 : IntsF F1 v3 ((lk s (-1 - ((((-1) - (t.getD k 0)).toNat) : Int)))) := intsH.fz (xs := (lk s (-1 - ((((-1) - (t.getD k 0)).toNat) : Int)))) hz1.fz
     exact ⟨⟨rfl, hf1⟩, rfl⟩
    exact stepsG.nil
   intro W F2 le2 hphi
   obtain ⟨e7, f7_1ha⟩ := hphi 7 (by decide)
   generalize hu1 : ((W 7)) = u1 at e7 f7_1ha
   rw [eS (l := [(0, _), (7, u1)]) ⟨(hphi 0 (by decide)), hu1, ⟨⟩⟩]
   replace ht := ht.mono le2
   show XL _ _ _ _ _ _ _ (intsH 2 ov os :: cellsH b1 [sv] 95 :: L)
   refine cX (yd [] _ qh typeInfo2 rfl rfl rfl rfl rfl rfl f7_1ha (by (try simp only [List.length_append, List.length_nil, List.length_cons, List.length_singleton, List.length_take, List.length_drop]); omega) ?_)
   intro v4 hs3 hn1 hm1
   refine qj (v4) rfl (qf (qg (qd (qi (v4) rfl (cX (qE qh rfl (intsH.slv [] rfl) (cX (jF rfl rfl (qf ?_)))))))))
   refine qH (p := ((((os ++ ((lk s (-1 - ((((-1) - (t.getD k 0)).toNat) : Int))))).length : Nat) : Int) : Int) > 60) rfl (fun h3 => ?_) (fun h3 => ?_)
   ·refine qg (qd (cX (qx (s := 1) [] [ii (0)] [] qh qC qP rfl (by decide) rfl CellsAre.nil rfl ?_)))
    intro v5 hv2
    refine qj (v5) rfl (qj (.bool (false)) rfl (qf ?_))
    show X _ _ _ _ _ _ (intsH 2 v5 ([] : List Int) :: intsH 2 v4 (os ++ ((lk s (-1 - ((((-1) - (t.getD k 0)).toNat) : Int))))) :: cellsH b1 [sv] 95 :: L)
    refine ji [] _ _ rfl (fun F3 le3 hz2 => ?_)
    replace ht := ht.mono le3
    have hf2 : IntsF F3 v5 ([]) := intsH.fz (xs := []) hz2.fz
    refine qu (qI (ql (ql (qI (ql (qt (L' := L) [v5, .bool (false)] (.tuple #[v5, .bool (false)]) (.tmp rfl (.tmp rfl .nil)) rfl (qc le2 le3) rF (sD (sD sR)) ?_))))))
    have hz : fillL s t = none := hm.trans (fillGo_long (a := os ++ ((lk s (-1 - ((((-1) - (t.getD k 0)).toNat) : Int))))) (by omega) (by rw [show (-1 - (((-1 - t.getD k 0).toNat : Nat) : Int)) = t.getD k 0 from by omega]) (by omega))
    exact ⟨_, by rw [hz]; rfl, by rw [hz]; exact hf2, rfl⟩
   refine qz (qd (qi (ii ((k : Int))) rfl (cX (qS (((k + 1 : Nat) : Int)) rfl rfl (by omega) (by omega) (qj (ii (((k + 1 : Nat) : Int))) rfl (qf ?_))))))
   exact ⟨(k + 1, v4, os ++ ((lk s (-1 - ((((-1) - (t.getD k 0)).toNat) : Int))))), _, FLe.refl _, le2, ⟨rfl, rfl, rfl, rfl, ⟨⟩⟩, (sC (sC sR)), ⟨rfl, (hs3), (by (try dsimp only) <;> omega), (by dsimp only; exact hm.trans (fillGo_next (by omega) (by rw [show (-1 - (((-1 - t.getD k 0).toNat : Nat) : Int)) = t.getD k 0 from by omega]) (by omega))), (by dsimp only; omega)⟩, (by omega)⟩
  refine qd (qi (ov) rfl (qi (tv) rfl (qi (ii ((k : Int))) rfl (cX (qD k qh qC rfl rfl rfl ht.slv (by omega) (Nat.mul_one _) (cX (qm jj rfl (ht.rd (by omega)) (cX (qx (s := 1) [ii (t.getD k 0)] [ii (0)] [(0, [ii (t.getD k 0)])] qh qC qP rfl (by decide) rfl (.cons rfl CellsAre.nil) rfl ?_)))))))))
  intro v6 hv3
  refine cX (XOp.append1 (u := t.getD k 0) [_] _ qh typeInfo2 rfl rfl rfl rfl rfl rfl (SlV.own [] rfl) (Rd.sl [] rfl rfl) (by (try simp only [List.length_append, List.length_nil, List.length_cons, List.length_singleton, List.length_take, List.length_drop]); omega) ?_)
  intro v7 hs4 hn2
  refine qj (v7) rfl (qf (qg (qd (qi (v7) rfl (cX (qE qh rfl (intsH.slv [_] rfl) (cX (jF rfl rfl (qf ?_)))))))))
  refine qH (p := ((((os ++ [t.getD k 0]).length : Nat) : Int) : Int) > 60) rfl (fun h4 => ?_) (fun h4 => ?_)
  ·refine qg (qd (cX (qx (s := 1) [] [ii (0)] [] qh qC qP rfl (by decide) rfl CellsAre.nil rfl ?_)))
   intro v8 hv4
   refine qj (v8) rfl (qj (.bool (false)) rfl (qf ?_))
   show X _ _ _ _ _ _ (intsH 2 v8 ([] : List Int) :: slH 2 1 v6 1 [ii (t.getD k 0)] :: intsH 2 v7 (os ++ [t.getD k 0]) :: cellsH b1 [sv] 95 :: L)
   refine ji [] _ _ rfl (fun F4 le4 hz3 => ?_)
   have hf3 : IntsF F4 v8 ([]) := intsH.fz (xs := []) hz3.fz
   refine qu (qI (ql (ql (qI (ql (qt (L' := L) [v8, .bool (false)] (.tuple #[v8, .bool (false)]) (.tmp rfl (.tmp rfl .nil)) rfl le4 rF (sD (sD (sD sR))) ?_))))))
   have hz : fillL s t = none := hm.trans (fillGo_long (a := os ++ [t.getD k 0]) (by omega) (by rw [lk_sym (by omega)]) (by omega))
   exact ⟨_, by rw [hz]; rfl, by rw [hz]; exact hf3, rfl⟩
  refine qz (qd (qi (ii ((k : Int))) rfl (cX (qS (((k + 1 : Nat) : Int)) rfl rfl (by omega) (by omega) (qj (ii (((k + 1 : Nat) : Int))) rfl (qf ?_))))))
  exact ⟨(k + 1, v7, os ++ [t.getD k 0]), _, FLe.refl _, rF, ⟨rfl, rfl, rfl, rfl, ⟨⟩⟩, (sD (sC (sC sR))), ⟨rfl, (hs4), (by (try dsimp only) <;> omega), (by dsimp only; exact hm.trans (fillGo_next (by omega) (by rw [lk_sym (by omega)]) (by omega))), (by dsimp only; omega)⟩, (by omega)⟩
 refine jn (qA (qA (qV (qg (qd (qi (ov) rfl (qj (ov) rfl (qj (.bool (true)) rfl (qf (ji [] _ _ rfl (fun F5 le5 hz4 => ?_)))))))))))
 have hf4 : IntsF F5 ov os := intsH.fz (xs := os) hz4.fz
 refine qu (qt (L' := L) [ov, .bool (true)] (.tuple #[ov, .bool (true)]) (.tmp rfl (.tmp rfl .nil)) rfl le5 rF (sD sR) ?_)
 have hz : fillL s t = some os := hm.trans (fillGo_done (by omega))
 exact ⟨_, by rw [hz]; rfl, by rw [hz]; exact hf4, rfl⟩

/- spec.l3Put -/
theorem l3Put_spec {F : FH} {L : List HP} {arv : Value} {ar : List Int} (har : IntsF F arv ar) {tv : Value} {t : List Int} (ht : IntsF F tv t) {p : Nat} {uv : Value} {u : List Int} (hu : IntsF F uv u) (ho : termOk ar t = true) (hp : p < t.length) (hul : u.length ≤ 4000000) :
    Does prog 67 [.agg #[arv], tv, ii ((p : Int)), uv] F (L) (fun v F' L' => ∃ (a : Value), (.tuple #[a, .bool ((putL ar t p u).isSome)] : Value) = v ∧ (IntsF F' a ((putL ar t p u).getD [])) ∧ L = L') := by
 refine qL func67 rfl rfl rfl ?_
 have hsig := termOk_sig ho
 have hsl := sigOk_spec hsig
 have htl := termOk_len ho
 have hee := endN_spec ho hp
 refine qg (qd (cX (je [arv] rfl rfl ?_)))
 intro b1
 refine qj (sN) rfl (qj (.bool (false)) rfl (qf (qg (qd (qi (tv) rfl (qi (ii ((p : Int))) rfl (cX (XOp.sliceI 0 p qh qC rfl ht rfl ⟨_, rfl⟩ (by omega) (by omega) ?_))))))))
 intro v1 hv1 hn1
 refine cX (qn (args := [v1]) call31 rfl (l1Copy_spec hv1 (hlt := (by simp; omega))) ?_)
 rintro v2 _ _ _ ⟨rfl, hs1, rfl⟩
 refine qi (uv) rfl (cX (yd [] _ qh typeInfo2 rfl rfl rfl rfl rfl rfl hu (by (try simp only [List.length_append, List.length_nil, List.length_cons, List.length_singleton, List.length_take, List.length_drop]); omega) ?_))
 intro v3 hs2 hn2 hm1
 refine qj (v3) rfl (qf (qg (qd (qi (v3) rfl (qi (tv) rfl (cX (qs [arv] qW qB rfl rfl (Rd.ownN [_] rfl rfl) (qi (tv) rfl (qi (ii ((p : Int))) rfl (cX (qn (args := [.agg #[arv], tv, ii (p : Int)]) call50 rfl (l1End_ok (p := p) har ht (ho := (by first | assumption | rfl | omega | (left; simp; done) | (right; simp; done))) (hp := (by first | assumption | rfl | omega | (left; simp; done) | (right; simp; done)))) ?_)))))))))))
 rintro _ _ _ _ ⟨rfl, rfl, rfl⟩
 refine cX (XOp.sliceI (endN ar t p) ((t).length) qh qC rfl ht ⟨_, rfl⟩ rfl (by omega) (by omega) ?_)
 intro v4 hv2 hn3
 refine cX (yd [] _ qh typeInfo2 rfl rfl rfl rfl rfl rfl hv2 (by (try simp only [List.length_append, List.length_nil, List.length_cons, List.length_singleton, List.length_take, List.length_drop]); omega) ?_)
 intro v5 hs3 hn4 hm2
 refine qj (v5) rfl (qf (qg (qg (qd (qi (v5) rfl (cX (qE qh rfl (intsH.slv [] rfl) (cX (jF rfl rfl (qf ?_))))))))))
 refine qH (p := ((((((((((t.drop 0).take (p - 0))))) ++ u) ++ (((t.drop (endN ar t p)).take (((t).length) - (endN ar t p))))).length : Nat) : Int) : Int) > 60) rfl (fun h1 => ?_) (fun h1 => ?_)
 ·refine qg (qd (cX (qx (s := 1) [] [ii (0)] [] qh qC qP rfl (by decide) rfl CellsAre.nil rfl ?_)))
  intro v6 hv3
  refine qj (v6) rfl (qj (.bool (false)) rfl (qf ?_))
  show X _ _ _ _ _ _ (intsH 2 v6 ([] : List Int) :: intsH 2 v5 (((((((t.drop 0).take (p - 0))))) ++ u) ++ (((t.drop (endN ar t p)).take (((t).length) - (endN ar t p))))) :: cellsH b1 [arv] 26 :: L)
  refine ji [] _ _ rfl (fun F1 le1 hz1 => ?_)
  have hf1 : IntsF F1 v6 ([]) := intsH.fz (xs := []) hz1.fz
  refine qu (ql (qt (L' := L) [v6, .bool (false)] (.tuple #[v6, .bool (false)]) (.tmp rfl (.tmp rfl .nil)) rfl le1 rF (sD (sD sR)) ?_))
  have hz : putL ar t p u = none := putL_none put_three (by omega)
  exact ⟨_, by rw [hz]; rfl, by rw [hz]; exact hf1, rfl⟩
 refine qz (qg (qd (qi (v5) rfl (qj (v5) rfl (qj (.bool (true)) rfl (qf (ji [] _ _ rfl (fun F2 le2 hz2 => ?_))))))))
 have hf2 : IntsF F2 v5 (((((((t.drop 0).take (p - 0))))) ++ u) ++ (((t.drop (endN ar t p)).take (((t).length) - (endN ar t p))))) := intsH.fz (xs := ((((((t.drop 0).take (p - 0))))) ++ u) ++ (((t.drop (endN ar t p)).take (((t).length) - (endN ar t p))))) hz2.fz
 refine qu (qt (L' := L) [v5, .bool (true)] (.tuple #[v5, .bool (true)]) (.tmp rfl (.tmp rfl .nil)) rfl le2 rF (sD sR) ?_)
 have hz := putL_some (ar := ar) (t := t) (p := p) (u := u) put_three (by omega)
 exact ⟨_, by rw [hz]; rfl, by rw [hz]; exact hf2, rfl⟩

/- spec.l7Step -/
theorem l7Step_spec {F : FH} {L : List HP} {arv : Value} {ar : List Int} (har : IntsF F arv ar) {rsv : Value} {rs : List (List Int × List Int)} (hrs : PairsF F rsv rs) {tv : Value} {t : List Int} (ht : IntsF F tv t) {p : Nat} {r : Nat} (hsys : sysOk ar rs = true) (ho : termOk ar t = true) (hp : p < t.length) (hr : r < rs.length) :
    Does prog 36 [.agg #[arv, rsv], tv, ii ((p : Int)), ii ((r : Int))] F (L) (fun v F' L' => ∃ (a : Value), (.tuple #[a, .bool ((stepL ar rs t p r).isSome)] : Value) = v ∧ (IntsF F' a ((stepL ar rs t p r).getD [])) ∧ L = L') := by
 refine qL func36 rfl rfl rfl ?_
 have hnn := notNil_of_pos ht (by have := termOk_len ho; omega)
 have htl := termOk_len ho
 have hrl := (sysOk_iff.1 hsys).2.1
 have hsig := (sysOk_iff.1 hsys).1
 have hsl := sigOk_spec hsig
 have hR := ruleOk_iff.1 ((sysOk_iff.1 hsys).2.2 r hr)
 have hRl := hR.left
 have hRr := hR.right
 have hso := sub_ok ho hp
 have hsb := sub_length ho hp
 have hee := endN_spec ho hp
 have hRrl := termOk_len hRr
 have hRg := fun k (hk : k < (rs.getD r ([], [])).2.length) => termOk_ge hRr hk
 have hmp := matchP_len (ar := ar) (p := (rs.getD r ([], [])).1) (t := sub ar t p)
 have hmp2 := hmp.2
 have hmp3 := hmp.1
 refine qg (qd (cX (je [arv, rsv] rfl rfl ?_)))
 intro b1
 refine qj (sN) rfl (qj (.bool (false)) rfl (qf (qg (qd (cX (qq (1) ju rfl yb (by decide) rfl rfl (cX (qm isAgg38 rfl (Rd.own [] rfl rfl) (qi (ii ((r : Int))) rfl (cX (qD r jZ sizeOf44 rfl rfl rfl hrs.slv (by omega) rfl ?_)))))))))))
 obtain ⟨a1, a2, ha1, ha2, hr1, hr2⟩ := hrs.rd (i := r) (by omega)
 refine cX (qs [a1, a2] isAgg44 sizeOf44 rfl rfl (Rd.two (hr1 _) (hr2 _)) (cX (jm [sN, sN] zeroValue44 rfl ?_)))
 intro b2
 refine cX (qO [] _ [a1, a2] sizeOf44 rfl rfl rfl (qw (qJ (qv ha1)) (qw (qJ (qv ha2)) qT)) rfl rfl rfl (qf (qg ?_)))
 refine jG [cellsH b2 [a1, a2] 44, cellsH b1 [arv, rsv] 40] L 15 [[], [], [], [], [], [], [], [], [], [], [9], [9], [], [], [9, 13]] [[], [0], [], [2], [], [4], [], [], [5, 6, 7], [1, 3, 8], [9], [9, 10], [9, 10], [], [9, 11, 13]] [[], [], [], [], [], [], [], [], [], [], [], [], [], [], [13]] (phiG [pe (ptr b1 0), pe (.agg #[arv]), pe (ptr b2 0), pe a1, pe (ptr b1 0), pe (.agg #[arv]), pe tv, pe (ii ((p : Int)) : Value), fun FF us v => ((v) : Value) = v ∧ (IntsF FF (v) (sub ar t p)), fun FF us v => (.tuple #[.agg #[((aggAt (tupAt v 0) 0))], .bool ((matchB ar ((rs.getD r ([], [])).1) ((sub ar t p))).isSome)] : Value) = v ∧ (RowsF FF ((aggAt (tupAt v 0) 0)) (matchP ar ((rs.getD r ([], [])).1) ((sub ar t p)))), fun FF us v => v = (.tuple #[.agg #[((aggAt (tupAt (us.getD 0 undef) 0) 0))], .bool ((matchB ar ((rs.getD r ([], [])).1) ((sub ar t p))).isSome)] : Value), fun FF us v => v = (.agg #[((aggAt (tupAt (us.getD 0 undef) 0) 0))] : Value), pe (.bool ((matchB ar ((rs.getD r ([], [])).1) ((sub ar t p))).isSome)), fun FF us v => v = ptr (blk v) 0, fun FF us v => True]) (ownL [o0, o0, o0, o0, o0, o0, o0, o0, o0, o0, o0, o0, o0, fun us v => [cellsH (blk v) [sN] 95], fun us v => [cellsH (blk (us.getD 1 undef)) [((aggAt (tupAt (us.getD 0 undef) 0) 0))] 95]]) mixed rfl rfl (by kernel_rfl) (by kernel_rfl) (MonoG.get (m1 (m1 (m1 (m1 (m1 (m1 (m1 (m1 (mC (fun le h => ⟨h.1, h.2.mono le⟩) (mC (fun le h => ⟨h.1, h.2.mono le⟩) (mC (fun le h => h) (mC (fun le h => h) (m1 (mC (fun le h => h) (mC (fun le h => h) MonoG.nil)))))))))))))))) ?_ ?_
 ·refine gD (fun W Fs R lF z9 => ?_) ?_
  ·refine qk (qq (0) ju rfl qB (by decide) rfl rfl ?_)
   exact ⟨rfl, rfl⟩
  refine gD (fun W Fs R lF z9 => ?_) ?_
  ·replace har := har.mono lF
   replace ht := ht.mono lF
   replace ha1 := ha1.mono lF
   replace ha2 := ha2.mono lF
   rw [zA 0 (z9 0 rfl)]
   refine qk (qs [arv] qW qB rfl rfl (Rd.ownN [_] rfl rfl) ?_)
   exact ⟨rfl, rfl⟩
  refine gD (fun W Fs R lF z9 => ?_) ?_
  ·refine qk (qq (0) jB rfl qy (by decide) rfl rfl ?_)
   exact ⟨rfl, rfl⟩
  refine gD (fun W Fs R lF z9 => ?_) ?_
  ·replace har := har.mono lF
   replace ht := ht.mono lF
   replace ha1 := ha1.mono lF
   replace ha2 := ha2.mono lF
   rw [zA 2 (z9 2 rfl)]
   refine qk (qm qX rfl (Rd.own [] rfl rfl) ?_)
   exact ⟨rfl, rfl⟩
  refine gD (fun W Fs R lF z9 => ?_) ?_
  ·refine qk (qq (0) ju rfl qB (by decide) rfl rfl ?_)
   exact ⟨rfl, rfl⟩
  refine gD (fun W Fs R lF z9 => ?_) ?_
  ·replace har := har.mono lF
   replace ht := ht.mono lF
   replace ha1 := ha1.mono lF
   replace ha2 := ha2.mono lF
   rw [zA 4 (z9 4 rfl)]
   refine qk (qs [arv] qW qB rfl rfl (Rd.ownN [_] rfl rfl) ?_)
   exact ⟨rfl, rfl⟩
  refine gD (fun W Fs R lF z9 => ?_) ?_
  ·refine qk (qo (tv) rfl ?_)
   exact ⟨rfl, rfl⟩
  refine gD (fun W Fs R lF z9 => ?_) ?_
  ·refine qk (qo (ii ((p : Int))) rfl ?_)
   exact ⟨rfl, rfl⟩
  refine gD (fun W Fs R lF z9 => ?_) ?_
  ·replace har := har.mono lF
   replace ht := ht.mono lF
   replace ha1 := ha1.mono lF
   replace ha2 := ha2.mono lF
   rw [eS (l := [(5, _), (6, _), (7, _)]) ⟨z9 5 rfl, z9 6 rfl, z9 7 rfl, ⟨⟩⟩]
   refine qk (jR <| qn (args := [.agg #[arv], tv, ii (p : Int)]) call65 rfl (l1Sub_spec (p := p) har ht (ho := (by first | assumption | rfl | omega | simp)) (hp := (by first | assumption | rfl | omega | simp))) ?_)
   rintro v2 _ _ _ ⟨rfl, hs2, rfl⟩
   refine ⟨_, _, rfl, fun F2 le2 hz1 => ?_⟩
   replace har := har.mono le2
   replace ht := ht.mono le2
   replace ha1 := ha1.mono le2
   replace ha2 := ha2.mono le2
   have hf1 : IntsF F2 v2 ((sub ar t p)) := intsH.fz (xs := (sub ar t p)) hz1.fz
   exact ⟨⟨rfl, hf1⟩, rfl⟩
  refine gD (fun W Fs R lF z9 => ?_) ?_
  ·obtain ⟨e8, f8_1ha⟩ := z9 8 rfl
   replace har := har.mono lF
   replace ht := ht.mono lF
   replace ha1 := ha1.mono lF
   replace ha2 := ha2.mono lF
   rw [eS (l := [(1, _), (3, _), (8, ((W 8)))]) ⟨z9 1 rfl, z9 3 rfl, (e8).symm, ⟨⟩⟩]
   refine qk (qn (args := [.agg #[arv], a1, ((W 8))]) call64 rfl (l4Match_spec har ha1 f8_1ha (ho := (by first | assumption | rfl | omega | simp)) (hpo := (by first | assumption | rfl | omega | simp))) ?_)
   rintro _ F3 _ le3 ⟨x2, rfl, hr4, rfl⟩
   replace har := har.mono le3
   replace ht := ht.mono le3
   replace ha2 := ha2.mono le3
   replace f8_1ha := f8_1ha.mono le3
   exact ⟨⟨rfl, hr4⟩, rfl⟩
  refine gD (fun W Fs R lF z9 => ?_) ?_
  ·obtain ⟨e9, f9_1hr⟩ := z9 9 rfl
   rw [eS (l := [(9, (.tuple #[.agg #[((aggAt (tupAt (W 9) 0) 0))], .bool ((matchB ar ((rs.getD r ([], [])).1) ((sub ar t p))).isSome)]))]) ⟨(e9).symm, ⟨⟩⟩]
   refine qk (qo (.tuple #[.agg #[((aggAt (tupAt (W 9) 0) 0))], .bool ((matchB ar ((rs.getD r ([], [])).1) ((sub ar t p))).isSome)]) rfl ?_)
   exact ⟨rfl, rfl⟩
  refine gD (fun W Fs R lF z9 => ?_) ?_
  ·obtain ⟨e9, f9_1hr⟩ := z9 9 rfl
   have e10 : W 10 = (.tuple #[.agg #[((aggAt (tupAt (W 9) 0) 0))], .bool ((matchB ar ((rs.getD r ([], [])).1) ((sub ar t p))).isSome)] : Value) := z9 10 rfl
   rw [eS (l := [(9, (.tuple #[.agg #[((aggAt (tupAt (W 9) 0) 0))], .bool ((matchB ar ((rs.getD r ([], [])).1) ((sub ar t p))).isSome)])), (10, (.tuple #[.agg #[((aggAt (tupAt (W 9) 0) 0))], .bool ((matchB ar ((rs.getD r ([], [])).1) ((sub ar t p))).isSome)]))]) ⟨(e9).symm, e10, ⟨⟩⟩]
   refine qk (qG (.agg #[((aggAt (tupAt (W 9) 0) 0))]) rfl rfl ?_)
   exact ⟨rfl, rfl⟩
  refine gD (fun W Fs R lF z9 => ?_) ?_
  ·obtain ⟨e9, f9_1hr⟩ := z9 9 rfl
   have e10 : W 10 = (.tuple #[.agg #[((aggAt (tupAt (W 9) 0) 0))], .bool ((matchB ar ((rs.getD r ([], [])).1) ((sub ar t p))).isSome)] : Value) := z9 10 rfl
   rw [eS (l := [(9, (.tuple #[.agg #[((aggAt (tupAt (W 9) 0) 0))], .bool ((matchB ar ((rs.getD r ([], [])).1) ((sub ar t p))).isSome)])), (10, (.tuple #[.agg #[((aggAt (tupAt (W 9) 0) 0))], .bool ((matchB ar ((rs.getD r ([], [])).1) ((sub ar t p))).isSome)]))]) ⟨(e9).symm, e10, ⟨⟩⟩]
   refine qk (qG (.bool ((matchB ar ((rs.getD r ([], [])).1) ((sub ar t p))).isSome)) rfl rfl ?_)
   exact ⟨rfl, rfl⟩
  refine gD (fun W Fs R lF z9 => ?_) ?_
  ·replace har := har.mono lF
   replace ht := ht.mono lF
   replace ha2 := ha2.mono lF
   refine qk (jm [sN] jT rfl ?_)
   intro b4
   exact ⟨rfl, rfl⟩
  refine gD (fun W Fs R lF z9 => ?_) ?_
  ·obtain ⟨e9, f9_1hr⟩ := z9 9 rfl
   have e11 : W 11 = (.agg #[((aggAt (tupAt (W 9) 0) 0))] : Value) := z9 11 rfl
   have e13 : W 13 = ptr (blk (W 13)) 0 := z9 13 rfl
   replace har := har.mono lF
   replace ht := ht.mono lF
   replace ha2 := ha2.mono lF
   rw [eS (l := [(9, (.tuple #[.agg #[((aggAt (tupAt (W 9) 0) 0))], .bool ((matchB ar ((rs.getD r ([], [])).1) ((sub ar t p))).isSome)])), (11, (.agg #[((aggAt (tupAt (W 9) 0) 0))])), (13, ptr (blk (W 13)) 0)]) ⟨(e9).symm, e11, e13, ⟨⟩⟩]
   show XG _ _ _ _ _ (cellsH (blk (W 13)) [sN] 95 :: ([cellsH b2 [a1, a2] 44, cellsH b1 [arv, rsv] 40] ++ R)) _
   refine qk (qO [] _ [((aggAt (tupAt (W 9) 0) 0))] jJ rfl rfl rfl (qw (qJ (RowsF.isSl f9_1hr)) qT) rfl rfl rfl ?_)
   exact ⟨trivial, rfl⟩
  exact stepsG.nil
 intro W F4 le4 hphi
 obtain ⟨e8, f8_1ha⟩ := hphi 8 (by decide)
 obtain ⟨e9, f9_1hr⟩ := hphi 9 (by decide)
 have e10 : W 10 = (.tuple #[.agg #[((aggAt (tupAt (W 9) 0) 0))], .bool ((matchB ar ((rs.getD r ([], [])).1) ((sub ar t p))).isSome)] : Value) := hphi 10 (by decide)
 have e11 : W 11 = (.agg #[((aggAt (tupAt (W 9) 0) 0))] : Value) := hphi 11 (by decide)
 have e13 : W 13 = ptr (blk (W 13)) 0 := hphi 13 (by decide)
 generalize hu1 : ((W 8)) = u1 at e8 f8_1ha e9 f9_1hr e10 e11 e13
 generalize hu2 : ((aggAt (tupAt (W 9) 0) 0)) = u2 at e8 f8_1ha e9 f9_1hr e10 e11 e13
 generalize hu3 : blk (W 13) = b5 at e8 f8_1ha e9 f9_1hr e10 e11 e13
 rw [eS (l := [(9, (.tuple #[.agg #[u2], .bool ((matchB ar ((rs.getD r ([], [])).1) ((sub ar t p))).isSome)])), (12, _), (13, ptr b5 0)]) ⟨(e9).symm, (hphi 12 (by decide)), e13, ⟨⟩⟩]
 replace har := har.mono le4
 replace ht := ht.mono le4
 replace ha2 := ha2.mono le4
 show XL _ _ _ _ _ _ _ (cellsH b5 [u2] 95 :: cellsH b2 [a1, a2] 44 :: cellsH b1 [arv, rsv] 40 :: L)
 refine qj (.bool ((matchB ar ((rs.getD r ([], [])).1) ((sub ar t p))).isSome)) rfl (qf (qg (qg (qd (qi (.bool ((matchB ar ((rs.getD r ([], [])).1) ((sub ar t p))).isSome)) rfl (cX (jg rfl (qf ?_))))))))
 refine js (t := !((matchB ar ((rs.getD r ([], [])).1) ((sub ar t p))).isSome)) rfl (fun h1 => ?_) (fun h1 => ?_)
 ·have hms : (matchB ar (rs.getD r ([], [])).1 (sub ar t p)).isSome = false := by simpa using h1
  refine qg (qd (cX (qx (s := 1) [] [ii (0)] [] qh qC qP rfl (by decide) rfl CellsAre.nil rfl ?_)))
  intro v3 hv1
  refine qj (v3) rfl (qj (.bool (false)) rfl (qf ?_))
  show X _ _ _ _ _ _ (intsH 2 v3 ([] : List Int) :: cellsH b5 [u2] 95 :: cellsH b2 [a1, a2] 44 :: cellsH b1 [arv, rsv] 40 :: L)
  refine ji [] _ _ rfl (fun F5 le5 hz2 => ?_)
  replace har := har.mono le5
  replace ht := ht.mono le5
  replace ha2 := ha2.mono le5
  replace f9_1hr := f9_1hr.mono le5
  have hf2 : IntsF F5 v3 ([]) := intsH.fz (xs := []) hz2.fz
  refine qu (ql (qt (L' := L) [v3, .bool (false)] (.tuple #[v3, .bool (false)]) (.tmp rfl (.tmp rfl .nil)) rfl (qc le4 le5) rF (sD (sD (sD sR))) ?_))
  have hz := stepL_nomatch hms
  exact ⟨_, by rw [hz]; rfl, by rw [hz]; exact hf2, rfl⟩
 have hms : (matchB ar (rs.getD r ([], [])).1 (sub ar t p)).isSome = true := by simpa using h1
 refine qz (qg (qd (cX (qs [u2] isAgg95 jJ rfl rfl (Rd.ownN [] rfl rfl) (cX (qq (1) jB rfl qy (by decide) rfl rfl (cX (qm qX rfl (Rd.own [_] rfl rfl) (cX (qn (args := [.agg #[u2], a2]) call66 rfl (l2Filled_spec f9_1hr ha2 (hsl := (by first | assumption | rfl | omega | simp)) (hsb := (fun i => by have := hmp2 i; omega)) (htl := (by first | assumption | rfl | omega | simp)) (htg := (fun k hk => by have := hRg k hk; omega))) ?_))))))))))
 rintro _ F6 _ le6 ⟨x3, rfl, hr5, rfl⟩
 replace har := har.mono le6
 replace ht := ht.mono le6
 refine qi (.tuple #[x3, .bool ((fillL (matchP ar ((rs.getD r ([], [])).1) ((sub ar t p))) ((rs.getD r ([], [])).2)).isSome)]) rfl (cX (qG (x3) rfl rfl (cX (qG (.bool ((fillL (matchP ar ((rs.getD r ([], [])).1) ((sub ar t p))) ((rs.getD r ([], [])).2)).isSome)) rfl rfl (qj (x3) rfl (qj (.bool ((fillL (matchP ar ((rs.getD r ([], [])).1) ((sub ar t p))) ((rs.getD r ([], [])).2)).isSome)) rfl (qf (qg (qg (qd (qi (.bool ((fillL (matchP ar ((rs.getD r ([], [])).1) ((sub ar t p))) ((rs.getD r ([], [])).2)).isSome)) rfl (cX (jg rfl (qf ?_))))))))))))))
 refine js (t := !((fillL (matchP ar ((rs.getD r ([], [])).1) ((sub ar t p))) ((rs.getD r ([], [])).2)).isSome)) rfl (fun h2 => ?_) (fun h2 => ?_)
 ·have hfs : (fillL (matchP ar (rs.getD r ([], [])).1 (sub ar t p)) (rs.getD r ([], [])).2).isSome = false := by simpa using h2
  refine qg (qd (cX (qx (s := 1) [] [ii (0)] [] qh qC qP rfl (by decide) rfl CellsAre.nil rfl ?_)))
  intro v4 hv2
  refine qj (v4) rfl (qj (.bool (false)) rfl (qf ?_))
  show X _ _ _ _ _ _ (intsH 2 v4 ([] : List Int) :: cellsH b5 [u2] 95 :: cellsH b2 [a1, a2] 44 :: cellsH b1 [arv, rsv] 40 :: L)
  refine ji [] _ _ rfl (fun F7 le7 hz3 => ?_)
  replace har := har.mono le7
  replace ht := ht.mono le7
  replace hr5 := hr5.mono le7
  have hf3 : IntsF F7 v4 ([]) := intsH.fz (xs := []) hz3.fz
  refine qu (ql (qt (L' := L) [v4, .bool (false)] (.tuple #[v4, .bool (false)]) (.tmp rfl (.tmp rfl .nil)) rfl (qc (qc le4 le6) le7) rF (sD (sD (sD sR))) ?_))
  have hz := stepL_nofill hms hfs
  exact ⟨_, by rw [hz]; rfl, by rw [hz]; exact hf3, rfl⟩
 have hfs : (fillL (matchP ar (rs.getD r ([], [])).1 (sub ar t p)) (rs.getD r ([], [])).2).isSome = true := by simpa using h2
 have hfl := fill_getD_len hfs (by omega)
 refine qz (qg (qd (cX (qq (0) ju rfl qB (by decide) rfl rfl (cX (qs [arv] qW qB rfl rfl (Rd.ownN [_, _] rfl rfl) (qi (tv) rfl (qi (ii ((p : Int))) rfl (qi (x3) rfl (cX (qn (args := [.agg #[arv], tv, ii (p : Int), x3]) call67 rfl (l3Put_spec (p := p) har ht hr5 (ho := (by first | assumption | rfl | omega | simp)) (hp := (by first | assumption | rfl | omega | simp)) (hul := (by first | assumption | rfl | omega | simp))) ?_)))))))))))
 rintro _ F8 _ le8 ⟨x4, rfl, hr6, rfl⟩
 refine cX (qG (x4) rfl rfl (cX (qG (.bool ((putL ar t p ((fillL (matchP ar ((rs.getD r ([], [])).1) ((sub ar t p))) ((rs.getD r ([], [])).2)).getD [])).isSome)) rfl rfl (qj (x4) rfl (qj (.bool ((putL ar t p ((fillL (matchP ar ((rs.getD r ([], [])).1) ((sub ar t p))) ((rs.getD r ([], [])).2)).getD [])).isSome)) rfl (qf (qu (qt (L' := L) [x4, .bool ((putL ar t p ((fillL (matchP ar ((rs.getD r ([], [])).1) ((sub ar t p))) ((rs.getD r ([], [])).2)).getD [])).isSome)] (.tuple #[x4, .bool ((putL ar t p ((fillL (matchP ar ((rs.getD r ([], [])).1) ((sub ar t p))) ((rs.getD r ([], [])).2)).getD [])).isSome)]) (.tmp rfl (.tmp rfl .nil)) rfl (qc (qc le4 le6) le8) rF (sD (sD (sD sR))) ?_))))))))
 have hz := stepL_put hms hfs
 exact ⟨_, by rw [hz], by rw [hz]; exact hr6, rfl⟩

/- spec.StepAt -/
theorem sStepAt_spec {F : FH} {L : List HP} {arv : Value} {ar : List Int} (har : IntsF F arv ar) {rsv : Value} {rs : List (List Int × List Int)} (hrs : PairsF F rsv rs) {tv : Value} {t : List Int} (ht : IntsF F tv t) {p : Int} {r : Int} (hla : ar.length ≤ 4000000) (hlr : rs.length ≤ 4000000) (hrb : ∀ i, i < rs.length → (rs.getD i ([], [])).1.length ≤ 4000000 ∧ (rs.getD i ([], [])).2.length ≤ 4000000) (hlt : t.length ≤ 4000000) :
    Does prog 15 [.agg #[arv, rsv], tv, ii (p), ii (r)] F (L) (fun v F' L' => ∃ (a : Value), (.tuple #[a, .bool ((stepAtL ar rs t p r).isSome)] : Value) = v ∧ (IntsF F' a ((stepAtL ar rs t p r).getD [])) ∧ L = L') := by
 refine qL func15 rfl rfl rfl (qg (qd (cX (je [arv, rsv] rfl rfl ?_))))
 intro b1
 refine qj (sN) rfl (qj (.bool (false)) rfl (qf (qg (qg (qd (cX (qs [arv, rsv] isAgg40 jU rfl rfl (Rd.ownN [] rfl rfl) (qi (tv) rfl (cX (qn (args := [.agg #[arv, rsv], tv]) call33 rfl (l7Right_spec har hrs ht (hla := (by first | assumption | rfl | omega | simp)) (hlr := (by first | assumption | rfl | omega | simp)) (hrb := (by first | assumption | rfl | omega | simp)) (hlt := (by first | assumption | rfl | omega | simp))) ?_))))))))))
 rintro _ _ _ _ ⟨rfl, rfl, rfl⟩
 refine cX (jg rfl (qi (.bool (!(rightB ar rs t))) rfl ?_))
 by_cases h1 : (!(rightB ar rs t)) = true
 ·refine qp (t := 14) rfl (vB h1) (qp (t := 14) rfl (vB h1) (qp (t := 14) rfl (vB h1) (qp (t := 14) rfl (vB h1) (cX (qN (.bool (true)) (vB h1) rfl (qi (.bool (true)) rfl (qp (t := 20) rfl rfl (qp (t := 20) rfl rfl (qp (t := 20) rfl rfl (qp (t := 20) rfl rfl ?_))))))))))
  refine qp (t := 20) rfl rfl (qp (t := 20) rfl rfl (qp (t := 20) rfl rfl (cX (qN (.bool (true)) rfl rfl (qf (jH rfl (qg (qd (cX (qx (s := 1) [] [ii (0)] [] qh qC qP rfl (by decide) rfl CellsAre.nil rfl ?_))))))))))
  intro v1 hv1
  refine qj (v1) rfl (qj (.bool (false)) rfl (qf ?_))
  show X _ _ _ _ _ _ (intsH 2 v1 ([] : List Int) :: cellsH b1 [arv, rsv] 40 :: L)
  refine ji [] _ _ rfl (fun F1 le1 hz1 => ?_)
  replace har := har.mono le1
  replace hrs := hrs.mono le1
  replace ht := ht.mono le1
  have hf1 : IntsF F1 v1 ([]) := intsH.fz (xs := []) hz1.fz
  refine qu (ql (qt (L' := L) [v1, .bool (false)] (.tuple #[v1, .bool (false)]) (.tmp rfl (.tmp rfl .nil)) rfl le1 rF (sD sR) ?_))
  have hz0 : stepAtL ar rs t p r = none := by rw [stepAtL, if_neg (by unfold stepAtOk; cases hA : rightB ar rs t <;> simp_all <;> omega)]
  exact ⟨_, by rw [hz0]; rfl, by rw [hz0]; exact hf1, rfl⟩
 rw [Bool.not_eq_true] at h1
 refine qr (t := 14) rfl (vB h1) (qo (tv) rfl (qr (t := 14) rfl (vB h1) (qo (ii (p)) rfl (qr (t := 14) rfl (vB h1) (qn (args := [tv, ii (p)]) call34 rfl (l1There_spec (n := p) ht (hbd := (by first | assumption | rfl | omega | simp))) ?_)))))
 rintro _ _ _ _ ⟨rfl, rfl, rfl⟩
 refine qr (t := 14) rfl (vB h1) (XOp.notD rfl (cX (qM (.bool (decide (¬(0 ≤ p ∧ p < (t.length : Int))))) (vB h1) rfl (qi (.bool (decide (¬(0 ≤ p ∧ p < (t.length : Int))))) rfl ?_))))
 by_cases h2 : ¬(0 ≤ p ∧ p < (t.length : Int))
 ·refine qp (t := 20) rfl (vT h2) (qp (t := 20) rfl (vT h2) (qp (t := 20) rfl (vT h2) (qp (t := 20) rfl (vT h2) (qp (t := 20) rfl (vT h2) (qp (t := 20) rfl (vT h2) (qp (t := 20) rfl (vT h2) (cX (qN (.bool (true)) (vT h2) rfl (qf (jH rfl ?_))))))))))
  refine qg (qd (cX (qx (s := 1) [] [ii (0)] [] qh qC qP rfl (by decide) rfl CellsAre.nil rfl ?_)))
  intro v2 hv2
  refine qj (v2) rfl (qj (.bool (false)) rfl (qf ?_))
  show X _ _ _ _ _ _ (intsH 2 v2 ([] : List Int) :: cellsH b1 [arv, rsv] 40 :: L)
  refine ji [] _ _ rfl (fun F2 le2 hz2 => ?_)
  replace har := har.mono le2
  replace hrs := hrs.mono le2
  replace ht := ht.mono le2
  have hf2 : IntsF F2 v2 ([]) := intsH.fz (xs := []) hz2.fz
  refine qu (ql (qt (L' := L) [v2, .bool (false)] (.tuple #[v2, .bool (false)]) (.tmp rfl (.tmp rfl .nil)) rfl le2 rF (sD sR) ?_))
  have hz0 : stepAtL ar rs t p r = none := by rw [stepAtL, if_neg (by unfold stepAtOk; cases hA : rightB ar rs t <;> simp_all <;> omega)]
  exact ⟨_, by rw [hz0]; rfl, by rw [hz0]; exact hf2, rfl⟩
 refine qr (t := 20) rfl (vF h2) (qo (ii (r)) rfl (qr (t := 20) rfl (vF h2) (qq (1) ju rfl yb (by decide) rfl rfl (qr (t := 20) rfl (vF h2) (qm isAgg38 rfl (Rd.own [] rfl rfl) (qr (t := 20) rfl (vF h2) (qE jZ rfl hrs.slv (qr (t := 20) rfl (vF h2) (jl (((rs.length : Int)) - 1) rfl rfl (by omega) (by omega) (qr (t := 20) rfl (vF h2) (qn (args := [ii (r), ii (0), ii (((rs.length : Int)) - 1)]) call35 rfl (l1In_spec (n := r) (a := 0) (b := ((rs.length : Int)) - 1)) ?_)))))))))))
 rintro _ _ _ _ ⟨rfl, rfl, rfl⟩
 refine qr (t := 20) rfl (vF h2) (XOp.notD rfl (cX (qM (.bool (decide (¬(0 ≤ r ∧ r ≤ (((rs.length : Int)) - 1))))) (vF h2) rfl (qf ?_))))
 refine qH (p := ¬(0 ≤ r ∧ r ≤ (((rs.length : Int)) - 1))) rfl (fun h3 => ?_) (fun h3 => ?_)
 ·refine qg (qd (cX (qx (s := 1) [] [ii (0)] [] qh qC qP rfl (by decide) rfl CellsAre.nil rfl ?_)))
  intro v3 hv3
  refine qj (v3) rfl (qj (.bool (false)) rfl (qf ?_))
  show X _ _ _ _ _ _ (intsH 2 v3 ([] : List Int) :: cellsH b1 [arv, rsv] 40 :: L)
  refine ji [] _ _ rfl (fun F3 le3 hz3 => ?_)
  replace har := har.mono le3
  replace hrs := hrs.mono le3
  replace ht := ht.mono le3
  have hf3 : IntsF F3 v3 ([]) := intsH.fz (xs := []) hz3.fz
  refine qu (ql (qt (L' := L) [v3, .bool (false)] (.tuple #[v3, .bool (false)]) (.tmp rfl (.tmp rfl .nil)) rfl le3 rF (sD sR) ?_))
  have hz0 : stepAtL ar rs t p r = none := by rw [stepAtL, if_neg (by unfold stepAtOk; cases hA : rightB ar rs t <;> simp_all <;> omega)]
  exact ⟨_, by rw [hz0]; rfl, by rw [hz0]; exact hf3, rfl⟩
 refine qz (qg (qd ?_))
 have hok : stepAtOk ar rs t p r = true := by unfold stepAtOk; cases hA : rightB ar rs t <;> simp_all <;> omega
 have hok2 := hok
 unfold stepAtOk rightB at hok2
 simp only [Bool.and_eq_true, decide_eq_true_eq] at hok2
 obtain ⟨⟨⟨hsys, ho⟩, hp1⟩, hr1⟩ := hok2
 refine cX (qs [arv, rsv] isAgg40 jU rfl rfl (Rd.ownN [] rfl rfl) (qi (tv) rfl (qi (ii (p)) rfl (qi (ii (r)) rfl (cX (qn (args := [.agg #[arv, rsv], tv, ii (((p).toNat : Nat) : Int), ii (((r).toNat : Nat) : Int)]) call36 (by rw [show (((p).toNat : Nat) : Int) = p from by omega, show (((r).toNat : Nat) : Int) = r from by omega]; rfl) (l7Step_spec (p := (p).toNat) (r := (r).toNat) har hrs ht (hsys := (by first | assumption | rfl | omega | simp)) (ho := (by first | assumption | rfl | omega | simp)) (hp := (by first | assumption | rfl | omega | simp)) (hr := (by first | assumption | rfl | omega | simp))) ?_))))))
 rintro _ F4 _ le4 ⟨x1, rfl, hr1, rfl⟩
 refine cX (qG (x1) rfl rfl (cX (qG (.bool ((stepL ar rs t ((p).toNat) ((r).toNat)).isSome)) rfl rfl (qj (x1) rfl (qj (.bool ((stepL ar rs t ((p).toNat) ((r).toNat)).isSome)) rfl (qf (qu (qt (L' := L) [x1, .bool ((stepL ar rs t ((p).toNat) ((r).toNat)).isSome)] (.tuple #[x1, .bool ((stepL ar rs t ((p).toNat) ((r).toNat)).isSome)]) (.tmp rfl (.tmp rfl .nil)) rfl le4 rF (sD sR) ?_))))))))
 have e := show stepAtL ar rs t p r = stepL ar rs t p.toNat r.toNat from by rw [stepAtL, if_pos hok]
 exact ⟨_, by rw [e], by rw [e]; exact hr1, rfl⟩

/- spec.SubAt -/

/- spec.l1Args -/
theorem l1Args_spec {F : FH} {L : List HP} {arv : Value} {ar : List Int} (har : IntsF F arv ar) {tv : Value} {t : List Int} (ht : IntsF F tv t) {p : Nat} (ho : termOk ar t = true) (hp : p < t.length) :
    Does prog 108 [.agg #[arv], tv, ii ((p : Int))] F (L) (fun v F' L' => F = F' ∧ IsSl v ∧ intsH 2 v (argsL ar t p) :: L = L') := by
 refine qL func108 rfl rfl rfl ?_
 have hsl := sigOk_spec (termOk_sig ho)
 have htl := termOk_len ho
 have hsig := termOk_sig ho
 have hA := arity_le hsig (termOk_lt ho hp)
 have hge := termOk_ge ho hp
 have hlt := termOk_lt ho hp
 refine qg (qd (cX (je [arv] rfl rfl ?_)))
 intro b1
 refine qj (sN) rfl (qf (qg (qd (cX (qx (s := 1) [] [ii (0)] [] qh qC qP rfl (by decide) rfl CellsAre.nil rfl ?_)))))
 intro v1 hv1
 refine qj (v1) rfl (qf (qg (qd (qi (ii ((p : Int))) rfl (cX (qS (((p + 1 : Nat) : Int)) rfl rfl (by omega) (by omega) (qj (ii (((p + 1 : Nat) : Int))) rfl (qf (qg (qg ?_))))))))))
 refine X.draw [slH 2 1 v1 0 [], cellsH b1 [arv] 26] L 5 [] [[], [], [], [1, 2], [3]] (phiL [qe (.agg #[arv]), qe tv, qe (ii ((p : Int)) : Value), qe (.pointer (some (elemA tv (p)))), qe (ii (t.getD p 0))]) (ownL []) mixed rfl rfl (by kernel_rfl) ?_ ?_
 ·refine pD (fun W R z9 => ?_) ?_
  ·refine qk (qs [arv] qW qB rfl rfl (Rd.ownN [_] rfl rfl) ?_)
   exact ⟨rfl, rfl, rfl⟩
  refine pD (fun W R z9 => ?_) ?_
  ·refine qk (qo (tv) rfl ?_)
   exact ⟨rfl, rfl, rfl⟩
  refine pD (fun W R z9 => ?_) ?_
  ·refine qk (qo (ii ((p : Int))) rfl ?_)
   exact ⟨rfl, rfl, rfl⟩
  refine pD (fun W R z9 => ?_) ?_
  ·rw [zB 1 2 (z9 1 rfl) (z9 2 rfl)]
   refine qk (qD p qh qC rfl rfl rfl ht.slv (by omega) (Nat.mul_one _) ?_)
   exact ⟨rfl, rfl, rfl⟩
  refine pD (fun W R z9 => ?_) ?_
  ·rw [zA 3 (z9 3 rfl)]
   refine qk (qm jj rfl (ht.rd (by omega)) ?_)
   exact ⟨rfl, rfl, rfl⟩
  exact stepsP.nil
 intro W hphi
 rw [zB 0 4 (hphi 0 (by decide)) (hphi 4 (by decide))]
 show XL _ _ _ _ _ _ _ (slH 2 1 v1 0 [] :: cellsH b1 [arv] 26 :: L)
 refine cX (qn (args := [.agg #[arv], ii (t.getD p 0)]) call81 rfl (l1Arity_spec (n := t.getD p 0) har (hla := (by first | assumption | rfl | omega | simp))) ?_)
 rintro _ _ _ _ ⟨rfl, rfl, rfl⟩
 refine qj (ii (sArity ar (t.getD p 0))) rfl (qf (qQ (jr (α := Nat × Nat × Value × List Int) (fun xQ => [(1, tv), (3, ptr b1 0), (7, xQ.2.2.1), (8, ii (((xQ.2.1 : Nat) : Int))), (9, ii (((xQ.1 : Nat) : Int)))]) (fun xQ => intsH 2 xQ.2.2.1 xQ.2.2.2 :: cellsH b1 [arv] 26 :: L) (fun xQ F' => F = F' ∧ (IsSl xQ.2.2.1) ∧ (Stand ar t xQ.1 xQ.2.1 (endN ar t p)) ∧ (argsL ar t p = xQ.2.2.2 ++ argsGo ar t xQ.1 xQ.2.1) ∧ (xQ.2.2.2.length + xQ.1 ≤ 3)) (fun xQ => xQ.1) ((arity ar (t.getD p 0)).toNat, p + 1, v1, []) ⟨rfl, rfl, rfl, rfl, (vI (by first | omega | (rw [sArity_eq (by omega)]; omega))), ⟨⟩⟩ (sC (sC sR)) ⟨rfl, ((jE hv1)), (stand_start ho hp), (rfl), (by rw [List.length_nil]; omega)⟩ ?_)))
 rintro ⟨m, q, ov, os⟩ rE _ _ ⟨rfl, hov, hS, hos, hol⟩
 show X _ _ _ _ (envs [(1, tv), (3, ptr b1 0), (7, ov), (8, ii ((q : Int))), (9, ii ((m : Int)))] rE) _ (intsH 2 ov os :: cellsH b1 [arv] 26 :: L)
 dsimp only at hov hS hos hol
 have hst := fun (h : 1 ≤ m) => stand_step ho (n := m - 1) (by rw [Nat.sub_add_cancel h]; exact hS)
 refine qg (qg (qd (qi (ii ((m : Int))) rfl (cX (jF rfl rfl (qf ?_))))))
 refine qH (p := (m : Int) > 0) rfl (fun h1 => ?_) (fun h1 => ?_)
 ·refine qz (qg (qQ (qg (qd (qi (ov) rfl (qi (ii ((q : Int))) rfl (cX (qx (s := 1) [ii ((q : Int))] [ii (0)] [(0, [ii ((q : Int))])] qh qC qP rfl (by decide) rfl (.cons rfl CellsAre.nil) rfl ?_))))))))
  intro v2 hv2
  refine cX (XOp.append1 (u := (q : Int)) [_] _ qh typeInfo2 rfl rfl rfl rfl rfl rfl (SlV.own [] rfl) (Rd.sl [] rfl rfl) (by (try simp only [List.length_append, List.length_nil, List.length_cons, List.length_singleton, List.length_take, List.length_drop]); omega) ?_)
  intro v3 hs1 hn1
  refine qj (v3) rfl (qf (qd (cX (qs [arv] qW qB rfl rfl (Rd.ownN [_, _] rfl rfl) (qi (tv) rfl (qi (ii ((q : Int))) rfl (cX (qn (args := [.agg #[arv], tv, ii (q : Int)]) call50 rfl (l1End_ok (p := q) har ht (ho := (by first | assumption | rfl | omega | (left; simp; done) | (right; simp; done))) (hp := (by first | assumption | rfl | omega | (left; simp; done) | (right; simp; done)))) ?_))))))))
  rintro _ _ _ _ ⟨rfl, rfl, rfl⟩
  refine qj (ii (((endN ar t q : Nat) : Int))) rfl (qf (qd (qi (ii ((m : Int))) rfl (cX (jl (((m : Int)) - 1) rfl rfl (by omega) (by omega) (qj (ii (((m : Int)) - 1)) rfl (qf ?_)))))))
  exact ⟨(m - 1, endN ar t q, v3, os ++ [(q : Int)]), _, FLe.refl _, rF, ⟨rfl, rfl, rfl, rfl, (vI (by omega)), ⟨⟩⟩, (sD (sC (sC sR))), ⟨rfl, (hs1), ((hst (by omega)).2.1), (args_next ho (by omega) hos), (by dsimp only; rw [List.length_append, List.length_singleton]; omega)⟩, (by omega)⟩
 refine jn (qA (qA (qV (qg (qd (qi (ov) rfl (qj (ov) rfl (qf (qu (qt (L' := intsH 2 ov os :: L) [ov] (ov) (.tmp rfl .nil) rfl rF rF (sC (sD sR)) ?_))))))))))
 refine ⟨rfl, hov, ?_⟩
 have hxs : (argsL ar t p : List Int) = os := by rw [hos, show m = 0 from by omega]; simp [argsGo]
 exact congrArg (fun z => intsH 2 _ z :: L) hxs
end Go.Proofs.YteodlimhopibkaaGreat
