/-
  Walks, one after the other (part 1).
-/
import Derived.Test.YtjpfankibmeaaaaGreatQAAL1
import Derived.Test.YtjpfankibmeaaaaGreatProg
import Derived.KernelRfl
set_option linter.unusedSimpArgs false
set_option linter.unusedVariables false
namespace Go.Proofs.YtjpfankibmeaaaaGreat
open Go X M Tryz
theorem qa : type_of% @X.region := @X.region
theorem qb : type_of% @XL.nil := @XL.nil
theorem qc : type_of% @X.seq := @X.seq
theorem qd : type_of% @XL.mv := @XL.mv
theorem qf : type_of% @runUnderlying22 := @runUnderlying22
theorem qg : type_of% @XL.as := @XL.as
theorem qh : type_of% @FLe.trans := @FLe.trans
theorem qi : type_of% @XG.op := @XG.op
theorem qj : type_of% @XOp.load1 := @XOp.load1
theorem qk : type_of% @thenQ_ret := @thenQ_ret
theorem ql : type_of% @XOp.fieldP := @XOp.fieldP
theorem qm : type_of% @XOp.call := @XOp.call
theorem qn : type_of% @ones_cons := @ones_cons
theorem qo : type_of% @XOp.buildSlice := @XOp.buildSlice
theorem qp : type_of% @XOp.move := @XOp.move
theorem qq : type_of% @retEnd := @retEnd
theorem qr : type_of% @XOp.loadN := @XOp.loadN
theorem qs : type_of% @sizeOf22 := @sizeOf22
theorem qt : type_of% @thenQ_exit := @thenQ_exit
theorem qu : type_of% @X.ret := @X.ret
theorem qv : type_of% @runUnderlying102 := @runUnderlying102
theorem qw : type_of% @X.skip := @X.skip
theorem qx : type_of% @XL.no := @XL.no
theorem qy : type_of% @XL.yes := @XL.yes
theorem qz : type_of% @IntsF.isSl := @IntsF.isSl
theorem qA : type_of% @X.condD := @X.condD
theorem qB : type_of% @sizeOf2 := @sizeOf2
theorem qC : type_of% @blockQ_ret := @blockQ_ret
theorem qD : type_of% @XOp.indexS := @XOp.indexS
theorem qE : type_of% @XOp.lenS := @XOp.lenS
theorem qF : type_of% @sizeOf36 := @sizeOf36
theorem qG : type_of% @one_sl := @one_sl
theorem qH : type_of% @XOp.addR := @XOp.addR
theorem qI : type_of% @Does.of_X := @Does.of_X
theorem qJ : type_of% @runUnderlying39 := @runUnderlying39
theorem qK : type_of% @X.block := @X.block
theorem qL : type_of% @XOp.storeN := @XOp.storeN
theorem qM : type_of% @blockQ_exit := @blockQ_exit
theorem qN : type_of% @isSl_lit := @isSl_lit
theorem qO : type_of% @ones_nil := @ones_nil
theorem qP : type_of% @sizeOf39 := @sizeOf39
theorem qQ : type_of% @X.freezeF := @X.freezeF
theorem qR : type_of% @Sub.trans := @Sub.trans
theorem qS : type_of% @zeroValue2 := @zeroValue2
theorem qT : type_of% @runUnderlying137 := @runUnderlying137
theorem qU : type_of% @isAgg22 := @isAgg22
theorem qV : type_of% @runUnderlying76 := @runUnderlying76
theorem qW : type_of% @XOp.lss := @XOp.lss
theorem qX : type_of% @isAgg36 := @isAgg36
theorem qY : type_of% @XOp.pickF := @XOp.pickF
theorem qZ : type_of% @Sub.front := @Sub.front
theorem ja : type_of% @isAgg39 := @isAgg39
theorem jb : type_of% @sizeOf102 := @sizeOf102
theorem jc : type_of% @XOp.box := @XOp.box
theorem jd : type_of% @runUnderlying37 := @runUnderlying37
theorem je : type_of% @XOp.extract := @XOp.extract
theorem jf : type_of% @Does.at := @Does.at
theorem jg : type_of% @runUnderlying36 := @runUnderlying36
theorem jh : type_of% @XOp.build := @XOp.build
theorem ji : type_of% @XOp.alloc := @XOp.alloc
theorem jj : type_of% @XOp.pickT := @XOp.pickT
theorem jk : type_of% @X.exit := @X.exit
theorem jl : type_of% @X.loop := @X.loop
theorem jm : type_of% @isAgg2 := @isAgg2
theorem jn : type_of% @XOp.nilCheck := @XOp.nilCheck
theorem jo : type_of% @sizeOf137 := @sizeOf137
theorem jp : type_of% @runUnderlying43 := @runUnderlying43
theorem jq : type_of% @XOp.subR := @XOp.subR
theorem jr : type_of% @zeroValue76 := @zeroValue76
theorem js : type_of% @XOp.eql := @XOp.eql
theorem jt : type_of% @notNil_of_pos := @notNil_of_pos
theorem ju : type_of% @loadNV := @loadNV
theorem jv : type_of% @XOp.store1 := @XOp.store1
theorem jw : type_of% @sizeOf37 := @sizeOf37
theorem jx : type_of% @runUnderlying196 := @runUnderlying196
theorem jy : type_of% @runUnderlying359 := @runUnderlying359
theorem jz : type_of% @X.cond := @X.cond
theorem jA : type_of% @sizeOf76 := @sizeOf76
theorem jB : type_of% @zeroValue137 := @zeroValue137
theorem jC : type_of% @isAgg102 := @isAgg102
theorem jD : type_of% @zeroValue22 := @zeroValue22
theorem jE : type_of% @XOp.notB := @XOp.notB
theorem jF : type_of% @runUnderlying328 := @runUnderlying328
theorem jG : type_of% @XOp.append := @XOp.append
theorem jH : type_of% @sizeOf192 := @sizeOf192
theorem jI : type_of% @XOp.gtr := @XOp.gtr
theorem jJ : type_of% @runUnderlying192 := @runUnderlying192
theorem jK : type_of% @zeroValue39 := @zeroValue39
theorem jL : type_of% @call116 := @call116
theorem jM : type_of% @XG.yes := @XG.yes
theorem jN : type_of% @runUnderlying188 := @runUnderlying188
theorem jO : type_of% @XL.freezeF := @XL.freezeF
theorem jP : type_of% @XIL.cons := @XIL.cons
theorem jQ : type_of% @XOp.geq := @XOp.geq
theorem jR : type_of% @isAgg137 := @isAgg137
theorem jS : type_of% @runUnderlying362 := @runUnderlying362
theorem jT : type_of% @runUnderlying247 := @runUnderlying247
theorem jU : type_of% @Sub.keep := @Sub.keep
theorem jV : type_of% @sizeOf3 := @sizeOf3
theorem jW : type_of% @X.drawG := @X.drawG
theorem jX : type_of% @zeroValue192 := @zeroValue192
theorem jY : type_of% @X.draw := @X.draw
theorem jZ : type_of% @XOp.frzF := @XOp.frzF
theorem ya : type_of% @XOp.makeFuncL := @XOp.makeFuncL
theorem yb : type_of% @isAgg37 := @isAgg37
theorem yc : type_of% @sizeOf45 := @sizeOf45
theorem yd : type_of% @X.condT := @X.condT

theorem mixed : prog.follows .mixedOrders = true := by kernel_rfl

/- impl.arityAt -/
theorem arityAt_spec {F : FH} {L : List HP} {arv : Value} {ar : List Int} (har : IntsF F arv ar) {n : Int} (hn : n < (ar.length : Int)) :
    Does prog 366 [.agg #[arv], ii (n)] F (L) (fun v F' L' => (ii (arity ar n) : Value) = v ∧ F = F' ∧ L = L') := by
 refine qI func366 rfl rfl rfl (qc (qa (cX (jc [arv] rfl rfl ?_))))
 intro b1
 refine qg (ii (0)) rfl (qb (qc (qc (qa (qd (ii (n)) rfl (cX (qW rfl rfl (qb ?_))))))))
 refine qA (p := (n : Int) < 0) rfl (fun h1 => ?_) (fun h1 => ?_)
 ·refine qc (qa (qg (ii (0)) rfl (qb (qu (qk (qq (L' := L) [ii (0)] (ii (0)) (.tmp rfl .nil) rfl rF rF (sD sR) ?_))))))
  exact ⟨(vI (by simp [arity, *])), rfl, rfl⟩
 refine qw (qc (qa (cX (ql (0) jg rfl qs (by decide) rfl rfl (cX (qj qU rfl (Rd.own [] rfl rfl) (qd (ii (n)) rfl (cX (qD ((n).toNat) qf qB rfl rfl (by omega) har.slv (by omega) (Nat.mul_one _) (cX (qj jm rfl (har.rd (by omega)) (qg (ii (ar.getD ((n).toNat) 0)) rfl (qb (qu (qq (L' := L) [ii (ar.getD ((n).toNat) 0)] (ii (ar.getD ((n).toNat) 0)) (.tmp rfl .nil) rfl rF rF (sD sR) ?_)))))))))))))))
 exact ⟨(vI (by simp [arity, *])), rfl, rfl⟩

/- impl.SigOk -/
theorem SigOk_spec {F : FH} {L : List HP} {arv : Value} {ar : List Int} (har : IntsF F arv ar) :
    Does prog 158 [.agg #[arv]] F (L) (fun v F' L' => (.bool (sigOk ar) : Value) = v ∧ F = F' ∧ L = L') := by
 refine qI func158 rfl rfl rfl (qc (qa (cX (jc [arv] rfl rfl ?_))))
 intro b1
 refine qg (.bool (false)) rfl (qb (qc (qc (qa (cX (ql (0) jg rfl qs (by decide) rfl rfl (cX (qj qU rfl (Rd.own [] rfl rfl) (cX (qE qf rfl har.slv (cX (qW rfl rfl (qd (.bool (decide (((ar.length : Int) : Int) < 1))) rfl ?_)))))))))))))
 by_cases h1 : ((ar.length : Int) : Int) < 1
 ·refine qx (t := 9) rfl (vT h1) (qx (t := 9) rfl (vT h1) (qx (t := 9) rfl (vT h1) (qx (t := 9) rfl (vT h1) (cX (jj (.bool (true)) (vT h1) rfl (qb (yd rfl (qc (qa (qg (.bool (false)) rfl (qb ?_)))))))))))
  refine qu (qk (qq (L' := L) [.bool (false)] (.bool (false)) (.tmp rfl .nil) rfl rF rF (sD sR) ?_))
  exact ⟨(vB (sigOk_short (by omega))), rfl, rfl⟩
 refine qy (t := 9) rfl (vF h1) (ql (0) jg rfl qs (by decide) rfl rfl (qy (t := 9) rfl (vF h1) (qj qU rfl (Rd.own [] rfl rfl) (qy (t := 9) rfl (vF h1) (qE qf rfl har.slv (qy (t := 9) rfl (vF h1) (jI rfl rfl (cX (qY (.bool (decide (((ar.length : Int) : Int) > 8))) (vF h1) rfl (qb ?_))))))))))
 refine qA (p := ((ar.length : Int) : Int) > 8) rfl (fun h2 => ?_) (fun h2 => ?_)
 ·refine qc (qa (qg (.bool (false)) rfl (qb (qu (qk (qq (L' := L) [.bool (false)] (.bool (false)) (.tmp rfl .nil) rfl rF rF (sD sR) ?_))))))
  exact ⟨(vB (sigOk_short (by omega))), rfl, rfl⟩
 refine qw (qc (qc (qa (cX (ql (0) jg rfl qs (by decide) rfl rfl (cX (qj qU rfl (Rd.own [] rfl rfl) (cX (qE qf rfl har.slv (qd (ii (0)) rfl (qb (qK (jl (α := Nat) (fun k => [(16, arv), (17, ii ((ar.length : Int))), (18, ii ((k : Int)))]) (fun k => cellsH b1 [arv] 36 :: L) (fun k F' => F = F' ∧ (k ≤ ar.length) ∧ (∀ i, i < k → 0 ≤ ar.getD i 0 ∧ ar.getD i 0 ≤ 3)) (fun k => ar.length - k) 0 ⟨rfl, rfl, rfl, ⟨⟩⟩ (sC sR) ⟨rfl, (by omega), (fun i hi => absurd hi (by omega))⟩ ?_)))))))))))))
 rintro k rE _ _ ⟨rfl, hk, hall⟩
 show X _ _ _ _ (envs [(16, arv), (17, ii ((ar.length : Int))), (18, ii ((k : Int)))] rE) _ (cellsH b1 [arv] 36 :: L)
 refine qc (qa (cX (qW rfl rfl (qb (qc ?_)))))
 refine qA (p := (k : Int) < (ar.length : Int)) rfl (fun h3 => ?_) (fun h3 => ?_)
 ·refine qw (qc (qK (qc (qa (cX (qD k qf qB rfl rfl rfl har.slv (by omega) (Nat.mul_one _) (cX (qj jm rfl (har.rd (by omega)) (qg (ii (ar.getD k 0)) rfl (qb (qc (qa (qd (ii (ar.getD k 0)) rfl (cX (qW rfl rfl (qd (.bool (decide ((ar.getD k 0 : Int) < 0))) rfl ?_))))))))))))))))
  by_cases h4 : (ar.getD k 0 : Int) < 0
  ·refine qx (t := 24) rfl (vT h4) (qx (t := 24) rfl (vT h4) (cX (jj (.bool (true)) (vT h4) rfl (qb (yd rfl (qc (qa (qg (.bool (false)) rfl (qb (qu (qC (qk (qk (qC (qk (qq (L' := L) [.bool (false)] (.bool (false)) (.tmp rfl .nil) rfl rF rF (sD sR) ?_))))))))))))))))
   exact ⟨(vB (sigOk_bad (i := k) (by omega) (by omega))), rfl, rfl⟩
  refine qy (t := 24) rfl (vF h4) (qp (ii (ar.getD k 0)) rfl (qy (t := 24) rfl (vF h4) (jI rfl rfl (cX (qY (.bool (decide ((ar.getD k 0 : Int) > 3))) (vF h4) rfl (qb ?_))))))
  refine qA (p := (ar.getD k 0 : Int) > 3) rfl (fun h5 => ?_) (fun h5 => ?_)
  ·refine qc (qa (qg (.bool (false)) rfl (qb (qu (qC (qk (qk (qC (qk (qq (L' := L) [.bool (false)] (.bool (false)) (.tmp rfl .nil) rfl rF rF (sD sR) ?_))))))))))
   exact ⟨(vB (sigOk_bad (i := k) (by omega) (by omega))), rfl, rfl⟩
  refine qw (qa (cX (qH (((k + 1 : Nat) : Int)) rfl rfl (by omega) (by omega) (qd (ii (((k + 1 : Nat) : Int))) rfl (qb ?_)))))
  exact ⟨k + 1, _, FLe.refl _, rF, ⟨rfl, rfl, rfl, ⟨⟩⟩, (sC sR), ⟨rfl, (by omega), (fun i hi => (Nat.lt_or_ge i k).elim (fun h => hall i h) (fun h => by obtain rfl : i = k := (by omega); omega))⟩, (by omega)⟩
 refine jk (qt (qt (qM (qc (qa (qg (.bool (true)) rfl (qb (qu (qq (L' := L) [.bool (true)] (.bool (true)) (.tmp rfl .nil) rfl rF rF (sD sR) ?_)))))))))
 exact ⟨(vB (sigOk_of (by omega) (by omega) (fun i hi => hall i (by omega)))), rfl, rfl⟩

/- (*impl.cursor).next -/
theorem next_spec {F : FH} {L : List HP} {c p : Nat} {arv : Value} {ar : List Int} (har : IntsF F arv ar) {tv : Value} {t : List Int} (ht : IntsF F tv t) (hb : t.length ≤ 4000000) :
    Does prog 354 [ptr c 0] F (cellsH c [arv, tv, ii ((p : Int))] 328 :: L) (fun v F' L' => F = F' ∧ ((p < t.length ∧ t.getD p 0 < (ar.length : Int) ∧ (ii (arity ar (t.getD p 0)) : Value) = v ∧ cellsH c [arv, tv, ii ((p + 1 : Nat) : Int)] 328 :: L = L') ∨ (¬ (p < t.length ∧ t.getD p 0 < (ar.length : Int)) ∧ (ii (-1) : Value) = v ∧ cellsH c [arv, tv, ii (p : Int)] 328 :: L = L'))) := by
 refine qI func354 rfl rfl rfl (qc (qa (qg (ii (0)) rfl (qb (qc (qc ?_))))))
 by_cases h1 : (p : Int) ≥ (t.length : Int)
 ·refine jY [cellsH c [arv, tv, ii ((p : Int))] 328] L 27 [] [[], [0], [1], [2], [], [4], [5], [6], [7], [3, 8], [9], [10], [10, 11], [10, 12], [10, 13], [10], [10, 15], [10, 16], [10, 17], [10, 14, 18], [10, 19], [10], [10, 21], [10, 22], [10, 23], [10, 24], [10, 25]] (phiL [qe (ptr c 0), qe (ptr c 0), qe (ptr c 2), qe (ii ((p : Int)) : Value), qe (ptr c 0), qe (ptr c 0), qe (ptr c 1), qe tv, qe (ii ((t.length : Int)) : Value), qe (.bool (decide ((p : Int) ≥ (t.length : Int))) : Value), qe (.bool (decide ((p : Int) ≥ (t.length : Int))) : Value), qe undef, qe undef, qe undef, qe undef, qe undef, qe undef, qe undef, qe undef, qe undef, qe undef, qe undef, qe undef, qe undef, qe undef, qe undef, qe undef]) (ownL []) mixed rfl rfl (by kernel_rfl) ?_ ?_
  ·refine pD (fun W R z9 => ?_) ?_
   ·refine qi (qp (ptr c 0) rfl ?_)
    exact ⟨rfl, rfl, rfl⟩
   refine pD (fun W R z9 => ?_) ?_
   ·rw [eS (l := [(0, _)]) ⟨z9 0 rfl, ⟨⟩⟩]
    refine qi (jn rfl ?_)
    exact ⟨rfl, rfl, rfl⟩
   refine pD (fun W R z9 => ?_) ?_
   ·rw [eS (l := [(1, _)]) ⟨z9 1 rfl, ⟨⟩⟩]
    refine qi (ql (2) jF rfl jV (by decide) rfl rfl ?_)
    exact ⟨rfl, rfl, rfl⟩
   refine pD (fun W R z9 => ?_) ?_
   ·rw [eS (l := [(2, _)]) ⟨z9 2 rfl, ⟨⟩⟩]
    refine qi (qj isAgg3 rfl (Rd.own [] rfl rfl) ?_)
    exact ⟨rfl, rfl, rfl⟩
   refine pD (fun W R z9 => ?_) ?_
   ·refine qi (qp (ptr c 0) rfl ?_)
    exact ⟨rfl, rfl, rfl⟩
   refine pD (fun W R z9 => ?_) ?_
   ·rw [eS (l := [(4, _)]) ⟨z9 4 rfl, ⟨⟩⟩]
    refine qi (jn rfl ?_)
    exact ⟨rfl, rfl, rfl⟩
   refine pD (fun W R z9 => ?_) ?_
   ·rw [eS (l := [(5, _)]) ⟨z9 5 rfl, ⟨⟩⟩]
    refine qi (ql (1) jF rfl qs (by decide) rfl rfl ?_)
    exact ⟨rfl, rfl, rfl⟩
   refine pD (fun W R z9 => ?_) ?_
   ·rw [eS (l := [(6, _)]) ⟨z9 6 rfl, ⟨⟩⟩]
    refine qi (qj qU rfl (Rd.own [] rfl rfl) ?_)
    exact ⟨rfl, rfl, rfl⟩
   refine pD (fun W R z9 => ?_) ?_
   ·rw [eS (l := [(7, _)]) ⟨z9 7 rfl, ⟨⟩⟩]
    refine qi (qE qf rfl ht.slv ?_)
    exact ⟨rfl, rfl, rfl⟩
   refine pD (fun W R z9 => ?_) ?_
   ·rw [eS (l := [(3, _), (8, _)]) ⟨z9 3 rfl, z9 8 rfl, ⟨⟩⟩]
    refine qi (jQ rfl rfl ?_)
    exact ⟨rfl, rfl, rfl⟩
   refine pD (fun W R z9 => ?_) ?_
   ·rw [eS (l := [(9, _)]) ⟨z9 9 rfl, ⟨⟩⟩]
    refine qi (qp (.bool (decide ((p : Int) ≥ (t.length : Int)))) rfl ?_)
    exact ⟨rfl, rfl, rfl⟩
   refine pD (fun W R z9 => ?_) ?_
   ·rw [eS (l := [(10, _)]) ⟨z9 10 rfl, ⟨⟩⟩]
    exact XG.no (t := 13) rfl (vT h1) ⟨rfl, rfl, rfl⟩
   refine pD (fun W R z9 => ?_) ?_
   ·rw [eS (l := [(10, _), (11, undef)]) ⟨z9 10 rfl, z9 11 rfl, ⟨⟩⟩]
    exact XG.no (t := 13) rfl (vT h1) ⟨rfl, rfl, rfl⟩
   refine pD (fun W R z9 => ?_) ?_
   ·rw [eS (l := [(10, _), (12, undef)]) ⟨z9 10 rfl, z9 12 rfl, ⟨⟩⟩]
    exact XG.no (t := 13) rfl (vT h1) ⟨rfl, rfl, rfl⟩
   refine pD (fun W R z9 => ?_) ?_
   ·rw [eS (l := [(10, _), (13, undef)]) ⟨z9 10 rfl, z9 13 rfl, ⟨⟩⟩]
    exact XG.no (t := 13) rfl (vT h1) ⟨rfl, rfl, rfl⟩
   refine pD (fun W R z9 => ?_) ?_
   ·rw [eS (l := [(10, _)]) ⟨z9 10 rfl, ⟨⟩⟩]
    exact XG.no (t := 13) rfl (vT h1) ⟨rfl, rfl, rfl⟩
   refine pD (fun W R z9 => ?_) ?_
   ·rw [eS (l := [(10, _), (15, undef)]) ⟨z9 10 rfl, z9 15 rfl, ⟨⟩⟩]
    exact XG.no (t := 13) rfl (vT h1) ⟨rfl, rfl, rfl⟩
   refine pD (fun W R z9 => ?_) ?_
   ·rw [eS (l := [(10, _), (16, undef)]) ⟨z9 10 rfl, z9 16 rfl, ⟨⟩⟩]
    exact XG.no (t := 13) rfl (vT h1) ⟨rfl, rfl, rfl⟩
   refine pD (fun W R z9 => ?_) ?_
   ·rw [eS (l := [(10, _), (17, undef)]) ⟨z9 10 rfl, z9 17 rfl, ⟨⟩⟩]
    exact XG.no (t := 13) rfl (vT h1) ⟨rfl, rfl, rfl⟩
   refine pD (fun W R z9 => ?_) ?_
   ·rw [eS (l := [(10, _), (14, undef), (18, undef)]) ⟨z9 10 rfl, z9 14 rfl, z9 18 rfl, ⟨⟩⟩]
    exact XG.no (t := 13) rfl (vT h1) ⟨rfl, rfl, rfl⟩
   refine pD (fun W R z9 => ?_) ?_
   ·rw [eS (l := [(10, _), (19, undef)]) ⟨z9 10 rfl, z9 19 rfl, ⟨⟩⟩]
    exact XG.no (t := 13) rfl (vT h1) ⟨rfl, rfl, rfl⟩
   refine pD (fun W R z9 => ?_) ?_
   ·rw [eS (l := [(10, _)]) ⟨z9 10 rfl, ⟨⟩⟩]
    exact XG.no (t := 13) rfl (vT h1) ⟨rfl, rfl, rfl⟩
   refine pD (fun W R z9 => ?_) ?_
   ·rw [eS (l := [(10, _), (21, undef)]) ⟨z9 10 rfl, z9 21 rfl, ⟨⟩⟩]
    exact XG.no (t := 13) rfl (vT h1) ⟨rfl, rfl, rfl⟩
   refine pD (fun W R z9 => ?_) ?_
   ·rw [eS (l := [(10, _), (22, undef)]) ⟨z9 10 rfl, z9 22 rfl, ⟨⟩⟩]
    exact XG.no (t := 13) rfl (vT h1) ⟨rfl, rfl, rfl⟩
   refine pD (fun W R z9 => ?_) ?_
   ·rw [eS (l := [(10, _), (23, undef)]) ⟨z9 10 rfl, z9 23 rfl, ⟨⟩⟩]
    exact XG.no (t := 13) rfl (vT h1) ⟨rfl, rfl, rfl⟩
   refine pD (fun W R z9 => ?_) ?_
   ·rw [eS (l := [(10, _), (24, undef)]) ⟨z9 10 rfl, z9 24 rfl, ⟨⟩⟩]
    exact XG.no (t := 13) rfl (vT h1) ⟨rfl, rfl, rfl⟩
   refine pD (fun W R z9 => ?_) ?_
   ·rw [eS (l := [(10, _), (25, undef)]) ⟨z9 10 rfl, z9 25 rfl, ⟨⟩⟩]
    exact XG.no (t := 13) rfl (vT h1) ⟨rfl, rfl, rfl⟩
   exact stepsP.nil
  intro W hphi
  rw [eS (l := [(10, _), (20, undef), (26, undef)]) ⟨(hphi 10 (by decide)), (hphi 20 (by decide)), (hphi 26 (by decide)), ⟨⟩⟩]
  show XL _ _ _ _ _ _ _ (cellsH c [arv, tv, ii ((p : Int))] 328 :: L)
  refine qx (t := 13) rfl (vT h1) (cX (jj (.bool (true)) (vT h1) rfl (qb (yd rfl (qc (qa (qg (ii (-1)) rfl (qb (qu (qk (qq (L' := cellsH c [arv, tv, ii ((p : Int))] 328 :: L) [ii (-1)] (ii (-1)) (.tmp rfl .nil) rfl rF rF (sC sR) ?_)))))))))))
  exact ⟨rfl, .inr ⟨by omega, rfl, rfl⟩⟩
 refine jY [cellsH c [arv, tv, ii ((p : Int))] 328] L 27 [] [[], [0], [1], [2], [], [4], [5], [6], [7], [3, 8], [9], [10], [10, 11], [10, 12], [10, 13], [10], [10, 15], [10, 16], [10, 17], [10, 14, 18], [10, 19], [10], [10, 21], [10, 22], [10, 23], [10, 24], [10, 25]] (phiL [qe (ptr c 0), qe (ptr c 0), qe (ptr c 2), qe (ii ((p : Int)) : Value), qe (ptr c 0), qe (ptr c 0), qe (ptr c 1), qe tv, qe (ii ((t.length : Int)) : Value), qe (.bool (decide ((p : Int) ≥ (t.length : Int))) : Value), qe (.bool (decide ((p : Int) ≥ (t.length : Int))) : Value), qe (ptr c 0), qe (ptr c 0), qe (ptr c 1), qe tv, qe (ptr c 0), qe (ptr c 0), qe (ptr c 2), qe (ii ((p : Int)) : Value), qe (.pointer (some (elemA tv (p)))), qe (ii (t.getD p 0)), qe (ptr c 0), qe (ptr c 0), qe (ptr c 0), qe (ptr c 0), qe arv, qe (ii ((ar.length : Int)) : Value)]) (ownL []) mixed rfl rfl (by kernel_rfl) ?_ ?_
 ·refine pD (fun W R z9 => ?_) ?_
  ·refine qi (qp (ptr c 0) rfl ?_)
   exact ⟨rfl, rfl, rfl⟩
  refine pD (fun W R z9 => ?_) ?_
  ·rw [eS (l := [(0, _)]) ⟨z9 0 rfl, ⟨⟩⟩]
   refine qi (jn rfl ?_)
   exact ⟨rfl, rfl, rfl⟩
  refine pD (fun W R z9 => ?_) ?_
  ·rw [eS (l := [(1, _)]) ⟨z9 1 rfl, ⟨⟩⟩]
   refine qi (ql (2) jF rfl jV (by decide) rfl rfl ?_)
   exact ⟨rfl, rfl, rfl⟩
  refine pD (fun W R z9 => ?_) ?_
  ·rw [eS (l := [(2, _)]) ⟨z9 2 rfl, ⟨⟩⟩]
   refine qi (qj isAgg3 rfl (Rd.own [] rfl rfl) ?_)
   exact ⟨rfl, rfl, rfl⟩
  refine pD (fun W R z9 => ?_) ?_
  ·refine qi (qp (ptr c 0) rfl ?_)
   exact ⟨rfl, rfl, rfl⟩
  refine pD (fun W R z9 => ?_) ?_
  ·rw [eS (l := [(4, _)]) ⟨z9 4 rfl, ⟨⟩⟩]
   refine qi (jn rfl ?_)
   exact ⟨rfl, rfl, rfl⟩
  refine pD (fun W R z9 => ?_) ?_
  ·rw [eS (l := [(5, _)]) ⟨z9 5 rfl, ⟨⟩⟩]
   refine qi (ql (1) jF rfl qs (by decide) rfl rfl ?_)
   exact ⟨rfl, rfl, rfl⟩
  refine pD (fun W R z9 => ?_) ?_
  ·rw [eS (l := [(6, _)]) ⟨z9 6 rfl, ⟨⟩⟩]
   refine qi (qj qU rfl (Rd.own [] rfl rfl) ?_)
   exact ⟨rfl, rfl, rfl⟩
  refine pD (fun W R z9 => ?_) ?_
  ·rw [eS (l := [(7, _)]) ⟨z9 7 rfl, ⟨⟩⟩]
   refine qi (qE qf rfl ht.slv ?_)
   exact ⟨rfl, rfl, rfl⟩
  refine pD (fun W R z9 => ?_) ?_
  ·rw [eS (l := [(3, _), (8, _)]) ⟨z9 3 rfl, z9 8 rfl, ⟨⟩⟩]
   refine qi (jQ rfl rfl ?_)
   exact ⟨rfl, rfl, rfl⟩
  refine pD (fun W R z9 => ?_) ?_
  ·rw [eS (l := [(9, _)]) ⟨z9 9 rfl, ⟨⟩⟩]
   refine qi (qp (.bool (decide ((p : Int) ≥ (t.length : Int)))) rfl ?_)
   exact ⟨rfl, rfl, rfl⟩
  refine pD (fun W R z9 => ?_) ?_
  ·rw [eS (l := [(10, _)]) ⟨z9 10 rfl, ⟨⟩⟩]
   refine jM (t := 13) rfl (vF h1) (qp (ptr c 0) rfl ?_)
   exact ⟨rfl, rfl, rfl⟩
  refine pD (fun W R z9 => ?_) ?_
  ·rw [eS (l := [(10, _), (11, _)]) ⟨z9 10 rfl, z9 11 rfl, ⟨⟩⟩]
   refine jM (t := 13) rfl (vF h1) (jn rfl ?_)
   exact ⟨rfl, rfl, rfl⟩
  refine pD (fun W R z9 => ?_) ?_
  ·rw [eS (l := [(10, _), (12, _)]) ⟨z9 10 rfl, z9 12 rfl, ⟨⟩⟩]
   refine jM (t := 13) rfl (vF h1) (ql (1) jF rfl qs (by decide) rfl rfl ?_)
   exact ⟨rfl, rfl, rfl⟩
  refine pD (fun W R z9 => ?_) ?_
  ·rw [eS (l := [(10, _), (13, _)]) ⟨z9 10 rfl, z9 13 rfl, ⟨⟩⟩]
   refine jM (t := 13) rfl (vF h1) (qj qU rfl (Rd.own [] rfl rfl) ?_)
   exact ⟨rfl, rfl, rfl⟩
  refine pD (fun W R z9 => ?_) ?_
  ·rw [eS (l := [(10, _)]) ⟨z9 10 rfl, ⟨⟩⟩]
   refine jM (t := 13) rfl (vF h1) (qp (ptr c 0) rfl ?_)
   exact ⟨rfl, rfl, rfl⟩
  refine pD (fun W R z9 => ?_) ?_
  ·rw [eS (l := [(10, _), (15, _)]) ⟨z9 10 rfl, z9 15 rfl, ⟨⟩⟩]
   refine jM (t := 13) rfl (vF h1) (jn rfl ?_)
   exact ⟨rfl, rfl, rfl⟩
  refine pD (fun W R z9 => ?_) ?_
  ·rw [eS (l := [(10, _), (16, _)]) ⟨z9 10 rfl, z9 16 rfl, ⟨⟩⟩]
   refine jM (t := 13) rfl (vF h1) (ql (2) jF rfl jV (by decide) rfl rfl ?_)
   exact ⟨rfl, rfl, rfl⟩
  refine pD (fun W R z9 => ?_) ?_
  ·rw [eS (l := [(10, _), (17, _)]) ⟨z9 10 rfl, z9 17 rfl, ⟨⟩⟩]
   refine jM (t := 13) rfl (vF h1) (qj isAgg3 rfl (Rd.own [] rfl rfl) ?_)
   exact ⟨rfl, rfl, rfl⟩
  refine pD (fun W R z9 => ?_) ?_
  ·rw [eS (l := [(10, _), (14, _), (18, _)]) ⟨z9 10 rfl, z9 14 rfl, z9 18 rfl, ⟨⟩⟩]
   refine jM (t := 13) rfl (vF h1) (qD p qf qB rfl rfl rfl ht.slv (by omega) (Nat.mul_one _) ?_)
   exact ⟨rfl, rfl, rfl⟩
  refine pD (fun W R z9 => ?_) ?_
  ·rw [eS (l := [(10, _), (19, _)]) ⟨z9 10 rfl, z9 19 rfl, ⟨⟩⟩]
   refine jM (t := 13) rfl (vF h1) (qj jm rfl (ht.rd (by omega)) ?_)
   exact ⟨rfl, rfl, rfl⟩
  refine pD (fun W R z9 => ?_) ?_
  ·rw [eS (l := [(10, _)]) ⟨z9 10 rfl, ⟨⟩⟩]
   refine jM (t := 13) rfl (vF h1) (qp (ptr c 0) rfl ?_)
   exact ⟨rfl, rfl, rfl⟩
  refine pD (fun W R z9 => ?_) ?_
  ·rw [eS (l := [(10, _), (21, _)]) ⟨z9 10 rfl, z9 21 rfl, ⟨⟩⟩]
   refine jM (t := 13) rfl (vF h1) (jn rfl ?_)
   exact ⟨rfl, rfl, rfl⟩
  refine pD (fun W R z9 => ?_) ?_
  ·rw [eS (l := [(10, _), (22, _)]) ⟨z9 10 rfl, z9 22 rfl, ⟨⟩⟩]
   refine jM (t := 13) rfl (vF h1) (ql (0) jF rfl qF (by decide) rfl rfl ?_)
   exact ⟨rfl, rfl, rfl⟩
  refine pD (fun W R z9 => ?_) ?_
  ·rw [eS (l := [(10, _), (23, _)]) ⟨z9 10 rfl, z9 23 rfl, ⟨⟩⟩]
   refine jM (t := 13) rfl (vF h1) (ql (0) jg rfl qs (by decide) rfl rfl ?_)
   exact ⟨rfl, rfl, rfl⟩
  refine pD (fun W R z9 => ?_) ?_
  ·rw [eS (l := [(10, _), (24, _)]) ⟨z9 10 rfl, z9 24 rfl, ⟨⟩⟩]
   refine jM (t := 13) rfl (vF h1) (qj qU rfl (Rd.own [] rfl rfl) ?_)
   exact ⟨rfl, rfl, rfl⟩
  refine pD (fun W R z9 => ?_) ?_
  ·rw [eS (l := [(10, _), (25, _)]) ⟨z9 10 rfl, z9 25 rfl, ⟨⟩⟩]
   refine jM (t := 13) rfl (vF h1) (qE qf rfl har.slv ?_)
   exact ⟨rfl, rfl, rfl⟩
  exact stepsP.nil
 intro W hphi
 rw [eS (l := [(10, _), (20, _), (26, _)]) ⟨(hphi 10 (by decide)), (hphi 20 (by decide)), (hphi 26 (by decide)), ⟨⟩⟩]
 show XL _ _ _ _ _ _ _ (cellsH c [arv, tv, ii ((p : Int))] 328 :: L)
 refine qy (t := 13) rfl (vF h1) (jQ rfl rfl (cX (qY (.bool (decide ((t.getD p 0 : Int) ≥ (ar.length : Int)))) (vF h1) rfl (qb ?_))))
 refine qA (p := (t.getD p 0 : Int) ≥ (ar.length : Int)) rfl (fun h2 => ?_) (fun h2 => ?_)
 ·refine qc (qa (qg (ii (-1)) rfl (qb (qu (qk (qq (L' := cellsH c [arv, tv, ii ((p : Int))] 328 :: L) [ii (-1)] (ii (-1)) (.tmp rfl .nil) rfl rF rF (sC sR) ?_))))))
  exact ⟨rfl, .inr ⟨by omega, rfl, rfl⟩⟩
 refine qw (qc (qa (qd (ptr c 0) rfl (cX (jn rfl (cX (ql (2) jF rfl jV (by decide) rfl rfl (cX (qj isAgg3 rfl (Rd.own [] rfl rfl) (cX (qH (((p + 1 : Nat) : Int)) rfl rfl (by omega) (by omega) (cX (jn rfl (cX (ql (2) jF rfl jV (by decide) rfl rfl (cX (jv [] _ [arv, tv, ii (((p + 1 : Nat) : Int))] jV rfl rfl rfl rfl rfl rfl (qb (qc ?_)))))))))))))))))))
 refine jY [cellsH c [arv, tv, ii (((p + 1 : Nat) : Int))] 328] L 15 [] [[], [0], [1], [2], [], [4], [5], [6], [], [8], [9], [10], [11], [7, 12], [13]] (phiL [qe (ptr c 0), qe (ptr c 0), qe (ptr c 0), qe (.agg #[arv]), qe (ptr c 0), qe (ptr c 0), qe (ptr c 1), qe tv, qe (ptr c 0), qe (ptr c 0), qe (ptr c 2), qe (ii (((p + 1 : Nat) : Int)) : Value), qe (ii ((p : Int)) : Value), qe (.pointer (some (elemA tv (p)))), qe (ii (t.getD p 0))]) (ownL []) mixed rfl rfl (by kernel_rfl) ?_ ?_
 ·refine pD (fun W R z9 => ?_) ?_
  ·refine qi (qp (ptr c 0) rfl ?_)
   exact ⟨rfl, rfl, rfl⟩
  refine pD (fun W R z9 => ?_) ?_
  ·rw [eS (l := [(0, _)]) ⟨z9 0 rfl, ⟨⟩⟩]
   refine qi (jn rfl ?_)
   exact ⟨rfl, rfl, rfl⟩
  refine pD (fun W R z9 => ?_) ?_
  ·rw [eS (l := [(1, _)]) ⟨z9 1 rfl, ⟨⟩⟩]
   refine qi (ql (0) jF rfl qF (by decide) rfl rfl ?_)
   exact ⟨rfl, rfl, rfl⟩
  refine pD (fun W R z9 => ?_) ?_
  ·rw [eS (l := [(2, _)]) ⟨z9 2 rfl, ⟨⟩⟩]
   refine qi (qr [arv] qX qF rfl rfl (Rd.ownN [] rfl rfl) ?_)
   exact ⟨rfl, rfl, rfl⟩
  refine pD (fun W R z9 => ?_) ?_
  ·refine qi (qp (ptr c 0) rfl ?_)
   exact ⟨rfl, rfl, rfl⟩
  refine pD (fun W R z9 => ?_) ?_
  ·rw [eS (l := [(4, _)]) ⟨z9 4 rfl, ⟨⟩⟩]
   refine qi (jn rfl ?_)
   exact ⟨rfl, rfl, rfl⟩
  refine pD (fun W R z9 => ?_) ?_
  ·rw [eS (l := [(5, _)]) ⟨z9 5 rfl, ⟨⟩⟩]
   refine qi (ql (1) jF rfl qs (by decide) rfl rfl ?_)
   exact ⟨rfl, rfl, rfl⟩
  refine pD (fun W R z9 => ?_) ?_
  ·rw [eS (l := [(6, _)]) ⟨z9 6 rfl, ⟨⟩⟩]
   refine qi (qj qU rfl (Rd.own [] rfl rfl) ?_)
   exact ⟨rfl, rfl, rfl⟩
  refine pD (fun W R z9 => ?_) ?_
  ·refine qi (qp (ptr c 0) rfl ?_)
   exact ⟨rfl, rfl, rfl⟩
  refine pD (fun W R z9 => ?_) ?_
  ·rw [eS (l := [(8, _)]) ⟨z9 8 rfl, ⟨⟩⟩]
   refine qi (jn rfl ?_)
   exact ⟨rfl, rfl, rfl⟩
  refine pD (fun W R z9 => ?_) ?_
  ·rw [eS (l := [(9, _)]) ⟨z9 9 rfl, ⟨⟩⟩]
   refine qi (ql (2) jF rfl jV (by decide) rfl rfl ?_)
   exact ⟨rfl, rfl, rfl⟩
  refine pD (fun W R z9 => ?_) ?_
  ·rw [eS (l := [(10, _)]) ⟨z9 10 rfl, ⟨⟩⟩]
   refine qi (qj isAgg3 rfl (Rd.own [] rfl rfl) ?_)
   exact ⟨rfl, rfl, rfl⟩
  refine pD (fun W R z9 => ?_) ?_
  ·rw [eS (l := [(11, _)]) ⟨z9 11 rfl, ⟨⟩⟩]
   refine qi (jq ((p : Int)) rfl rfl (by omega) (by omega) ?_)
   exact ⟨rfl, rfl, rfl⟩
  refine pD (fun W R z9 => ?_) ?_
  ·rw [eS (l := [(7, _), (12, _)]) ⟨z9 7 rfl, z9 12 rfl, ⟨⟩⟩]
   refine qi (qD p qf qB rfl rfl rfl ht.slv (by omega) (Nat.mul_one _) ?_)
   exact ⟨rfl, rfl, rfl⟩
  refine pD (fun W R z9 => ?_) ?_
  ·rw [eS (l := [(13, _)]) ⟨z9 13 rfl, ⟨⟩⟩]
   refine qi (qj jm rfl (ht.rd (by omega)) ?_)
   exact ⟨rfl, rfl, rfl⟩
  exact stepsP.nil
 intro W hphi
 rw [eS (l := [(3, _), (14, _)]) ⟨(hphi 3 (by decide)), (hphi 14 (by decide)), ⟨⟩⟩]
 show XL _ _ _ _ _ _ _ (cellsH c [arv, tv, ii (((p + 1 : Nat) : Int))] 328 :: L)
 refine cX (qm (args := [.agg #[arv], ii (t.getD p 0)]) call366 rfl (arityAt_spec (n := t.getD p 0) har (hn := (by first | assumption | rfl | omega | simp))) ?_)
 rintro _ _ _ _ ⟨rfl, rfl, rfl⟩
 refine qg (ii (arity ar (t.getD p 0))) rfl (qb (qu (qq (L' := cellsH c [arv, tv, ii (((p + 1 : Nat) : Int))] 328 :: L) [ii (arity ar (t.getD p 0))] (ii (arity ar (t.getD p 0))) (.tmp rfl .nil) rfl rF rF (sC sR) ?_)))
 exact ⟨rfl, .inl ⟨by omega, by omega, rfl, rfl⟩⟩

/- (*impl.cursor).skip -/
theorem skip_spec {F : FH} {L : List HP} {c p0 : Nat} {arv : Value} {ar : List Int} (har : IntsF F arv ar) {tv : Value} {t : List Int} (ht : IntsF F tv t) (hb : t.length ≤ 4000000) (hs : sigOk ar = true) (hp : p0 ≤ t.length) :
    Does prog 298 [ptr c 0] F (cellsH c [arv, tv, ii ((p0 : Int))] 328 :: L) (fun v F' L' => F = F' ∧ ∃ q : Nat, (.bool (endGo ar (t.drop p0) 1).isSome : Value) = v ∧ (∀ e, endGo ar (t.drop p0) 1 = some e → q = p0 + e) ∧ cellsH c [arv, tv, ii (q : Int)] 328 :: L = L') := by
 refine qI func298 rfl rfl rfl (qc (qa (qg (.bool (false)) rfl (qb (qc (qc (qa (qg (ii (1)) rfl (qb (qK (jl (α := Nat × Nat) (fun xQ => [(0, ptr c 0), (3, ii (((xQ.1 : Nat) : Int)))]) (fun xQ => cellsH c [arv, tv, ii (((xQ.2 : Nat) : Int))] 328 :: L) (fun xQ F' => F = F' ∧ (endGo ar (t.drop p0) 1 = (endGo ar (t.drop xQ.2) xQ.1).map (· + (xQ.2 - p0))) ∧ (p0 ≤ xQ.2 ∧ xQ.2 ≤ t.length) ∧ (xQ.1 ≤ 1 + 3 * xQ.2)) (fun xQ => t.length - xQ.2) (1, p0) ⟨rfl, rfl, ⟨⟩⟩ (sC sR) ⟨rfl, (by simp), (by omega), (by omega)⟩ ?_)))))))))))
 rintro ⟨k, p⟩ rE _ _ ⟨rfl, hi, h1, h2⟩
 show X _ _ _ _ (envs [(0, ptr c 0), (3, ii ((k : Int)))] rE) _ (cellsH c [arv, tv, ii ((p : Int))] 328 :: L)
 dsimp only at hi h1 h2
 refine qc (qc (qa (qd (ii ((k : Int))) rfl (cX (jI rfl rfl (qb ?_))))))
 refine qA (p := (k : Int) > 0) rfl (fun h1 => ?_) (fun h1 => ?_)
 ·refine qw (qc (qK (qc (qa (qd (ptr c 0) rfl (cX (qm (args := [ptr c 0]) call354 rfl (next_spec (p := p) har ht (by omega)) ?_)))))))
  rintro _ _ _ _ ⟨rfl, ⟨hn1a, hn1b, rfl, rfl⟩ | ⟨hn1c, rfl, rfl⟩⟩
  ·have hA := arity_le hs hn1b
   refine qg (ii (arity ar ((t).getD p 0))) rfl (qb (qc (qc (qa (qd (ii (arity ar ((t).getD p 0))) rfl (cX (qW rfl rfl (qb ?_))))))))
   refine qA (p := (arity ar ((t).getD p 0) : Int) < 0) rfl (fun h2 => ?_) (fun h2 => ?_)
   ·omega
   refine qw (qa (qd (ii ((k : Int))) rfl (qd (ii (arity ar ((t).getD p 0))) rfl (cX (qH (((k + (arity ar (t.getD p 0)).toNat : Nat) : Int)) rfl rfl (by omega) (by omega) (qg (ii (((k + (arity ar (t.getD p 0)).toNat : Nat) : Int))) rfl (qb (qa (qd (ii (((k + (arity ar (t.getD p 0)).toNat : Nat) : Int))) rfl (cX (jq (((k - 1 + (arity ar (t.getD p 0)).toNat : Nat) : Int)) rfl rfl (by omega) (by omega) (qg (ii (((k - 1 + (arity ar (t.getD p 0)).toNat : Nat) : Int))) rfl (qb ?_)))))))))))))
   exact ⟨(k - 1 + (arity ar (t.getD p 0)).toNat, p + 1), _, FLe.refl _, rF, ⟨rfl, rfl, ⟨⟩⟩, (sC sR), ⟨rfl, (by rw [hi, endGo_step (by omega) (by omega) (by omega), Option.map_map]; congr 1; funext e; simp; omega), (by omega), (by omega)⟩, (by omega)⟩
  refine qg (ii (-1)) rfl (qb (qc (qc (qa (qd (ii (-1)) rfl (cX (qW rfl rfl (qb (yd rfl (qc (qa (qg (.bool (false)) rfl (qb (qu (qk (qC (qk (qk (qC (qk (qq (L' := cellsH c [arv, tv, ii ((p : Int))] 328 :: L) [.bool (false)] (.bool (false)) (.tmp rfl .nil) rfl rF rF (sC sR) ?_)))))))))))))))))))))
  have hz : endGo ar (t.drop p0) 1 = none := by rw [hi, endGo_none (by omega) (by omega)]; rfl
  refine ⟨rfl, p, ?_, ?_, rfl⟩
  · rw [hz]; rfl
  · intro e he; rw [hz] at he; cases he
 refine jk (qt (qt (qM (qc (qa (qg (.bool (true)) rfl (qb (qu (qq (L' := cellsH c [arv, tv, ii ((p : Int))] 328 :: L) [.bool (true)] (.bool (true)) (.tmp rfl .nil) rfl rF rF (sC sR) ?_)))))))))
 obtain rfl : k = 0 := by omega
 have hz : endGo ar (t.drop p0) 1 = some (p - p0) := by rw [hi]; simp [endGo]
 refine ⟨rfl, p, ?_, ?_, rfl⟩
 · rw [hz]; rfl
 · intro e he; rw [hz] at he; cases he; omega

/- impl.endAt -/
theorem endAt_spec {F : FH} {L : List HP} {arv : Value} {ar : List Int} (har : IntsF F arv ar) {tv : Value} {t : List Int} (ht : IntsF F tv t) {p : Nat} (hs : sigOk ar = true) (hb : t.length ≤ 4000000) (hp : p ≤ t.length) :
    Does prog 206 [.agg #[arv], tv, ii ((p : Int))] F (L) (fun v F' L' => (ii (endZ ar t p) : Value) = v ∧ F = F' ∧ L = L') := by
 refine qI func206 rfl rfl rfl (qc (qa (cX (jc [arv] rfl rfl ?_))))
 intro b1
 refine qg (ii (0)) rfl (qb (qc (qa (cX (qr [arv] qX qF rfl rfl (Rd.ownN [] rfl rfl) (qd (tv) rfl (qd (ii ((p : Int))) rfl (cX (jh [arv, tv, ii ((p : Int))] [sN, sN, ii (0)] [(0, 1), (1, 1), (2, 1)] [(0, [arv]), (1, [tv]), (2, [ii ((p : Int))])] jF zeroValue328 rfl (.cons rfl qF (.cons rfl qs (.cons rfl jV PlacesAre.nil))) rfl (.cons rfl (.cons (cells_one (qz ht)) (.cons rfl CellsAre.nil))) (cX (ji [sN, sN, ii (0)] zeroValue328 rfl ?_)))))))))))
 intro b2
 refine cX (qL [] _ [arv, tv, ii ((p : Int))] sizeOf328 rfl rfl rfl (qn (qG (qz har)) (qn (qG (qz ht)) (qn rfl qO))) rfl rfl rfl (qb (qc (qc (qa (cX (qm (args := [ptr b2 0]) call298 rfl (skip_spec (p0 := p) har ht (by omega) hs (by omega)) ?_)))))))
 rintro _ _ _ _ ⟨rfl, q1, rfl, hq1, rfl⟩
 refine cX (jE rfl (qb ?_))
 refine jz (t := !((endGo ar (t.drop p) 1).isSome)) rfl (fun h1 => ?_) (fun h1 => ?_)
 ·refine qc (qa (qg (ii (-1)) rfl (qb (qu (qk (qq (L' := L) [ii (-1)] (ii (-1)) (.tmp rfl .nil) rfl rF rF (sD (sD sR)) ?_))))))
  exact ⟨(vI (endZ_none (by rw [Bool.eq_false_iff] at *; simpa using h1))), rfl, rfl⟩
 refine qw (qc (qa (cX (ql (2) jF rfl jV (by decide) rfl rfl (cX (qj isAgg3 rfl (Rd.own [] rfl rfl) (qg (ii ((q1 : Int))) rfl (qb (qu (qq (L' := L) [ii ((q1 : Int))] (ii ((q1 : Int))) (.tmp rfl .nil) rfl rF rF (sD (sD sR)) ?_))))))))))
 exact ⟨(vI (endZ_some hq1 (by simpa using h1))), rfl, rfl⟩

/- slices.Min[[]int64,int64] -/
theorem Min_spec {F : FH} {L : List HP} {xsv : Value} {xs : List Int} (hxs : IntsF F xsv xs) (h1 : 1 ≤ xs.length) (hbd : xs.length ≤ 4000000) :
    Does prog 219 [xsv] F (L) (fun v F' L' => (ii (minL xs) : Value) = v ∧ F = F' ∧ L = L') := by
 refine qI func219 rfl rfl rfl (qc (qa (qg (ii (0)) rfl (qb (qc (qc (qa (qd (xsv) rfl (cX (qE qf rfl hxs.slv (cX (qW rfl rfl (qb ?_)))))))))))))
 refine qA (p := ((xs.length : Int) : Int) < 1) rfl (fun h1 => ?_) (fun h1 => ?_)
 ·omega
 refine qw (qc (qa (qd (xsv) rfl (cX (qD 0 qf qB rfl rfl rfl hxs.slv (by omega) (Nat.mul_one _) (cX (qj jm rfl (hxs.rd (by omega)) (qg (ii (xs.getD 0 0)) rfl (qb (qc (qc (qa (qg (ii (1)) rfl (qb (qK (jl (α := Nat) (fun k => [(0, xsv), (3, ii (minL (xs.take k))), (4, ii ((k : Int)))]) (fun k => L) (fun k F' => F = F' ∧ (1 ≤ k ∧ k ≤ xs.length)) (fun k => xs.length - k) 1 ⟨rfl, (vI (minL_take1 (xs := xs) (by omega)).symm), rfl, ⟨⟩⟩ sR ⟨rfl, (by omega)⟩ ?_))))))))))))))))
 rintro k rE _ _ ⟨rfl, hk⟩
 show X _ _ _ _ (envs [(0, xsv), (3, ii (minL (xs.take k))), (4, ii ((k : Int)))] rE) _ (L)
 refine qc (qc (qa (qd (ii ((k : Int))) rfl (qd (xsv) rfl (cX (qE qf rfl hxs.slv (cX (qW rfl rfl (qb ?_)))))))))
 refine qA (p := (k : Int) < (xs.length : Int)) rfl (fun h2 => ?_) (fun h2 => ?_)
 ·refine qw (qc (qK (qa (qd (ii (minL (xs.take k))) rfl (qd (xsv) rfl (qd (ii ((k : Int))) rfl (cX (qD k qf qB rfl rfl rfl hxs.slv (by omega) (Nat.mul_one _) (cX (qj jm rfl (hxs.rd (by omega)) (cX (XOp.min2R (a := minL (xs.take k)) (b := xs.getD k 0) (minL (xs.take (k + 1))) rfl rfl ((minL_step (by omega) (by omega)).symm) (qg (ii (minL (xs.take (k + 1)))) rfl (qb (qa (qd (ii ((k : Int))) rfl ?_))))))))))))))))
  refine cX (qH (((k + 1 : Nat) : Int)) rfl rfl (by omega) (by omega) (qg (ii (((k + 1 : Nat) : Int))) rfl (qb ?_)))
  exact ⟨k + 1, _, FLe.refl _, rF, ⟨rfl, rfl, rfl, ⟨⟩⟩, sR, ⟨rfl, (by omega)⟩, (by omega)⟩
 refine jk (qt (qt (qM (qc (qa (qd (ii (minL (xs.take k))) rfl (qg (ii (minL (xs.take k))) rfl (qb (qu (qq (L' := L) [ii (minL (xs.take k))] (ii (minL (xs.take k))) (.tmp rfl .nil) rfl rF rF sR ?_))))))))))
 exact ⟨(vI (by rw [minL_take_all (by omega)])), rfl, rfl⟩

/- slices.Equal[[]int64,int64] -/
theorem Equal_spec {F : FH} {L : List HP} {av : Value} {a : List Int} (ha : IntsF F av a) {bv : Value} {b : List Int} (hb : IntsF F bv b) (hbd : a.length ≤ 9223372036854775807 ∨ b.length ≤ 9223372036854775807) :
    Does prog 236 [av, bv] F (L) (fun v F' L' => (.bool (decide (a = b)) : Value) = v ∧ F = F' ∧ L = L') := by
 refine qI func236 rfl rfl rfl (qc (qa (qg (.bool (false)) rfl (qb (qc (qc (qa (qd (av) rfl (cX (qE qf rfl ha.slv (qd (bv) rfl (cX (qE qf rfl hb.slv (cX (XOp.neq rfl rfl (qb ?_))))))))))))))))
 refine qA (p := ((a.length : Int) : Int) ≠ (b.length : Int)) rfl (fun h1 => ?_) (fun h1 => ?_)
 ·refine qc (qa (qg (.bool (false)) rfl (qb (qu (qk (qq (L' := L) [.bool (false)] (.bool (false)) (.tmp rfl .nil) rfl rF rF sR ?_))))))
  exact ⟨(vB (decide_eq_false (fun e => by rw [e] at h1; omega))), rfl, rfl⟩
 refine qw (qc (qc (qa (qd (av) rfl (cX (qE qf rfl ha.slv (qd (ii (0)) rfl (qb (qK (jl (α := Nat) (fun k => [(0, av), (1, bv), (12, ii ((a.length : Int))), (13, ii ((k : Int)))]) (fun k => L) (fun k F' => F = F' ∧ (k ≤ a.length) ∧ (∀ i, i < k → a.getD i 0 = b.getD i 0)) (fun k => a.length - k) 0 ⟨rfl, rfl, rfl, rfl, ⟨⟩⟩ sR ⟨rfl, (by omega), (fun i hi => absurd hi (by omega))⟩ ?_))))))))))
 rintro k rE _ _ ⟨rfl, hk, hall⟩
 show X _ _ _ _ (envs [(0, av), (1, bv), (12, ii ((a.length : Int))), (13, ii ((k : Int)))] rE) _ (L)
 refine qc (qa (cX (qW rfl rfl (qb (qc ?_)))))
 refine qA (p := (k : Int) < (a.length : Int)) rfl (fun h2 => ?_) (fun h2 => ?_)
 ·refine qw (qc (qK (qc (qa (qd (ii ((k : Int))) rfl (qg (ii ((k : Int))) rfl (qb (qc ?_))))))))
  refine jY [] L 8 [] [[], [], [0, 1], [2], [], [], [4, 5], [6]] (phiL [qe av, qe (ii ((k : Int)) : Value), qe (.pointer (some (elemA av (k)))), qe (ii (a.getD k 0)), qe bv, qe (ii ((k : Int)) : Value), qe (.pointer (some (elemA bv (k)))), qe (ii (b.getD k 0))]) (ownL []) mixed rfl rfl (by kernel_rfl) ?_ ?_
  ·refine pD (fun W R z9 => ?_) ?_
   ·refine qi (qp (av) rfl ?_)
    exact ⟨rfl, rfl, rfl⟩
   refine pD (fun W R z9 => ?_) ?_
   ·refine qi (qp (ii ((k : Int))) rfl ?_)
    exact ⟨rfl, rfl, rfl⟩
   refine pD (fun W R z9 => ?_) ?_
   ·rw [eS (l := [(0, _), (1, _)]) ⟨z9 0 rfl, z9 1 rfl, ⟨⟩⟩]
    refine qi (qD k qf qB rfl rfl rfl ha.slv (by omega) (Nat.mul_one _) ?_)
    exact ⟨rfl, rfl, rfl⟩
   refine pD (fun W R z9 => ?_) ?_
   ·rw [eS (l := [(2, _)]) ⟨z9 2 rfl, ⟨⟩⟩]
    refine qi (qj jm rfl (ha.rd (by omega)) ?_)
    exact ⟨rfl, rfl, rfl⟩
   refine pD (fun W R z9 => ?_) ?_
   ·refine qi (qp (bv) rfl ?_)
    exact ⟨rfl, rfl, rfl⟩
   refine pD (fun W R z9 => ?_) ?_
   ·refine qi (qp (ii ((k : Int))) rfl ?_)
    exact ⟨rfl, rfl, rfl⟩
   refine pD (fun W R z9 => ?_) ?_
   ·rw [eS (l := [(4, _), (5, _)]) ⟨z9 4 rfl, z9 5 rfl, ⟨⟩⟩]
    refine qi (qD k qf qB rfl rfl rfl hb.slv (by omega) (Nat.mul_one _) ?_)
    exact ⟨rfl, rfl, rfl⟩
   refine pD (fun W R z9 => ?_) ?_
   ·rw [eS (l := [(6, _)]) ⟨z9 6 rfl, ⟨⟩⟩]
    refine qi (qj jm rfl (hb.rd (by omega)) ?_)
    exact ⟨rfl, rfl, rfl⟩
   exact stepsP.nil
  intro W hphi
  rw [eS (l := [(3, _), (7, _)]) ⟨(hphi 3 (by decide)), (hphi 7 (by decide)), ⟨⟩⟩]
  show XL _ _ _ _ _ _ _ (L)
  refine cX (XOp.neq rfl rfl (qb ?_))
  refine qA (p := (a.getD k 0 : Int) ≠ b.getD k 0) rfl (fun h3 => ?_) (fun h3 => ?_)
  ·refine qc (qa (qg (.bool (false)) rfl (qb (qu (qC (qk (qk (qC (qk (qq (L' := L) [.bool (false)] (.bool (false)) (.tmp rfl .nil) rfl rF rF sR ?_))))))))))
   exact ⟨(vB (decide_eq_false (ne_of_getD (i := k) (by omega)))), rfl, rfl⟩
  refine qw (qa (cX (qH (((k + 1 : Nat) : Int)) rfl rfl (by omega) (by omega) (qd (ii (((k + 1 : Nat) : Int))) rfl (qb ?_)))))
  exact ⟨k + 1, _, FLe.refl _, rF, ⟨rfl, rfl, rfl, rfl, ⟨⟩⟩, sR, ⟨rfl, (by omega), (fun i hi => (Nat.lt_or_ge i k).elim (fun h => hall i h) (fun h => by obtain rfl : i = k := (by omega); omega))⟩, (by omega)⟩
 refine jk (qt (qt (qM (qc (qa (qg (.bool (true)) rfl (qb (qu (qq (L' := L) [.bool (true)] (.bool (true)) (.tmp rfl .nil) rfl rF rF sR ?_)))))))))
 exact ⟨(vB (decide_eq_true (ext_getD (by omega) (fun i hi => hall i (by omega))))), rfl, rfl⟩

/- spec.SameTerm -/
theorem SameTerm_spec {F : FH} {L : List HP} {av : Value} {a : List Int} (ha : IntsF F av a) {bv : Value} {b : List Int} (hb : IntsF F bv b) (hbd : a.length ≤ 9223372036854775807 ∨ b.length ≤ 9223372036854775807) :
    Does prog 32 [av, bv] F (L) (fun v F' L' => (.bool (decide (a = b)) : Value) = v ∧ F = F' ∧ L = L') := by
 refine qI func32 rfl rfl rfl (qc (qa (qg (.bool (false)) rfl (qb (qc (qc (qa (qd (av) rfl (cX (qE qf rfl ha.slv (qd (bv) rfl (cX (qE qf rfl hb.slv (cX (XOp.neq rfl rfl (qb ?_))))))))))))))))
 refine qA (p := ((a.length : Int) : Int) ≠ (b.length : Int)) rfl (fun h1 => ?_) (fun h1 => ?_)
 ·refine qc (qa (qg (.bool (false)) rfl (qb (qu (qk (qq (L' := L) [.bool (false)] (.bool (false)) (.tmp rfl .nil) rfl rF rF sR ?_))))))
  exact ⟨(vB (decide_eq_false (fun e => by rw [e] at h1; omega))), rfl, rfl⟩
 refine qw (qc (qc (qa (qg (ii (0)) rfl (qb (qK (jl (α := Nat) (fun k => [(0, av), (1, bv), (5, ii ((k : Int)))]) (fun k => L) (fun k F' => F = F' ∧ (k ≤ a.length) ∧ (∀ i, i < k → a.getD i 0 = b.getD i 0)) (fun k => a.length - k) 0 ⟨rfl, rfl, rfl, ⟨⟩⟩ sR ⟨rfl, (by omega), (fun i hi => absurd hi (by omega))⟩ ?_)))))))
 rintro k rE _ _ ⟨rfl, hk, hall⟩
 show X _ _ _ _ (envs [(0, av), (1, bv), (5, ii ((k : Int)))] rE) _ (L)
 refine qc (qc (qa (qd (ii ((k : Int))) rfl (qd (av) rfl (cX (qE qf rfl ha.slv (cX (qW rfl rfl (qb ?_)))))))))
 refine qA (p := (k : Int) < (a.length : Int)) rfl (fun h2 => ?_) (fun h2 => ?_)
 ·refine qw (qc (qK (qc ?_)))
  refine jY [] L 8 [] [[], [], [0, 1], [2], [], [], [4, 5], [6]] (phiL [qe av, qe (ii ((k : Int)) : Value), qe (.pointer (some (elemA av (k)))), qe (ii (a.getD k 0)), qe bv, qe (ii ((k : Int)) : Value), qe (.pointer (some (elemA bv (k)))), qe (ii (b.getD k 0))]) (ownL []) mixed rfl rfl (by kernel_rfl) ?_ ?_
  ·refine pD (fun W R z9 => ?_) ?_
   ·refine qi (qp (av) rfl ?_)
    exact ⟨rfl, rfl, rfl⟩
   refine pD (fun W R z9 => ?_) ?_
   ·refine qi (qp (ii ((k : Int))) rfl ?_)
    exact ⟨rfl, rfl, rfl⟩
   refine pD (fun W R z9 => ?_) ?_
   ·rw [eS (l := [(0, _), (1, _)]) ⟨z9 0 rfl, z9 1 rfl, ⟨⟩⟩]
    refine qi (qD k qf qB rfl rfl rfl ha.slv (by omega) (Nat.mul_one _) ?_)
    exact ⟨rfl, rfl, rfl⟩
   refine pD (fun W R z9 => ?_) ?_
   ·rw [eS (l := [(2, _)]) ⟨z9 2 rfl, ⟨⟩⟩]
    refine qi (qj jm rfl (ha.rd (by omega)) ?_)
    exact ⟨rfl, rfl, rfl⟩
   refine pD (fun W R z9 => ?_) ?_
   ·refine qi (qp (bv) rfl ?_)
    exact ⟨rfl, rfl, rfl⟩
   refine pD (fun W R z9 => ?_) ?_
   ·refine qi (qp (ii ((k : Int))) rfl ?_)
    exact ⟨rfl, rfl, rfl⟩
   refine pD (fun W R z9 => ?_) ?_
   ·rw [eS (l := [(4, _), (5, _)]) ⟨z9 4 rfl, z9 5 rfl, ⟨⟩⟩]
    refine qi (qD k qf qB rfl rfl rfl hb.slv (by omega) (Nat.mul_one _) ?_)
    exact ⟨rfl, rfl, rfl⟩
   refine pD (fun W R z9 => ?_) ?_
   ·rw [eS (l := [(6, _)]) ⟨z9 6 rfl, ⟨⟩⟩]
    refine qi (qj jm rfl (hb.rd (by omega)) ?_)
    exact ⟨rfl, rfl, rfl⟩
   exact stepsP.nil
  intro W hphi
  rw [eS (l := [(3, _), (7, _)]) ⟨(hphi 3 (by decide)), (hphi 7 (by decide)), ⟨⟩⟩]
  show XL _ _ _ _ _ _ _ (L)
  refine cX (XOp.neq rfl rfl (qb ?_))
  refine qA (p := (a.getD k 0 : Int) ≠ b.getD k 0) rfl (fun h3 => ?_) (fun h3 => ?_)
  ·refine qc (qa (qg (.bool (false)) rfl (qb (qu (qC (qk (qk (qC (qk (qq (L' := L) [.bool (false)] (.bool (false)) (.tmp rfl .nil) rfl rF rF sR ?_))))))))))
   exact ⟨(vB (decide_eq_false (ne_of_getD (i := k) (by omega)))), rfl, rfl⟩
  refine qw (qa (qd (ii ((k : Int))) rfl (cX (qH (((k + 1 : Nat) : Int)) rfl rfl (by omega) (by omega) (qg (ii (((k + 1 : Nat) : Int))) rfl (qb ?_))))))
  exact ⟨k + 1, _, FLe.refl _, rF, ⟨rfl, rfl, rfl, ⟨⟩⟩, sR, ⟨rfl, (by omega), (fun i hi => (Nat.lt_or_ge i k).elim (fun h => hall i h) (fun h => by obtain rfl : i = k := (by omega); omega))⟩, (by omega)⟩
 refine jk (qt (qt (qM (qc (qa (qg (.bool (true)) rfl (qb (qu (qq (L' := L) [.bool (true)] (.bool (true)) (.tmp rfl .nil) rfl rF rF sR ?_)))))))))
 exact ⟨(vB (decide_eq_true (ext_getD (by omega) (fun i hi => hall i (by omega))))), rfl, rfl⟩

/- slices.Index[[]int64,int64] -/
theorem Index_spec {F : FH} {L : List HP} {xsv : Value} {xs : List Int} (hxs : IntsF F xsv xs) {n : Int} (hbd : xs.length ≤ 9223372036854775807) :
    Does prog 305 [xsv, ii (n)] F (L) (fun v F' L' => (ii (indexZ xs n) : Value) = v ∧ F = F' ∧ L = L') := by
 refine qI func305 rfl rfl rfl (qc (qa (qg (ii (0)) rfl (qb (qc (qc (qa (qd (xsv) rfl (cX (qE qf rfl hxs.slv (qd (ii (0)) rfl (qb (qK (jl (α := Nat) (fun k => [(0, xsv), (1, ii (n)), (7, ii ((xs.length : Int))), (8, ii ((k : Int)))]) (fun k => L) (fun k F' => F = F' ∧ (k ≤ xs.length) ∧ (∀ i, i < k → xs.getD i 0 ≠ n)) (fun k => xs.length - k) 0 ⟨rfl, rfl, rfl, rfl, ⟨⟩⟩ sR ⟨rfl, (by omega), (fun i hi => absurd hi (by omega))⟩ ?_))))))))))))))
 rintro k rE _ _ ⟨rfl, hk, hall⟩
 show X _ _ _ _ (envs [(0, xsv), (1, ii (n)), (7, ii ((xs.length : Int))), (8, ii ((k : Int)))] rE) _ (L)
 refine qc (qa (cX (qW rfl rfl (qb (qc ?_)))))
 refine qA (p := (k : Int) < (xs.length : Int)) rfl (fun h1 => ?_) (fun h1 => ?_)
 ·refine qw (qc (qK (qc (qa (qd (ii ((k : Int))) rfl (qg (ii ((k : Int))) rfl (qb (qc (qa (qd (ii (n)) rfl (qd (xsv) rfl (qd (ii ((k : Int))) rfl (cX (qD k qf qB rfl rfl rfl hxs.slv (by omega) (Nat.mul_one _) (cX (qj jm rfl (hxs.rd (by omega)) (cX (js rfl rfl ?_))))))))))))))))))
  refine qb ?_
  refine qA (p := (n : Int) = xs.getD k 0) rfl (fun h2 => ?_) (fun h2 => ?_)
  ·refine qc (qa (qd (ii ((k : Int))) rfl (qg (ii ((k : Int))) rfl (qb (qu (qC (qk (qk (qC (qk (qq (L' := L) [ii ((k : Int))] (ii ((k : Int))) (.tmp rfl .nil) rfl rF rF sR ?_)))))))))))
   exact ⟨(vI (indexZ_some (by omega) (by omega) hall)), rfl, rfl⟩
  refine qw (qa (cX (qH (((k + 1 : Nat) : Int)) rfl rfl (by omega) (by omega) (qd (ii (((k + 1 : Nat) : Int))) rfl (qb ?_)))))
  exact ⟨k + 1, _, FLe.refl _, rF, ⟨rfl, rfl, rfl, rfl, ⟨⟩⟩, sR, ⟨rfl, (by omega), (fun i hi => (Nat.lt_or_ge i k).elim (fun h => hall i h) (fun h => by obtain rfl : i = k := (by omega); omega))⟩, (by omega)⟩
 refine jk (qt (qt (qM (qc (qa (qg (ii (-1)) rfl (qb (qu (qq (L' := L) [ii (-1)] (ii (-1)) (.tmp rfl .nil) rfl rF rF sR ?_)))))))))
 exact ⟨(vI (indexZ_none (fun i hi => hall i (by omega)))), rfl, rfl⟩

/- slices.Contains[[]int64,int64] -/
theorem Contains_spec {F : FH} {L : List HP} {xsv : Value} {xs : List Int} (hxs : IntsF F xsv xs) {n : Int} (hbd : xs.length ≤ 9223372036854775807) :
    Does prog 218 [xsv, ii (n)] F (L) (fun v F' L' => (.bool (decide (n ∈ xs)) : Value) = v ∧ F = F' ∧ L = L') := by
 refine qI func218 rfl rfl rfl (qc (qa (qg (.bool (false)) rfl (qb (qc (qa (qd (xsv) rfl (qd (ii (n)) rfl (cX (qm (args := [xsv, ii (n)]) call305 rfl (Index_spec (n := n) hxs (hbd := (by first | assumption | rfl | omega | simp))) ?_))))))))))
 rintro _ _ _ _ ⟨rfl, rfl, rfl⟩
 refine cX (jQ rfl rfl (qg (.bool (decide ((indexZ xs n : Int) ≥ 0))) rfl (qb (qu (qq (L' := L) [.bool (decide ((indexZ xs n : Int) ≥ 0))] (.bool (decide ((indexZ xs n : Int) ≥ 0))) (.tmp rfl .nil) rfl rF rF sR ?_)))))
 exact ⟨(vB (decide_eq_decide.2 indexZ_mem.symm)), rfl, rfl⟩

/- spec.l1Has -/
theorem l1Has_spec {F : FH} {L : List HP} {xsv : Value} {xs : List Int} (hxs : IntsF F xsv xs) {n : Int} (hbd : xs.length ≤ 9223372036854775807) :
    Does prog 259 [xsv, ii (n)] F (L) (fun v F' L' => (.bool (decide (n ∈ xs)) : Value) = v ∧ F = F' ∧ L = L') := by
 refine qI func259 rfl rfl rfl (qc (qa (qg (.bool (false)) rfl (qb (qc (qc (qa (qg (ii (0)) rfl (qb (qK (jl (α := Nat) (fun k => [(0, xsv), (1, ii (n)), (5, ii ((k : Int)))]) (fun k => L) (fun k F' => F = F' ∧ (k ≤ xs.length) ∧ (∀ i, i < k → xs.getD i 0 ≠ n)) (fun k => xs.length - k) 0 ⟨rfl, rfl, rfl, ⟨⟩⟩ sR ⟨rfl, (by omega), (fun i hi => absurd hi (by omega))⟩ ?_)))))))))))
 rintro k rE _ _ ⟨rfl, hk, hall⟩
 show X _ _ _ _ (envs [(0, xsv), (1, ii (n)), (5, ii ((k : Int)))] rE) _ (L)
 refine qc (qc (qa (qd (ii ((k : Int))) rfl (qd (xsv) rfl (cX (qE qf rfl hxs.slv (cX (qW rfl rfl (qb ?_)))))))))
 refine qA (p := (k : Int) < (xs.length : Int)) rfl (fun h1 => ?_) (fun h1 => ?_)
 ·refine qw (qc (qK (qc (qa (qd (xsv) rfl (qd (ii ((k : Int))) rfl (cX (qD k qf qB rfl rfl rfl hxs.slv (by omega) (Nat.mul_one _) (cX (qj jm rfl (hxs.rd (by omega)) (qd (ii (n)) rfl (cX (js rfl rfl (qb ?_))))))))))))))
  refine qA (p := (xs.getD k 0 : Int) = n) rfl (fun h2 => ?_) (fun h2 => ?_)
  ·refine qc (qa (qg (.bool (true)) rfl (qb (qu (qC (qk (qk (qC (qk (qq (L' := L) [.bool (true)] (.bool (true)) (.tmp rfl .nil) rfl rF rF sR ?_))))))))))
   exact ⟨(vB (decide_eq_true (mem_of_getD (k := k) (by omega) (by omega)))), rfl, rfl⟩
  refine qw (qa (qd (ii ((k : Int))) rfl (cX (qH (((k + 1 : Nat) : Int)) rfl rfl (by omega) (by omega) (qg (ii (((k + 1 : Nat) : Int))) rfl (qb ?_))))))
  exact ⟨k + 1, _, FLe.refl _, rF, ⟨rfl, rfl, rfl, ⟨⟩⟩, sR, ⟨rfl, (by omega), (fun i hi => (Nat.lt_or_ge i k).elim (fun h => hall i h) (fun h => by obtain rfl : i = k := (by omega); omega))⟩, (by omega)⟩
 refine jk (qt (qt (qM (qc (qa (qg (.bool (false)) rfl (qb (qu (qq (L' := L) [.bool (false)] (.bool (false)) (.tmp rfl .nil) rfl rF rF sR ?_)))))))))
 exact ⟨(vB (decide_eq_false (not_mem_of_getD (fun i hi => hall i (by omega))))), rfl, rfl⟩

/- spec.l1In -/
theorem l1In_spec {F : FH} {L : List HP} {n : Int} {a : Int} {b : Int} :
    Does prog 109 [ii (n), ii (a), ii (b)] F (L) (fun v F' L' => (.bool (decide (a ≤ n ∧ n ≤ b)) : Value) = v ∧ F = F' ∧ L = L') := by
 refine qI func109 rfl rfl rfl (qc (qa (qg (.bool (false)) rfl (qb (qc (qa (qd (ii (n)) rfl (qd (ii (a)) rfl (cX (jQ rfl rfl (qd (.bool (decide ((n : Int) ≥ a))) rfl ?_)))))))))))
 by_cases h1 : (n : Int) ≥ a
 ·refine qy (t := 10) rfl (vT h1) (qp (ii (n)) rfl (qy (t := 10) rfl (vT h1) (qp (ii (b)) rfl (qy (t := 10) rfl (vT h1) (XOp.leq rfl rfl (cX (jj (.bool (decide ((n : Int) ≤ b))) (vT h1) rfl (qg (.bool (decide ((n : Int) ≤ b))) rfl (qb (qu (qq (L' := L) [.bool (decide ((n : Int) ≤ b))] (.bool (decide ((n : Int) ≤ b))) (.tmp rfl .nil) rfl rF rF sR ?_)))))))))))
  exact ⟨(vB (decide_eq_decide.2 (by omega))), rfl, rfl⟩
 refine qx (t := 10) rfl (vF h1) (qx (t := 10) rfl (vF h1) (qx (t := 10) rfl (vF h1) (cX (qY (.bool (false)) (vF h1) rfl (qg (.bool (false)) rfl (qb (qu (qq (L' := L) [.bool (false)] (.bool (false)) (.tmp rfl .nil) rfl rF rF sR ?_))))))))
 exact ⟨(vB (decide_eq_false (by omega))), rfl, rfl⟩

/- spec.l1Arity -/
theorem l1Arity_spec {F : FH} {L : List HP} {arv : Value} {ar : List Int} (har : IntsF F arv ar) {n : Int} (hla : ar.length ≤ 4000000) :
    Does prog 299 [.agg #[arv], ii (n)] F (L) (fun v F' L' => (ii (sArity ar n) : Value) = v ∧ F = F' ∧ L = L') := by
 refine qI func299 rfl rfl rfl (qc (qa (cX (jc [arv] rfl rfl ?_))))
 intro b1
 refine qg (ii (0)) rfl (qb (qc (qK (qc (qa (qd (ii (n)) rfl (cX (qm (args := [ii (n), ii (-24), ii (-1)]) call109 rfl (l1In_spec (n := n) (a := -24) (b := -1)) ?_))))))))
 rintro _ _ _ _ ⟨rfl, rfl, rfl⟩
 refine qg (.bool (decide ((-24) ≤ n ∧ n ≤ (-1)))) rfl (qb ?_)
 refine qA (p := (-24) ≤ n ∧ n ≤ (-1)) rfl (fun h1 => ?_) (fun h1 => ?_)
 ·refine qc (qa (qg (ii (0)) rfl (qb (qu (qC (qk (qq (L' := L) [ii (0)] (ii (0)) (.tmp rfl .nil) rfl rF rF (sD sR) ?_)))))))
  exact ⟨(vI (by unfold sArity; split <;> (try split) <;> first | rfl | omega)), rfl, rfl⟩
 refine qc (qa (qd (ii (n)) rfl (cX (ql (0) jg rfl qs (by decide) rfl rfl (cX (qj qU rfl (Rd.own [] rfl rfl) (cX (qE qf rfl har.slv (cX (jq (((ar.length : Int)) - 1) rfl rfl (by omega) (by omega) (cX (qm (args := [ii (n), ii (0), ii (((ar.length : Int)) - 1)]) call109 rfl (l1In_spec (n := n) (a := 0) (b := ((ar.length : Int)) - 1)) ?_))))))))))))
 rintro _ _ _ _ ⟨rfl, rfl, rfl⟩
 refine qg (.bool (decide (0 ≤ n ∧ n ≤ (((ar.length : Int)) - 1)))) rfl (qb ?_)
 refine qA (p := 0 ≤ n ∧ n ≤ (((ar.length : Int)) - 1)) rfl (fun h2 => ?_) (fun h2 => ?_)
 ·refine qc (qa (cX (ql (0) jg rfl qs (by decide) rfl rfl (cX (qj qU rfl (Rd.own [] rfl rfl) (qd (ii (n)) rfl (cX (qD ((n).toNat) qf qB rfl rfl (by omega) har.slv (by omega) (Nat.mul_one _) (cX (qj jm rfl (har.rd (by omega)) (qg (ii (ar.getD ((n).toNat) 0)) rfl (qb (qu (qC (qk (qq (L' := L) [ii (ar.getD ((n).toNat) 0)] (ii (ar.getD ((n).toNat) 0)) (.tmp rfl .nil) rfl rF rF (sD sR) ?_))))))))))))))))
  exact ⟨(vI (by unfold sArity; split <;> (try split) <;> first | rfl | omega)), rfl, rfl⟩
 refine qw (qc (qa (qg (ii (-1)) rfl (qb (qu (qq (L' := L) [ii (-1)] (ii (-1)) (.tmp rfl .nil) rfl rF rF (sD sR) ?_))))))
 exact ⟨(vI (by unfold sArity; split <;> (try split) <;> first | rfl | omega)), rfl, rfl⟩

/- spec.SigOk -/
theorem sSigOk_spec {F : FH} {L : List HP} {arv : Value} {ar : List Int} (har : IntsF F arv ar) (hla : ar.length ≤ 4000000) :
    Does prog 120 [.agg #[arv]] F (L) (fun v F' L' => (.bool (sigOk ar) : Value) = v ∧ F = F' ∧ L = L') := by
 refine qI func120 rfl rfl rfl (qc (qa (cX (jc [arv] rfl rfl ?_))))
 intro b1
 refine qg (.bool (false)) rfl (qb (qc (qc (qa (cX (ql (0) jg rfl qs (by decide) rfl rfl (cX (qj qU rfl (Rd.own [] rfl rfl) (cX (qE qf rfl har.slv (cX (qm (args := [ii ((ar.length : Int)), ii (1), ii (8)]) call109 rfl (l1In_spec (n := (ar.length : Int)) (a := 1) (b := 8)) ?_))))))))))))
 rintro _ _ _ _ ⟨rfl, rfl, rfl⟩
 refine cX (XOp.notD rfl (qb ?_))
 refine qA (p := ¬(1 ≤ ((ar.length : Int)) ∧ ((ar.length : Int)) ≤ 8)) rfl (fun h1 => ?_) (fun h1 => ?_)
 ·refine qc (qa (qg (.bool (false)) rfl (qb (qu (qk (qq (L' := L) [.bool (false)] (.bool (false)) (.tmp rfl .nil) rfl rF rF (sD sR) ?_))))))
  exact ⟨(vB (sigOk_short (by omega))), rfl, rfl⟩
 refine qw (qc (qc (qa (qg (ii (0)) rfl (qb (qK (jl (α := Nat) (fun k => [(1, ptr b1 0), (3, ii ((k : Int)))]) (fun k => cellsH b1 [arv] 36 :: L) (fun k F' => F = F' ∧ (k ≤ ar.length) ∧ (∀ i, i < k → 0 ≤ ar.getD i 0 ∧ ar.getD i 0 ≤ 3)) (fun k => ar.length - k) 0 ⟨rfl, rfl, ⟨⟩⟩ (sC sR) ⟨rfl, (by omega), (fun i hi => absurd hi (by omega))⟩ ?_)))))))
 rintro k rE _ _ ⟨rfl, hk, hall⟩
 show X _ _ _ _ (envs [(1, ptr b1 0), (3, ii ((k : Int)))] rE) _ (cellsH b1 [arv] 36 :: L)
 refine qc (qc (qa (qd (ii ((k : Int))) rfl (cX (ql (0) jg rfl qs (by decide) rfl rfl (cX (qj qU rfl (Rd.own [] rfl rfl) (cX (qE qf rfl har.slv (cX (qW rfl rfl (qb ?_))))))))))))
 refine qA (p := (k : Int) < (ar.length : Int)) rfl (fun h2 => ?_) (fun h2 => ?_)
 ·refine qw (qc (qK (qc (qa (cX (ql (0) jg rfl qs (by decide) rfl rfl (cX (qj qU rfl (Rd.own [] rfl rfl) (qd (ii ((k : Int))) rfl (cX (qD k qf qB rfl rfl rfl har.slv (by omega) (Nat.mul_one _) (cX (qj jm rfl (har.rd (by omega)) (cX (qm (args := [ii (ar.getD k 0), ii (0), ii (3)]) call109 rfl (l1In_spec (n := ar.getD k 0) (a := 0) (b := 3)) ?_)))))))))))))))
  rintro _ _ _ _ ⟨rfl, rfl, rfl⟩
  refine cX (XOp.notD rfl (qb ?_))
  refine qA (p := ¬(0 ≤ (ar.getD k 0) ∧ (ar.getD k 0) ≤ 3)) rfl (fun h3 => ?_) (fun h3 => ?_)
  ·refine qc (qa (qg (.bool (false)) rfl (qb (qu (qC (qk (qk (qC (qk (qq (L' := L) [.bool (false)] (.bool (false)) (.tmp rfl .nil) rfl rF rF (sD sR) ?_))))))))))
   exact ⟨(vB (sigOk_bad (i := k) (by omega) (by omega))), rfl, rfl⟩
  refine qw (qa (qd (ii ((k : Int))) rfl (cX (qH (((k + 1 : Nat) : Int)) rfl rfl (by omega) (by omega) (qg (ii (((k + 1 : Nat) : Int))) rfl (qb ?_))))))
  exact ⟨k + 1, _, FLe.refl _, rF, ⟨rfl, rfl, ⟨⟩⟩, (sC sR), ⟨rfl, (by omega), (fun i hi => (Nat.lt_or_ge i k).elim (fun h => hall i h) (fun h => by obtain rfl : i = k := (by omega); omega))⟩, (by omega)⟩
 refine jk (qt (qt (qM (qc (qa (qg (.bool (true)) rfl (qb (qu (qq (L' := L) [.bool (true)] (.bool (true)) (.tmp rfl .nil) rfl rF rF (sD sR) ?_)))))))))
 exact ⟨(vB (sigOk_of (by omega) (by omega) (fun i hi => hall i (by omega)))), rfl, rfl⟩

/- spec.l1End -/
theorem l1End_spec {F : FH} {L : List HP} {arv : Value} {ar : List Int} (har : IntsF F arv ar) {tv : Value} {t : List Int} (ht : IntsF F tv t) {p0 : Nat} (hs : sigOk ar = true) (hlt : t.length ≤ 4000000) (hp : p0 ≤ t.length) :
    Does prog 208 [.agg #[arv], tv, ii ((p0 : Int))] F (L) (fun v F' L' => (ii (sEndZ ar t p0) : Value) = v ∧ F = F' ∧ L = L') := by
 refine qI func208 rfl rfl rfl ?_
 have hsl := sigOk_spec hs
 refine qc (qa (cX (jc [arv] rfl rfl ?_)))
 intro b1
 refine qg (ii (0)) rfl (qb (qc (qa (qg (ii (1)) rfl (qb (qc (qc (qa (qd (ii ((p0 : Int))) rfl (qg (ii ((p0 : Int))) rfl (qb (qK (jl (α := Nat × Nat) (fun xQ => [(1, tv), (3, ptr b1 0), (7, ii (((xQ.1 : Nat) : Int))), (8, ii (((xQ.2 : Nat) : Int)))]) (fun xQ => cellsH b1 [arv] 36 :: L) (fun xQ F' => F = F' ∧ (sEndGo ar (t.drop p0) 1 = (sEndGo ar (t.drop xQ.2) xQ.1).map (· + (xQ.2 - p0))) ∧ (p0 ≤ xQ.2 ∧ xQ.2 ≤ t.length) ∧ (1 ≤ xQ.1 ∧ xQ.1 ≤ 1 + 3 * xQ.2)) (fun xQ => t.length - xQ.2) (1, p0) ⟨rfl, rfl, rfl, rfl, ⟨⟩⟩ (sC sR) ⟨rfl, (by simp), (by omega), (by omega)⟩ ?_)))))))))))))
 rintro ⟨k, p⟩ rE _ _ ⟨rfl, hi, h1, h2⟩
 show X _ _ _ _ (envs [(1, tv), (3, ptr b1 0), (7, ii ((k : Int))), (8, ii ((p : Int)))] rE) _ (cellsH b1 [arv] 36 :: L)
 dsimp only at hi h1 h2
 refine qc (qc (qa (qd (ii ((p : Int))) rfl (qd (tv) rfl (cX (qE qf rfl ht.slv (cX (qW rfl rfl (qb ?_)))))))))
 refine qA (p := (p : Int) < (t.length : Int)) rfl (fun h1 => ?_) (fun h1 => ?_)
 ·refine qw (qc (qK (qc ?_)))
  refine jY [cellsH b1 [arv] 36] L 5 [] [[], [], [], [1, 2], [3]] (phiL [qe (.agg #[arv]), qe tv, qe (ii ((p : Int)) : Value), qe (.pointer (some (elemA tv (p)))), qe (ii (t.getD p 0))]) (ownL []) mixed rfl rfl (by kernel_rfl) ?_ ?_
  ·refine pD (fun W R z9 => ?_) ?_
   ·refine qi (qr [arv] qX qF rfl rfl (Rd.ownN [] rfl rfl) ?_)
    exact ⟨rfl, rfl, rfl⟩
   refine pD (fun W R z9 => ?_) ?_
   ·refine qi (qp (tv) rfl ?_)
    exact ⟨rfl, rfl, rfl⟩
   refine pD (fun W R z9 => ?_) ?_
   ·refine qi (qp (ii ((p : Int))) rfl ?_)
    exact ⟨rfl, rfl, rfl⟩
   refine pD (fun W R z9 => ?_) ?_
   ·rw [eS (l := [(1, _), (2, _)]) ⟨z9 1 rfl, z9 2 rfl, ⟨⟩⟩]
    refine qi (qD p qf qB rfl rfl rfl ht.slv (by omega) (Nat.mul_one _) ?_)
    exact ⟨rfl, rfl, rfl⟩
   refine pD (fun W R z9 => ?_) ?_
   ·rw [eS (l := [(3, _)]) ⟨z9 3 rfl, ⟨⟩⟩]
    refine qi (qj jm rfl (ht.rd (by omega)) ?_)
    exact ⟨rfl, rfl, rfl⟩
   exact stepsP.nil
  intro W hphi
  rw [eS (l := [(0, _), (4, _)]) ⟨(hphi 0 (by decide)), (hphi 4 (by decide)), ⟨⟩⟩]
  show XL _ _ _ _ _ _ _ (cellsH b1 [arv] 36 :: L)
  refine cX (qm (args := [.agg #[arv], ii (t.getD p 0)]) call299 rfl (l1Arity_spec (n := t.getD p 0) har (hla := (by first | assumption | rfl | omega | simp))) ?_)
  rintro _ _ _ _ ⟨rfl, rfl, rfl⟩
  refine qg (ii (sArity ar (t.getD p 0))) rfl (qb (qc (qc (qa (qd (ii (sArity ar (t.getD p 0))) rfl (cX (qW rfl rfl (qb ?_))))))))
  refine qA (p := (sArity ar (t.getD p 0) : Int) < 0) rfl (fun h2 => ?_) (fun h2 => ?_)
  ·rw [sArity_neg hs] at h2
   refine qc (qa (qg (ii (-1)) rfl (qb (qu (qk (qC (qk (qk (qC (qk (qq (L' := L) [ii (-1)] (ii (-1)) (.tmp rfl .nil) rfl rF rF (sD sR) ?_)))))))))))
   exact ⟨(vI (by unfold sEndZ; rw [hi, sEndGo_none (by omega) (by omega)]; rfl)), rfl, rfl⟩
  have hA : -24 ≤ t.getD p 0 ∧ t.getD p 0 < ar.length := by rw [sArity_neg hs] at h2; omega
  have hB := arity_le hs hA.2
  have hC := sArity_eq hA
  refine qw (qc (qa (qd (ii ((k : Int))) rfl (qd (ii (sArity ar (t.getD p 0))) rfl (cX (qH (((k + (arity ar (t.getD p 0)).toNat : Nat) : Int)) rfl rfl (by omega) (by omega) (cX (jq (((k - 1 + (arity ar (t.getD p 0)).toNat : Nat) : Int)) rfl rfl (by omega) (by omega) (qg (ii (((k - 1 + (arity ar (t.getD p 0)).toNat : Nat) : Int))) rfl (qb (qc (qa (qd (ii (((k - 1 + (arity ar (t.getD p 0)).toNat : Nat) : Int))) rfl (cX (js rfl rfl (qb ?_))))))))))))))))
  refine qA (p := (((k - 1 + (arity ar (t.getD p 0)).toNat : Nat) : Int) : Int) = 0) rfl (fun h3 => ?_) (fun h3 => ?_)
  ·refine qc (qa (qd (ii ((p : Int))) rfl (cX (qH (((p + 1 : Nat) : Int)) rfl rfl (by omega) (by omega) (qg (ii (((p + 1 : Nat) : Int))) rfl (qb (qu (qC (qk (qk (qC (qk (qq (L' := L) [ii (((p + 1 : Nat) : Int))] (ii (((p + 1 : Nat) : Int))) (.tmp rfl .nil) rfl rF rF (sD sR) ?_)))))))))))))
   exact ⟨(vI (by have hz := sEndGo_step (ar := ar) (t := t) (p := p) (k := k) (by omega) (by omega) hA; rw [show k - 1 + (arity ar (t.getD p 0)).toNat = 0 from by omega] at hz; unfold sEndZ; rw [hi, hz]; simp [sEndGo]; omega)), rfl, rfl⟩
  refine qw (qa (qd (ii ((p : Int))) rfl (cX (qH (((p + 1 : Nat) : Int)) rfl rfl (by omega) (by omega) (qg (ii (((p + 1 : Nat) : Int))) rfl (qb ?_))))))
  exact ⟨(k - 1 + (arity ar (t.getD p 0)).toNat, p + 1), _, FLe.refl _, rF, ⟨rfl, rfl, rfl, rfl, ⟨⟩⟩, (sC sR), ⟨rfl, (by rw [hi, sEndGo_step (by omega) (by omega) (by omega), Option.map_map]; congr 1; funext e; simp; omega), (by omega), (by omega)⟩, (by omega)⟩
 refine jk (qt (qt (qM (qc (qa (qg (ii (-1)) rfl (qb (qu (qq (L' := L) [ii (-1)] (ii (-1)) (.tmp rfl .nil) rfl rF rF (sD sR) ?_)))))))))
 exact ⟨(vI (by unfold sEndZ; rw [hi, sEndGo_none (by omega) (by omega)]; rfl)), rfl, rfl⟩

/- impl.TermOk -/
theorem TermOk_spec {F : FH} {L : List HP} {arv : Value} {ar : List Int} (har : IntsF F arv ar) {tv : Value} {t : List Int} (ht : IntsF F tv t) :
    Does prog 112 [.agg #[arv], tv] F (L) (fun v F' L' => (.bool (termOk ar t) : Value) = v ∧ F = F' ∧ L = L') := by
 refine qI func112 rfl rfl rfl (qc (qa (cX (jc [arv] rfl rfl ?_))))
 intro b1
 refine qg (.bool (false)) rfl (qb (qc (qa (cX (qr [arv] qX qF rfl rfl (Rd.ownN [] rfl rfl) (cX (qm (args := [.agg #[arv]]) call158 rfl (SigOk_spec har) ?_)))))))
 rintro _ _ _ _ ⟨rfl, rfl, rfl⟩
 refine qd (.bool (sigOk ar)) rfl ?_
 by_cases h1 : (sigOk ar) = true
 ·refine qy (t := 7) rfl (vB h1) (qp (tv) rfl (qy (t := 7) rfl (vB h1) (qE qf rfl ht.slv (qy (t := 7) rfl (vB h1) (jI rfl rfl (cX (jj (.bool (decide (((t.length : Int) : Int) > 0))) (vB h1) rfl (qd (.bool (decide (((t.length : Int) : Int) > 0))) rfl ?_))))))))
  by_cases h2 : ((t.length : Int) : Int) > 0
  ·refine qy (t := 12) rfl (vT h2) (qp (tv) rfl (qy (t := 12) rfl (vT h2) (qE qf rfl ht.slv (qy (t := 12) rfl (vT h2) (XOp.leq rfl rfl (cX (jj (.bool (decide (((t.length : Int) : Int) ≤ 60))) (vT h2) rfl (qd (.bool (decide (((t.length : Int) : Int) ≤ 60))) rfl ?_))))))))
   by_cases h3 : ((t.length : Int) : Int) ≤ 60
   ·refine qy (t := 17) rfl (vT h3) (qp (tv) rfl (qy (t := 17) rfl (vT h3) (qm (args := [tv]) call219 rfl (Min_spec ht (h1 := (by first | assumption | rfl | omega | simp)) (hbd := (by first | assumption | rfl | omega | simp))) ?_)))
    rintro _ _ _ _ ⟨rfl, rfl, rfl⟩
    refine qy (t := 17) rfl (vT h3) (jQ rfl rfl (cX (jj (.bool (decide ((minL t : Int) ≥ -24))) (vT h3) rfl (qd (.bool (decide ((minL t : Int) ≥ -24))) rfl ?_))))
    by_cases h4 : (minL t : Int) ≥ -24
    ·refine qy (t := 22) rfl (vT h4) (qr [arv] qX qF rfl rfl (Rd.ownN [] rfl rfl) (qy (t := 22) rfl (vT h4) (qp (tv) rfl (qy (t := 22) rfl (vT h4) (qm (args := [.agg #[arv], tv, ii ((0 : Nat) : Int)]) call206 rfl (endAt_spec (p := 0) har ht (hs := (by first | assumption | rfl | omega | simp)) (hb := (by first | assumption | rfl | omega | simp)) (hp := (by first | assumption | rfl | omega | simp))) ?_)))))
     rintro _ _ _ _ ⟨rfl, rfl, rfl⟩
     refine qy (t := 22) rfl (vT h4) (qp (tv) rfl (qy (t := 22) rfl (vT h4) (qE qf rfl ht.slv (qy (t := 22) rfl (vT h4) (js rfl rfl (cX (jj (.bool (decide ((endZ ar t 0 : Int) = (t.length : Int)))) (vT h4) rfl (qg (.bool (decide ((endZ ar t 0 : Int) = (t.length : Int)))) rfl (qb (qu (qq (L' := L) [.bool (decide ((endZ ar t 0 : Int) = (t.length : Int)))] (.bool (decide ((endZ ar t 0 : Int) = (t.length : Int)))) (.tmp rfl .nil) rfl rF rF (sD sR) ?_)))))))))))
     exact ⟨(vB (termOk_of (by assumption) (by omega) (by omega) (by omega))), rfl, rfl⟩
    refine qx (t := 22) rfl (vF h4) (qx (t := 22) rfl (vF h4) (qx (t := 22) rfl (vF h4) (qx (t := 22) rfl (vF h4) (qx (t := 22) rfl (vF h4) (qx (t := 22) rfl (vF h4) (cX (qY (.bool (false)) (vF h4) rfl (qg (.bool (false)) rfl (qb (qu (qq (L' := L) [.bool (false)] (.bool (false)) (.tmp rfl .nil) rfl rF rF (sD sR) ?_)))))))))))
    exact ⟨(vB (by first | (refine termOk_nosig ?_; assumption) | (refine termOk_short ?_; omega) | (refine termOk_min ?_ ?_ <;> omega))), rfl, rfl⟩
   refine qx (t := 17) rfl (vF h3) (qx (t := 17) rfl (vF h3) (qx (t := 17) rfl (vF h3) (cX (qY (.bool (false)) (vF h3) rfl (qd (.bool (false)) rfl (qx (t := 22) rfl rfl (qx (t := 22) rfl rfl (qx (t := 22) rfl rfl (qx (t := 22) rfl rfl (qx (t := 22) rfl rfl ?_))))))))))
   refine qx (t := 22) rfl rfl (cX (qY (.bool (false)) rfl rfl (qg (.bool (false)) rfl (qb (qu (qq (L' := L) [.bool (false)] (.bool (false)) (.tmp rfl .nil) rfl rF rF (sD sR) ?_))))))
   exact ⟨(vB (by first | (refine termOk_nosig ?_; assumption) | (refine termOk_short ?_; omega) | (refine termOk_min ?_ ?_ <;> omega))), rfl, rfl⟩
  refine qx (t := 12) rfl (vF h2) (qx (t := 12) rfl (vF h2) (qx (t := 12) rfl (vF h2) (cX (qY (.bool (false)) (vF h2) rfl (qd (.bool (false)) rfl (qx (t := 17) rfl rfl (qx (t := 17) rfl rfl (qx (t := 17) rfl rfl (cX (qY (.bool (false)) rfl rfl (qd (.bool (false)) rfl ?_)))))))))))
  refine qx (t := 22) rfl rfl (qx (t := 22) rfl rfl (qx (t := 22) rfl rfl (qx (t := 22) rfl rfl (qx (t := 22) rfl rfl (qx (t := 22) rfl rfl (cX (qY (.bool (false)) rfl rfl (qg (.bool (false)) rfl (qb (qu (qq (L' := L) [.bool (false)] (.bool (false)) (.tmp rfl .nil) rfl rF rF (sD sR) ?_)))))))))))
  exact ⟨(vB (by first | (refine termOk_nosig ?_; assumption) | (refine termOk_short ?_; omega) | (refine termOk_min ?_ ?_ <;> omega))), rfl, rfl⟩
 rw [Bool.not_eq_true] at h1
 refine qx (t := 7) rfl (vB h1) (qx (t := 7) rfl (vB h1) (qx (t := 7) rfl (vB h1) (cX (qY (.bool (false)) (vB h1) rfl (qd (.bool (false)) rfl (qx (t := 12) rfl rfl (qx (t := 12) rfl rfl (qx (t := 12) rfl rfl (cX (qY (.bool (false)) rfl rfl (qd (.bool (false)) rfl ?_)))))))))))
 refine qx (t := 17) rfl rfl (qx (t := 17) rfl rfl (qx (t := 17) rfl rfl (cX (qY (.bool (false)) rfl rfl (qd (.bool (false)) rfl (qx (t := 22) rfl rfl (qx (t := 22) rfl rfl (qx (t := 22) rfl rfl (qx (t := 22) rfl rfl (qx (t := 22) rfl rfl ?_))))))))))
 refine qx (t := 22) rfl rfl (cX (qY (.bool (false)) rfl rfl (qg (.bool (false)) rfl (qb (qu (qq (L' := L) [.bool (false)] (.bool (false)) (.tmp rfl .nil) rfl rF rF (sD sR) ?_))))))
 exact ⟨(vB (by first | (refine termOk_nosig ?_; assumption) | (refine termOk_short ?_; omega) | (refine termOk_min ?_ ?_ <;> omega))), rfl, rfl⟩

/- spec.TermOk -/
theorem sTermOk_spec {F : FH} {L : List HP} {arv : Value} {ar : List Int} (har : IntsF F arv ar) {tv : Value} {t : List Int} (ht : IntsF F tv t) (hla : ar.length ≤ 4000000) (hlt : t.length ≤ 4000000) :
    Does prog 202 [.agg #[arv], tv] F (L) (fun v F' L' => (.bool (termOk ar t) : Value) = v ∧ F = F' ∧ L = L') := by
 refine qI func202 rfl rfl rfl (qc (qa (cX (jc [arv] rfl rfl ?_))))
 intro b1
 refine qg (.bool (false)) rfl (qb (qc (qa (cX (qr [arv] qX qF rfl rfl (Rd.ownN [] rfl rfl) (cX (qm (args := [.agg #[arv]]) call120 rfl (sSigOk_spec har (hla := (by first | assumption | rfl | omega | simp))) ?_)))))))
 rintro _ _ _ _ ⟨rfl, rfl, rfl⟩
 refine qd (.bool (sigOk ar)) rfl ?_
 by_cases h1 : (sigOk ar) = true
 ·refine qy (t := 7) rfl (vB h1) (qp (tv) rfl (qy (t := 7) rfl (vB h1) (qE qf rfl ht.slv (qy (t := 7) rfl (vB h1) (qm (args := [ii ((t.length : Int)), ii (1), ii (60)]) call109 rfl (l1In_spec (n := (t.length : Int)) (a := 1) (b := 60)) ?_)))))
  rintro _ _ _ _ ⟨rfl, rfl, rfl⟩
  refine cX (jj (.bool (decide (1 ≤ ((t.length : Int)) ∧ ((t.length : Int)) ≤ 60))) (vB h1) rfl (qd (.bool (decide (1 ≤ ((t.length : Int)) ∧ ((t.length : Int)) ≤ 60))) rfl ?_))
  by_cases h2 : 1 ≤ ((t.length : Int)) ∧ ((t.length : Int)) ≤ 60
  ·refine qy (t := 12) rfl (vT h2) (qr [arv] qX qF rfl rfl (Rd.ownN [] rfl rfl) (qy (t := 12) rfl (vT h2) (qp (tv) rfl (qy (t := 12) rfl (vT h2) (qm (args := [.agg #[arv], tv, ii ((0 : Nat) : Int)]) call208 rfl (l1End_spec (p0 := 0) har ht (hs := (by first | assumption | rfl | omega | simp)) (hlt := (by first | assumption | rfl | omega | simp)) (hp := (by first | assumption | rfl | omega | simp))) ?_)))))
   rintro _ _ _ _ ⟨rfl, rfl, rfl⟩
   refine qy (t := 12) rfl (vT h2) (qp (tv) rfl (qy (t := 12) rfl (vT h2) (qE qf rfl ht.slv (qy (t := 12) rfl (vT h2) (js rfl rfl (cX (jj (.bool (decide ((sEndZ ar t 0 : Int) = (t.length : Int)))) (vT h2) rfl (qg (.bool (decide ((sEndZ ar t 0 : Int) = (t.length : Int)))) rfl (qb (qu (qq (L' := L) [.bool (decide ((sEndZ ar t 0 : Int) = (t.length : Int)))] (.bool (decide ((sEndZ ar t 0 : Int) = (t.length : Int)))) (.tmp rfl .nil) rfl rF rF (sD sR) ?_)))))))))))
   exact ⟨(vB (termOk_s (by assumption) (by omega))), rfl, rfl⟩
  refine qx (t := 12) rfl (vF h2) (qx (t := 12) rfl (vF h2) (qx (t := 12) rfl (vF h2) (qx (t := 12) rfl (vF h2) (qx (t := 12) rfl (vF h2) (qx (t := 12) rfl (vF h2) (cX (qY (.bool (false)) (vF h2) rfl (qg (.bool (false)) rfl (qb (qu (qq (L' := L) [.bool (false)] (.bool (false)) (.tmp rfl .nil) rfl rF rF (sD sR) ?_)))))))))))
  exact ⟨(vB (by first | (refine termOk_nosig ?_; assumption) | (refine termOk_short ?_; omega))), rfl, rfl⟩
 rw [Bool.not_eq_true] at h1
 refine qx (t := 7) rfl (vB h1) (qx (t := 7) rfl (vB h1) (qx (t := 7) rfl (vB h1) (cX (qY (.bool (false)) (vB h1) rfl (qd (.bool (false)) rfl (qx (t := 12) rfl rfl (qx (t := 12) rfl rfl (qx (t := 12) rfl rfl (qx (t := 12) rfl rfl (qx (t := 12) rfl rfl ?_))))))))))
 refine qx (t := 12) rfl rfl (cX (qY (.bool (false)) rfl rfl (qg (.bool (false)) rfl (qb (qu (qq (L' := L) [.bool (false)] (.bool (false)) (.tmp rfl .nil) rfl rF rF (sD sR) ?_))))))
 exact ⟨(vB (by first | (refine termOk_nosig ?_; assumption) | (refine termOk_short ?_; omega))), rfl, rfl⟩

theorem endAt_ok {F : FH} {L : List HP} {p : Nat} {arv : Value} {ar : List Int} (har : IntsF F arv ar) {tv : Value} {t : List Int} (ht : IntsF F tv t) (ho : termOk ar t = true) (hp : p < t.length) :
    Does prog 206 [.agg #[arv], tv, ii (p : Int)] F L (fun v F' L' => (ii ((endN ar t p : Nat) : Int) : Value) = v ∧ F = F' ∧ L = L') := by
  have hl := termOk_len ho
  have h := endAt_spec (F := F) (L := L) (p := p) har ht (termOk_sig ho) (by omega) (by omega)
  rw [endZ_endN ho hp] at h
  exact h

theorem l1End_ok {F : FH} {L : List HP} {p : Nat} {arv : Value} {ar : List Int} (har : IntsF F arv ar) {tv : Value} {t : List Int} (ht : IntsF F tv t) (ho : termOk ar t = true) (hp : p < t.length) :
    Does prog 208 [.agg #[arv], tv, ii (p : Int)] F L (fun v F' L' => (ii ((endN ar t p : Nat) : Int) : Value) = v ∧ F = F' ∧ L = L') := by
  have hl := termOk_len ho
  have h := l1End_spec (F := F) (L := L) (p0 := p) har ht (termOk_sig ho) (by omega) (by omega)
  rw [sEndZ_endN ho hp] at h
  exact h


/- impl.inside -/
theorem inside_spec {F : FH} {L : List HP} {arv : Value} {ar : List Int} (har : IntsF F arv ar) {tv : Value} {t : List Int} (ht : IntsF F tv t) {p : Nat} {q : Int} (ho : termOk ar t = true) (hp : p < t.length) :
    Does prog 384 [.agg #[arv], tv, ii ((p : Int)), ii (q)] F (L) (fun v F' L' => (.bool (decide ((p : Int) ≤ q ∧ q < (endN ar t p : Int))) : Value) = v ∧ F = F' ∧ L = L') := by
 refine qI func384 rfl rfl rfl ?_
 have hsl := sigOk_spec (termOk_sig ho)
 have htl := termOk_len ho
 have hsig := termOk_sig ho
 refine qc (qa (cX (jc [arv] rfl rfl ?_)))
 intro b1
 refine qg (.bool (false)) rfl (qb (qc (qa (qd (ii (q)) rfl (qd (ii ((p : Int))) rfl (cX (jQ rfl rfl (qd (.bool (decide ((q : Int) ≥ (p : Int)))) rfl ?_))))))))
 by_cases h1 : (q : Int) ≥ (p : Int)
 ·refine qy (t := 12) rfl (vT h1) (qp (ii (q)) rfl (qy (t := 12) rfl (vT h1) (qr [arv] qX qF rfl rfl (Rd.ownN [] rfl rfl) (qy (t := 12) rfl (vT h1) (qp (tv) rfl (qy (t := 12) rfl (vT h1) (qp (ii ((p : Int))) rfl (qy (t := 12) rfl (vT h1) (qm (args := [.agg #[arv], tv, ii (p : Int)]) call206 rfl (endAt_ok (p := p) har ht (ho := (by first | assumption | rfl | omega | (left; simp; done) | (right; simp; done))) (hp := (by first | assumption | rfl | omega | (left; simp; done) | (right; simp; done)))) ?_)))))))))
  rintro _ _ _ _ ⟨rfl, rfl, rfl⟩
  refine qy (t := 12) rfl (vT h1) (qW rfl rfl (cX (jj (.bool (decide ((q : Int) < ((endN ar t p : Nat) : Int)))) (vT h1) rfl (qg (.bool (decide ((q : Int) < ((endN ar t p : Nat) : Int)))) rfl (qb (qu (qq (L' := L) [.bool (decide ((q : Int) < ((endN ar t p : Nat) : Int)))] (.bool (decide ((q : Int) < ((endN ar t p : Nat) : Int)))) (.tmp rfl .nil) rfl rF rF (sD sR) ?_)))))))
  exact ⟨(vB (decide_eq_decide.2 (by omega))), rfl, rfl⟩
 refine qx (t := 12) rfl (vF h1) (qx (t := 12) rfl (vF h1) (qx (t := 12) rfl (vF h1) (qx (t := 12) rfl (vF h1) (qx (t := 12) rfl (vF h1) (qx (t := 12) rfl (vF h1) (cX (qY (.bool (false)) (vF h1) rfl (qg (.bool (false)) rfl (qb (qu (qq (L' := L) [.bool (false)] (.bool (false)) (.tmp rfl .nil) rfl rF rF (sD sR) ?_)))))))))))
 exact ⟨(vB (decide_eq_false (by omega))), rfl, rfl⟩

/- impl.subAt -/
theorem subAt_spec {F : FH} {L : List HP} {arv : Value} {ar : List Int} (har : IntsF F arv ar) {tv : Value} {t : List Int} (ht : IntsF F tv t) {p : Nat} (ho : termOk ar t = true) (hp : p < t.length) (hnn : isNil tv = false) :
    Does prog 142 [.agg #[arv], tv, ii ((p : Int))] F (L) (fun v F' L' => F = F' ∧ L = L' ∧ IntsF F v (sub ar t p) ∧ isNil v = false) := by
 refine qI func142 rfl rfl rfl ?_
 have hsl := sigOk_spec (termOk_sig ho)
 have htl := termOk_len ho
 have hsig := termOk_sig ho
 have hee := endN_spec ho hp
 refine qc (qa (cX (jc [arv] rfl rfl ?_)))
 intro b1
 refine qg (sN) rfl (qb (qc (qa (qd (tv) rfl (qd (ii ((p : Int))) rfl (cX (qr [arv] qX qF rfl rfl (Rd.ownN [] rfl rfl) (qd (tv) rfl (qd (ii ((p : Int))) rfl (cX (qm (args := [.agg #[arv], tv, ii (p : Int)]) call206 rfl (endAt_ok (p := p) har ht (ho := (by first | assumption | rfl | omega | (left; simp; done) | (right; simp; done))) (hp := (by first | assumption | rfl | omega | (left; simp; done) | (right; simp; done)))) ?_)))))))))))
 rintro _ _ _ _ ⟨rfl, rfl, rfl⟩
 refine cX (XOp.sliceI p (endN ar t p) qf qB rfl ht ⟨_, rfl⟩ ⟨_, rfl⟩ (by omega) (by omega) ?_)
 intro v1 hv1 hn1
 refine qg (v1) rfl (qb (qu (qq (L' := L) [v1] (v1) (.tmp rfl .nil) rfl rF rF (sD sR) ?_)))
 exact ⟨rfl, rfl, hv1, by rw [hn1]; exact hnn⟩

/- spec.l1Copy -/
theorem l1Copy_spec {F : FH} {L : List HP} {tv : Value} {t : List Int} (ht : IntsF F tv t) (hlt : t.length ≤ 4000000) :
    Does prog 105 [tv] F (L) (fun v F' L' => F = F' ∧ IsSl v ∧ intsH 2 v t :: L = L') := by
 refine qI func105 rfl rfl rfl (qc (qa (qg (sN) rfl (qb (qc (qa (cX (qo (s := 1) [] [ii (0)] [] qf qB qS rfl (by decide) rfl CellsAre.nil rfl ?_))))))))
 intro v1 hv1
 refine qd (tv) rfl ?_
 show XL _ _ _ _ _ _ _ (intsH 2 v1 ([] : List Int) :: L)
 refine cX (XOp.appendI [] _ qf typeInfo2 rfl rfl rfl rfl rfl rfl ht (by (try simp only [List.length_append, List.length_nil, List.length_cons, List.length_singleton, List.length_take, List.length_drop]); omega) ?_)
 intro v2 hs1 hn1 hm1
 refine qg (v2) rfl (qb (qu (qq (L' := intsH 2 v2 (([] : List Int) ++ t) :: L) [v2] (v2) (.tmp rfl .nil) rfl rF rF (sC sR) ?_)))
 refine ⟨rfl, hs1, ?_⟩
 have hxs : (t : List Int) = ([] : List Int) ++ t := by simp
 exact congrArg (fun z => intsH 2 _ z :: L) hxs

/- slices.Clone[[]int64,int64] -/
theorem Clone_spec {F : FH} {L : List HP} {tv : Value} {t : List Int} (ht : IntsF F tv t) (hlt : t.length ≤ 4000000) :
    Does prog 96 [tv] F (L) (fun v F' L' => F = F' ∧ IsSl v ∧ intsH 2 v t :: L = L') := by
 refine qI func96 rfl rfl rfl (qc (qa (qg (sN) rfl (qb (qc (qc (qa (qd (tv) rfl (cX (XOp.eqNil qf rfl rfl (qz ht) (qb ?_)))))))))))
 refine jz (t := isNil tv) rfl (fun h1 => ?_) (fun h1 => ?_)
 ·refine qc (qa (qg (sN) rfl (qb (qu (qk (qq (L' := intsH 2 (sN) ([]) :: L) [sN] (sN) (.tmp rfl .nil) rfl rF rF (qR (intsH.addNil 2 none _) (sC sR)) ?_))))))
  refine ⟨rfl, ⟨_, _, _, rfl⟩, ?_⟩
  have hxs : (t : List Int) = [] := by exact nil_of_isNil ht h1
  exact congrArg (fun z => intsH 2 _ z :: L) hxs
 refine qw (qc (qa (cX (qo (s := 1) [] [ii (0)] [] qf qB qS rfl (by decide) rfl CellsAre.nil rfl ?_))))
 intro v1 hv1
 refine qd (tv) rfl ?_
 show XL _ _ _ _ _ _ _ (intsH 2 v1 ([] : List Int) :: L)
 refine cX (XOp.appendI [] _ qf typeInfo2 rfl rfl rfl rfl rfl rfl ht (by (try simp only [List.length_append, List.length_nil, List.length_cons, List.length_singleton, List.length_take, List.length_drop]); omega) ?_)
 intro v2 hs1 hn1 hm1
 refine qg (v2) rfl (qb (qu (qq (L' := intsH 2 v2 (([] : List Int) ++ t) :: L) [v2] (v2) (.tmp rfl .nil) rfl rF rF (sC sR) ?_)))
 refine ⟨rfl, hs1, ?_⟩
 have hxs : (t : List Int) = ([] : List Int) ++ t := by simp
 exact congrArg (fun z => intsH 2 _ z :: L) hxs

/- spec.l1Sub -/
theorem l1Sub_spec {F : FH} {L : List HP} {arv : Value} {ar : List Int} (har : IntsF F arv ar) {tv : Value} {t : List Int} (ht : IntsF F tv t) {p : Nat} (ho : termOk ar t = true) (hp : p < t.length) :
    Does prog 150 [.agg #[arv], tv, ii ((p : Int))] F (L) (fun v F' L' => F = F' ∧ IsSl v ∧ intsH 2 v (sub ar t p) :: L = L') := by
 refine qI func150 rfl rfl rfl ?_
 have hsl := sigOk_spec (termOk_sig ho)
 have htl := termOk_len ho
 have hsig := termOk_sig ho
 have hee := endN_spec ho hp
 refine qc (qa (cX (jc [arv] rfl rfl ?_)))
 intro b1
 refine qg (sN) rfl (qb (qc (qa (qd (tv) rfl (qd (ii ((p : Int))) rfl (cX (qr [arv] qX qF rfl rfl (Rd.ownN [] rfl rfl) (qd (tv) rfl (qd (ii ((p : Int))) rfl (cX (qm (args := [.agg #[arv], tv, ii (p : Int)]) call208 rfl (l1End_ok (p := p) har ht (ho := (by first | assumption | rfl | omega | (left; simp; done) | (right; simp; done))) (hp := (by first | assumption | rfl | omega | (left; simp; done) | (right; simp; done)))) ?_)))))))))))
 rintro _ _ _ _ ⟨rfl, rfl, rfl⟩
 refine cX (XOp.sliceI p (endN ar t p) qf qB rfl ht ⟨_, rfl⟩ ⟨_, rfl⟩ (by omega) (by omega) ?_)
 intro v1 hv1 hn1
 refine cX (qm (args := [v1]) call105 rfl (l1Copy_spec hv1 (hlt := (by rw [List.length_take, List.length_drop]; omega))) ?_)
 rintro v2 _ _ _ ⟨rfl, hs1, rfl⟩
 refine qg (v2) rfl (qb (qu (qq (L' := intsH 2 v2 (((((t.drop p).take ((endN ar t p) - p))))) :: L) [v2] (v2) (.tmp rfl .nil) rfl rF rF (sC (sD sR)) ?_)))
 refine ⟨rfl, hs1, ?_⟩
 have hxs : (sub ar t p : List Int) = ((((t.drop p).take ((endN ar t p) - p)))) := rfl
 exact congrArg (fun z => intsH 2 _ z :: L) hxs

/- impl.RuleOk -/
theorem RuleOk_spec {F : FH} {L : List HP} {arv : Value} {ar : List Int} (har : IntsF F arv ar) {lv : Value} {l : List Int} (hl : IntsF F lv l) {rv : Value} {r : List Int} (hr : IntsF F rv r) :
    Does prog 264 [.agg #[arv], .agg #[lv, rv]] F (L) (fun v F' L' => (.bool (ruleOk ar l r) : Value) = v ∧ F = F' ∧ L = L') := by
 refine qI func264 rfl rfl rfl (qc (qa (cX (jc [arv] rfl rfl ?_))))
 intro b1
 refine cX (jc [lv, rv] rfl rfl ?_)
 intro b2
 refine qg (.bool (false)) rfl (qb (qc (qc (qa (cX (qr [arv] qX qF rfl rfl (Rd.ownN [_] rfl rfl) (cX (ql (0) qV rfl qs (by decide) rfl rfl (cX (qj qU rfl (Rd.own [] rfl rfl) (cX (qm (args := [.agg #[arv], lv]) call112 rfl (TermOk_spec har hl) ?_))))))))))))
 rintro _ _ _ _ ⟨rfl, rfl, rfl⟩
 refine cX (jE rfl (qd (.bool (!(termOk ar l))) rfl ?_))
 by_cases h1 : (!(termOk ar l)) = true
 ·refine qx (t := 12) rfl (vB h1) (qx (t := 12) rfl (vB h1) (qx (t := 12) rfl (vB h1) (qx (t := 12) rfl (vB h1) (qx (t := 12) rfl (vB h1) (cX (jj (.bool (true)) (vB h1) rfl (qd (.bool (true)) rfl (qx (t := 19) rfl rfl (qx (t := 19) rfl rfl (qx (t := 19) rfl rfl ?_))))))))))
  refine qx (t := 19) rfl rfl (qx (t := 19) rfl rfl (cX (jj (.bool (true)) rfl rfl (qb (yd rfl (qc (qa (qg (.bool (false)) rfl (qb (qu (qk (qq (L' := L) [.bool (false)] (.bool (false)) (.tmp rfl .nil) rfl rF rF (sD (sD sR)) ?_))))))))))))
  exact ⟨(vB (ruleOk_false (fun h => by have := h.left; have := h.right; have := h.head; simp_all <;> omega))), rfl, rfl⟩
 rw [Bool.not_eq_true] at h1
 have hlo : termOk ar l = true := by simpa using h1
 have hl60 := termOk_len hlo
 refine qy (t := 12) rfl (vB h1) (qr [arv] qX qF rfl rfl (Rd.ownN [_] rfl rfl) (qy (t := 12) rfl (vB h1) (ql (1) qV rfl qs (by decide) rfl rfl (qy (t := 12) rfl (vB h1) (qj qU rfl (Rd.own [] rfl rfl) (qy (t := 12) rfl (vB h1) (qm (args := [.agg #[arv], rv]) call112 rfl (TermOk_spec har hr) ?_)))))))
 rintro _ _ _ _ ⟨rfl, rfl, rfl⟩
 refine qy (t := 12) rfl (vB h1) (jE rfl (cX (qY (.bool (!(termOk ar r))) (vB h1) rfl (qd (.bool (!(termOk ar r))) rfl ?_))))
 by_cases h2 : (!(termOk ar r)) = true
 ·refine qx (t := 19) rfl (vB h2) (qx (t := 19) rfl (vB h2) (qx (t := 19) rfl (vB h2) (qx (t := 19) rfl (vB h2) (qx (t := 19) rfl (vB h2) (cX (jj (.bool (true)) (vB h2) rfl (qb (yd rfl (qc (qa (qg (.bool (false)) rfl ?_)))))))))))
  refine qb (qu (qk (qq (L' := L) [.bool (false)] (.bool (false)) (.tmp rfl .nil) rfl rF rF (sD (sD sR)) ?_)))
  exact ⟨(vB (ruleOk_false (fun h => by have := h.left; have := h.right; have := h.head; simp_all <;> omega))), rfl, rfl⟩
 rw [Bool.not_eq_true] at h2
 have hro : termOk ar r = true := by simpa using h2
 have hr60 := termOk_len hro
 refine qy (t := 19) rfl (vB h2) (ql (0) qV rfl qs (by decide) rfl rfl (qy (t := 19) rfl (vB h2) (qj qU rfl (Rd.own [] rfl rfl) (qy (t := 19) rfl (vB h2) (qD 0 qf qB rfl rfl rfl hl.slv (by omega) (Nat.mul_one _) (qy (t := 19) rfl (vB h2) (qj jm rfl (hl.rd (by omega)) (qy (t := 19) rfl (vB h2) (qW rfl rfl (cX (qY (.bool (decide ((l.getD 0 0 : Int) < 0))) (vB h2) rfl (qb ?_))))))))))))
 refine qA (p := (l.getD 0 0 : Int) < 0) rfl (fun h3 => ?_) (fun h3 => ?_)
 ·refine qc (qa (qg (.bool (false)) rfl (qb (qu (qk (qq (L' := L) [.bool (false)] (.bool (false)) (.tmp rfl .nil) rfl rF rF (sD (sD sR)) ?_))))))
  exact ⟨(vB (ruleOk_false (fun h => by have := h.left; have := h.right; have := h.head; simp_all <;> omega))), rfl, rfl⟩
 refine qw (qc (qc (qa (cX (ql (1) qV rfl qs (by decide) rfl rfl (cX (qj qU rfl (Rd.own [] rfl rfl) (cX (qE qf rfl hr.slv (qd (ii (0)) rfl (qb (qK (jl (α := Nat) (fun k => [(3, ptr b2 0), (27, rv), (28, ii ((r.length : Int))), (29, ii ((k : Int)))]) (fun k => cellsH b2 [lv, rv] 76 :: cellsH b1 [arv] 36 :: L) (fun k F' => F = F' ∧ (k ≤ r.length) ∧ (∀ i, i < k → r.getD i 0 < 0 → r.getD i 0 ∈ l)) (fun k => r.length - k) 0 ⟨rfl, rfl, rfl, rfl, ⟨⟩⟩ (sC (sC sR)) ⟨rfl, (by omega), (fun i hi => absurd hi (by omega))⟩ ?_)))))))))))))
 rintro k rE _ _ ⟨rfl, hk, hall⟩
 show X _ _ _ _ (envs [(3, ptr b2 0), (27, rv), (28, ii ((r.length : Int))), (29, ii ((k : Int)))] rE) _ (cellsH b2 [lv, rv] 76 :: cellsH b1 [arv] 36 :: L)
 refine qc (qa (cX (qW rfl rfl (qb (qc ?_)))))
 refine qA (p := (k : Int) < (r.length : Int)) rfl (fun h4 => ?_) (fun h4 => ?_)
 ·refine qw (qc (qK (qc (qa (cX (qD k qf qB rfl rfl rfl hr.slv (by omega) (Nat.mul_one _) (cX (qj jm rfl (hr.rd (by omega)) (qg (ii (r.getD k 0)) rfl (qb (qc (qa (qd (ii (r.getD k 0)) rfl (cX (qW rfl rfl (qd (.bool (decide ((r.getD k 0 : Int) < 0))) rfl ?_))))))))))))))))
  by_cases h5 : (r.getD k 0 : Int) < 0
  ·refine qy (t := 35) rfl (vT h5) (ql (0) qV rfl qs (by decide) rfl rfl (qy (t := 35) rfl (vT h5) (qj qU rfl (Rd.own [] rfl rfl) (qy (t := 35) rfl (vT h5) (qp (ii (r.getD k 0)) rfl (qy (t := 35) rfl (vT h5) (qm (args := [lv, ii (r.getD k 0)]) call218 rfl (Contains_spec (n := r.getD k 0) hl (hbd := (by first | assumption | rfl | omega | simp))) ?_)))))))
   rintro _ _ _ _ ⟨rfl, rfl, rfl⟩
   refine qy (t := 35) rfl (vT h5) (XOp.notD rfl (cX (jj (.bool (decide (¬((r.getD k 0) ∈ l)))) (vT h5) rfl (qb ?_))))
   refine qA (p := ¬((r.getD k 0) ∈ l)) rfl (fun h6 => ?_) (fun h6 => ?_)
   ·refine qc (qa (qg (.bool (false)) rfl (qb (qu (qC (qk (qk (qC (qk (qq (L' := L) [.bool (false)] (.bool (false)) (.tmp rfl .nil) rfl rF rF (sD (sD sR)) ?_))))))))))
    exact ⟨(vB (ruleOk_false (fun h => by have := h.vars (r.getD k 0) (mem_of_getD (k := k) (by omega) rfl); simp_all))), rfl, rfl⟩
   refine qw (qa (cX (qH (((k + 1 : Nat) : Int)) rfl rfl (by omega) (by omega) (qd (ii (((k + 1 : Nat) : Int))) rfl (qb ?_)))))
   exact ⟨k + 1, _, FLe.refl _, rF, ⟨rfl, rfl, rfl, rfl, ⟨⟩⟩, (sC (sC sR)), ⟨rfl, (by omega), (fun i hi h0 => (Nat.lt_or_ge i k).elim (fun h => hall i h h0) (fun h => by obtain rfl : i = k := (by omega); first | assumption | (exfalso; omega) | simp_all))⟩, (by omega)⟩
  refine qx (t := 35) rfl (vF h5) (qx (t := 35) rfl (vF h5) (qx (t := 35) rfl (vF h5) (qx (t := 35) rfl (vF h5) (qx (t := 35) rfl (vF h5) (cX (qY (.bool (false)) (vF h5) rfl (qb (X.condF rfl (qw (qa (cX (qH (((k + 1 : Nat) : Int)) rfl rfl (by omega) (by omega) ?_))))))))))))
  refine qd (ii (((k + 1 : Nat) : Int))) rfl (qb ?_)
  exact ⟨k + 1, _, FLe.refl _, rF, ⟨rfl, rfl, rfl, rfl, ⟨⟩⟩, (sC (sC sR)), ⟨rfl, (by omega), (fun i hi h0 => (Nat.lt_or_ge i k).elim (fun h => hall i h h0) (fun h => by obtain rfl : i = k := (by omega); first | assumption | (exfalso; omega) | simp_all))⟩, (by omega)⟩
 refine jk (qt (qt (qM (qc (qa (qg (.bool (true)) rfl (qb (qu (qq (L' := L) [.bool (true)] (.bool (true)) (.tmp rfl .nil) rfl rF rF (sD (sD sR)) ?_)))))))))
 exact ⟨(vB (ruleOk_iff.2 ⟨hlo, hro, by omega, fun n hn h0 => by obtain ⟨i, hi, rfl⟩ := List.getElem_of_mem hn; have := hall i (by omega); simp [List.getD, hi] at this; exact this h0⟩)), rfl, rfl⟩

/- impl.SystemOk -/
theorem SystemOk_spec {F : FH} {L : List HP} {arv : Value} {ar : List Int} (har : IntsF F arv ar) {rsv : Value} {rs : List (List Int × List Int)} (hrs : PairsF F rsv rs) :
    Does prog 172 [.agg #[arv, rsv]] F (L) (fun v F' L' => (.bool (sysOk ar rs) : Value) = v ∧ F = F' ∧ L = L') := by
 refine qI func172 rfl rfl rfl (qc (qa (cX (jc [arv, rsv] rfl rfl ?_))))
 intro b1
 refine qg (.bool (false)) rfl (qb (qc (qc (qa (cX (ql (0) qJ rfl qF (by decide) rfl rfl (cX (qr [arv] qX qF rfl rfl (Rd.ownN [] rfl rfl) (cX (qm (args := [.agg #[arv]]) call158 rfl (SigOk_spec har) ?_))))))))))
 rintro _ _ _ _ ⟨rfl, rfl, rfl⟩
 refine cX (jE rfl (qd (.bool (!(sigOk ar))) rfl ?_))
 by_cases h1 : (!(sigOk ar)) = true
 ·refine qx (t := 9) rfl (vB h1) (qx (t := 9) rfl (vB h1) (qx (t := 9) rfl (vB h1) (qx (t := 9) rfl (vB h1) (cX (jj (.bool (true)) (vB h1) rfl (qb (yd rfl (qc (qa (qg (.bool (false)) rfl (qb ?_)))))))))))
  refine qu (qk (qq (L' := L) [.bool (false)] (.bool (false)) (.tmp rfl .nil) rfl rF rF (sD sR) ?_))
  exact ⟨(vB (sysOk_false (fun h => by have := h.1; have := h.2.1; simp_all <;> omega))), rfl, rfl⟩
 rw [Bool.not_eq_true] at h1
 refine qy (t := 9) rfl (vB h1) (ql (1) qJ rfl jw (by decide) rfl rfl (qy (t := 9) rfl (vB h1) (qj yb rfl (Rd.own [] rfl rfl) (qy (t := 9) rfl (vB h1) (qE jd rfl hrs.slv (qy (t := 9) rfl (vB h1) (jI rfl rfl (cX (qY (.bool (decide (((rs.length : Int) : Int) > 12))) (vB h1) rfl (qb ?_))))))))))
 refine qA (p := ((rs.length : Int) : Int) > 12) rfl (fun h2 => ?_) (fun h2 => ?_)
 ·refine qc (qa (qg (.bool (false)) rfl (qb (qu (qk (qq (L' := L) [.bool (false)] (.bool (false)) (.tmp rfl .nil) rfl rF rF (sD sR) ?_))))))
  exact ⟨(vB (sysOk_false (fun h => by have := h.1; have := h.2.1; simp_all <;> omega))), rfl, rfl⟩
 refine qw (qc (qc (qa (cX (ql (1) qJ rfl jw (by decide) rfl rfl (cX (qj yb rfl (Rd.own [] rfl rfl) (cX (qE jd rfl hrs.slv (qd (ii (0)) rfl (qb (qK (jl (α := Nat) (fun k => [(1, ptr b1 0), (16, rsv), (17, ii ((rs.length : Int))), (18, ii ((k : Int)))]) (fun k => cellsH b1 [arv, rsv] 39 :: L) (fun k F' => F = F' ∧ (k ≤ rs.length) ∧ (∀ i, i < k → ruleOk ar (rs.getD i ([], [])).1 (rs.getD i ([], [])).2 = true)) (fun k => rs.length - k) 0 ⟨rfl, rfl, rfl, rfl, ⟨⟩⟩ (sC sR) ⟨rfl, (by omega), (fun i hi => absurd hi (by omega))⟩ ?_)))))))))))))
 rintro k rE _ _ ⟨rfl, hk, hall⟩
 show X _ _ _ _ (envs [(1, ptr b1 0), (16, rsv), (17, ii ((rs.length : Int))), (18, ii ((k : Int)))] rE) _ (cellsH b1 [arv, rsv] 39 :: L)
 refine qc (qa (cX (qW rfl rfl (qb (qc ?_)))))
 refine qA (p := (k : Int) < (rs.length : Int)) rfl (fun h3 => ?_) (fun h3 => ?_)
 ·refine qw (qc (qK (qc (qa (cX (qD k jd jA rfl rfl rfl hrs.slv (by omega) rfl ?_))))))
  obtain ⟨a1, a2, ha1, ha2, hr1, hr2⟩ := hrs.rd (i := k) (by omega)
  refine cX (qr [a1, a2] isAgg76 jA rfl rfl (Rd.two (hr1 _) (hr2 _)) (cX (ji [sN, sN] jr rfl ?_)))
  intro b2
  refine cX (qL [] _ [a1, a2] jA rfl rfl rfl (qn (qG (qz ha1)) (qn (qG (qz ha2)) qO)) rfl rfl rfl (qb (qc (qa (cX (ql (0) qJ rfl qF (by decide) rfl rfl (cX (qr [arv] qX qF rfl rfl (Rd.ownN [_] rfl rfl) (cX (qr [a1, a2] isAgg76 jA rfl rfl (Rd.ownN [] rfl rfl) (cX (qm (args := [.agg #[arv], .agg #[a1, a2]]) call264 rfl (RuleOk_spec har ha1 ha2) ?_))))))))))))
  rintro _ _ _ _ ⟨rfl, rfl, rfl⟩
  refine cX (jE rfl (qb ?_))
  refine jz (t := !(ruleOk ar ((rs.getD k ([], [])).1) ((rs.getD k ([], [])).2))) rfl (fun h4 => ?_) (fun h4 => ?_)
  ·refine qc (qa (qg (.bool (false)) rfl (qb (qu (qC (qk (qk (qC (qk (qq (L' := L) [.bool (false)] (.bool (false)) (.tmp rfl .nil) rfl rF rF (sD (sD sR)) ?_))))))))))
   exact ⟨(vB (sysOk_false (fun h => by have := h.2.2 k (by omega); simp_all))), rfl, rfl⟩
  refine qw (qa (cX (qH (((k + 1 : Nat) : Int)) rfl rfl (by omega) (by omega) (qd (ii (((k + 1 : Nat) : Int))) rfl (qb ?_)))))
  exact ⟨k + 1, _, FLe.refl _, rF, ⟨rfl, rfl, rfl, rfl, ⟨⟩⟩, (sD (sC sR)), ⟨rfl, (by omega), (fun i hi => (Nat.lt_or_ge i k).elim (fun h => hall i h) (fun h => by obtain rfl : i = k := (by omega); first | assumption | simp_all))⟩, (by omega)⟩
 refine jk (qt (qt (qM (qc (qa (qg (.bool (true)) rfl (qb (qu (qq (L' := L) [.bool (true)] (.bool (true)) (.tmp rfl .nil) rfl rF rF (sD sR) ?_)))))))))
 exact ⟨(vB (sysOk_iff.2 ⟨by first | assumption | simp_all, by omega, fun i hi => hall i (by omega)⟩)), rfl, rfl⟩

/- spec.RuleOk -/
theorem sRuleOk_spec {F : FH} {L : List HP} {arv : Value} {ar : List Int} (har : IntsF F arv ar) {lv : Value} {l : List Int} (hl : IntsF F lv l) {rv : Value} {r : List Int} (hr : IntsF F rv r) (hla : ar.length ≤ 4000000) (hlb : l.length ≤ 4000000) (hlc : r.length ≤ 4000000) :
    Does prog 179 [.agg #[arv], .agg #[lv, rv]] F (L) (fun v F' L' => (.bool (ruleOk ar l r) : Value) = v ∧ F = F' ∧ L = L') := by
 refine qI func179 rfl rfl rfl (qc (qa (cX (jc [arv] rfl rfl ?_))))
 intro b1
 refine cX (jc [lv, rv] rfl rfl ?_)
 intro b2
 refine qg (.bool (false)) rfl (qb (qc (qc (qa (cX (qr [arv] qX qF rfl rfl (Rd.ownN [_] rfl rfl) (cX (ql (0) qV rfl qs (by decide) rfl rfl (cX (qj qU rfl (Rd.own [] rfl rfl) (cX (qm (args := [.agg #[arv], lv]) call202 rfl (sTermOk_spec har hl (hla := (by first | assumption | rfl | omega | simp)) (hlt := (by first | assumption | rfl | omega | simp))) ?_))))))))))))
 rintro _ _ _ _ ⟨rfl, rfl, rfl⟩
 refine cX (jE rfl (qd (.bool (!(termOk ar l))) rfl ?_))
 by_cases h1 : (!(termOk ar l)) = true
 ·refine qx (t := 11) rfl (vB h1) (qx (t := 11) rfl (vB h1) (qx (t := 11) rfl (vB h1) (qx (t := 11) rfl (vB h1) (qx (t := 11) rfl (vB h1) (cX (jj (.bool (true)) (vB h1) rfl (qd (.bool (true)) rfl (qx (t := 18) rfl rfl (qx (t := 18) rfl rfl (qx (t := 18) rfl rfl ?_))))))))))
  refine qx (t := 18) rfl rfl (qx (t := 18) rfl rfl (cX (jj (.bool (true)) rfl rfl (qb (yd rfl (qc (qa (qg (.bool (false)) rfl (qb (qu (qk (qq (L' := L) [.bool (false)] (.bool (false)) (.tmp rfl .nil) rfl rF rF (sD (sD sR)) ?_))))))))))))
  exact ⟨(vB (ruleOk_false (fun h => by have := h.left; have := h.right; have := h.head; simp_all <;> omega))), rfl, rfl⟩
 rw [Bool.not_eq_true] at h1
 have hlo : termOk ar l = true := by simpa using h1
 have hl60 := termOk_len hlo
 refine qy (t := 11) rfl (vB h1) (qr [arv] qX qF rfl rfl (Rd.ownN [_] rfl rfl) (qy (t := 11) rfl (vB h1) (ql (1) qV rfl qs (by decide) rfl rfl (qy (t := 11) rfl (vB h1) (qj qU rfl (Rd.own [] rfl rfl) (qy (t := 11) rfl (vB h1) (qm (args := [.agg #[arv], rv]) call202 rfl (sTermOk_spec har hr (hla := (by first | assumption | rfl | omega | simp)) (hlt := (by first | assumption | rfl | omega | simp))) ?_)))))))
 rintro _ _ _ _ ⟨rfl, rfl, rfl⟩
 refine qy (t := 11) rfl (vB h1) (jE rfl (cX (qY (.bool (!(termOk ar r))) (vB h1) rfl (qd (.bool (!(termOk ar r))) rfl ?_))))
 by_cases h2 : (!(termOk ar r)) = true
 ·refine qx (t := 18) rfl (vB h2) (qx (t := 18) rfl (vB h2) (qx (t := 18) rfl (vB h2) (qx (t := 18) rfl (vB h2) (qx (t := 18) rfl (vB h2) (cX (jj (.bool (true)) (vB h2) rfl (qb (yd rfl (qc (qa (qg (.bool (false)) rfl ?_)))))))))))
  refine qb (qu (qk (qq (L' := L) [.bool (false)] (.bool (false)) (.tmp rfl .nil) rfl rF rF (sD (sD sR)) ?_)))
  exact ⟨(vB (ruleOk_false (fun h => by have := h.left; have := h.right; have := h.head; simp_all <;> omega))), rfl, rfl⟩
 rw [Bool.not_eq_true] at h2
 have hro : termOk ar r = true := by simpa using h2
 have hr60 := termOk_len hro
 refine qy (t := 18) rfl (vB h2) (ql (0) qV rfl qs (by decide) rfl rfl (qy (t := 18) rfl (vB h2) (qj qU rfl (Rd.own [] rfl rfl) (qy (t := 18) rfl (vB h2) (qD 0 qf qB rfl rfl rfl hl.slv (by omega) (Nat.mul_one _) (qy (t := 18) rfl (vB h2) (qj jm rfl (hl.rd (by omega)) (qy (t := 18) rfl (vB h2) (qW rfl rfl (cX (qY (.bool (decide ((l.getD 0 0 : Int) < 0))) (vB h2) rfl (qb ?_))))))))))))
 refine qA (p := (l.getD 0 0 : Int) < 0) rfl (fun h3 => ?_) (fun h3 => ?_)
 ·refine qc (qa (qg (.bool (false)) rfl (qb (qu (qk (qq (L' := L) [.bool (false)] (.bool (false)) (.tmp rfl .nil) rfl rF rF (sD (sD sR)) ?_))))))
  exact ⟨(vB (ruleOk_false (fun h => by have := h.left; have := h.right; have := h.head; simp_all <;> omega))), rfl, rfl⟩
 refine qw (qc (qc (qa (qg (ii (0)) rfl (qb (qK (jl (α := Nat) (fun k => [(3, ptr b2 0), (5, ii ((k : Int)))]) (fun k => cellsH b2 [lv, rv] 76 :: cellsH b1 [arv] 36 :: L) (fun k F' => F = F' ∧ (k ≤ r.length) ∧ (∀ i, i < k → r.getD i 0 < 0 → r.getD i 0 ∈ l)) (fun k => r.length - k) 0 ⟨rfl, rfl, ⟨⟩⟩ (sC (sC sR)) ⟨rfl, (by omega), (fun i hi => absurd hi (by omega))⟩ ?_)))))))
 rintro k rE _ _ ⟨rfl, hk, hall⟩
 show X _ _ _ _ (envs [(3, ptr b2 0), (5, ii ((k : Int)))] rE) _ (cellsH b2 [lv, rv] 76 :: cellsH b1 [arv] 36 :: L)
 refine qc (qc (qa (qd (ii ((k : Int))) rfl (cX (ql (1) qV rfl qs (by decide) rfl rfl (cX (qj qU rfl (Rd.own [] rfl rfl) (cX (qE qf rfl hr.slv (cX (qW rfl rfl (qb ?_))))))))))))
 refine qA (p := (k : Int) < (r.length : Int)) rfl (fun h4 => ?_) (fun h4 => ?_)
 ·refine qw (qc (qK (qc ?_)))
  by_cases h5 : (r.getD k 0 : Int) < 0
  ·refine jY [cellsH b2 [lv, rv] 76, cellsH b1 [arv] 36] L 14 [] [[], [0], [], [1, 2], [3], [4], [5], [6], [6, 7], [6], [6, 9], [6], [6, 10, 11], [6, 12]] (phiL [qe (ptr b2 1), qe rv, qe (ii ((k : Int)) : Value), qe (.pointer (some (elemA rv (k)))), qe (ii (r.getD k 0)), qe (.bool (decide ((r.getD k 0 : Int) < 0)) : Value), qe (.bool (decide ((r.getD k 0 : Int) < 0)) : Value), qe (ptr b2 0), qe lv, qe (ptr b2 1), qe rv, qe (ii ((k : Int)) : Value), qe (.pointer (some (elemA rv (k)))), qe (ii (r.getD k 0))]) (ownL []) mixed rfl rfl (by kernel_rfl) ?_ ?_
   ·refine pD (fun W R z9 => ?_) ?_
    ·refine qi (ql (1) qV rfl qs (by decide) rfl rfl ?_)
     exact ⟨rfl, rfl, rfl⟩
    refine pD (fun W R z9 => ?_) ?_
    ·rw [eS (l := [(0, _)]) ⟨z9 0 rfl, ⟨⟩⟩]
     refine qi (qj qU rfl (Rd.own [] rfl rfl) ?_)
     exact ⟨rfl, rfl, rfl⟩
    refine pD (fun W R z9 => ?_) ?_
    ·refine qi (qp (ii ((k : Int))) rfl ?_)
     exact ⟨rfl, rfl, rfl⟩
    refine pD (fun W R z9 => ?_) ?_
    ·rw [eS (l := [(1, _), (2, _)]) ⟨z9 1 rfl, z9 2 rfl, ⟨⟩⟩]
     refine qi (qD k qf qB rfl rfl rfl hr.slv (by omega) (Nat.mul_one _) ?_)
     exact ⟨rfl, rfl, rfl⟩
    refine pD (fun W R z9 => ?_) ?_
    ·rw [eS (l := [(3, _)]) ⟨z9 3 rfl, ⟨⟩⟩]
     refine qi (qj jm rfl (hr.rd (by omega)) ?_)
     exact ⟨rfl, rfl, rfl⟩
    refine pD (fun W R z9 => ?_) ?_
    ·rw [eS (l := [(4, _)]) ⟨z9 4 rfl, ⟨⟩⟩]
     refine qi (qW rfl rfl ?_)
     exact ⟨rfl, rfl, rfl⟩
    refine pD (fun W R z9 => ?_) ?_
    ·rw [eS (l := [(5, _)]) ⟨z9 5 rfl, ⟨⟩⟩]
     refine qi (qp (.bool (decide ((r.getD k 0 : Int) < 0))) rfl ?_)
     exact ⟨rfl, rfl, rfl⟩
    refine pD (fun W R z9 => ?_) ?_
    ·rw [eS (l := [(6, _)]) ⟨z9 6 rfl, ⟨⟩⟩]
     refine jM (t := 38) rfl (vT h5) (ql (0) qV rfl qs (by decide) rfl rfl ?_)
     exact ⟨rfl, rfl, rfl⟩
    refine pD (fun W R z9 => ?_) ?_
    ·rw [eS (l := [(6, _), (7, _)]) ⟨z9 6 rfl, z9 7 rfl, ⟨⟩⟩]
     refine jM (t := 38) rfl (vT h5) (qj qU rfl (Rd.own [] rfl rfl) ?_)
     exact ⟨rfl, rfl, rfl⟩
    refine pD (fun W R z9 => ?_) ?_
    ·rw [eS (l := [(6, _)]) ⟨z9 6 rfl, ⟨⟩⟩]
     refine jM (t := 38) rfl (vT h5) (ql (1) qV rfl qs (by decide) rfl rfl ?_)
     exact ⟨rfl, rfl, rfl⟩
    refine pD (fun W R z9 => ?_) ?_
    ·rw [eS (l := [(6, _), (9, _)]) ⟨z9 6 rfl, z9 9 rfl, ⟨⟩⟩]
     refine jM (t := 38) rfl (vT h5) (qj qU rfl (Rd.own [] rfl rfl) ?_)
     exact ⟨rfl, rfl, rfl⟩
    refine pD (fun W R z9 => ?_) ?_
    ·rw [eS (l := [(6, _)]) ⟨z9 6 rfl, ⟨⟩⟩]
     refine jM (t := 38) rfl (vT h5) (qp (ii ((k : Int))) rfl ?_)
     exact ⟨rfl, rfl, rfl⟩
    refine pD (fun W R z9 => ?_) ?_
    ·rw [eS (l := [(6, _), (10, _), (11, _)]) ⟨z9 6 rfl, z9 10 rfl, z9 11 rfl, ⟨⟩⟩]
     refine jM (t := 38) rfl (vT h5) (qD k qf qB rfl rfl rfl hr.slv (by omega) (Nat.mul_one _) ?_)
     exact ⟨rfl, rfl, rfl⟩
    refine pD (fun W R z9 => ?_) ?_
    ·rw [eS (l := [(6, _), (12, _)]) ⟨z9 6 rfl, z9 12 rfl, ⟨⟩⟩]
     refine jM (t := 38) rfl (vT h5) (qj jm rfl (hr.rd (by omega)) ?_)
     exact ⟨rfl, rfl, rfl⟩
    exact stepsP.nil
   intro W hphi
   rw [eS (l := [(6, _), (8, _), (13, _)]) ⟨(hphi 6 (by decide)), (hphi 8 (by decide)), (hphi 13 (by decide)), ⟨⟩⟩]
   show XL _ _ _ _ _ _ _ (cellsH b2 [lv, rv] 76 :: cellsH b1 [arv] 36 :: L)
   refine qy (t := 38) rfl (vT h5) (qm (args := [lv, ii (r.getD k 0)]) call259 rfl (l1Has_spec (n := r.getD k 0) hl (hbd := (by first | assumption | rfl | omega | simp))) ?_)
   rintro _ _ _ _ ⟨rfl, rfl, rfl⟩
   refine qy (t := 38) rfl (vT h5) (XOp.notD rfl (cX (jj (.bool (decide (¬((r.getD k 0) ∈ l)))) (vT h5) rfl (qb ?_))))
   refine qA (p := ¬((r.getD k 0) ∈ l)) rfl (fun h6 => ?_) (fun h6 => ?_)
   ·refine qc (qa (qg (.bool (false)) rfl (qb (qu (qC (qk (qk (qC (qk (qq (L' := L) [.bool (false)] (.bool (false)) (.tmp rfl .nil) rfl rF rF (sD (sD sR)) ?_))))))))))
    exact ⟨(vB (ruleOk_false (fun h => by have := h.vars (r.getD k 0) (mem_of_getD (k := k) (by omega) rfl); simp_all))), rfl, rfl⟩
   refine qw (qa (qd (ii ((k : Int))) rfl (cX (qH (((k + 1 : Nat) : Int)) rfl rfl (by omega) (by omega) (qg (ii (((k + 1 : Nat) : Int))) rfl (qb ?_))))))
   exact ⟨k + 1, _, FLe.refl _, rF, ⟨rfl, rfl, ⟨⟩⟩, (sC (sC sR)), ⟨rfl, (by omega), (fun i hi h0 => (Nat.lt_or_ge i k).elim (fun h => hall i h h0) (fun h => by obtain rfl : i = k := (by omega); first | assumption | (exfalso; omega) | simp_all))⟩, (by omega)⟩
  refine jY [cellsH b2 [lv, rv] 76, cellsH b1 [arv] 36] L 14 [] [[], [0], [], [1, 2], [3], [4], [5], [6], [6, 7], [6], [6, 9], [6], [6, 10, 11], [6, 12]] (phiL [qe (ptr b2 1), qe rv, qe (ii ((k : Int)) : Value), qe (.pointer (some (elemA rv (k)))), qe (ii (r.getD k 0)), qe (.bool (decide ((r.getD k 0 : Int) < 0)) : Value), qe (.bool (decide ((r.getD k 0 : Int) < 0)) : Value), qe undef, qe undef, qe undef, qe undef, qe undef, qe undef, qe undef]) (ownL []) mixed rfl rfl (by kernel_rfl) ?_ ?_
  ·refine pD (fun W R z9 => ?_) ?_
   ·refine qi (ql (1) qV rfl qs (by decide) rfl rfl ?_)
    exact ⟨rfl, rfl, rfl⟩
   refine pD (fun W R z9 => ?_) ?_
   ·rw [eS (l := [(0, _)]) ⟨z9 0 rfl, ⟨⟩⟩]
    refine qi (qj qU rfl (Rd.own [] rfl rfl) ?_)
    exact ⟨rfl, rfl, rfl⟩
   refine pD (fun W R z9 => ?_) ?_
   ·refine qi (qp (ii ((k : Int))) rfl ?_)
    exact ⟨rfl, rfl, rfl⟩
   refine pD (fun W R z9 => ?_) ?_
   ·rw [eS (l := [(1, _), (2, _)]) ⟨z9 1 rfl, z9 2 rfl, ⟨⟩⟩]
    refine qi (qD k qf qB rfl rfl rfl hr.slv (by omega) (Nat.mul_one _) ?_)
    exact ⟨rfl, rfl, rfl⟩
   refine pD (fun W R z9 => ?_) ?_
   ·rw [eS (l := [(3, _)]) ⟨z9 3 rfl, ⟨⟩⟩]
    refine qi (qj jm rfl (hr.rd (by omega)) ?_)
    exact ⟨rfl, rfl, rfl⟩
   refine pD (fun W R z9 => ?_) ?_
   ·rw [eS (l := [(4, _)]) ⟨z9 4 rfl, ⟨⟩⟩]
    refine qi (qW rfl rfl ?_)
    exact ⟨rfl, rfl, rfl⟩
   refine pD (fun W R z9 => ?_) ?_
   ·rw [eS (l := [(5, _)]) ⟨z9 5 rfl, ⟨⟩⟩]
    refine qi (qp (.bool (decide ((r.getD k 0 : Int) < 0))) rfl ?_)
    exact ⟨rfl, rfl, rfl⟩
   refine pD (fun W R z9 => ?_) ?_
   ·rw [eS (l := [(6, _)]) ⟨z9 6 rfl, ⟨⟩⟩]
    exact XG.no (t := 38) rfl (vF h5) ⟨rfl, rfl, rfl⟩
   refine pD (fun W R z9 => ?_) ?_
   ·rw [eS (l := [(6, _), (7, undef)]) ⟨z9 6 rfl, z9 7 rfl, ⟨⟩⟩]
    exact XG.no (t := 38) rfl (vF h5) ⟨rfl, rfl, rfl⟩
   refine pD (fun W R z9 => ?_) ?_
   ·rw [eS (l := [(6, _)]) ⟨z9 6 rfl, ⟨⟩⟩]
    exact XG.no (t := 38) rfl (vF h5) ⟨rfl, rfl, rfl⟩
   refine pD (fun W R z9 => ?_) ?_
   ·rw [eS (l := [(6, _), (9, undef)]) ⟨z9 6 rfl, z9 9 rfl, ⟨⟩⟩]
    exact XG.no (t := 38) rfl (vF h5) ⟨rfl, rfl, rfl⟩
   refine pD (fun W R z9 => ?_) ?_
   ·rw [eS (l := [(6, _)]) ⟨z9 6 rfl, ⟨⟩⟩]
    exact XG.no (t := 38) rfl (vF h5) ⟨rfl, rfl, rfl⟩
   refine pD (fun W R z9 => ?_) ?_
   ·rw [eS (l := [(6, _), (10, undef), (11, undef)]) ⟨z9 6 rfl, z9 10 rfl, z9 11 rfl, ⟨⟩⟩]
    exact XG.no (t := 38) rfl (vF h5) ⟨rfl, rfl, rfl⟩
   refine pD (fun W R z9 => ?_) ?_
   ·rw [eS (l := [(6, _), (12, undef)]) ⟨z9 6 rfl, z9 12 rfl, ⟨⟩⟩]
    exact XG.no (t := 38) rfl (vF h5) ⟨rfl, rfl, rfl⟩
   exact stepsP.nil
  intro W hphi
  rw [eS (l := [(6, _), (8, undef), (13, undef)]) ⟨(hphi 6 (by decide)), (hphi 8 (by decide)), (hphi 13 (by decide)), ⟨⟩⟩]
  show XL _ _ _ _ _ _ _ (cellsH b2 [lv, rv] 76 :: cellsH b1 [arv] 36 :: L)
  refine qx (t := 38) rfl (vF h5) (qx (t := 38) rfl (vF h5) (cX (qY (.bool (false)) (vF h5) rfl (qb (X.condF rfl (qw (qa (qd (ii ((k : Int))) rfl (cX (qH (((k + 1 : Nat) : Int)) rfl rfl (by omega) (by omega) (qg (ii (((k + 1 : Nat) : Int))) rfl (qb ?_))))))))))))
  exact ⟨k + 1, _, FLe.refl _, rF, ⟨rfl, rfl, ⟨⟩⟩, (sC (sC sR)), ⟨rfl, (by omega), (fun i hi h0 => (Nat.lt_or_ge i k).elim (fun h => hall i h h0) (fun h => by obtain rfl : i = k := (by omega); first | assumption | (exfalso; omega) | simp_all))⟩, (by omega)⟩
 refine jk (qt (qt (qM (qc (qa (qg (.bool (true)) rfl (qb (qu (qq (L' := L) [.bool (true)] (.bool (true)) (.tmp rfl .nil) rfl rF rF (sD (sD sR)) ?_)))))))))
 exact ⟨(vB (ruleOk_iff.2 ⟨hlo, hro, by omega, fun n hn h0 => by obtain ⟨i, hi, rfl⟩ := List.getElem_of_mem hn; have := hall i (by omega); simp [List.getD, hi] at this; exact this h0⟩)), rfl, rfl⟩

/- spec.SystemOk -/
theorem sSystemOk_spec {F : FH} {L : List HP} {arv : Value} {ar : List Int} (har : IntsF F arv ar) {rsv : Value} {rs : List (List Int × List Int)} (hrs : PairsF F rsv rs) (hla : ar.length ≤ 4000000) (hlr : rs.length ≤ 4000000) (hrb : ∀ i, i < rs.length → (rs.getD i ([], [])).1.length ≤ 4000000 ∧ (rs.getD i ([], [])).2.length ≤ 4000000) :
    Does prog 82 [.agg #[arv, rsv]] F (L) (fun v F' L' => (.bool (sysOk ar rs) : Value) = v ∧ F = F' ∧ L = L') := by
 refine qI func82 rfl rfl rfl (qc (qa (cX (jc [arv, rsv] rfl rfl ?_))))
 intro b1
 refine qg (.bool (false)) rfl (qb (qc (qc (qa (cX (ql (0) qJ rfl qF (by decide) rfl rfl (cX (qr [arv] qX qF rfl rfl (Rd.ownN [] rfl rfl) (cX (qm (args := [.agg #[arv]]) call120 rfl (sSigOk_spec har (hla := (by first | assumption | rfl | omega | simp))) ?_))))))))))
 rintro _ _ _ _ ⟨rfl, rfl, rfl⟩
 refine cX (jE rfl (qd (.bool (!(sigOk ar))) rfl ?_))
 by_cases h1 : (!(sigOk ar)) = true
 ·refine qx (t := 8) rfl (vB h1) (qx (t := 8) rfl (vB h1) (qx (t := 8) rfl (vB h1) (qx (t := 8) rfl (vB h1) (cX (jj (.bool (true)) (vB h1) rfl (qb (yd rfl (qc (qa (qg (.bool (false)) rfl (qb ?_)))))))))))
  refine qu (qk (qq (L' := L) [.bool (false)] (.bool (false)) (.tmp rfl .nil) rfl rF rF (sD sR) ?_))
  exact ⟨(vB (sysOk_false (fun h => by have := h.1; have := h.2.1; simp_all <;> omega))), rfl, rfl⟩
 rw [Bool.not_eq_true] at h1
 refine qy (t := 8) rfl (vB h1) (ql (1) qJ rfl jw (by decide) rfl rfl (qy (t := 8) rfl (vB h1) (qj yb rfl (Rd.own [] rfl rfl) (qy (t := 8) rfl (vB h1) (qE jd rfl hrs.slv (qy (t := 8) rfl (vB h1) (jI rfl rfl (cX (qY (.bool (decide (((rs.length : Int) : Int) > 12))) (vB h1) rfl (qb ?_))))))))))
 refine qA (p := ((rs.length : Int) : Int) > 12) rfl (fun h2 => ?_) (fun h2 => ?_)
 ·refine qc (qa (qg (.bool (false)) rfl (qb (qu (qk (qq (L' := L) [.bool (false)] (.bool (false)) (.tmp rfl .nil) rfl rF rF (sD sR) ?_))))))
  exact ⟨(vB (sysOk_false (fun h => by have := h.1; have := h.2.1; simp_all <;> omega))), rfl, rfl⟩
 refine qw (qc (qc (qa (qg (ii (0)) rfl (qb (qK (jl (α := Nat) (fun k => [(1, ptr b1 0), (3, ii ((k : Int)))]) (fun k => cellsH b1 [arv, rsv] 39 :: L) (fun k F' => F = F' ∧ (k ≤ rs.length) ∧ (∀ i, i < k → ruleOk ar (rs.getD i ([], [])).1 (rs.getD i ([], [])).2 = true)) (fun k => rs.length - k) 0 ⟨rfl, rfl, ⟨⟩⟩ (sC sR) ⟨rfl, (by omega), (fun i hi => absurd hi (by omega))⟩ ?_)))))))
 rintro k rE _ _ ⟨rfl, hk, hall⟩
 show X _ _ _ _ (envs [(1, ptr b1 0), (3, ii ((k : Int)))] rE) _ (cellsH b1 [arv, rsv] 39 :: L)
 refine qc (qc (qa (qd (ii ((k : Int))) rfl (cX (ql (1) qJ rfl jw (by decide) rfl rfl (cX (qj yb rfl (Rd.own [] rfl rfl) (cX (qE jd rfl hrs.slv (cX (qW rfl rfl (qb ?_))))))))))))
 refine qA (p := (k : Int) < (rs.length : Int)) rfl (fun h3 => ?_) (fun h3 => ?_)
 ·refine qw (qc (qK (qc ?_)))
  obtain ⟨a1, a2, ha1, ha2, hr1, hr2⟩ := hrs.rd (i := k) (by omega)
  refine jY [cellsH b1 [arv, rsv] 39] L 7 [] [[], [0], [], [2], [], [3, 4], [5]] (phiL [qe (ptr b1 0), qe (.agg #[arv]), qe (ptr b1 1), qe rsv, qe (ii ((k : Int)) : Value), qe (.pointer (some (elemA rsv (k * 2)))), qe (.agg #[a1, a2])]) (ownL []) mixed rfl rfl (by kernel_rfl) ?_ ?_
  ·refine pD (fun W R z9 => ?_) ?_
   ·refine qi (ql (0) qJ rfl qF (by decide) rfl rfl ?_)
    exact ⟨rfl, rfl, rfl⟩
   refine pD (fun W R z9 => ?_) ?_
   ·rw [eS (l := [(0, _)]) ⟨z9 0 rfl, ⟨⟩⟩]
    refine qi (qr [arv] qX qF rfl rfl (Rd.ownN [] rfl rfl) ?_)
    exact ⟨rfl, rfl, rfl⟩
   refine pD (fun W R z9 => ?_) ?_
   ·refine qi (ql (1) qJ rfl jw (by decide) rfl rfl ?_)
    exact ⟨rfl, rfl, rfl⟩
   refine pD (fun W R z9 => ?_) ?_
   ·rw [eS (l := [(2, _)]) ⟨z9 2 rfl, ⟨⟩⟩]
    refine qi (qj yb rfl (Rd.own [] rfl rfl) ?_)
    exact ⟨rfl, rfl, rfl⟩
   refine pD (fun W R z9 => ?_) ?_
   ·refine qi (qp (ii ((k : Int))) rfl ?_)
    exact ⟨rfl, rfl, rfl⟩
   refine pD (fun W R z9 => ?_) ?_
   ·rw [eS (l := [(3, _), (4, _)]) ⟨z9 3 rfl, z9 4 rfl, ⟨⟩⟩]
    refine qi (qD k jd jA rfl rfl rfl hrs.slv (by omega) rfl ?_)
    exact ⟨rfl, rfl, rfl⟩
   refine pD (fun W R z9 => ?_) ?_
   ·rw [eS (l := [(5, _)]) ⟨z9 5 rfl, ⟨⟩⟩]
    refine qi (qr [a1, a2] isAgg76 jA rfl rfl (Rd.two (hr1 _) (hr2 _)) ?_)
    exact ⟨rfl, rfl, rfl⟩
   exact stepsP.nil
  intro W hphi
  rw [eS (l := [(1, _), (6, _)]) ⟨(hphi 1 (by decide)), (hphi 6 (by decide)), ⟨⟩⟩]
  show XL _ _ _ _ _ _ _ (cellsH b1 [arv, rsv] 39 :: L)
  refine cX (qm (args := [.agg #[arv], .agg #[a1, a2]]) call179 rfl (sRuleOk_spec har ha1 ha2 (hla := (by first | assumption | rfl | omega | simp)) (hlb := ((hrb k (by omega)).1)) (hlc := ((hrb k (by omega)).2))) ?_)
  rintro _ _ _ _ ⟨rfl, rfl, rfl⟩
  refine cX (jE rfl (qb ?_))
  refine jz (t := !(ruleOk ar ((rs.getD k ([], [])).1) ((rs.getD k ([], [])).2))) rfl (fun h4 => ?_) (fun h4 => ?_)
  ·refine qc (qa (qg (.bool (false)) rfl (qb (qu (qC (qk (qk (qC (qk (qq (L' := L) [.bool (false)] (.bool (false)) (.tmp rfl .nil) rfl rF rF (sD sR) ?_))))))))))
   exact ⟨(vB (sysOk_false (fun h => by have := h.2.2 k (by omega); simp_all))), rfl, rfl⟩
  refine qw (qa (qd (ii ((k : Int))) rfl (cX (qH (((k + 1 : Nat) : Int)) rfl rfl (by omega) (by omega) (qg (ii (((k + 1 : Nat) : Int))) rfl (qb ?_))))))
  exact ⟨k + 1, _, FLe.refl _, rF, ⟨rfl, rfl, ⟨⟩⟩, (sC sR), ⟨rfl, (by omega), (fun i hi => (Nat.lt_or_ge i k).elim (fun h => hall i h) (fun h => by obtain rfl : i = k := (by omega); first | assumption | simp_all))⟩, (by omega)⟩
 refine jk (qt (qt (qM (qc (qa (qg (.bool (true)) rfl (qb (qu (qq (L' := L) [.bool (true)] (.bool (true)) (.tmp rfl .nil) rfl rF rF (sD sR) ?_)))))))))
 exact ⟨(vB (sysOk_iff.2 ⟨by first | assumption | simp_all, by omega, fun i hi => hall i (by omega)⟩)), rfl, rfl⟩

/- impl.matchInto -/
theorem matchInto_spec {F : FH} {L : List HP} {arv : Value} {ar : List Int} (har : IntsF F arv ar) {pv : Value} {p : List Int} (hp : IntsF F pv p) {tv : Value} {t : List Int} (ht : IntsF F tv t) {bs : List Value} {b : RowL} (hb : BindC F bs b) (hbl : b.length = 24) (ho : termOk ar t = true) (hpl : p.length ≤ 4000000) (hpg : ∀ k, k < p.length → -24 ≤ p.getD k 0) :
    Does prog 214 [.agg #[arv], pv, tv, .agg (bs).toArray] F (L) (fun v F' L' => F = F' ∧ ∃ (bs : List Value), ∃ (bl : RowL), (.tuple #[.agg (bs).toArray, .bool ((mGo ar t p 0 b).isSome)] : Value) = v ∧ (BindC F' bs bl) ∧ (bl.length = 24) ∧ (∀ r, mGo ar t p 0 b = some r → bl = r) ∧ L = L') := by
 refine qI func214 rfl rfl rfl ?_
 have hsl := sigOk_spec (termOk_sig ho)
 have htl := termOk_len ho
 have hnn := jt ht (by omega)
 refine qc (qa (cX (jc [arv] rfl rfl ?_)))
 intro b1
 refine cX (jc bs rfl rfl ?_)
 intro b2
 refine cX (ji (List.replicate 24 (sN)) zeroValue259 rfl ?_)
 intro b3
 have hc1 : BindC F _ _ := BindC.nils 24
 refine qg (.bool (false)) rfl (qb (qc (qa (qg (ii (0)) rfl (qb (qc (qc (qa (qd (pv) rfl (cX (qE qf rfl hp.slv (qd (ii (0)) rfl (qb (qK (jl (α := Nat × Nat × List Value × RowL) (fun xQ => [(2, tv), (4, ptr b1 0), (7, ptr b2 0), (8, ptr b3 0), (10, ii (((xQ.2.1 : Nat) : Int))), (14, pv), (15, ii ((p.length : Int))), (16, ii (((xQ.1 : Nat) : Int)))]) (fun xQ => cellsH b3 (List.replicate 24 (sN)) 259 :: cellsH b2 xQ.2.2.1 259 :: cellsH b1 [arv] 36 :: L) (fun xQ F' => F = F' ∧ (BindC F xQ.2.2.1 xQ.2.2.2) ∧ (xQ.2.2.2.length = 24) ∧ (xQ.1 ≤ p.length) ∧ (xQ.2.1 ≤ t.length) ∧ (mGo ar t p 0 b = mGo ar t (p.drop xQ.1) xQ.2.1 xQ.2.2.2)) (fun xQ => p.length - xQ.1) (0, 0, bs, b) ⟨rfl, rfl, rfl, rfl, rfl, rfl, rfl, rfl, ⟨⟩⟩ (sC (sC (sC sR))) ⟨rfl, (hb), (hbl), (by (try dsimp only) <;> omega), (by (try dsimp only) <;> omega), (rfl)⟩ ?_)))))))))))))))
 rintro ⟨k, i, bs, bl⟩ rE _ _ ⟨rfl, hbc, hbl2, hk, hi, hm⟩
 show X _ _ _ _ (envs [(2, tv), (4, ptr b1 0), (7, ptr b2 0), (8, ptr b3 0), (10, ii ((i : Int))), (14, pv), (15, ii ((p.length : Int))), (16, ii ((k : Int)))] rE) _ (cellsH b3 (List.replicate 24 (sN)) 259 :: cellsH b2 bs 259 :: cellsH b1 [arv] 36 :: L)
 dsimp only at hbc hbl2 hk hi hm
 have hpk := hpg k
 have hsl2 := fun h => sub_length (p := i) ho h
 have hee := fun h => endN_spec (p := i) ho h
 refine qc (qa (cX (qW rfl rfl (qb (qc ?_)))))
 refine qA (p := (k : Int) < (p.length : Int)) rfl (fun h1 => ?_) (fun h1 => ?_)
 ·refine qw (qc (qK (qc (qa (cX (qD k qf qB rfl rfl rfl hp.slv (by omega) (Nat.mul_one _) (cX (qj jm rfl (hp.rd (by omega)) (qg (ii (p.getD k 0)) rfl (qb (qc (qc (qa (qd (ii ((i : Int))) rfl (qd (tv) rfl (cX (qE qf rfl ht.slv (cX (jQ rfl rfl (qb ?_))))))))))))))))))))
  refine qA (p := (i : Int) ≥ (t.length : Int)) rfl (fun h2 => ?_) (fun h2 => ?_)
  ·refine qc (qa (cX (qr bs isAgg259 sizeOf259 (by have := CO.len hbc; (try simp only [List.length_set, List.length_replicate] at this ⊢) <;> omega) rfl (Rd.ownN [_] rfl take_all) (cX (qL [] _ bs sizeOf259 rfl rfl (by have := CO.len hbc; (try simp only [List.length_set, List.length_replicate] at this ⊢) <;> omega) hbc.ones rfl (Nat.ble_eq_true_of_le (Nat.le_of_eq (by have := CO.len hc1; (try simp only [List.length_set, List.length_replicate] at this ⊢) <;> omega))) (arr_over (by have := CO.len hc1; (try simp only [List.length_set, List.length_replicate] at this ⊢) <;> omega)) (qg (.bool (false)) rfl (qb (qu (qk (qC (qk (qk (qC (qk (qq (L' := L) [.agg (bs).toArray, .bool (false)] (.tuple #[.agg (bs).toArray, .bool (false)]) (.cell rfl (ju bs isAgg259 sizeOf259 (by have := CO.len hbc; (try simp only [List.length_set, List.length_replicate] at this ⊢) <;> omega) (Rd.ownN [] rfl take_all)) (.tmp rfl .nil)) rfl rF rF (sD (sD (sD sR))) ?_)))))))))))))))
   have hz : mGo ar t p 0 b = none := hm.trans (mGo_short (by omega) (by omega))
   refine ⟨rfl, _, _, by rw [hz]; rfl, hbc, by (try simp only [List.length_set]) <;> omega, fun r hr => ?_, rfl⟩
   rw [hz] at hr; cases hr
  refine qw (qc (qc (qa (qd (ii (p.getD k 0)) rfl (cX (jQ rfl rfl (qb ?_)))))))
  refine qA (p := (p.getD k 0 : Int) ≥ 0) rfl (fun h3 => ?_) (fun h3 => ?_)
  ·refine qc (qc (qa (qd (tv) rfl (qd (ii ((i : Int))) rfl (cX (qD i qf qB rfl rfl rfl ht.slv (by omega) (Nat.mul_one _) (cX (qj jm rfl (ht.rd (by omega)) (qd (ii (p.getD k 0)) rfl (cX (XOp.neq rfl rfl (qb ?_))))))))))))
   refine qA (p := (t.getD i 0 : Int) ≠ p.getD k 0) rfl (fun h4 => ?_) (fun h4 => ?_)
   ·refine qc (qa (cX (qr bs isAgg259 sizeOf259 (by have := CO.len hbc; (try simp only [List.length_set, List.length_replicate] at this ⊢) <;> omega) rfl (Rd.ownN [_] rfl take_all) (cX (qL [] _ bs sizeOf259 rfl rfl (by have := CO.len hbc; (try simp only [List.length_set, List.length_replicate] at this ⊢) <;> omega) hbc.ones rfl (Nat.ble_eq_true_of_le (Nat.le_of_eq (by have := CO.len hc1; (try simp only [List.length_set, List.length_replicate] at this ⊢) <;> omega))) (arr_over (by have := CO.len hc1; (try simp only [List.length_set, List.length_replicate] at this ⊢) <;> omega)) (qg (.bool (false)) rfl (qb (qu (qk (qk (qC (qk (qk (qC (qk (qq (L' := L) [.agg (bs).toArray, .bool (false)] (.tuple #[.agg (bs).toArray, .bool (false)]) (.cell rfl (ju bs isAgg259 sizeOf259 (by have := CO.len hbc; (try simp only [List.length_set, List.length_replicate] at this ⊢) <;> omega) (Rd.ownN [] rfl take_all)) (.tmp rfl .nil)) rfl rF rF (sD (sD (sD sR))) ?_))))))))))))))))
    have hz : mGo ar t p 0 b = none := hm.trans (mGo_ne (by omega) (by omega) (by omega) (by assumption))
    refine ⟨rfl, _, _, by rw [hz]; rfl, hbc, by (try simp only [List.length_set]) <;> omega, fun r hr => ?_, rfl⟩
    rw [hz] at hr; cases hr
   refine qw (qc (qa (qd (ii ((i : Int))) rfl (cX (qH (((i + 1 : Nat) : Int)) rfl rfl (by omega) (by omega) (qg (ii (((i + 1 : Nat) : Int))) rfl (qb (jk (qt (qM (qa (cX (qH (((k + 1 : Nat) : Int)) rfl rfl (by omega) (by omega) (qd (ii (((k + 1 : Nat) : Int))) rfl (qb ?_)))))))))))))))
   exact ⟨(k + 1, i + 1, bs, bl), _, FLe.refl _, rF, ⟨rfl, rfl, rfl, rfl, rfl, rfl, rfl, rfl, ⟨⟩⟩, (sC (sC (sC sR))), ⟨rfl, (hbc), (by (try simp only [List.length_set]) <;> omega), (by (try dsimp only) <;> omega), (by (try dsimp only) <;> omega), (hm.trans (mGo_sym (by omega) (by omega) (by omega) (by omega)))⟩, (by omega)⟩
  refine qw (qc (qa (cX (qr [arv] qX qF rfl rfl (Rd.ownN [_, _] rfl rfl) (qd (tv) rfl (qd (ii ((i : Int))) rfl (cX (qm (args := [.agg #[arv], tv, ii (i : Int)]) call142 rfl (subAt_spec (p := i) har ht (ho := (by first | assumption | rfl | omega | simp)) (hp := (by first | assumption | rfl | omega | simp)) (hnn := (by first | assumption | rfl | omega | simp))) ?_))))))))
  rintro v1 _ _ _ ⟨rfl, rfl, hv1, hn1⟩
  refine qg (v1) rfl (qb (qc (qc (qa (qd (ii (p.getD k 0)) rfl (cX (jq ((-1) - (p.getD k 0)) rfl rfl (by omega) (by omega) (cX (XOp.indexA (i := (-1) - (p.getD k 0)) (((-1) - (p.getD k 0)).toNat) (((-1) - (p.getD k 0)).toNat) runUnderlying259 qs rfl rfl (by omega) (by omega) (by omega) ?_)))))))))
  obtain ⟨a1, ha1, hn2, he1⟩ := hbc.get (i := ((-1) - (p.getD k 0)).toNat) (by omega)
  refine cX (qj qU rfl (Rd.own [_] rfl he1) (cX (XOp.eqNil qf rfl rfl (qz ha1) (qb ?_))))
  refine jz (t := isNil a1) rfl (fun h5 => ?_) (fun h5 => ?_)
  ·refine qa (qd (ii (p.getD k 0)) rfl (cX (jq ((-1) - (p.getD k 0)) rfl rfl (by omega) (by omega) (qd (v1) rfl (cX (XOp.indexA (i := (-1) - (p.getD k 0)) (((-1) - (p.getD k 0)).toNat) (((-1) - (p.getD k 0)).toNat) runUnderlying259 qs rfl rfl (by omega) (by omega) (by omega) (cX (jv [_] _ (bs.set (((-1) - (p.getD k 0)).toNat) v1) qs rfl rfl (qG (qz hv1)) rfl (blt_of (by have := CO.len hbc; (try simp only [List.length_set, List.length_replicate] at this ⊢) <;> omega)) rfl ?_))))))))
   have hc2 := hbc.set (((-1) - (p.getD k 0)).toNat) hv1 (by simp [*, sub_ne ho (show i < t.length by omega)])
   refine qb (qa (qd (ii ((i : Int))) rfl (qd (v1) rfl (cX (qE qf rfl hv1.slv (cX (qH (((i + (((sub ar t i)).length) : Nat) : Int)) rfl rfl (by omega) (by omega) (qg (ii (((i + (((sub ar t i)).length) : Nat) : Int))) rfl (qb (qa (cX (qH (((k + 1 : Nat) : Int)) rfl rfl (by omega) (by omega) (qd (ii (((k + 1 : Nat) : Int))) rfl (qb ?_))))))))))))))
   exact ⟨(k + 1, i + (((sub ar t i)).length), (bs.set (((-1) - (p.getD k 0)).toNat) v1), (bl.set (((-1) - (p.getD k 0)).toNat) ((sub ar t i)))), _, FLe.refl _, rF, ⟨rfl, rfl, rfl, rfl, rfl, rfl, rfl, rfl, ⟨⟩⟩, (sC (sC (sC sR))), ⟨rfl, (hc2), (by (try simp only [List.length_set]) <;> omega), (by (try dsimp only) <;> omega), (by (try dsimp only) <;> omega), (hm.trans (mGo_new (by omega) (by omega) (by omega) (of_decide_eq_true (hn2.symm.trans (by assumption)))))⟩, (by omega)⟩
  refine qc (qa (qd (ii (p.getD k 0)) rfl (cX (jq ((-1) - (p.getD k 0)) rfl rfl (by omega) (by omega) (cX (XOp.indexA (i := (-1) - (p.getD k 0)) (((-1) - (p.getD k 0)).toNat) (((-1) - (p.getD k 0)).toNat) runUnderlying259 qs rfl rfl (by omega) (by omega) (by omega) (cX (qj qU rfl (Rd.own [_] rfl he1) (qd (v1) rfl (cX (qm (args := [a1, v1]) call236 rfl (Equal_spec ha1 hv1 (hbd := (by first | assumption | rfl | omega | (left; simp; done) | (right; simp; done)))) ?_)))))))))))
  rintro _ _ _ _ ⟨rfl, rfl, rfl⟩
  refine cX (XOp.notD rfl (qb ?_))
  refine qA (p := ¬(((bl.getD (((-1) - (p.getD k 0)).toNat) [])) = ((sub ar t i)))) rfl (fun h6 => ?_) (fun h6 => ?_)
  ·refine qc (qa (cX (qr bs isAgg259 sizeOf259 (by have := CO.len hbc; (try simp only [List.length_set, List.length_replicate] at this ⊢) <;> omega) rfl (Rd.ownN [_] rfl take_all) (cX (qL [] _ bs sizeOf259 rfl rfl (by have := CO.len hbc; (try simp only [List.length_set, List.length_replicate] at this ⊢) <;> omega) hbc.ones rfl (Nat.ble_eq_true_of_le (Nat.le_of_eq (by have := CO.len hc1; (try simp only [List.length_set, List.length_replicate] at this ⊢) <;> omega))) (arr_over (by have := CO.len hc1; (try simp only [List.length_set, List.length_replicate] at this ⊢) <;> omega)) (qg (.bool (false)) rfl (qb (qu (qk (qC (qk (qk (qC (qk (qq (L' := L) [.agg (bs).toArray, .bool (false)] (.tuple #[.agg (bs).toArray, .bool (false)]) (.cell rfl (ju bs isAgg259 sizeOf259 (by have := CO.len hbc; (try simp only [List.length_set, List.length_replicate] at this ⊢) <;> omega) (Rd.ownN [] rfl take_all)) (.tmp rfl .nil)) rfl rF rF (sD (sD (sD sR))) ?_)))))))))))))))
   have hz : mGo ar t p 0 b = none := hm.trans (mGo_clash (by omega) (by omega) (by omega) (of_decide_eq_false (hn2.symm.trans (by assumption))) (by assumption))
   refine ⟨rfl, _, _, by rw [hz]; rfl, hbc, by (try simp only [List.length_set]) <;> omega, fun r hr => ?_, rfl⟩
   rw [hz] at hr; cases hr
  refine qw (qa (qd (ii ((i : Int))) rfl (qd (v1) rfl (cX (qE qf rfl hv1.slv (cX (qH (((i + (((sub ar t i)).length) : Nat) : Int)) rfl rfl (by omega) (by omega) (qg (ii (((i + (((sub ar t i)).length) : Nat) : Int))) rfl (qb (qa (cX (qH (((k + 1 : Nat) : Int)) rfl rfl (by omega) (by omega) (qd (ii (((k + 1 : Nat) : Int))) rfl (qb ?_))))))))))))))
  exact ⟨(k + 1, i + (((sub ar t i)).length), bs, bl), _, FLe.refl _, rF, ⟨rfl, rfl, rfl, rfl, rfl, rfl, rfl, rfl, ⟨⟩⟩, (sC (sC (sC sR))), ⟨rfl, (hbc), (by (try simp only [List.length_set]) <;> omega), (by (try dsimp only) <;> omega), (by (try dsimp only) <;> omega), (hm.trans (mGo_same (by omega) (by omega) (by omega) (of_decide_eq_false (hn2.symm.trans (by assumption))) (by first | assumption | exact Classical.not_not.1 (by assumption))))⟩, (by omega)⟩
 refine jk (qt (qt (qM (qc (qa (cX (qr bs isAgg259 sizeOf259 (by have := CO.len hbc; (try simp only [List.length_set, List.length_replicate] at this ⊢) <;> omega) rfl (Rd.ownN [_] rfl take_all) (cX (qL [] _ bs sizeOf259 rfl rfl (by have := CO.len hbc; (try simp only [List.length_set, List.length_replicate] at this ⊢) <;> omega) hbc.ones rfl (Nat.ble_eq_true_of_le (Nat.le_of_eq (by have := CO.len hc1; (try simp only [List.length_set, List.length_replicate] at this ⊢) <;> omega))) (arr_over (by have := CO.len hc1; (try simp only [List.length_set, List.length_replicate] at this ⊢) <;> omega)) (qg (.bool (true)) rfl (qb (qu (qq (L' := L) [.agg (bs).toArray, .bool (true)] (.tuple #[.agg (bs).toArray, .bool (true)]) (.cell rfl (ju bs isAgg259 sizeOf259 (by have := CO.len hbc; (try simp only [List.length_set, List.length_replicate] at this ⊢) <;> omega) (Rd.ownN [] rfl take_all)) (.tmp rfl .nil)) rfl rF rF (sD (sD (sD sR))) ?_)))))))))))))
 have hz : mGo ar t p 0 b = some bl := hm.trans (mGo_done (by omega))
 refine ⟨rfl, _, _, by rw [hz]; rfl, hbc, by (try simp only [List.length_set]) <;> omega, fun r hr => ?_, rfl⟩
 rw [hz] at hr; exact Option.some.inj hr

/- impl.variable -/
theorem variable_spec {F : FH} {L : List HP} {i : Nat} (hi : i ≤ 1000) :
    Does prog 194 [ii ((i : Int))] F (L) (fun v F' L' => F = F' ∧ IsSl v ∧ intsH 2 v ([-1 - (i : Int)]) :: L = L') := by
 refine qI func194 rfl rfl rfl (qc (qa (qg (sN) rfl (qb (qc (qa (qd (ii ((i : Int))) rfl (cX (jq ((-1) - ((i : Int))) rfl rfl (by omega) (by omega) (cX (qo (s := 1) [ii ((-1) - ((i : Int)))] [ii (0)] [(0, [ii ((-1) - ((i : Int)))])] qf qB qS rfl (by decide) rfl (.cons rfl CellsAre.nil) rfl ?_)))))))))))
 intro v1 hv1
 refine qg (v1) rfl (qb (qu (qq (L' := intsH 2 v1 ([(-1) - ((i : Int))]) :: L) [v1] (v1) (.tmp rfl .nil) rfl rF rF (sC sR) ?_)))
 refine ⟨rfl, (qN hv1), ?_⟩
 have hxs : ([-1 - (i : Int)] : List Int) = [(-1) - ((i : Int))] := rfl
 exact congrArg (fun z => intsH 2 _ z :: L) hxs

/- (impl.bindings).subst -/
theorem subst_spec {F : FH} {L : List HP} {bs : List Value} {b : RowL} (hb : BindC F bs b) (hbl : b.length = 24) :
    Does prog 215 [.agg (bs).toArray] F (L) (fun v F' L' => ∃ (a : Value), (.agg #[a] : Value) = v ∧ (RowsF F' a b) ∧ L = L') := by
 refine qI func215 rfl rfl rfl (qc (qa (cX (jc bs rfl rfl ?_))))
 intro b1
 refine cX (ji [sN] jB rfl ?_)
 intro b2
 refine qb (qc (qa (cX (XOp.sliceArr (cs := bs) [_] _ runUnderlying259 qs rfl (by have := CO.len hb; (try simp only [List.length_set, List.length_replicate] at this ⊢) <;> omega) rfl ?_))))
 intro v1 hv1
 have hc1 := BindC.rows hb
 refine cX (jh [v1] [sN] [(0, 1)] [(0, [v1])] qT jB rfl (.cons rfl jb PlacesAre.nil) rfl (.cons (cells_one ⟨_, _, _, hv1⟩) CellsAre.nil) (cX (qL [] _ [v1] jo rfl rfl rfl (qn (qG ⟨_, _, _, hv1⟩) qO) rfl rfl rfl (qb (qQ [_] _ _ rfl (fun F1 le1 hz1 => ?_))))))
 replace hc1 := hc1.mono le1
 have hf1 : RowsF F1 v1 b := CO.fz hc1 (by first | rfl | omega | (rw [List.length_set]; omega) | (simp; done)) hz1.fz
 refine qu (qq (L' := L) [.agg #[v1]] (.agg #[v1]) (.cell rfl (ju [v1] jR jo rfl (Rd.ownN [] rfl rfl)) .nil) rfl le1 rF (sD sR) ?_)
 exact ⟨_, rfl, hf1, rfl⟩

/- impl.plain -/
theorem plain_spec {F : FH} {L : List HP} {sv : Value} {s : List (List Int)} (hs : RowsF F sv s) (hsl : s.length ≤ 24) (hsb : ∀ i, i < s.length → (s.getD i []).length ≤ 4000000) :
    Does prog 193 [.agg #[sv]] F (L) (fun v F' L' => ∃ (a : Value), (.agg #[a] : Value) = v ∧ (RowsF F' a (plainL s)) ∧ L = L') := by
 refine qI func193 rfl rfl rfl (qc (qa (cX (jc [sv] rfl rfl ?_))))
 intro b1
 refine cX (ji [sN] jB rfl ?_)
 intro b2
 refine qb (qc (qa (cX (ji [sN] jB rfl ?_))))
 intro b3
 refine qb (qc (qc (qa (cX (ql (0) qT rfl jb (by decide) rfl rfl (cX (qj jC rfl (Rd.own [_, _] rfl rfl) (cX (qE qv rfl hs.slv (qd (ii (0)) rfl (qb (qK (jl (α := Nat × Value × RowL × FH) (fun xQ => [(2, ptr b2 0), (3, ptr b3 0), (7, sv), (8, ii ((s.length : Int))), (9, ii (((xQ.1 : Nat) : Int)))]) (fun xQ => rowsH 22 xQ.2.2.2 xQ.2.1 xQ.2.2.1 :: cellsH b3 [xQ.2.1] 137 :: cellsH b2 [sN] 137 :: cellsH b1 [sv] 137 :: L) (fun xQ F' => xQ.2.2.2 = F' ∧ F ≤ xQ.2.2.2 ∧ (IsSl xQ.2.1) ∧ (xQ.2.2.1 = trim ((plainGo 0 s).take xQ.1)) ∧ (xQ.1 ≤ s.length)) (fun xQ => s.length - xQ.1) (0, sN, [], F) ⟨rfl, rfl, rfl, rfl, rfl, ⟨⟩⟩ (coH.addNil none (sC (sC (sC sR)))) ⟨rfl, FLe.refl _, (⟨_, _, _, rfl⟩), (rfl), (by (try dsimp only) <;> omega)⟩ ?_)))))))))))))
 rintro ⟨k, ov, os, G1⟩ rE _ _ ⟨rfl, leG, hov, hos, hk⟩
 show X _ _ _ _ (envs [(2, ptr b2 0), (3, ptr b3 0), (7, sv), (8, ii ((s.length : Int))), (9, ii ((k : Int)))] rE) _ (rowsH 22 G1 ov os :: cellsH b3 [ov] 137 :: cellsH b2 [sN] 137 :: cellsH b1 [sv] 137 :: L)
 replace leG : F ≤ G1 := leG
 dsimp only at hov hos hk
 have leG1 := leG
 replace hs := hs.mono leG1
 refine X.open [] rfl (fun cs1 hc1 => ?_)
 replace hc1 : RowsC G1 cs1 os := hc1
 refine qc (qa (cX (qW rfl rfl (qb (qc ?_)))))
 refine qA (p := (k : Int) < (s.length : Int)) rfl (fun h1 => ?_) (fun h1 => ?_)
 ·refine qw (qc (qK (qc (qa (qd (ii ((k : Int))) rfl (cX (qD k qv qs rfl rfl rfl hs.slv (by omega) (Nat.mul_one _) ?_)))))))
  obtain ⟨a1, ha1, hr1⟩ := hs.rd (i := k) (by omega)
  refine cX (qj qU rfl (hr1 _) (qg (ii ((k : Int))) rfl (qg (a1) rfl (qb (qc (qc (qa (qd (a1) rfl (cX (qE qf rfl ha1.slv (cX (js rfl rfl (qd (.bool (decide ((((((s.getD k [])).length : Nat) : Int) : Int) = 0))) rfl ?_)))))))))))))
  by_cases h2 : (((((s.getD k [])).length : Nat) : Int) : Int) = 0
  ·refine qx (t := 17) rfl (vT h2) (qx (t := 17) rfl (vT h2) (qx (t := 17) rfl (vT h2) (qx (t := 17) rfl (vT h2) (cX (jj (.bool (true)) (vT h2) rfl (qb (yd rfl (jk (qt (qM (qa (cX (qH (((k + 1 : Nat) : Int)) rfl rfl (by omega) (by omega) ?_)))))))))))))
   refine qd (ii (((k + 1 : Nat) : Int))) rfl (qb ?_)
   exact ⟨(k + 1, ov, os, G1), _, leG1, rF, ⟨rfl, rfl, rfl, rfl, rfl, ⟨⟩⟩, (coH.close hc1 (by first | rfl | simp) (sC (sC (sC sR)))), ⟨rfl, leG1, (hov), (hos.trans (plain_skip (by omega) (by first | (left; exact List.eq_nil_of_length_eq_zero (by omega)) | (right; assumption))).symm), (by (try dsimp only) <;> omega)⟩, (by omega)⟩
  refine qy (t := 17) rfl (vF h2) (qp (a1) rfl (qy (t := 17) rfl (vF h2) (qp (ii ((k : Int))) rfl (qy (t := 17) rfl (vF h2) (jZ <| qm (args := [ii (k : Int)]) call194 rfl (variable_spec (i := k) (hi := (by first | assumption | rfl | omega | simp))) ?_)))))
  rintro v1 _ _ _ ⟨rfl, hs1, rfl⟩
  refine ⟨_, _, rfl, fun F1 le1 hz1 => ?_⟩
  replace hs := hs.mono le1
  replace hc1 := hc1.mono le1
  replace ha1 := ha1.mono le1
  have hf1 : IntsF F1 v1 (([-1 - (k : Int)])) := intsH.fz (xs := ([-1 - (k : Int)])) hz1.fz
  refine qy (t := 17) rfl (vF h2) (qm (args := [a1, v1]) call236 rfl (Equal_spec ha1 hf1 (hbd := (by first | assumption | rfl | omega | (left; simp; done) | (right; simp; done)))) ?_)
  rintro _ _ _ _ ⟨rfl, rfl, rfl⟩
  refine cX (qY (.bool (decide (((s.getD k [])) = (([-1 - (k : Int)]))))) (vF h2) rfl (qb ?_))
  refine qA (p := ((s.getD k [])) = (([-1 - (k : Int)]))) rfl (fun h3 => ?_) (fun h3 => ?_)
  ·refine jk (qt (qM (qa (cX (qH (((k + 1 : Nat) : Int)) rfl rfl (by omega) (by omega) (qd (ii (((k + 1 : Nat) : Int))) rfl (qb ?_)))))))
   exact ⟨(k + 1, ov, os, F1), _, (qh leG1 le1), rF, ⟨rfl, rfl, rfl, rfl, rfl, ⟨⟩⟩, (coH.close hc1 (by first | rfl | simp) (sC (sC (sC sR)))), ⟨rfl, (qh leG1 le1), (hov), (hos.trans (plain_skip (by omega) (by first | (left; exact List.eq_nil_of_length_eq_zero (by omega)) | (right; assumption))).symm), (by (try dsimp only) <;> omega)⟩, (by omega)⟩
  refine qw (qc (qK (jl (α := Nat × Value × RowL × FH) (fun xQ => [(2, ptr b2 0), (3, ptr b3 0), (4, ii ((k : Int))), (5, a1), (7, sv), (8, ii ((s.length : Int))), (9, ii ((k : Int)))]) (fun xQ => rowsH 22 xQ.2.2.2 xQ.2.1 xQ.2.2.1 :: cellsH b3 [xQ.2.1] 137 :: cellsH b2 [sN] 137 :: cellsH b1 [sv] 137 :: L) (fun xQ F' => xQ.2.2.2 = F' ∧ F1 ≤ xQ.2.2.2 ∧ (IsSl xQ.2.1) ∧ (xQ.2.2.1 = os ++ List.replicate xQ.1 []) ∧ (xQ.2.2.1.length ≤ k)) (fun xQ => k - xQ.2.2.1.length) (0, ov, os, F1) ⟨rfl, rfl, rfl, rfl, rfl, rfl, rfl, ⟨⟩⟩ (coH.close hc1 (by first | rfl | simp) (sC (sC (sC sR)))) ⟨rfl, FLe.refl _, (hov), (by simp), (by have := trim_le ((plainGo 0 s).take k); rw [← hos, List.length_take] at this; (try dsimp only); omega)⟩ ?_)))
  rintro ⟨j, ov2, os2, G2⟩ rE _ _ ⟨rfl, leG, hov2, hos2, hl2⟩
  show X _ _ _ _ (envs [(2, ptr b2 0), (3, ptr b3 0), (4, ii ((k : Int))), (5, a1), (7, sv), (8, ii ((s.length : Int))), (9, ii ((k : Int)))] rE) _ (rowsH 22 G2 ov2 os2 :: cellsH b3 [ov2] 137 :: cellsH b2 [sN] 137 :: cellsH b1 [sv] 137 :: L)
  replace leG : F1 ≤ G2 := leG
  dsimp only at hov2 hos2 hl2
  have leG2 := leG
  replace hs := hs.mono leG2
  replace hc1 := hc1.mono leG2
  replace ha1 := ha1.mono leG2
  refine X.open [] rfl (fun cs2 hc2 => ?_)
  replace hc2 : RowsC G2 cs2 os2 := hc2
  refine qc (qc (qa (cX (ql (0) qT rfl jb (by decide) rfl rfl (cX (qj jC rfl (Rd.own [_] rfl rfl) (cX (qE qv rfl (SlV.own [] rfl) (qd (ii ((k : Int))) rfl (cX (qW rfl rfl (qb ?_))))))))))))
  refine qA (p := ((os2.length : Int) : Int) < (k : Int)) rfl (fun h4 => ?_) (fun h4 => ?_)
  ·refine qw (qK (qa (cX (ql (0) qT rfl jb (by decide) rfl rfl (cX (qj jC rfl (Rd.own [_] rfl rfl) (cX (qo (s := 1) [sN] [sN] [(0, [sN])] qv qs jD rfl (by decide) rfl (.cons rfl CellsAre.nil) rfl ?_))))))))
   intro v2 hv1
   refine cX (jG (m := 1) (bytes := 24) (cs := cs2) [_] _ [sN] qv typeInfo22 rfl rfl rfl rfl rfl rfl rfl (SlV.own [] rfl) rfl (Rd.lit [] rfl) (qn rfl qO) (by (try simp only [List.length_append, List.length_nil, List.length_cons, List.length_singleton]); omega) (by (try simp only [List.length_append, List.length_nil, List.length_cons, List.length_singleton]); omega) ?_)
   intro v3 hs2 hn1 hm1
   have hc3 := RowsC.snoc hc2 IntsF.nilV
   refine cX (ql (0) qT rfl jb (by decide) rfl rfl (cX (jv [_, _] _ [v3] jb rfl rfl (qG hs2) rfl rfl rfl (qb ?_))))
   exact ⟨(j + 1, v3, os2 ++ [[]], G2), _, leG2, rF, ⟨rfl, rfl, rfl, rfl, rfl, rfl, rfl, ⟨⟩⟩, (sD (coH.close hc3 (by first | rfl | simp) (sC (sC (sC sR))))), ⟨rfl, leG2, (hs2), (by dsimp only; rw [hos2, List.append_assoc, List.replicate_succ']), (by dsimp only; rw [List.length_append]; simp only [List.length_singleton]; omega)⟩, (by dsimp only; rw [List.length_append]; simp only [List.length_singleton]; omega)⟩
  refine jk (qt (qt (qM ?_)))
  refine jW [slH 22 1 ov2 ((os2).length) cs2, cellsH b3 [ov2] 137, cellsH b2 [sN] 137, cellsH b1 [sv] 137] L 5 [[], [], [], [], [3]] [[], [0], [], [2], [3]] [] (phiG [pe (ptr b3 0), pe ov2, pe a1, fun FF us v => ((v) : Value) = v ∧ (IntsF FF (v) (((s.getD k [])))), fun FF us v => ∃ b, v = .slice (some ⟨b, 0, none⟩) 1 1]) (ownL [o0, o0, o0, o0, fun us v => [slH 22 1 v 1 [((us.getD 0 undef))]]]) mixed rfl rfl (by kernel_rfl) (by kernel_rfl) (MonoG.get (m1 (m1 (m1 (mC (fun le h => ⟨h.1, h.2.mono le⟩) (mC (fun le h => h) MonoG.nil)))))) ?_ ?_
  ·refine gD (fun W Fs R lF z9 => ?_) ?_
   ·refine qi (ql (0) qT rfl jb (by decide) rfl rfl ?_)
    exact ⟨rfl, rfl⟩
   refine gD (fun W Fs R lF z9 => ?_) ?_
   ·replace hs := hs.mono lF
    replace hc1 := hc1.mono lF
    replace ha1 := ha1.mono lF
    replace hc2 := hc2.mono lF
    rw [eS (l := [(0, _)]) ⟨z9 0 rfl, ⟨⟩⟩]
    refine qi (qj jC rfl (Rd.own [_] rfl rfl) ?_)
    exact ⟨rfl, rfl⟩
   refine gD (fun W Fs R lF z9 => ?_) ?_
   ·refine qi (qp (a1) rfl ?_)
    exact ⟨rfl, rfl⟩
   refine gD (fun W Fs R lF z9 => ?_) ?_
   ·replace hs := hs.mono lF
    replace hc1 := hc1.mono lF
    replace ha1 := ha1.mono lF
    replace hc2 := hc2.mono lF
    rw [eS (l := [(2, _)]) ⟨z9 2 rfl, ⟨⟩⟩]
    refine qi (jZ <| qm (args := [a1]) call96 rfl (Clone_spec ha1 (hlt := (hsb k (by omega)))) ?_)
    rintro v6 _ _ _ ⟨rfl, hs4, rfl⟩
    refine ⟨_, _, rfl, fun F2 le2 hz2 => ?_⟩
    replace hc1 := hc1.mono le2
    replace hc2 := hc2.mono le2
    have hf2 : IntsF F2 v6 ((((s.getD k [])))) := intsH.fz (xs := (((s.getD k [])))) hz2.fz
    exact ⟨⟨rfl, hf2⟩, rfl⟩
   refine gD (fun W Fs R lF z9 => ?_) ?_
   ·obtain ⟨e3, f3_1ha⟩ := z9 3 rfl
    replace hc1 := hc1.mono lF
    replace hc2 := hc2.mono lF
    rw [eS (l := [(3, ((W 3)))]) ⟨(e3).symm, ⟨⟩⟩]
    refine qi (qo (s := 1) [((W 3))] [sN] [(0, [((W 3))])] qv qs jD rfl (by decide) rfl (.cons (cells_one (qz f3_1ha)) CellsAre.nil) rfl ?_)
    intro v7 hv3
    exact ⟨hv3, rfl⟩
   exact stepsG.nil
  intro W F3 le3 hphi
  obtain ⟨e3, f3_1ha⟩ := hphi 3 (by decide)
  have f4 : ∃ b, (W 4) = .slice (some ⟨b, 0, none⟩) 1 1 := hphi 4 (by decide)
  generalize hu1 : ((W 3)) = u1 at e3 f3_1ha f4
  generalize hu4 : W 4 = u2 at e3 f3_1ha f4
  rw [eS (l := [(1, _), (3, u1), (4, u2)]) ⟨(hphi 1 (by decide)), hu1, hu4, ⟨⟩⟩]
  replace hc1 := hc1.mono le3
  replace hc2 := hc2.mono le3
  show XL _ _ _ _ _ _ _ (slH 22 1 u2 1 [u1] :: slH 22 1 ov2 ((os2).length) cs2 :: cellsH b3 [ov2] 137 :: cellsH b2 [sN] 137 :: cellsH b1 [sv] 137 :: L)
  refine cX (jG (m := 1) (bytes := 24) (cs := cs2) [_] _ [u1] qv typeInfo22 rfl rfl rfl rfl rfl rfl rfl (SlV.own [] rfl) rfl (Rd.lit [] rfl) (qn (qG (qz f3_1ha)) qO) (by (try simp only [List.length_append, List.length_nil, List.length_cons, List.length_singleton]); omega) (by (try simp only [List.length_append, List.length_nil, List.length_cons, List.length_singleton]); omega) ?_)
  intro v8 hs5 hn2 hm2
  have hc4 := RowsC.snoc hc2 f3_1ha
  refine cX (ql (0) qT rfl jb (by decide) rfl rfl (cX (jv [_, _] _ [v8] jb rfl rfl (qG hs5) rfl rfl rfl (qb (qa (cX (qH (((k + 1 : Nat) : Int)) rfl rfl (by omega) (by omega) (qd (ii (((k + 1 : Nat) : Int))) rfl (qb ?_)))))))))
  exact ⟨(k + 1, v8, os2 ++ [(((s.getD k [])))], F3), _, (qh (qh (qh leG1 le1) leG2) le3), rF, ⟨rfl, rfl, rfl, rfl, rfl, ⟨⟩⟩, (sD (coH.close hc4 (by first | rfl | simp) (sC (sC (sC sR))))), ⟨rfl, (qh (qh (qh leG1 le1) leG2) le3), (hs5), (plain_put (m := os2) (by omega) (by intro e; have := congrArg List.length e; simp only [List.length_nil] at this; omega) (by assumption) (by rw [hos2, hos]; exact plain_padded (by rw [← hos, ← hos2, List.length_take, plainGo_length]; omega))), (by (try dsimp only) <;> omega)⟩, (by omega)⟩
 refine jk (qt (qt (qM (qc (qa (cX (qr [ov] jR jo rfl rfl (Rd.ownN [_] rfl rfl) (cX (qL [_, _] _ [ov] jo rfl rfl rfl (qn (qG hov) qO) rfl rfl rfl (qb (qQ [] _ _ rfl (fun F4 le4 hz3 => ?_))))))))))))
 replace hc1 := hc1.mono le4
 have hf3 : RowsF F4 ov os := CO.fz hc1 (by first | rfl | omega | (rw [List.length_set]; omega) | (simp; done)) hz3.fz
 refine qu (qq (L' := L) [.agg #[ov]] (.agg #[ov]) (.cell rfl (ju [ov] jR jo rfl (Rd.ownN [_] rfl rfl)) .nil) rfl (qh leG1 le4) rF (sD (sD (sD sR))) ?_)
 have e : os = plainL s := by rw [hos, show k = s.length from by omega, plain_all]
 exact ⟨_, rfl, by rw [← e]; exact hf3, rfl⟩

/- impl.match -/
theorem match_spec {F : FH} {L : List HP} {arv : Value} {ar : List Int} (har : IntsF F arv ar) {pv : Value} {p : List Int} (hp : IntsF F pv p) {tv : Value} {t : List Int} (ht : IntsF F tv t) (ho : termOk ar t = true) (hpo : termOk ar p = true) :
    Does prog 144 [.agg #[arv], pv, tv] F (L) (fun v F' L' => ∃ (a : Value), (.tuple #[.agg #[a], .bool ((matchB ar p t).isSome)] : Value) = v ∧ (RowsF F' a (matchP ar p t)) ∧ L = L') := by
 refine qI func144 rfl rfl rfl ?_
 have hpl := termOk_len hpo
 have hpg := fun k (hk : k < p.length) => termOk_ge hpo hk
 refine qc (qa (cX (jc [arv] rfl rfl ?_)))
 intro b1
 refine cX (ji [sN] jB rfl ?_)
 intro b2
 refine qg (.bool (false)) rfl (qb (qc (qa (cX (qr [arv] qX qF rfl rfl (Rd.ownN [_] rfl rfl) (qd (pv) rfl (qd (tv) rfl (cX (XOp.build0 (List.replicate 24 (sN)) runUnderlying259 ⟨_, qs⟩ zeroValue259 rfl ?_)))))))))
 have hc1 : BindC F _ _ := BindC.nils 24
 refine cX (qm (args := [.agg #[arv], pv, tv, .agg (List.replicate 24 (sN)).toArray]) call214 rfl (matchInto_spec har hp ht hc1 ((by first | assumption | rfl | simp | omega)) (ho := (by first | assumption | rfl | omega | simp)) (hpl := (by first | assumption | rfl | omega | simp)) (hpg := (by first | assumption | rfl | omega | simp))) ?_)
 rintro _ _ _ _ ⟨rfl, x1, x2, rfl, hr1, hr2, hr3, rfl⟩
 have hbl24 := hr2
 refine qd (.tuple #[.agg (x1).toArray, .bool ((mGo ar t p 0 (List.replicate 24 ([] : List Int))).isSome)]) rfl (cX (je (.agg (x1).toArray) rfl rfl (cX (je (.bool ((mGo ar t p 0 (List.replicate 24 ([] : List Int))).isSome)) rfl rfl (cX (ji (List.replicate 24 (sN)) zeroValue259 rfl ?_))))))
 intro b3
 have hc2 : BindC F _ _ := BindC.nils 24
 refine cX (qL [] _ x1 sizeOf259 rfl rfl (by have := CO.len hr1; (try simp only [List.length_set, List.length_replicate] at this ⊢) <;> omega) hr1.ones rfl (Nat.ble_eq_true_of_le (Nat.le_of_eq (by have := CO.len hc2; (try simp only [List.length_set, List.length_replicate] at this ⊢) <;> omega))) (arr_over (by have := CO.len hc2; (try simp only [List.length_set, List.length_replicate] at this ⊢) <;> omega)) (qg (.bool ((mGo ar t p 0 (List.replicate 24 ([] : List Int))).isSome)) rfl (qb (qc (qc (qa (qd (.bool ((mGo ar t p 0 (List.replicate 24 ([] : List Int))).isSome)) rfl (cX (jE rfl (qb ?_))))))))))
 refine jz (t := !((mGo ar t p 0 (List.replicate 24 ([] : List Int))).isSome)) rfl (fun h1 => ?_) (fun h1 => ?_)
 ·refine qc (qa (cX (jh [sN] [sN] [(0, 1)] [] qT jB rfl (.cons rfl jb PlacesAre.nil) rfl CellsAre.nil (cX (qL [_] _ [sN] jo rfl rfl rfl (qn rfl qO) rfl rfl rfl (qg (.bool (false)) rfl (qb (qu (qk (qq (L' := L) [.agg #[sN], .bool (false)] (.tuple #[.agg #[sN], .bool (false)]) (.cell rfl (ju [sN] jR jo rfl (Rd.ownN [_] rfl rfl)) (.tmp rfl .nil)) rfl rF rF (sD (sD (sD sR))) ?_))))))))))
  have hz : matchB ar p t = none := by have h0 := h1; simpa [matchB] using h0
  exact ⟨_, by rw [hz]; rfl, by rw [matchP, hz]; exact SlOf.nilV, rfl⟩
 have hz : ∃ r, matchB ar p t = some r := Option.isSome_iff_exists.1 (by have h0 := h1; simpa [matchB] using h0)
 have hmb : ∀ i, (x2.getD i []).length ≤ t.length := by obtain ⟨r, hz⟩ := hz; have e := hr3 _ hz; rw [e]; exact (matchB_len hz).2
 have htl := termOk_len ho
 refine qw (qc (qa (cX (qr x1 isAgg259 sizeOf259 (by have := CO.len hr1; (try simp only [List.length_set, List.length_replicate] at this ⊢) <;> omega) rfl (Rd.ownN [] rfl take_all) (cX (qm (args := [.agg (x1).toArray]) call215 rfl (subst_spec hr1 ((by first | assumption | rfl | simp | omega))) ?_))))))
 rintro _ F2 _ le2 ⟨x3, rfl, hr4, rfl⟩
 refine cX (qm (args := [.agg #[x3]]) call193 rfl (plain_spec hr4 (hsl := (by first | assumption | rfl | omega | simp)) (hsb := (fun i hi => by have := hmb i; omega))) ?_)
 rintro _ F3 _ le3 ⟨x4, rfl, hr5, rfl⟩
 refine cX (qL [_] _ [x4] jo rfl rfl rfl (qn (qG (RowsF.isSl hr5)) qO) rfl rfl rfl (qg (.bool (true)) rfl (qb (qu (qq (L' := L) [.agg #[x4], .bool (true)] (.tuple #[.agg #[x4], .bool (true)]) (.cell rfl (ju [x4] jR jo rfl (Rd.ownN [_] rfl rfl)) (.tmp rfl .nil)) rfl (qh le2 le3) rF (sD (sD (sD sR))) ?_)))))
 obtain ⟨b0, hz⟩ := Option.isSome_iff_exists.1 (show (matchB ar p t).isSome = true from by have h0 := h1; simpa [matchB] using h0)
 have hb0 := hr3 _ hz
 exact ⟨_, by rw [hz]; rfl, by rw [matchP, hz]; subst hb0; exact hr5, rfl⟩

/- impl.instance -/
theorem instance_spec {F : FH} {L : List HP} {arv : Value} {ar : List Int} (har : IntsF F arv ar) {pv : Value} {p : List Int} (hp : IntsF F pv p) {tv : Value} {t : List Int} (ht : IntsF F tv t) (ho : termOk ar t = true) (hpo : termOk ar p = true) :
    Does prog 256 [.agg #[arv], pv, tv] F (L) (fun v F' L' => (.bool ((matchB ar p t).isSome) : Value) = v ∧ F = F' ∧ L = L') := by
 refine qI func256 rfl rfl rfl (qc (qa (cX (jc [arv] rfl rfl ?_))))
 intro b1
 refine qg (.bool (false)) rfl (qb (qc (qa (cX (qr [arv] qX qF rfl rfl (Rd.ownN [] rfl rfl) (qd (pv) rfl (qd (tv) rfl (cX (qm (args := [.agg #[arv], pv, tv]) call144 rfl (match_spec har hp ht (ho := (by first | assumption | rfl | omega | simp)) (hpo := (by first | assumption | rfl | omega | simp))) ?_)))))))))
 rintro _ F1 _ le1 ⟨x1, rfl, hr1, rfl⟩
 refine qd (.tuple #[.agg #[x1], .bool ((matchB ar p t).isSome)]) rfl (cX (je (.agg #[x1]) rfl rfl (cX (je (.bool ((matchB ar p t).isSome)) rfl rfl (cX (ji [sN] jB rfl ?_))))))
 intro b2
 refine cX (qL [] _ [x1] jo rfl rfl rfl (qn (qG (RowsF.isSl hr1)) qO) rfl rfl rfl (qg (.bool ((matchB ar p t).isSome)) rfl (qb (qc (qa (qd (.bool ((matchB ar p t).isSome)) rfl (qg (.bool ((matchB ar p t).isSome)) rfl (qb (qu (qq (L' := L) [.bool ((matchB ar p t).isSome)] (.bool ((matchB ar p t).isSome)) (.tmp rfl .nil) rfl rF le1 (sD (sD sR)) ?_))))))))))
 exact ⟨rfl, rfl, rfl⟩

/- impl.redex -/
theorem redex_spec {F : FH} {L : List HP} {arv : Value} {ar : List Int} (har : IntsF F arv ar) {rsv : Value} {rs : List (List Int × List Int)} (hrs : PairsF F rsv rs) {tv : Value} {t : List Int} (ht : IntsF F tv t) {p : Nat} {r : Nat} (hsys : sysOk ar rs = true) (ho : termOk ar t = true) (hp : p < t.length) (hr : r < rs.length) :
    Does prog 320 [.agg #[arv, rsv], tv, ii ((p : Int)), ii ((r : Int))] F (L) (fun v F' L' => (.bool (isRedex ar rs t p r) : Value) = v ∧ F = F' ∧ L = L') := by
 refine qI func320 rfl rfl rfl ?_
 have hnn := jt ht (by have := termOk_len ho; omega)
 have htl := termOk_len ho
 have hrl := (sysOk_iff.1 hsys).2.1
 have hsig := (sysOk_iff.1 hsys).1
 have hsl := sigOk_spec hsig
 have hR := ruleOk_iff.1 ((sysOk_iff.1 hsys).2.2 r hr)
 have hRl := hR.left
 have hRr := hR.right
 have hso := sub_ok ho hp
 refine qc (qa (cX (jc [arv, rsv] rfl rfl ?_)))
 intro b1
 refine qg (.bool (false)) rfl (qb (qc ?_))
 obtain ⟨a1, a2, ha1, ha2, hr1, hr2⟩ := hrs.rd (i := r) (by omega)
 refine jW [cellsH b1 [arv, rsv] 39] L 13 [] [[], [0], [], [2], [], [3, 4], [5], [6], [], [8], [], [], [9, 10, 11]] [] (phiG [pe (ptr b1 0), pe (.agg #[arv]), pe (ptr b1 1), pe rsv, pe (ii ((r : Int)) : Value), pe (.pointer (some (elemA rsv (r * 2)))), pe (.pointer (some (elemA rsv (r * 2)))), pe a1, pe (ptr b1 0), pe (.agg #[arv]), pe tv, pe (ii ((p : Int)) : Value), fun FF us v => ((v) : Value) = v ∧ (IntsF FF (v) (sub ar t p)) ∧ (isNil (v) = false)]) (ownL []) mixed rfl rfl (by kernel_rfl) (by kernel_rfl) (MonoG.get (m1 (m1 (m1 (m1 (m1 (m1 (m1 (m1 (m1 (m1 (m1 (m1 (mC (fun le h => ⟨h.1, h.2.1.mono le, h.2.2⟩) MonoG.nil)))))))))))))) ?_ ?_
 ·refine gD (fun W Fs R lF z9 => ?_) ?_
  ·refine qi (ql (0) qJ rfl qF (by decide) rfl rfl ?_)
   exact ⟨rfl, rfl⟩
  refine gD (fun W Fs R lF z9 => ?_) ?_
  ·replace har := har.mono lF
   replace hrs := hrs.mono lF
   replace ht := ht.mono lF
   replace ha1 := ha1.mono lF
   replace hr1 := Rd.monoA hr1 lF
   rw [eS (l := [(0, _)]) ⟨z9 0 rfl, ⟨⟩⟩]
   refine qi (qr [arv] qX qF rfl rfl (Rd.ownN [] rfl rfl) ?_)
   exact ⟨rfl, rfl⟩
  refine gD (fun W Fs R lF z9 => ?_) ?_
  ·refine qi (ql (1) qJ rfl jw (by decide) rfl rfl ?_)
   exact ⟨rfl, rfl⟩
  refine gD (fun W Fs R lF z9 => ?_) ?_
  ·replace har := har.mono lF
   replace hrs := hrs.mono lF
   replace ht := ht.mono lF
   replace ha1 := ha1.mono lF
   replace hr1 := Rd.monoA hr1 lF
   rw [eS (l := [(2, _)]) ⟨z9 2 rfl, ⟨⟩⟩]
   refine qi (qj yb rfl (Rd.own [] rfl rfl) ?_)
   exact ⟨rfl, rfl⟩
  refine gD (fun W Fs R lF z9 => ?_) ?_
  ·refine qi (qp (ii ((r : Int))) rfl ?_)
   exact ⟨rfl, rfl⟩
  refine gD (fun W Fs R lF z9 => ?_) ?_
  ·replace har := har.mono lF
   replace hrs := hrs.mono lF
   replace ht := ht.mono lF
   replace ha1 := ha1.mono lF
   replace hr1 := Rd.monoA hr1 lF
   rw [eS (l := [(3, _), (4, _)]) ⟨z9 3 rfl, z9 4 rfl, ⟨⟩⟩]
   refine qi (qD r jd jA rfl rfl rfl hrs.slv (by omega) rfl ?_)
   exact ⟨rfl, rfl⟩
  refine gD (fun W Fs R lF z9 => ?_) ?_
  ·rw [eS (l := [(5, _)]) ⟨z9 5 rfl, ⟨⟩⟩]
   refine qi (XOp.fieldE (r * 2) qV rfl qs (by decide) rfl rfl ?_)
   exact ⟨rfl, rfl⟩
  refine gD (fun W Fs R lF z9 => ?_) ?_
  ·replace har := har.mono lF
   replace ht := ht.mono lF
   replace ha1 := ha1.mono lF
   replace hr1 := Rd.monoA hr1 lF
   rw [eS (l := [(6, _)]) ⟨z9 6 rfl, ⟨⟩⟩]
   refine qi (qj qU rfl (hr1 _) ?_)
   exact ⟨rfl, rfl⟩
  refine gD (fun W Fs R lF z9 => ?_) ?_
  ·refine qi (ql (0) qJ rfl qF (by decide) rfl rfl ?_)
   exact ⟨rfl, rfl⟩
  refine gD (fun W Fs R lF z9 => ?_) ?_
  ·replace har := har.mono lF
   replace ht := ht.mono lF
   replace ha1 := ha1.mono lF
   rw [eS (l := [(8, _)]) ⟨z9 8 rfl, ⟨⟩⟩]
   refine qi (qr [arv] qX qF rfl rfl (Rd.ownN [] rfl rfl) ?_)
   exact ⟨rfl, rfl⟩
  refine gD (fun W Fs R lF z9 => ?_) ?_
  ·refine qi (qp (tv) rfl ?_)
   exact ⟨rfl, rfl⟩
  refine gD (fun W Fs R lF z9 => ?_) ?_
  ·refine qi (qp (ii ((p : Int))) rfl ?_)
   exact ⟨rfl, rfl⟩
  refine gD (fun W Fs R lF z9 => ?_) ?_
  ·replace har := har.mono lF
   replace ht := ht.mono lF
   replace ha1 := ha1.mono lF
   rw [eS (l := [(9, _), (10, _), (11, _)]) ⟨z9 9 rfl, z9 10 rfl, z9 11 rfl, ⟨⟩⟩]
   refine qi (qm (args := [.agg #[arv], tv, ii (p : Int)]) call142 rfl (subAt_spec (p := p) har ht (ho := (by first | assumption | rfl | omega | simp)) (hp := (by first | assumption | rfl | omega | simp)) (hnn := (by first | assumption | rfl | omega | simp))) ?_)
   rintro v2 _ _ _ ⟨rfl, rfl, hv2, hn2⟩
   exact ⟨⟨rfl, hv2, hn2⟩, rfl⟩
  exact stepsG.nil
 intro W F1 le1 hphi
 obtain ⟨e12, f12_1ha, f12_1hn⟩ := hphi 12 (by decide)
 generalize hu1 : ((W 12)) = u1 at e12 f12_1ha f12_1hn
 rw [eS (l := [(1, _), (7, _), (12, u1)]) ⟨(hphi 1 (by decide)), (hphi 7 (by decide)), hu1, ⟨⟩⟩]
 replace har := har.mono le1
 replace ha1 := ha1.mono le1
 show XL _ _ _ _ _ _ _ (cellsH b1 [arv, rsv] 39 :: L)
 refine cX (qm (args := [.agg #[arv], a1, u1]) call256 rfl (instance_spec har ha1 f12_1ha (ho := (by first | assumption | rfl | omega | simp)) (hpo := (by first | assumption | rfl | omega | simp))) ?_)
 rintro _ _ _ _ ⟨rfl, rfl, rfl⟩
 refine qg (.bool ((matchB ar ((rs.getD r ([], [])).1) ((sub ar t p))).isSome)) rfl (qb (qu (qq (L' := L) [.bool ((matchB ar ((rs.getD r ([], [])).1) ((sub ar t p))).isSome)] (.bool ((matchB ar ((rs.getD r ([], [])).1) ((sub ar t p))).isSome)) (.tmp rfl .nil) rfl rF le1 (sD sR) ?_)))
 exact ⟨rfl, rfl, rfl⟩

/- impl.ruleAt -/
theorem ruleAt_spec {F : FH} {L : List HP} {arv : Value} {ar : List Int} (har : IntsF F arv ar) {rsv : Value} {rs : List (List Int × List Int)} (hrs : PairsF F rsv rs) {tv : Value} {t : List Int} (ht : IntsF F tv t) {p : Nat} (hsys : sysOk ar rs = true) (ho : termOk ar t = true) (hp : p < t.length) :
    Does prog 247 [.agg #[arv, rsv], tv, ii ((p : Int))] F (L) (fun v F' L' => (ii (ruleAtL ar rs t p) : Value) = v ∧ F = F' ∧ L = L') := by
 refine qI func247 rfl rfl rfl ?_
 have hnn := jt ht (by have := termOk_len ho; omega)
 have htl := termOk_len ho
 have hrl := (sysOk_iff.1 hsys).2.1
 have hsig := (sysOk_iff.1 hsys).1
 have hsl := sigOk_spec hsig
 refine qc (qa (cX (jc [arv, rsv] rfl rfl ?_)))
 intro b1
 refine qg (ii (0)) rfl (qb (qc (qc (qa (cX (ql (1) qJ rfl jw (by decide) rfl rfl (cX (qj yb rfl (Rd.own [] rfl rfl) (cX (qE jd rfl hrs.slv (qd (ii (0)) rfl (qb (qK (jl (α := Nat) (fun r => [(1, tv), (2, ii ((p : Int))), (3, ptr b1 0), (10, ii ((rs.length : Int))), (11, ii ((r : Int)))]) (fun r => cellsH b1 [arv, rsv] 39 :: L) (fun r F' => F = F' ∧ (r ≤ rs.length) ∧ (ruleAtL ar rs t p = ruleAtGo ar rs t p (rs.length - r) r)) (fun r => rs.length - r) 0 ⟨rfl, rfl, rfl, rfl, rfl, ⟨⟩⟩ (sC sR) ⟨rfl, (by omega), (rfl)⟩ ?_))))))))))))))
 rintro r rE _ _ ⟨rfl, hr, hm⟩
 show X _ _ _ _ (envs [(1, tv), (2, ii ((p : Int))), (3, ptr b1 0), (10, ii ((rs.length : Int))), (11, ii ((r : Int)))] rE) _ (cellsH b1 [arv, rsv] 39 :: L)
 refine qc (qa (cX (qW rfl rfl (qb (qc ?_)))))
 refine qA (p := (r : Int) < (rs.length : Int)) rfl (fun h1 => ?_) (fun h1 => ?_)
 ·refine qw (qc (qK (qc (qa (qd (ii ((r : Int))) rfl (qg (ii ((r : Int))) rfl (qb (qc (qa (cX (qr [arv, rsv] ja qP rfl rfl (Rd.ownN [] rfl rfl) (qd (tv) rfl (qd (ii ((p : Int))) rfl (qd (ii ((r : Int))) rfl (cX (qm (args := [.agg #[arv, rsv], tv, ii (p : Int), ii (r : Int)]) call320 rfl (redex_spec (p := p) (r := r) har hrs ht (hsys := (by first | assumption | rfl | omega | simp)) (ho := (by first | assumption | rfl | omega | simp)) (hp := (by first | assumption | rfl | omega | simp)) (hr := (by first | assumption | rfl | omega | simp))) ?_))))))))))))))))
  rintro _ _ _ _ ⟨rfl, rfl, rfl⟩
  refine qb ?_
  refine jz (t := isRedex ar rs t p r) rfl (fun h2 => ?_) (fun h2 => ?_)
  ·refine qc (qa (qd (ii ((r : Int))) rfl (qg (ii ((r : Int))) rfl (qb (qu (qC (qk (qk (qC (qk (qq (L' := L) [ii ((r : Int))] (ii ((r : Int))) (.tmp rfl .nil) rfl rF rF (sD sR) ?_)))))))))))
   exact ⟨(vI (hm.trans (ruleAt_hit (by omega) (by assumption)))), rfl, rfl⟩
  refine qw (qa (cX (qH (((r + 1 : Nat) : Int)) rfl rfl (by omega) (by omega) (qd (ii (((r + 1 : Nat) : Int))) rfl (qb ?_)))))
  exact ⟨r + 1, _, FLe.refl _, rF, ⟨rfl, rfl, rfl, rfl, rfl, ⟨⟩⟩, (sC sR), ⟨rfl, (by (try dsimp only) <;> omega), (hm.trans (ruleAt_miss (by omega) (by assumption)))⟩, (by omega)⟩
 refine jk (qt (qt (qM (qc (qa (qg (ii (-1)) rfl (qb (qu (qq (L' := L) [ii (-1)] (ii (-1)) (.tmp rfl .nil) rfl rF rF (sD sR) ?_)))))))))
 exact ⟨(vI (hm.trans (ruleAt_end (by omega)))), rfl, rfl⟩

/- impl.normal -/
theorem normal_spec {F : FH} {L : List HP} {arv : Value} {ar : List Int} (har : IntsF F arv ar) {rsv : Value} {rs : List (List Int × List Int)} (hrs : PairsF F rsv rs) {tv : Value} {t : List Int} (ht : IntsF F tv t) (hsys : sysOk ar rs = true) (ho : termOk ar t = true) :
    Does prog 132 [.agg #[arv, rsv], tv] F (L) (fun v F' L' => (.bool (normalL ar rs t) : Value) = v ∧ F = F' ∧ L = L') := by
 refine qI func132 rfl rfl rfl ?_
 have hnn := jt ht (by have := termOk_len ho; omega)
 have htl := termOk_len ho
 have hrl := (sysOk_iff.1 hsys).2.1
 have hsig := (sysOk_iff.1 hsys).1
 have hsl := sigOk_spec hsig
 refine qc (qa (cX (jc [arv, rsv] rfl rfl ?_)))
 intro b1
 refine qg (.bool (false)) rfl (qb (qc (qc (qa (qd (tv) rfl (cX (qE qf rfl ht.slv (qd (ii (0)) rfl (qb (qK (jl (α := Nat) (fun k => [(1, tv), (2, ptr b1 0), (7, tv), (8, ii ((t.length : Int))), (9, ii ((k : Int)))]) (fun k => cellsH b1 [arv, rsv] 39 :: L) (fun k F' => F = F' ∧ (k ≤ t.length) ∧ (∀ p, p < k → ruleAtL ar rs t p < 0)) (fun k => t.length - k) 0 ⟨rfl, rfl, rfl, rfl, rfl, ⟨⟩⟩ (sC sR) ⟨rfl, (by (try dsimp only) <;> omega), (fun p hp => absurd hp (by omega))⟩ ?_)))))))))))
 rintro k rE _ _ ⟨rfl, hk, hall⟩
 show X _ _ _ _ (envs [(1, tv), (2, ptr b1 0), (7, tv), (8, ii ((t.length : Int))), (9, ii ((k : Int)))] rE) _ (cellsH b1 [arv, rsv] 39 :: L)
 refine qc (qa (cX (qW rfl rfl (qb (qc ?_)))))
 refine qA (p := (k : Int) < (t.length : Int)) rfl (fun h1 => ?_) (fun h1 => ?_)
 ·refine qw (qc (qK (qc (qa (qd (ii ((k : Int))) rfl (cX (qD k qf qB rfl rfl rfl ht.slv (by omega) (Nat.mul_one _) (cX (qj jm rfl (ht.rd (by omega)) (qg (ii ((k : Int))) rfl (qg (ii (t.getD k 0)) rfl (qb (qc (qa (qd (ii (t.getD k 0)) rfl (cX (jQ rfl rfl (qd (.bool (decide ((t.getD k 0 : Int) ≥ 0))) rfl ?_))))))))))))))))))
  by_cases h2 : (t.getD k 0 : Int) ≥ 0
  ·refine qy (t := 16) rfl (vT h2) (qr [arv, rsv] ja qP rfl rfl (Rd.ownN [] rfl rfl) (qy (t := 16) rfl (vT h2) (qp (tv) rfl (qy (t := 16) rfl (vT h2) (qp (ii ((k : Int))) rfl (qy (t := 16) rfl (vT h2) (qm (args := [.agg #[arv, rsv], tv, ii (k : Int)]) call247 rfl (ruleAt_spec (p := k) har hrs ht (hsys := (by first | assumption | rfl | omega | simp)) (ho := (by first | assumption | rfl | omega | simp)) (hp := (by first | assumption | rfl | omega | simp))) ?_)))))))
   rintro _ _ _ _ ⟨rfl, rfl, rfl⟩
   refine qy (t := 16) rfl (vT h2) (jQ rfl rfl (cX (jj (.bool (decide ((ruleAtL ar rs t k : Int) ≥ 0))) (vT h2) rfl (qb ?_))))
   refine qA (p := (ruleAtL ar rs t k : Int) ≥ 0) rfl (fun h3 => ?_) (fun h3 => ?_)
   ·refine qc (qa (qg (.bool (false)) rfl (qb (qu (qC (qk (qk (qC (qk (qq (L' := L) [.bool (false)] (.bool (false)) (.tmp rfl .nil) rfl rF rF (sD sR) ?_))))))))))
    exact ⟨(vB (normal_no (p := k) (by omega) (by omega))), rfl, rfl⟩
   refine qw (qa (cX (qH (((k + 1 : Nat) : Int)) rfl rfl (by omega) (by omega) (qd (ii (((k + 1 : Nat) : Int))) rfl (qb ?_)))))
   exact ⟨k + 1, _, FLe.refl _, rF, ⟨rfl, rfl, rfl, rfl, rfl, ⟨⟩⟩, (sC sR), ⟨rfl, (by (try dsimp only) <;> omega), (fun p hp => (Nat.lt_or_ge p k).elim (fun h => hall p h) (fun h => by obtain rfl : p = k := (by omega); first | omega | (have := ruleAt_var hsys ho (p := p) (by omega) (by omega); omega)))⟩, (by omega)⟩
  refine qx (t := 16) rfl (vF h2) (qx (t := 16) rfl (vF h2) (qx (t := 16) rfl (vF h2) (qx (t := 16) rfl (vF h2) (qx (t := 16) rfl (vF h2) (cX (qY (.bool (false)) (vF h2) rfl (qb (X.condF rfl (qw (qa (cX (qH (((k + 1 : Nat) : Int)) rfl rfl (by omega) (by omega) ?_))))))))))))
  refine qd (ii (((k + 1 : Nat) : Int))) rfl (qb ?_)
  exact ⟨k + 1, _, FLe.refl _, rF, ⟨rfl, rfl, rfl, rfl, rfl, ⟨⟩⟩, (sC sR), ⟨rfl, (by (try dsimp only) <;> omega), (fun p hp => (Nat.lt_or_ge p k).elim (fun h => hall p h) (fun h => by obtain rfl : p = k := (by omega); first | omega | (have := ruleAt_var hsys ho (p := p) (by omega) (by omega); omega)))⟩, (by omega)⟩
 refine jk (qt (qt (qM (qc (qa (qg (.bool (true)) rfl (qb (qu (qq (L' := L) [.bool (true)] (.bool (true)) (.tmp rfl .nil) rfl rF rF (sD sR) ?_)))))))))
 exact ⟨(vB (normal_yes (fun p hp => hall p (by omega)))), rfl, rfl⟩

/- impl.redexes -/
theorem redexes_spec {F : FH} {L : List HP} {arv : Value} {ar : List Int} (har : IntsF F arv ar) {rsv : Value} {rs : List (List Int × List Int)} (hrs : PairsF F rsv rs) {tv : Value} {t : List Int} (ht : IntsF F tv t) (hsys : sysOk ar rs = true) (ho : termOk ar t = true) :
    Does prog 321 [.agg #[arv, rsv], tv] F (L) (fun v F' L' => F = F' ∧ IsSl v ∧ intsH 3 v (redL ar rs t) :: L = L') := by
 refine qI func321 rfl rfl rfl ?_
 have hnn := jt ht (by have := termOk_len ho; omega)
 have htl := termOk_len ho
 have hrl := (sysOk_iff.1 hsys).2.1
 have hsig := (sysOk_iff.1 hsys).1
 have hsl := sigOk_spec hsig
 refine qc (qa (cX (jc [arv, rsv] rfl rfl ?_)))
 intro b1
 refine qg (sN) rfl (qb (qc (qa (qg (sN) rfl (qb (qc (qc (qa (qd (tv) rfl (cX (qE qf rfl ht.slv (qd (ii (0)) rfl (qb (qK (jl (α := Nat × Value × List Int) (fun xQ => [(1, tv), (2, ptr b1 0), (5, xQ.2.1), (8, tv), (9, ii ((t.length : Int))), (10, ii (((xQ.1 : Nat) : Int)))]) (fun xQ => intsH 3 xQ.2.1 xQ.2.2 :: cellsH b1 [arv, rsv] 39 :: L) (fun xQ F' => F = F' ∧ (IsSl xQ.2.1) ∧ (xQ.1 ≤ t.length) ∧ (xQ.2.2 = redTo ar rs t xQ.1)) (fun xQ => t.length - xQ.1) (0, sN, []) ⟨rfl, rfl, rfl, rfl, rfl, rfl, ⟨⟩⟩ (qR (intsH.addNil 3 none _) (sC (sC sR))) ⟨rfl, (⟨_, _, _, rfl⟩), (by (try dsimp only) <;> omega), (rfl)⟩ ?_)))))))))))))))
 rintro ⟨k, ov, os⟩ rE _ _ ⟨rfl, hov, hk, hos⟩
 show X _ _ _ _ (envs [(1, tv), (2, ptr b1 0), (5, ov), (8, tv), (9, ii ((t.length : Int))), (10, ii ((k : Int)))] rE) _ (intsH 3 ov os :: cellsH b1 [arv, rsv] 39 :: L)
 dsimp only at hov hk hos
 have hol : os.length ≤ k := by rw [hos]; exact redTo_len
 refine qc (qa (cX (qW rfl rfl (qb (qc ?_)))))
 refine qA (p := (k : Int) < (t.length : Int)) rfl (fun h1 => ?_) (fun h1 => ?_)
 ·refine qw (qc (qK (qc (qa (qd (ii ((k : Int))) rfl (cX (qD k qf qB rfl rfl rfl ht.slv (by omega) (Nat.mul_one _) (cX (qj jm rfl (ht.rd (by omega)) (qg (ii ((k : Int))) rfl (qg (ii (t.getD k 0)) rfl (qb (qc (qa (qd (ii (t.getD k 0)) rfl (cX (jQ rfl rfl (qd (.bool (decide ((t.getD k 0 : Int) ≥ 0))) rfl ?_))))))))))))))))))
  by_cases h2 : (t.getD k 0 : Int) ≥ 0
  ·refine qy (t := 17) rfl (vT h2) (qr [arv, rsv] ja qP rfl rfl (Rd.ownN [_] rfl rfl) (qy (t := 17) rfl (vT h2) (qp (tv) rfl (qy (t := 17) rfl (vT h2) (qp (ii ((k : Int))) rfl (qy (t := 17) rfl (vT h2) (qm (args := [.agg #[arv, rsv], tv, ii (k : Int)]) call247 rfl (ruleAt_spec (p := k) har hrs ht (hsys := (by first | assumption | rfl | omega | simp)) (ho := (by first | assumption | rfl | omega | simp)) (hp := (by first | assumption | rfl | omega | simp))) ?_)))))))
   rintro _ _ _ _ ⟨rfl, rfl, rfl⟩
   refine qy (t := 17) rfl (vT h2) (jQ rfl rfl (cX (jj (.bool (decide ((ruleAtL ar rs t k : Int) ≥ 0))) (vT h2) rfl (qb ?_))))
   refine qA (p := (ruleAtL ar rs t k : Int) ≥ 0) rfl (fun h3 => ?_) (fun h3 => ?_)
   ·refine qa (qd (ov) rfl (qd (ii ((k : Int))) rfl (cX (qo (s := 1) [ii ((k : Int))] [ii (0)] [(0, [ii ((k : Int))])] jy jV zeroValue3 rfl (by decide) rfl (.cons rfl CellsAre.nil) rfl ?_))))
    intro v1 hv1
    refine cX (XOp.append1 (u := (k : Int)) [_] _ jy typeInfo3 rfl rfl rfl rfl rfl rfl (SlV.own [] rfl) (Rd.sl [] rfl rfl) (by (try simp only [List.length_append, List.length_nil, List.length_cons, List.length_singleton, List.length_take, List.length_drop]); omega) ?_)
    intro v2 hs1 hn1
    refine qg (v2) rfl (qb (qa (cX (qH (((k + 1 : Nat) : Int)) rfl rfl (by omega) (by omega) (qd (ii (((k + 1 : Nat) : Int))) rfl (qb ?_))))))
    exact ⟨(k + 1, v2, os ++ [(k : Int)]), _, FLe.refl _, rF, ⟨rfl, rfl, rfl, rfl, rfl, rfl, ⟨⟩⟩, (sD (sC (sC sR))), ⟨rfl, (hs1), (by (try dsimp only) <;> omega), ((by dsimp only; rw [hos]; first | exact (redTo_yes (by omega)).symm | exact (redTo_no (by omega)).symm | exact (redTo_no (by rw [ruleAt_var hsys ho (by omega) (by omega)]; omega)).symm))⟩, (by omega)⟩
   refine qw (qa (cX (qH (((k + 1 : Nat) : Int)) rfl rfl (by omega) (by omega) (qd (ii (((k + 1 : Nat) : Int))) rfl (qb ?_)))))
   exact ⟨(k + 1, ov, os), _, FLe.refl _, rF, ⟨rfl, rfl, rfl, rfl, rfl, rfl, ⟨⟩⟩, (sC (sC sR)), ⟨rfl, (hov), (by (try dsimp only) <;> omega), ((by dsimp only; rw [hos]; first | exact (redTo_yes (by omega)).symm | exact (redTo_no (by omega)).symm | exact (redTo_no (by rw [ruleAt_var hsys ho (by omega) (by omega)]; omega)).symm))⟩, (by omega)⟩
  refine qx (t := 17) rfl (vF h2) (qx (t := 17) rfl (vF h2) (qx (t := 17) rfl (vF h2) (qx (t := 17) rfl (vF h2) (qx (t := 17) rfl (vF h2) (cX (qY (.bool (false)) (vF h2) rfl (qb (X.condF rfl (qw (qa (cX (qH (((k + 1 : Nat) : Int)) rfl rfl (by omega) (by omega) ?_))))))))))))
  refine qd (ii (((k + 1 : Nat) : Int))) rfl (qb ?_)
  exact ⟨(k + 1, ov, os), _, FLe.refl _, rF, ⟨rfl, rfl, rfl, rfl, rfl, rfl, ⟨⟩⟩, (sC (sC sR)), ⟨rfl, (hov), (by (try dsimp only) <;> omega), ((by dsimp only; rw [hos]; first | exact (redTo_yes (by omega)).symm | exact (redTo_no (by omega)).symm | exact (redTo_no (by rw [ruleAt_var hsys ho (by omega) (by omega)]; omega)).symm))⟩, (by omega)⟩
 refine jk (qt (qt (qM (qc (qa (qd (ov) rfl (qg (ov) rfl (qb (qu (qq (L' := intsH 3 ov os :: L) [ov] (ov) (.tmp rfl .nil) rfl rF rF (sC (sD sR)) ?_))))))))))
 refine ⟨rfl, hov, ?_⟩
 have hxs : (redL ar rs t : List Int) = os := by rw [hos, redL, show k = t.length from by omega]
 exact congrArg (fun z => intsH 3 _ z :: L) hxs

/- impl.inmost -/
theorem inmost_spec {F : FH} {L : List HP} {arv : Value} {ar : List Int} (har : IntsF F arv ar) {rsv : Value} {rs : List (List Int × List Int)} (hrs : PairsF F rsv rs) {tv : Value} {t : List Int} (ht : IntsF F tv t) (hsys : sysOk ar rs = true) (ho : termOk ar t = true) :
    Does prog 363 [.agg #[arv, rsv], tv] F (L) (fun v F' L' => F = F' ∧ IsSl v ∧ intsH 3 v (inL ar rs t) :: L = L') := by
 refine qI func363 rfl rfl rfl ?_
 have hnn := jt ht (by have := termOk_len ho; omega)
 have htl := termOk_len ho
 have hrl := (sysOk_iff.1 hsys).2.1
 have hsig := (sysOk_iff.1 hsys).1
 have hsl := sigOk_spec hsig
 have hrd := redL_len (ar := ar) (rs := rs) (t := t)
 refine qc (qa (cX (jc [arv, rsv] rfl rfl ?_)))
 intro b1
 refine qg (sN) rfl (qb (qc (qa (cX (qr [arv, rsv] ja qP rfl rfl (Rd.ownN [] rfl rfl) (qd (tv) rfl (cX (jZ <| qm (args := [.agg #[arv, rsv], tv]) call321 rfl (redexes_spec har hrs ht (hsys := (by first | assumption | rfl | omega | simp)) (ho := (by first | assumption | rfl | omega | simp))) ?_))))))))
 rintro v1 _ _ _ ⟨rfl, hs1, rfl⟩
 refine ⟨_, _, rfl, fun F1 le1 hz1 => ?_⟩
 replace har := har.mono le1
 replace ht := ht.mono le1
 have hf1 : IntsF F1 v1 ((redL ar rs t)) := intsH.fz (xs := (redL ar rs t)) hz1.fz
 refine qg (v1) rfl (qb (qc (qa (qg (sN) rfl (qb (qc (qc (qa (qd (v1) rfl (cX (qE jy rfl hf1.slv (qd (ii (0)) rfl (qb (qK (jl (α := Nat × Value × List Int) (fun xQ => [(1, tv), (2, ptr b1 0), (5, v1), (6, xQ.2.1), (12, v1), (13, ii (((((redL ar rs t)).length : Nat) : Int))), (14, ii (((xQ.1 : Nat) : Int)))]) (fun xQ => intsH 3 xQ.2.1 xQ.2.2 :: cellsH b1 [arv, rsv] 39 :: L) (fun xQ F' => F1 = F' ∧ (IsSl xQ.2.1) ∧ (xQ.1 ≤ (redL ar rs t).length) ∧ (xQ.2.2 = inTo ar t (redL ar rs t) xQ.1)) (fun xQ => (redL ar rs t).length - xQ.1) (0, sN, []) ⟨rfl, rfl, rfl, rfl, rfl, rfl, rfl, ⟨⟩⟩ (qR (intsH.addNil 3 none _) (sC (sC sR))) ⟨rfl, (⟨_, _, _, rfl⟩), (by (try dsimp only) <;> omega), (rfl)⟩ ?_)))))))))))))))
 rintro ⟨k, ov, os⟩ rE _ _ ⟨rfl, hov, hk, hos⟩
 show X _ _ _ _ (envs [(1, tv), (2, ptr b1 0), (5, v1), (6, ov), (12, v1), (13, ii (((((redL ar rs t)).length : Nat) : Int))), (14, ii ((k : Int)))] rE) _ (intsH 3 ov os :: cellsH b1 [arv, rsv] 39 :: L)
 dsimp only at hov hk hos
 have hol : os.length ≤ k := by rw [hos]; exact inTo_len
 have hsp := fun h => redL_spec (ar := ar) (rs := rs) (t := t) 0 k h
 have has := fun h => redL_asc (ar := ar) (rs := rs) (t := t) (i := k) h
 refine qc (qa (cX (qW rfl rfl (qb (qc ?_)))))
 refine qA (p := (k : Int) < ((((redL ar rs t)).length : Nat) : Int)) rfl (fun h1 => ?_) (fun h1 => ?_)
 ·refine qw (qc (qK (qc (qa (qd (ii ((k : Int))) rfl (cX (qD k jy jV rfl rfl rfl hf1.slv (by omega) (Nat.mul_one _) (cX (qj isAgg3 rfl (hf1.rd (by omega)) (qg (ii ((k : Int))) rfl (qg (ii (((redL ar rs t)).getD k 0)) rfl (qb (qc ?_)))))))))))))
  by_cases h2 : (((k + 1 : Nat) : Int) : Int) = ((((redL ar rs t)).length : Nat) : Int)
  ·refine jY [intsH 3 ov os, cellsH b1 [arv, rsv] 39] L 15 [] [[], [0], [], [2], [1, 3], [4], [5], [5, 6], [5], [5], [5], [5], [5, 11], [5, 10, 12], [5, 13]] (phiL [qe (ii ((k : Int)) : Value), qe (ii (((k + 1 : Nat) : Int)) : Value), qe v1, qe (ii (((((redL ar rs t)).length : Nat) : Int)) : Value), qe (.bool (decide ((((k + 1 : Nat) : Int) : Int) = ((((redL ar rs t)).length : Nat) : Int))) : Value), qe (.bool (decide ((((k + 1 : Nat) : Int) : Int) = ((((redL ar rs t)).length : Nat) : Int))) : Value), qe undef, qe undef, qe undef, qe undef, qe undef, qe undef, qe undef, qe undef, qe undef]) (ownL []) mixed rfl rfl (by kernel_rfl) ?_ ?_
   ·refine pD (fun W R z9 => ?_) ?_
    ·refine qi (qp (ii ((k : Int))) rfl ?_)
     exact ⟨rfl, rfl, rfl⟩
    refine pD (fun W R z9 => ?_) ?_
    ·rw [eS (l := [(0, _)]) ⟨z9 0 rfl, ⟨⟩⟩]
     refine qi (qH (((k + 1 : Nat) : Int)) rfl rfl (by omega) (by omega) ?_)
     exact ⟨rfl, rfl, rfl⟩
    refine pD (fun W R z9 => ?_) ?_
    ·refine qi (qp (v1) rfl ?_)
     exact ⟨rfl, rfl, rfl⟩
    refine pD (fun W R z9 => ?_) ?_
    ·rw [eS (l := [(2, _)]) ⟨z9 2 rfl, ⟨⟩⟩]
     refine qi (qE jy rfl hf1.slv ?_)
     exact ⟨rfl, rfl, rfl⟩
    refine pD (fun W R z9 => ?_) ?_
    ·rw [eS (l := [(1, _), (3, _)]) ⟨z9 1 rfl, z9 3 rfl, ⟨⟩⟩]
     refine qi (js rfl rfl ?_)
     exact ⟨rfl, rfl, rfl⟩
    refine pD (fun W R z9 => ?_) ?_
    ·rw [eS (l := [(4, _)]) ⟨z9 4 rfl, ⟨⟩⟩]
     refine qi (qp (.bool (decide ((((k + 1 : Nat) : Int) : Int) = ((((redL ar rs t)).length : Nat) : Int)))) rfl ?_)
     exact ⟨rfl, rfl, rfl⟩
    refine pD (fun W R z9 => ?_) ?_
    ·rw [eS (l := [(5, _)]) ⟨z9 5 rfl, ⟨⟩⟩]
     exact XG.no (t := 24) rfl (vT h2) ⟨rfl, rfl, rfl⟩
    refine pD (fun W R z9 => ?_) ?_
    ·rw [eS (l := [(5, _), (6, undef)]) ⟨z9 5 rfl, z9 6 rfl, ⟨⟩⟩]
     exact XG.no (t := 24) rfl (vT h2) ⟨rfl, rfl, rfl⟩
    refine pD (fun W R z9 => ?_) ?_
    ·rw [eS (l := [(5, _)]) ⟨z9 5 rfl, ⟨⟩⟩]
     exact XG.no (t := 24) rfl (vT h2) ⟨rfl, rfl, rfl⟩
    refine pD (fun W R z9 => ?_) ?_
    ·rw [eS (l := [(5, _)]) ⟨z9 5 rfl, ⟨⟩⟩]
     exact XG.no (t := 24) rfl (vT h2) ⟨rfl, rfl, rfl⟩
    refine pD (fun W R z9 => ?_) ?_
    ·rw [eS (l := [(5, _)]) ⟨z9 5 rfl, ⟨⟩⟩]
     exact XG.no (t := 24) rfl (vT h2) ⟨rfl, rfl, rfl⟩
    refine pD (fun W R z9 => ?_) ?_
    ·rw [eS (l := [(5, _)]) ⟨z9 5 rfl, ⟨⟩⟩]
     exact XG.no (t := 24) rfl (vT h2) ⟨rfl, rfl, rfl⟩
    refine pD (fun W R z9 => ?_) ?_
    ·rw [eS (l := [(5, _), (11, undef)]) ⟨z9 5 rfl, z9 11 rfl, ⟨⟩⟩]
     exact XG.no (t := 24) rfl (vT h2) ⟨rfl, rfl, rfl⟩
    refine pD (fun W R z9 => ?_) ?_
    ·rw [eS (l := [(5, _), (10, undef), (12, undef)]) ⟨z9 5 rfl, z9 10 rfl, z9 12 rfl, ⟨⟩⟩]
     exact XG.no (t := 24) rfl (vT h2) ⟨rfl, rfl, rfl⟩
    refine pD (fun W R z9 => ?_) ?_
    ·rw [eS (l := [(5, _), (13, undef)]) ⟨z9 5 rfl, z9 13 rfl, ⟨⟩⟩]
     exact XG.no (t := 24) rfl (vT h2) ⟨rfl, rfl, rfl⟩
    exact stepsP.nil
   intro W hphi
   rw [eS (l := [(5, _), (7, undef), (8, undef), (9, undef), (14, undef)]) ⟨(hphi 5 (by decide)), (hphi 7 (by decide)), (hphi 8 (by decide)), (hphi 9 (by decide)), (hphi 14 (by decide)), ⟨⟩⟩]
   show XL _ _ _ _ _ _ _ (intsH 3 ov os :: cellsH b1 [arv, rsv] 39 :: L)
   refine qx (t := 24) rfl (vT h2) (qx (t := 24) rfl (vT h2) (cX (jj (.bool (true)) (vT h2) rfl (qb (yd rfl (qa (qd (ov) rfl (qd (ii (((redL ar rs t)).getD k 0)) rfl (cX (qo (s := 1) [ii (((redL ar rs t)).getD k 0)] [ii (0)] [(0, [ii (((redL ar rs t)).getD k 0)])] jy jV zeroValue3 rfl (by decide) rfl (.cons rfl CellsAre.nil) rfl ?_))))))))))
   intro v2 hv1
   refine cX (XOp.append1 (u := ((redL ar rs t)).getD k 0) [_] _ jy typeInfo3 rfl rfl rfl rfl rfl rfl (SlV.own [] rfl) (Rd.sl [] rfl rfl) (by (try simp only [List.length_append, List.length_nil, List.length_cons, List.length_singleton, List.length_take, List.length_drop]); omega) ?_)
   intro v3 hs2 hn1
   refine qg (v3) rfl (qb (qa (cX (qH (((k + 1 : Nat) : Int)) rfl rfl (by omega) (by omega) (qd (ii (((k + 1 : Nat) : Int))) rfl (qb ?_))))))
   exact ⟨(k + 1, v3, os ++ [((redL ar rs t)).getD k 0]), _, FLe.refl _, rF, ⟨rfl, rfl, rfl, rfl, rfl, rfl, rfl, ⟨⟩⟩, (sD (sC (sC sR))), ⟨rfl, (hs2), (by (try dsimp only) <;> omega), ((by dsimp only; rw [hos]; first | exact (inTo_yes (by simp only [inOk, decide_eq_true_eq]; omega)).symm | exact (inTo_no (by simp only [inOk, decide_eq_false_iff_not]; omega)).symm))⟩, (by omega)⟩
  refine jY [intsH 3 ov os, cellsH b1 [arv, rsv] 39] L 15 [] [[], [0], [], [2], [1, 3], [4], [5], [5, 6], [5], [5], [5], [5], [5, 11], [5, 10, 12], [5, 13]] (phiL [qe (ii ((k : Int)) : Value), qe (ii (((k + 1 : Nat) : Int)) : Value), qe v1, qe (ii (((((redL ar rs t)).length : Nat) : Int)) : Value), qe (.bool (decide ((((k + 1 : Nat) : Int) : Int) = ((((redL ar rs t)).length : Nat) : Int))) : Value), qe (.bool (decide ((((k + 1 : Nat) : Int) : Int) = ((((redL ar rs t)).length : Nat) : Int))) : Value), qe (ptr b1 0), qe (.agg #[arv]), qe tv, qe (ii (((redL ar rs t)).getD k 0)), qe v1, qe (ii ((k : Int)) : Value), qe (ii (((k + 1 : Nat) : Int)) : Value), qe (.pointer (some (elemA v1 (k + 1)))), qe (ii (((redL ar rs t)).getD (k + 1) 0))]) (ownL []) mixed rfl rfl (by kernel_rfl) ?_ ?_
  ·refine pD (fun W R z9 => ?_) ?_
   ·refine qi (qp (ii ((k : Int))) rfl ?_)
    exact ⟨rfl, rfl, rfl⟩
   refine pD (fun W R z9 => ?_) ?_
   ·rw [eS (l := [(0, _)]) ⟨z9 0 rfl, ⟨⟩⟩]
    refine qi (qH (((k + 1 : Nat) : Int)) rfl rfl (by omega) (by omega) ?_)
    exact ⟨rfl, rfl, rfl⟩
   refine pD (fun W R z9 => ?_) ?_
   ·refine qi (qp (v1) rfl ?_)
    exact ⟨rfl, rfl, rfl⟩
   refine pD (fun W R z9 => ?_) ?_
   ·rw [eS (l := [(2, _)]) ⟨z9 2 rfl, ⟨⟩⟩]
    refine qi (qE jy rfl hf1.slv ?_)
    exact ⟨rfl, rfl, rfl⟩
   refine pD (fun W R z9 => ?_) ?_
   ·rw [eS (l := [(1, _), (3, _)]) ⟨z9 1 rfl, z9 3 rfl, ⟨⟩⟩]
    refine qi (js rfl rfl ?_)
    exact ⟨rfl, rfl, rfl⟩
   refine pD (fun W R z9 => ?_) ?_
   ·rw [eS (l := [(4, _)]) ⟨z9 4 rfl, ⟨⟩⟩]
    refine qi (qp (.bool (decide ((((k + 1 : Nat) : Int) : Int) = ((((redL ar rs t)).length : Nat) : Int)))) rfl ?_)
    exact ⟨rfl, rfl, rfl⟩
   refine pD (fun W R z9 => ?_) ?_
   ·rw [eS (l := [(5, _)]) ⟨z9 5 rfl, ⟨⟩⟩]
    refine jM (t := 24) rfl (vF h2) (ql (0) qJ rfl qF (by decide) rfl rfl ?_)
    exact ⟨rfl, rfl, rfl⟩
   refine pD (fun W R z9 => ?_) ?_
   ·rw [eS (l := [(5, _), (6, _)]) ⟨z9 5 rfl, z9 6 rfl, ⟨⟩⟩]
    refine jM (t := 24) rfl (vF h2) (qr [arv] qX qF rfl rfl (Rd.ownN [_] rfl rfl) ?_)
    exact ⟨rfl, rfl, rfl⟩
   refine pD (fun W R z9 => ?_) ?_
   ·rw [eS (l := [(5, _)]) ⟨z9 5 rfl, ⟨⟩⟩]
    refine jM (t := 24) rfl (vF h2) (qp (tv) rfl ?_)
    exact ⟨rfl, rfl, rfl⟩
   refine pD (fun W R z9 => ?_) ?_
   ·rw [eS (l := [(5, _)]) ⟨z9 5 rfl, ⟨⟩⟩]
    refine jM (t := 24) rfl (vF h2) (qp (ii (((redL ar rs t)).getD k 0)) rfl ?_)
    exact ⟨rfl, rfl, rfl⟩
   refine pD (fun W R z9 => ?_) ?_
   ·rw [eS (l := [(5, _)]) ⟨z9 5 rfl, ⟨⟩⟩]
    refine jM (t := 24) rfl (vF h2) (qp (v1) rfl ?_)
    exact ⟨rfl, rfl, rfl⟩
   refine pD (fun W R z9 => ?_) ?_
   ·rw [eS (l := [(5, _)]) ⟨z9 5 rfl, ⟨⟩⟩]
    refine jM (t := 24) rfl (vF h2) (qp (ii ((k : Int))) rfl ?_)
    exact ⟨rfl, rfl, rfl⟩
   refine pD (fun W R z9 => ?_) ?_
   ·rw [eS (l := [(5, _), (11, _)]) ⟨z9 5 rfl, z9 11 rfl, ⟨⟩⟩]
    refine jM (t := 24) rfl (vF h2) (qH (((k + 1 : Nat) : Int)) rfl rfl (by omega) (by omega) ?_)
    exact ⟨rfl, rfl, rfl⟩
   refine pD (fun W R z9 => ?_) ?_
   ·rw [eS (l := [(5, _), (10, _), (12, _)]) ⟨z9 5 rfl, z9 10 rfl, z9 12 rfl, ⟨⟩⟩]
    refine jM (t := 24) rfl (vF h2) (qD (k + 1) jy jV rfl rfl rfl hf1.slv (by omega) (Nat.mul_one _) ?_)
    exact ⟨rfl, rfl, rfl⟩
   refine pD (fun W R z9 => ?_) ?_
   ·rw [eS (l := [(5, _), (13, _)]) ⟨z9 5 rfl, z9 13 rfl, ⟨⟩⟩]
    refine jM (t := 24) rfl (vF h2) (qj isAgg3 rfl (hf1.rd (by omega)) ?_)
    exact ⟨rfl, rfl, rfl⟩
   exact stepsP.nil
  intro W hphi
  rw [eS (l := [(5, _), (7, _), (8, _), (9, _), (14, _)]) ⟨(hphi 5 (by decide)), (hphi 7 (by decide)), (hphi 8 (by decide)), (hphi 9 (by decide)), (hphi 14 (by decide)), ⟨⟩⟩]
  show XL _ _ _ _ _ _ _ (intsH 3 ov os :: cellsH b1 [arv, rsv] 39 :: L)
  refine qy (t := 24) rfl (vF h2) (qm (args := [.agg #[arv], tv, ii (((((redL ar rs t)).getD k 0).toNat : Nat) : Int), ii (((redL ar rs t)).getD (k + 1) 0)]) call384 (by rw [show (((((redL ar rs t)).getD k 0).toNat : Nat) : Int) = ((redL ar rs t)).getD k 0 from by omega]; rfl) (inside_spec (p := (((redL ar rs t)).getD k 0).toNat) (q := ((redL ar rs t)).getD (k + 1) 0) har ht (ho := (by first | assumption | rfl | omega | simp)) (hp := (by first | assumption | rfl | omega | simp))) ?_)
  rintro _ _ _ _ ⟨rfl, rfl, rfl⟩
  refine qy (t := 24) rfl (vF h2) (XOp.notD rfl (cX (qY (.bool (decide (¬((((((redL ar rs t)).getD k 0).toNat) : Int) ≤ (((redL ar rs t)).getD (k + 1) 0) ∧ (((redL ar rs t)).getD (k + 1) 0) < (endN ar t ((((redL ar rs t)).getD k 0).toNat) : Int))))) (vF h2) rfl (qb ?_))))
  refine qA (p := ¬((((((redL ar rs t)).getD k 0).toNat) : Int) ≤ (((redL ar rs t)).getD (k + 1) 0) ∧ (((redL ar rs t)).getD (k + 1) 0) < (endN ar t ((((redL ar rs t)).getD k 0).toNat) : Int))) rfl (fun h3 => ?_) (fun h3 => ?_)
  ·refine qa (qd (ov) rfl (qd (ii (((redL ar rs t)).getD k 0)) rfl (cX (qo (s := 1) [ii (((redL ar rs t)).getD k 0)] [ii (0)] [(0, [ii (((redL ar rs t)).getD k 0)])] jy jV zeroValue3 rfl (by decide) rfl (.cons rfl CellsAre.nil) rfl ?_))))
   intro v4 hv2
   refine cX (XOp.append1 (u := ((redL ar rs t)).getD k 0) [_] _ jy typeInfo3 rfl rfl rfl rfl rfl rfl (SlV.own [] rfl) (Rd.sl [] rfl rfl) (by (try simp only [List.length_append, List.length_nil, List.length_cons, List.length_singleton, List.length_take, List.length_drop]); omega) ?_)
   intro v5 hs3 hn2
   refine qg (v5) rfl (qb (qa (cX (qH (((k + 1 : Nat) : Int)) rfl rfl (by omega) (by omega) (qd (ii (((k + 1 : Nat) : Int))) rfl (qb ?_))))))
   exact ⟨(k + 1, v5, os ++ [((redL ar rs t)).getD k 0]), _, FLe.refl _, rF, ⟨rfl, rfl, rfl, rfl, rfl, rfl, rfl, ⟨⟩⟩, (sD (sC (sC sR))), ⟨rfl, (hs3), (by (try dsimp only) <;> omega), ((by dsimp only; rw [hos]; first | exact (inTo_yes (by simp only [inOk, decide_eq_true_eq]; omega)).symm | exact (inTo_no (by simp only [inOk, decide_eq_false_iff_not]; omega)).symm))⟩, (by omega)⟩
  refine qw (qa (cX (qH (((k + 1 : Nat) : Int)) rfl rfl (by omega) (by omega) (qd (ii (((k + 1 : Nat) : Int))) rfl (qb ?_)))))
  exact ⟨(k + 1, ov, os), _, FLe.refl _, rF, ⟨rfl, rfl, rfl, rfl, rfl, rfl, rfl, ⟨⟩⟩, (sC (sC sR)), ⟨rfl, (hov), (by (try dsimp only) <;> omega), ((by dsimp only; rw [hos]; first | exact (inTo_yes (by simp only [inOk, decide_eq_true_eq]; omega)).symm | exact (inTo_no (by simp only [inOk, decide_eq_false_iff_not]; omega)).symm))⟩, (by omega)⟩
 refine jk (qt (qt (qM (qc (qa (qd (ov) rfl (qg (ov) rfl (qb (qu (qq (L' := intsH 3 ov os :: L) [ov] (ov) (.tmp rfl .nil) rfl rF le1 (sC (sD sR)) ?_))))))))))
 refine ⟨rfl, hov, ?_⟩
 have hxs : (inL ar rs t : List Int) = os := by rw [hos, inL, show k = (redL ar rs t).length from by omega]
 exact congrArg (fun z => intsH 3 _ z :: L) hxs

/- (impl.choice).inmost -/
theorem chIn_spec {F : FH} {L : List HP} {arv : Value} {ar : List Int} (har : IntsF F arv ar) {rsv : Value} {rs : List (List Int × List Int)} (hrs : PairsF F rsv rs) {tv : Value} {t : List Int} (ht : IntsF F tv t) {allv : Value} {all : List Int} (hall : IntsF F allv all) (hsys : sysOk ar rs = true) (ho : termOk ar t = true) (hae : all = redL ar rs t) (hne : redL ar rs t ≠ []) :
    Does prog 322 [.agg #[arv, rsv, tv, allv]] F (L) (fun v F' L' => (ii ((inL ar rs t).getD 0 0) : Value) = v ∧ F = F' ∧ L = L') := by
 refine qI func322 rfl rfl rfl ?_
 have hnn := jt ht (by have := termOk_len ho; omega)
 have htl := termOk_len ho
 have hrl := (sysOk_iff.1 hsys).2.1
 have hsig := (sysOk_iff.1 hsys).1
 have hsl := sigOk_spec hsig
 have hrd := redL_len (ar := ar) (rs := rs) (t := t)
 have hipos := inL_pos hne
 have hapos : 0 < all.length := by rw [hae]; exact List.length_pos_iff.2 hne
 refine qc (qa (cX (jc [arv, rsv, tv, allv] rfl rfl ?_)))
 intro b1
 refine qg (ii (0)) rfl (qb (qc (qa (cX (ql (0) jS rfl qP (by decide) rfl rfl (cX (qr [arv, rsv] ja qP rfl rfl (Rd.ownN [] rfl rfl) (cX (ql (2) jS rfl qs (by decide) rfl rfl (cX (qj qU rfl (Rd.own [] rfl rfl) (cX (jZ <| qm (args := [.agg #[arv, rsv], tv]) call363 rfl (inmost_spec har hrs ht (hsys := (by first | assumption | rfl | omega | simp)) (ho := (by first | assumption | rfl | omega | simp))) ?_)))))))))))))
 rintro v1 _ _ _ ⟨rfl, hs1, rfl⟩
 refine ⟨_, _, rfl, fun F1 le1 hz1 => ?_⟩
 have hf1 : IntsF F1 v1 ((inL ar rs t)) := intsH.fz (xs := (inL ar rs t)) hz1.fz
 refine cX (qD 0 jy jV rfl rfl rfl hf1.slv (by omega) (Nat.mul_one _) (cX (qj isAgg3 rfl (hf1.rd (by omega)) (qg (ii (((inL ar rs t)).getD 0 0)) rfl (qb (qu (qq (L' := L) [ii (((inL ar rs t)).getD 0 0)] (ii (((inL ar rs t)).getD 0 0)) (.tmp rfl .nil) rfl rF le1 (sD sR) ?_)))))))
 exact ⟨rfl, rfl, rfl⟩

/- (impl.choice).outmost -/
theorem chOut_spec {F : FH} {L : List HP} {arv : Value} {ar : List Int} (har : IntsF F arv ar) {rsv : Value} {rs : List (List Int × List Int)} (hrs : PairsF F rsv rs) {tv : Value} {t : List Int} (ht : IntsF F tv t) {allv : Value} {all : List Int} (hall : IntsF F allv all) (hsys : sysOk ar rs = true) (ho : termOk ar t = true) (hae : all = redL ar rs t) (hne : redL ar rs t ≠ []) :
    Does prog 323 [.agg #[arv, rsv, tv, allv]] F (L) (fun v F' L' => (ii ((redL ar rs t).getD 0 0) : Value) = v ∧ F = F' ∧ L = L') := by
 refine qI func323 rfl rfl rfl ?_
 have hnn := jt ht (by have := termOk_len ho; omega)
 have htl := termOk_len ho
 have hrl := (sysOk_iff.1 hsys).2.1
 have hsig := (sysOk_iff.1 hsys).1
 have hsl := sigOk_spec hsig
 have hrd := redL_len (ar := ar) (rs := rs) (t := t)
 have hipos := inL_pos hne
 have hapos : 0 < all.length := by rw [hae]; exact List.length_pos_iff.2 hne
 refine qc (qa (cX (jc [arv, rsv, tv, allv] rfl rfl ?_)))
 intro b1
 refine qg (ii (0)) rfl (qb (qc (qa (cX (ql (3) jS rfl sizeOf359 (by decide) rfl rfl (cX (qj isAgg359 rfl (Rd.own [] rfl rfl) (cX (qD 0 jy jV rfl rfl rfl hall.slv (by omega) (Nat.mul_one _) (cX (qj isAgg3 rfl (hall.rd (by omega)) (qg (ii (all.getD 0 0)) rfl (qb (qu (qq (L' := L) [ii (all.getD 0 0)] (ii (all.getD 0 0)) (.tmp rfl .nil) rfl rF rF (sD sR) ?_)))))))))))))))
 exact ⟨(vI (by rw [hae])), rfl, rfl⟩

/- (impl.choice).last -/
theorem chLast_spec {F : FH} {L : List HP} {arv : Value} {ar : List Int} (har : IntsF F arv ar) {rsv : Value} {rs : List (List Int × List Int)} (hrs : PairsF F rsv rs) {tv : Value} {t : List Int} (ht : IntsF F tv t) {allv : Value} {all : List Int} (hall : IntsF F allv all) (hsys : sysOk ar rs = true) (ho : termOk ar t = true) (hae : all = redL ar rs t) (hne : redL ar rs t ≠ []) :
    Does prog 324 [.agg #[arv, rsv, tv, allv]] F (L) (fun v F' L' => (ii ((redL ar rs t).getD ((redL ar rs t).length - 1) 0) : Value) = v ∧ F = F' ∧ L = L') := by
 refine qI func324 rfl rfl rfl ?_
 have hnn := jt ht (by have := termOk_len ho; omega)
 have htl := termOk_len ho
 have hrl := (sysOk_iff.1 hsys).2.1
 have hsig := (sysOk_iff.1 hsys).1
 have hsl := sigOk_spec hsig
 have hrd := redL_len (ar := ar) (rs := rs) (t := t)
 have hipos := inL_pos hne
 have hapos : 0 < all.length := by rw [hae]; exact List.length_pos_iff.2 hne
 have hal2 : all.length ≤ 60 := by rw [hae]; omega
 refine qc (qa (cX (jc [arv, rsv, tv, allv] rfl rfl ?_)))
 intro b1
 refine qg (ii (0)) rfl (qb (qc (qa (cX (ql (3) jS rfl sizeOf359 (by decide) rfl rfl (cX (qj isAgg359 rfl (Rd.own [] rfl rfl) (cX (ql (3) jS rfl sizeOf359 (by decide) rfl rfl (cX (qj isAgg359 rfl (Rd.own [] rfl rfl) (cX (qE jy rfl hall.slv (cX (jq (((all.length : Int)) - 1) rfl rfl (by omega) (by omega) (cX (qD ((((all.length : Int)) - 1).toNat) jy jV rfl rfl (by omega) hall.slv (by omega) (Nat.mul_one _) (cX (qj isAgg3 rfl (hall.rd (by omega)) ?_)))))))))))))))))))
 refine qg (ii (all.getD ((((all.length : Int)) - 1).toNat) 0)) rfl (qb (qu (qq (L' := L) [ii (all.getD ((((all.length : Int)) - 1).toNat) 0)] (ii (all.getD ((((all.length : Int)) - 1).toNat) 0)) (.tmp rfl .nil) rfl rF rF (sD sR) ?_)))
 exact ⟨(vI (by rw [hae]; congr 1; omega)), rfl, rfl⟩

/- impl.pick -/
theorem pick1_spec {F : FH} {L : List HP} {arv : Value} {ar : List Int} (har : IntsF F arv ar) {rsv : Value} {rs : List (List Int × List Int)} (hrs : PairsF F rsv rs) {tv : Value} {t : List Int} (ht : IntsF F tv t)  (hsys : sysOk ar rs = true) (ho : termOk ar t = true) :
    Does prog 248 [.agg #[arv, rsv], tv, ii (1)] F (L) (fun v F' L' => (ii (pickL ar rs t 1) : Value) = v ∧ F = F' ∧ L = L') := by
 refine qI func248 rfl rfl rfl ?_
 have hnn := jt ht (by have := termOk_len ho; omega)
 have htl := termOk_len ho
 have hrl := (sysOk_iff.1 hsys).2.1
 have hsig := (sysOk_iff.1 hsys).1
 have hsl := sigOk_spec hsig
 have hrd := redL_len (ar := ar) (rs := rs) (t := t)
 refine qc (qa (cX (jc [arv, rsv] rfl rfl ?_)))
 intro b1
 refine qg (ii (0)) rfl (qb (qc ?_))
 refine jW [cellsH b1 [arv, rsv] 39] L 7 [[], [], [], [], [], [4]] [[], [], [], [], [2, 3], [0, 1, 4]] [] (phiG [pe (.agg #[arv, rsv]), pe tv, pe (.agg #[arv, rsv]), pe tv, fun FF us v => ((v) : Value) = v ∧ (IntsF FF (v) (redL ar rs t)), fun FF us v => v = (.agg #[arv, rsv, tv, ((us.getD 0 undef))] : Value), fun FF us v => v = ptr (blk v) 0]) (ownL [o0, o0, o0, o0, o0, o0, fun us v => [cellsH (blk v) [sN, sN, sN, sN] 362]]) mixed rfl rfl (by kernel_rfl) (by kernel_rfl) (MonoG.get (m1 (m1 (m1 (m1 (mC (fun le h => ⟨h.1, h.2.mono le⟩) (mC (fun le h => h) (mC (fun le h => h) MonoG.nil)))))))) ?_ ?_
 ·refine gD (fun W Fs R lF z9 => ?_) ?_
  ·replace har := har.mono lF
   replace hrs := hrs.mono lF
   replace ht := ht.mono lF
   refine qi (qr [arv, rsv] ja qP rfl rfl (Rd.ownN [] rfl rfl) ?_)
   exact ⟨rfl, rfl⟩
  refine gD (fun W Fs R lF z9 => ?_) ?_
  ·refine qi (qp (tv) rfl ?_)
   exact ⟨rfl, rfl⟩
  refine gD (fun W Fs R lF z9 => ?_) ?_
  ·replace har := har.mono lF
   replace hrs := hrs.mono lF
   replace ht := ht.mono lF
   refine qi (qr [arv, rsv] ja qP rfl rfl (Rd.ownN [] rfl rfl) ?_)
   exact ⟨rfl, rfl⟩
  refine gD (fun W Fs R lF z9 => ?_) ?_
  ·refine qi (qp (tv) rfl ?_)
   exact ⟨rfl, rfl⟩
  refine gD (fun W Fs R lF z9 => ?_) ?_
  ·replace har := har.mono lF
   replace hrs := hrs.mono lF
   replace ht := ht.mono lF
   rw [eS (l := [(2, _), (3, _)]) ⟨z9 2 rfl, z9 3 rfl, ⟨⟩⟩]
   refine qi (jZ <| qm (args := [.agg #[arv, rsv], tv]) call321 rfl (redexes_spec har hrs ht (hsys := (by first | assumption | rfl | omega | simp)) (ho := (by first | assumption | rfl | omega | simp))) ?_)
   rintro v2 _ _ _ ⟨rfl, hs2, rfl⟩
   refine ⟨_, _, rfl, fun F1 le1 hz1 => ?_⟩
   replace har := har.mono le1
   replace hrs := hrs.mono le1
   replace ht := ht.mono le1
   have hf1 : IntsF F1 v2 ((redL ar rs t)) := intsH.fz (xs := (redL ar rs t)) hz1.fz
   exact ⟨⟨rfl, hf1⟩, rfl⟩
  refine gD (fun W Fs R lF z9 => ?_) ?_
  ·obtain ⟨e4, f4_1ha⟩ := z9 4 rfl
   replace har := har.mono lF
   replace hrs := hrs.mono lF
   replace ht := ht.mono lF
   rw [eS (l := [(0, _), (1, _), (4, ((W 4)))]) ⟨z9 0 rfl, z9 1 rfl, (e4).symm, ⟨⟩⟩]
   refine qi (jh [arv, rsv, tv, ((W 4))] [sN, sN, sN, sN] [(0, 2), (2, 1), (3, 1)] [(0, [arv, rsv]), (1, [tv]), (2, [((W 4))])] jS zeroValue362 rfl (.cons rfl qP (.cons rfl qs (.cons rfl sizeOf359 PlacesAre.nil))) rfl (.cons rfl (.cons (cells_one (qz ht)) (.cons (cells_one (qz f4_1ha)) CellsAre.nil))) ?_)
   exact ⟨rfl, rfl⟩
  refine gD (fun W Fs R lF z9 => ?_) ?_
  ·replace har := har.mono lF
   replace hrs := hrs.mono lF
   replace ht := ht.mono lF
   refine qi (ji [sN, sN, sN, sN] zeroValue362 rfl ?_)
   intro b3
   exact ⟨rfl, rfl⟩
  exact stepsG.nil
 intro W F2 le2 hphi
 obtain ⟨e4, f4_1ha⟩ := hphi 4 (by decide)
 have e5 : W 5 = (.agg #[arv, rsv, tv, ((W 4))] : Value) := hphi 5 (by decide)
 have e6 : W 6 = ptr (blk (W 6)) 0 := hphi 6 (by decide)
 generalize hu1 : ((W 4)) = u1 at e4 f4_1ha e5 e6
 generalize hu2 : blk (W 6) = b4 at e4 f4_1ha e5 e6
 rw [eS (l := [(4, u1), (5, (.agg #[arv, rsv, tv, u1])), (6, ptr b4 0)]) ⟨hu1, e5, e6, ⟨⟩⟩]
 replace har := har.mono le2
 replace hrs := hrs.mono le2
 replace ht := ht.mono le2
 show XL _ _ _ _ _ _ _ (cellsH b4 [sN, sN, sN, sN] 362 :: cellsH b1 [arv, rsv] 39 :: L)
 refine cX (qL [] _ [arv, rsv, tv, u1] sizeOf362 rfl rfl rfl (qn (qG (qz har)) (qn (qG (PairsF.isSl hrs)) (qn (qG (qz ht)) (qn (qG (qz f4_1ha)) qO)))) rfl rfl rfl (qb (qc (qc (qa (cX (ql (3) jS rfl sizeOf359 (by decide) rfl rfl (cX (qj isAgg359 rfl (Rd.own [] rfl rfl) (cX (qE jy rfl f4_1ha.slv (cX (js rfl rfl (qb ?_))))))))))))))
 refine qA (p := (((((redL ar rs t)).length : Nat) : Int) : Int) = 0) rfl (fun h1 => ?_) (fun h1 => ?_)
 ·refine qc (qa (qg (ii (-1)) rfl (qb (qu (qk (qq (L' := L) [ii (-1)] (ii (-1)) (.tmp rfl .nil) rfl rF le2 (sD (sD sR)) ?_))))))
  exact ⟨(vI (by rw [pickL, if_pos (List.eq_nil_of_length_eq_zero (by omega))])), rfl, rfl⟩
 have hne : redL ar rs t ≠ [] := by intro e; rw [e] at h1; simp at h1
 refine qw (qc (qa (cX (qr [arv, rsv, tv, u1] isAgg362 sizeOf362 rfl rfl (Rd.ownN [] rfl rfl) (cX (ya [.agg #[arv, rsv, tv, u1]] [] rfl rfl (cX (qr [arv, rsv, tv, u1] isAgg362 sizeOf362 rfl rfl (Rd.ownN [] rfl rfl) (cX (ya [.agg #[arv, rsv, tv, u1]] [] rfl rfl (cX (qr [arv, rsv, tv, u1] isAgg362 sizeOf362 rfl rfl (Rd.ownN [] rfl rfl) (cX (ya [.agg #[arv, rsv, tv, u1]] [] rfl rfl (cX (qo (s := 1) [.func (.func 322) #[.agg #[arv, rsv, tv, u1]] #[], .func (.func 323) #[.agg #[arv, rsv, tv, u1]] #[], .func (.func 324) #[.agg #[arv, rsv, tv, u1]] #[]] [(.nilFunc)] [(0, [.func (.func 322) #[.agg #[arv, rsv, tv, u1]] #[]]), (1, [.func (.func 323) #[.agg #[arv, rsv, tv, u1]] #[]]), (2, [.func (.func 324) #[.agg #[arv, rsv, tv, u1]] #[]])] runUnderlying363 sizeOf273 zeroValue273 rfl (by decide) rfl (.cons rfl (.cons rfl (.cons rfl CellsAre.nil))) rfl ?_))))))))))))))))
 intro v3 hv1
 refine qg (v3) rfl (qb (qc (qa (qd (v3) rfl (qd (ii (1)) rfl (cX (jq (0) rfl rfl (by omega) (by omega) (cX (qD 0 runUnderlying363 sizeOf273 rfl rfl rfl (SlV.own [] rfl) (by omega) (Nat.mul_one _) (cX (qj isAgg273 rfl (Rd.sl [] rfl rfl) (cX (XOp.callV (first := [.agg #[arv, rsv, tv, u1]]) (captured := []) (args := [.agg #[arv, rsv, tv, u1]]) call322 rfl rfl (chIn_spec har hrs ht f4_1ha (hsys := (by first | assumption | rfl | omega | simp)) (ho := (by first | assumption | rfl | omega | simp)) (hae := (rfl)) (hne := (by first | assumption | rfl | omega | simp))) ?_)))))))))))))
 rintro _ _ _ _ ⟨rfl, rfl, rfl⟩
 refine qg (ii ((inL ar rs t).getD 0 0)) rfl (qb (qu (qq (L' := L) [ii ((inL ar rs t).getD 0 0)] (ii ((inL ar rs t).getD 0 0)) (.tmp rfl .nil) rfl rF le2 (sD (sD (sD sR))) ?_)))
 exact ⟨(vI (by rw [pickL, if_neg hne]; rfl)), rfl, rfl⟩

/- impl.pick -/
theorem pick2_spec {F : FH} {L : List HP} {arv : Value} {ar : List Int} (har : IntsF F arv ar) {rsv : Value} {rs : List (List Int × List Int)} (hrs : PairsF F rsv rs) {tv : Value} {t : List Int} (ht : IntsF F tv t)  (hsys : sysOk ar rs = true) (ho : termOk ar t = true) :
    Does prog 248 [.agg #[arv, rsv], tv, ii (2)] F (L) (fun v F' L' => (ii (pickL ar rs t 2) : Value) = v ∧ F = F' ∧ L = L') := by
 refine qI func248 rfl rfl rfl ?_
 have hnn := jt ht (by have := termOk_len ho; omega)
 have htl := termOk_len ho
 have hrl := (sysOk_iff.1 hsys).2.1
 have hsig := (sysOk_iff.1 hsys).1
 have hsl := sigOk_spec hsig
 have hrd := redL_len (ar := ar) (rs := rs) (t := t)
 refine qc (qa (cX (jc [arv, rsv] rfl rfl ?_)))
 intro b1
 refine qg (ii (0)) rfl (qb (qc ?_))
 refine jW [cellsH b1 [arv, rsv] 39] L 7 [[], [], [], [], [], [4]] [[], [], [], [], [2, 3], [0, 1, 4]] [] (phiG [pe (.agg #[arv, rsv]), pe tv, pe (.agg #[arv, rsv]), pe tv, fun FF us v => ((v) : Value) = v ∧ (IntsF FF (v) (redL ar rs t)), fun FF us v => v = (.agg #[arv, rsv, tv, ((us.getD 0 undef))] : Value), fun FF us v => v = ptr (blk v) 0]) (ownL [o0, o0, o0, o0, o0, o0, fun us v => [cellsH (blk v) [sN, sN, sN, sN] 362]]) mixed rfl rfl (by kernel_rfl) (by kernel_rfl) (MonoG.get (m1 (m1 (m1 (m1 (mC (fun le h => ⟨h.1, h.2.mono le⟩) (mC (fun le h => h) (mC (fun le h => h) MonoG.nil)))))))) ?_ ?_
 ·refine gD (fun W Fs R lF z9 => ?_) ?_
  ·replace har := har.mono lF
   replace hrs := hrs.mono lF
   replace ht := ht.mono lF
   refine qi (qr [arv, rsv] ja qP rfl rfl (Rd.ownN [] rfl rfl) ?_)
   exact ⟨rfl, rfl⟩
  refine gD (fun W Fs R lF z9 => ?_) ?_
  ·refine qi (qp (tv) rfl ?_)
   exact ⟨rfl, rfl⟩
  refine gD (fun W Fs R lF z9 => ?_) ?_
  ·replace har := har.mono lF
   replace hrs := hrs.mono lF
   replace ht := ht.mono lF
   refine qi (qr [arv, rsv] ja qP rfl rfl (Rd.ownN [] rfl rfl) ?_)
   exact ⟨rfl, rfl⟩
  refine gD (fun W Fs R lF z9 => ?_) ?_
  ·refine qi (qp (tv) rfl ?_)
   exact ⟨rfl, rfl⟩
  refine gD (fun W Fs R lF z9 => ?_) ?_
  ·replace har := har.mono lF
   replace hrs := hrs.mono lF
   replace ht := ht.mono lF
   rw [eS (l := [(2, _), (3, _)]) ⟨z9 2 rfl, z9 3 rfl, ⟨⟩⟩]
   refine qi (jZ <| qm (args := [.agg #[arv, rsv], tv]) call321 rfl (redexes_spec har hrs ht (hsys := (by first | assumption | rfl | omega | simp)) (ho := (by first | assumption | rfl | omega | simp))) ?_)
   rintro v2 _ _ _ ⟨rfl, hs2, rfl⟩
   refine ⟨_, _, rfl, fun F1 le1 hz1 => ?_⟩
   replace har := har.mono le1
   replace hrs := hrs.mono le1
   replace ht := ht.mono le1
   have hf1 : IntsF F1 v2 ((redL ar rs t)) := intsH.fz (xs := (redL ar rs t)) hz1.fz
   exact ⟨⟨rfl, hf1⟩, rfl⟩
  refine gD (fun W Fs R lF z9 => ?_) ?_
  ·obtain ⟨e4, f4_1ha⟩ := z9 4 rfl
   replace har := har.mono lF
   replace hrs := hrs.mono lF
   replace ht := ht.mono lF
   rw [eS (l := [(0, _), (1, _), (4, ((W 4)))]) ⟨z9 0 rfl, z9 1 rfl, (e4).symm, ⟨⟩⟩]
   refine qi (jh [arv, rsv, tv, ((W 4))] [sN, sN, sN, sN] [(0, 2), (2, 1), (3, 1)] [(0, [arv, rsv]), (1, [tv]), (2, [((W 4))])] jS zeroValue362 rfl (.cons rfl qP (.cons rfl qs (.cons rfl sizeOf359 PlacesAre.nil))) rfl (.cons rfl (.cons (cells_one (qz ht)) (.cons (cells_one (qz f4_1ha)) CellsAre.nil))) ?_)
   exact ⟨rfl, rfl⟩
  refine gD (fun W Fs R lF z9 => ?_) ?_
  ·replace har := har.mono lF
   replace hrs := hrs.mono lF
   replace ht := ht.mono lF
   refine qi (ji [sN, sN, sN, sN] zeroValue362 rfl ?_)
   intro b3
   exact ⟨rfl, rfl⟩
  exact stepsG.nil
 intro W F2 le2 hphi
 obtain ⟨e4, f4_1ha⟩ := hphi 4 (by decide)
 have e5 : W 5 = (.agg #[arv, rsv, tv, ((W 4))] : Value) := hphi 5 (by decide)
 have e6 : W 6 = ptr (blk (W 6)) 0 := hphi 6 (by decide)
 generalize hu1 : ((W 4)) = u1 at e4 f4_1ha e5 e6
 generalize hu2 : blk (W 6) = b4 at e4 f4_1ha e5 e6
 rw [eS (l := [(4, u1), (5, (.agg #[arv, rsv, tv, u1])), (6, ptr b4 0)]) ⟨hu1, e5, e6, ⟨⟩⟩]
 replace har := har.mono le2
 replace hrs := hrs.mono le2
 replace ht := ht.mono le2
 show XL _ _ _ _ _ _ _ (cellsH b4 [sN, sN, sN, sN] 362 :: cellsH b1 [arv, rsv] 39 :: L)
 refine cX (qL [] _ [arv, rsv, tv, u1] sizeOf362 rfl rfl rfl (qn (qG (qz har)) (qn (qG (PairsF.isSl hrs)) (qn (qG (qz ht)) (qn (qG (qz f4_1ha)) qO)))) rfl rfl rfl (qb (qc (qc (qa (cX (ql (3) jS rfl sizeOf359 (by decide) rfl rfl (cX (qj isAgg359 rfl (Rd.own [] rfl rfl) (cX (qE jy rfl f4_1ha.slv (cX (js rfl rfl (qb ?_))))))))))))))
 refine qA (p := (((((redL ar rs t)).length : Nat) : Int) : Int) = 0) rfl (fun h1 => ?_) (fun h1 => ?_)
 ·refine qc (qa (qg (ii (-1)) rfl (qb (qu (qk (qq (L' := L) [ii (-1)] (ii (-1)) (.tmp rfl .nil) rfl rF le2 (sD (sD sR)) ?_))))))
  exact ⟨(vI (by rw [pickL, if_pos (List.eq_nil_of_length_eq_zero (by omega))])), rfl, rfl⟩
 have hne : redL ar rs t ≠ [] := by intro e; rw [e] at h1; simp at h1
 refine qw (qc (qa (cX (qr [arv, rsv, tv, u1] isAgg362 sizeOf362 rfl rfl (Rd.ownN [] rfl rfl) (cX (ya [.agg #[arv, rsv, tv, u1]] [] rfl rfl (cX (qr [arv, rsv, tv, u1] isAgg362 sizeOf362 rfl rfl (Rd.ownN [] rfl rfl) (cX (ya [.agg #[arv, rsv, tv, u1]] [] rfl rfl (cX (qr [arv, rsv, tv, u1] isAgg362 sizeOf362 rfl rfl (Rd.ownN [] rfl rfl) (cX (ya [.agg #[arv, rsv, tv, u1]] [] rfl rfl (cX (qo (s := 1) [.func (.func 322) #[.agg #[arv, rsv, tv, u1]] #[], .func (.func 323) #[.agg #[arv, rsv, tv, u1]] #[], .func (.func 324) #[.agg #[arv, rsv, tv, u1]] #[]] [(.nilFunc)] [(0, [.func (.func 322) #[.agg #[arv, rsv, tv, u1]] #[]]), (1, [.func (.func 323) #[.agg #[arv, rsv, tv, u1]] #[]]), (2, [.func (.func 324) #[.agg #[arv, rsv, tv, u1]] #[]])] runUnderlying363 sizeOf273 zeroValue273 rfl (by decide) rfl (.cons rfl (.cons rfl (.cons rfl CellsAre.nil))) rfl ?_))))))))))))))))
 intro v3 hv1
 refine qg (v3) rfl (qb (qc (qa (qd (v3) rfl (qd (ii (2)) rfl (cX (jq (1) rfl rfl (by omega) (by omega) (cX (qD 1 runUnderlying363 sizeOf273 rfl rfl rfl (SlV.own [] rfl) (by omega) (Nat.mul_one _) (cX (qj isAgg273 rfl (Rd.sl [] rfl rfl) (cX (XOp.callV (first := [.agg #[arv, rsv, tv, u1]]) (captured := []) (args := [.agg #[arv, rsv, tv, u1]]) call323 rfl rfl (chOut_spec har hrs ht f4_1ha (hsys := (by first | assumption | rfl | omega | simp)) (ho := (by first | assumption | rfl | omega | simp)) (hae := (by first | assumption | rfl | omega | simp)) (hne := (by first | assumption | rfl | omega | simp))) ?_)))))))))))))
 rintro _ _ _ _ ⟨rfl, rfl, rfl⟩
 refine qg (ii ((redL ar rs t).getD 0 0)) rfl (qb (qu (qq (L' := L) [ii ((redL ar rs t).getD 0 0)] (ii ((redL ar rs t).getD 0 0)) (.tmp rfl .nil) rfl rF le2 (sD (sD (sD sR))) ?_)))
 exact ⟨(vI (by rw [pickL, if_neg hne]; rfl)), rfl, rfl⟩

/- impl.pick -/
theorem pick3_spec {F : FH} {L : List HP} {arv : Value} {ar : List Int} (har : IntsF F arv ar) {rsv : Value} {rs : List (List Int × List Int)} (hrs : PairsF F rsv rs) {tv : Value} {t : List Int} (ht : IntsF F tv t)  (hsys : sysOk ar rs = true) (ho : termOk ar t = true) :
    Does prog 248 [.agg #[arv, rsv], tv, ii (3)] F (L) (fun v F' L' => (ii (pickL ar rs t 3) : Value) = v ∧ F = F' ∧ L = L') := by
 refine qI func248 rfl rfl rfl ?_
 have hnn := jt ht (by have := termOk_len ho; omega)
 have htl := termOk_len ho
 have hrl := (sysOk_iff.1 hsys).2.1
 have hsig := (sysOk_iff.1 hsys).1
 have hsl := sigOk_spec hsig
 have hrd := redL_len (ar := ar) (rs := rs) (t := t)
 refine qc (qa (cX (jc [arv, rsv] rfl rfl ?_)))
 intro b1
 refine qg (ii (0)) rfl (qb (qc ?_))
 refine jW [cellsH b1 [arv, rsv] 39] L 7 [[], [], [], [], [], [4]] [[], [], [], [], [2, 3], [0, 1, 4]] [] (phiG [pe (.agg #[arv, rsv]), pe tv, pe (.agg #[arv, rsv]), pe tv, fun FF us v => ((v) : Value) = v ∧ (IntsF FF (v) (redL ar rs t)), fun FF us v => v = (.agg #[arv, rsv, tv, ((us.getD 0 undef))] : Value), fun FF us v => v = ptr (blk v) 0]) (ownL [o0, o0, o0, o0, o0, o0, fun us v => [cellsH (blk v) [sN, sN, sN, sN] 362]]) mixed rfl rfl (by kernel_rfl) (by kernel_rfl) (MonoG.get (m1 (m1 (m1 (m1 (mC (fun le h => ⟨h.1, h.2.mono le⟩) (mC (fun le h => h) (mC (fun le h => h) MonoG.nil)))))))) ?_ ?_
 ·refine gD (fun W Fs R lF z9 => ?_) ?_
  ·replace har := har.mono lF
   replace hrs := hrs.mono lF
   replace ht := ht.mono lF
   refine qi (qr [arv, rsv] ja qP rfl rfl (Rd.ownN [] rfl rfl) ?_)
   exact ⟨rfl, rfl⟩
  refine gD (fun W Fs R lF z9 => ?_) ?_
  ·refine qi (qp (tv) rfl ?_)
   exact ⟨rfl, rfl⟩
  refine gD (fun W Fs R lF z9 => ?_) ?_
  ·replace har := har.mono lF
   replace hrs := hrs.mono lF
   replace ht := ht.mono lF
   refine qi (qr [arv, rsv] ja qP rfl rfl (Rd.ownN [] rfl rfl) ?_)
   exact ⟨rfl, rfl⟩
  refine gD (fun W Fs R lF z9 => ?_) ?_
  ·refine qi (qp (tv) rfl ?_)
   exact ⟨rfl, rfl⟩
  refine gD (fun W Fs R lF z9 => ?_) ?_
  ·replace har := har.mono lF
   replace hrs := hrs.mono lF
   replace ht := ht.mono lF
   rw [eS (l := [(2, _), (3, _)]) ⟨z9 2 rfl, z9 3 rfl, ⟨⟩⟩]
   refine qi (jZ <| qm (args := [.agg #[arv, rsv], tv]) call321 rfl (redexes_spec har hrs ht (hsys := (by first | assumption | rfl | omega | simp)) (ho := (by first | assumption | rfl | omega | simp))) ?_)
   rintro v2 _ _ _ ⟨rfl, hs2, rfl⟩
   refine ⟨_, _, rfl, fun F1 le1 hz1 => ?_⟩
   replace har := har.mono le1
   replace hrs := hrs.mono le1
   replace ht := ht.mono le1
   have hf1 : IntsF F1 v2 ((redL ar rs t)) := intsH.fz (xs := (redL ar rs t)) hz1.fz
   exact ⟨⟨rfl, hf1⟩, rfl⟩
  refine gD (fun W Fs R lF z9 => ?_) ?_
  ·obtain ⟨e4, f4_1ha⟩ := z9 4 rfl
   replace har := har.mono lF
   replace hrs := hrs.mono lF
   replace ht := ht.mono lF
   rw [eS (l := [(0, _), (1, _), (4, ((W 4)))]) ⟨z9 0 rfl, z9 1 rfl, (e4).symm, ⟨⟩⟩]
   refine qi (jh [arv, rsv, tv, ((W 4))] [sN, sN, sN, sN] [(0, 2), (2, 1), (3, 1)] [(0, [arv, rsv]), (1, [tv]), (2, [((W 4))])] jS zeroValue362 rfl (.cons rfl qP (.cons rfl qs (.cons rfl sizeOf359 PlacesAre.nil))) rfl (.cons rfl (.cons (cells_one (qz ht)) (.cons (cells_one (qz f4_1ha)) CellsAre.nil))) ?_)
   exact ⟨rfl, rfl⟩
  refine gD (fun W Fs R lF z9 => ?_) ?_
  ·replace har := har.mono lF
   replace hrs := hrs.mono lF
   replace ht := ht.mono lF
   refine qi (ji [sN, sN, sN, sN] zeroValue362 rfl ?_)
   intro b3
   exact ⟨rfl, rfl⟩
  exact stepsG.nil
 intro W F2 le2 hphi
 obtain ⟨e4, f4_1ha⟩ := hphi 4 (by decide)
 have e5 : W 5 = (.agg #[arv, rsv, tv, ((W 4))] : Value) := hphi 5 (by decide)
 have e6 : W 6 = ptr (blk (W 6)) 0 := hphi 6 (by decide)
 generalize hu1 : ((W 4)) = u1 at e4 f4_1ha e5 e6
 generalize hu2 : blk (W 6) = b4 at e4 f4_1ha e5 e6
 rw [eS (l := [(4, u1), (5, (.agg #[arv, rsv, tv, u1])), (6, ptr b4 0)]) ⟨hu1, e5, e6, ⟨⟩⟩]
 replace har := har.mono le2
 replace hrs := hrs.mono le2
 replace ht := ht.mono le2
 show XL _ _ _ _ _ _ _ (cellsH b4 [sN, sN, sN, sN] 362 :: cellsH b1 [arv, rsv] 39 :: L)
 refine cX (qL [] _ [arv, rsv, tv, u1] sizeOf362 rfl rfl rfl (qn (qG (qz har)) (qn (qG (PairsF.isSl hrs)) (qn (qG (qz ht)) (qn (qG (qz f4_1ha)) qO)))) rfl rfl rfl (qb (qc (qc (qa (cX (ql (3) jS rfl sizeOf359 (by decide) rfl rfl (cX (qj isAgg359 rfl (Rd.own [] rfl rfl) (cX (qE jy rfl f4_1ha.slv (cX (js rfl rfl (qb ?_))))))))))))))
 refine qA (p := (((((redL ar rs t)).length : Nat) : Int) : Int) = 0) rfl (fun h1 => ?_) (fun h1 => ?_)
 ·refine qc (qa (qg (ii (-1)) rfl (qb (qu (qk (qq (L' := L) [ii (-1)] (ii (-1)) (.tmp rfl .nil) rfl rF le2 (sD (sD sR)) ?_))))))
  exact ⟨(vI (by rw [pickL, if_pos (List.eq_nil_of_length_eq_zero (by omega))])), rfl, rfl⟩
 have hne : redL ar rs t ≠ [] := by intro e; rw [e] at h1; simp at h1
 refine qw (qc (qa (cX (qr [arv, rsv, tv, u1] isAgg362 sizeOf362 rfl rfl (Rd.ownN [] rfl rfl) (cX (ya [.agg #[arv, rsv, tv, u1]] [] rfl rfl (cX (qr [arv, rsv, tv, u1] isAgg362 sizeOf362 rfl rfl (Rd.ownN [] rfl rfl) (cX (ya [.agg #[arv, rsv, tv, u1]] [] rfl rfl (cX (qr [arv, rsv, tv, u1] isAgg362 sizeOf362 rfl rfl (Rd.ownN [] rfl rfl) (cX (ya [.agg #[arv, rsv, tv, u1]] [] rfl rfl (cX (qo (s := 1) [.func (.func 322) #[.agg #[arv, rsv, tv, u1]] #[], .func (.func 323) #[.agg #[arv, rsv, tv, u1]] #[], .func (.func 324) #[.agg #[arv, rsv, tv, u1]] #[]] [(.nilFunc)] [(0, [.func (.func 322) #[.agg #[arv, rsv, tv, u1]] #[]]), (1, [.func (.func 323) #[.agg #[arv, rsv, tv, u1]] #[]]), (2, [.func (.func 324) #[.agg #[arv, rsv, tv, u1]] #[]])] runUnderlying363 sizeOf273 zeroValue273 rfl (by decide) rfl (.cons rfl (.cons rfl (.cons rfl CellsAre.nil))) rfl ?_))))))))))))))))
 intro v3 hv1
 refine qg (v3) rfl (qb (qc (qa (qd (v3) rfl (qd (ii (3)) rfl (cX (jq (2) rfl rfl (by omega) (by omega) (cX (qD 2 runUnderlying363 sizeOf273 rfl rfl rfl (SlV.own [] rfl) (by omega) (Nat.mul_one _) (cX (qj isAgg273 rfl (Rd.sl [] rfl rfl) (cX (XOp.callV (first := [.agg #[arv, rsv, tv, u1]]) (captured := []) (args := [.agg #[arv, rsv, tv, u1]]) call324 rfl rfl (chLast_spec har hrs ht f4_1ha (hsys := (by first | assumption | rfl | omega | simp)) (ho := (by first | assumption | rfl | omega | simp)) (hae := (by first | assumption | rfl | omega | simp)) (hne := (by first | assumption | rfl | omega | simp))) ?_)))))))))))))
 rintro _ _ _ _ ⟨rfl, rfl, rfl⟩
 refine qg (ii ((redL ar rs t).getD ((redL ar rs t).length - 1) 0)) rfl (qb (qu (qq (L' := L) [ii ((redL ar rs t).getD ((redL ar rs t).length - 1) 0)] (ii ((redL ar rs t).getD ((redL ar rs t).length - 1) 0)) (.tmp rfl .nil) rfl rF le2 (sD (sD (sD sR))) ?_)))
 exact ⟨(vI (by rw [pickL, if_neg hne]; rfl)), rfl, rfl⟩

theorem pick_all {F : FH} {L : List HP} {arv : Value} {ar : List Int} (har : IntsF F arv ar) {rsv : Value} {rs : List (List Int × List Int)} (hrs : PairsF F rsv rs) {tv : Value} {t : List Int} (ht : IntsF F tv t) {st : Int} (hsys : sysOk ar rs = true) (ho : termOk ar t = true) (hst : 1 ≤ st ∧ st ≤ 3) :
    Does prog 248 [.agg #[arv, rsv], tv, .int .i64 st] F L (fun v F' L' => (ii (pickL ar rs t st) : Value) = v ∧ F = F' ∧ L = L') := by
  have h : st = 1 ∨ st = 2 ∨ st = 3 := by omega
  rcases h with rfl | rfl | rfl
  · exact pick1_spec har hrs ht hsys ho
  · exact pick2_spec har hrs ht hsys ho
  · exact pick3_spec har hrs ht hsys ho

end Go.Proofs.YtjpfankibmeaaaaGreat
