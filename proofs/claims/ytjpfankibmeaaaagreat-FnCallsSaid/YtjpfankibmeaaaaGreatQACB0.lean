/-
  Walks, one after the other (part 1).
-/
import Derived.Test.YtjpfankibmeaaaaGreatQACL1
import Derived.Test.YtjpfankibmeaaaaGreatProg
import Derived.KernelRfl
set_option linter.unusedSimpArgs false
set_option linter.unusedVariables false
namespace Go.Proofs.YtjpfankibmeaaaaGreat
open Go X M Tryz
theorem qa : type_of% @FLe.trans := @FLe.trans
theorem qb : type_of% @X.region := @X.region
theorem qc : type_of% @XL.nil := @XL.nil
theorem qd : type_of% @X.seq := @X.seq
theorem qf : type_of% @runUnderlying22 := @runUnderlying22
theorem qg : type_of% @XL.mv := @XL.mv
theorem qh : type_of% @XL.as := @XL.as
theorem qi : type_of% @XG.op := @XG.op
theorem qj : type_of% @XOp.load1 := @XOp.load1
theorem qk : type_of% @XOp.fieldP := @XOp.fieldP
theorem ql : type_of% @thenQ_ret := @thenQ_ret
theorem qm : type_of% @XOp.move := @XOp.move
theorem qn : type_of% @XOp.call := @XOp.call
theorem qo : type_of% @XL.yes := @XL.yes
theorem qp : type_of% @XL.no := @XL.no
theorem qq : type_of% @sizeOf2 := @sizeOf2
theorem qr : type_of% @retEnd := @retEnd
theorem qs : type_of% @XOp.buildSlice := @XOp.buildSlice
theorem qt : type_of% @XOp.indexS := @XOp.indexS
theorem qu : type_of% @XOp.loadN := @XOp.loadN
theorem qv : type_of% @thenQ_exit := @thenQ_exit
theorem qw : type_of% @X.ret := @X.ret
theorem qx : type_of% @ones_cons := @ones_cons
theorem qy : type_of% @runUnderlying108 := @runUnderlying108
theorem qz : type_of% @X.skip := @X.skip
theorem qA : type_of% @sizeOf22 := @sizeOf22
theorem qB : type_of% @IntsF.isSl := @IntsF.isSl
theorem qC : type_of% @X.condD := @X.condD
theorem qD : type_of% @blockQ_ret := @blockQ_ret
theorem qE : type_of% @XOp.lenS := @XOp.lenS
theorem qF : type_of% @runUnderlying102 := @runUnderlying102
theorem qG : type_of% @Does.of_X := @Does.of_X
theorem qH : type_of% @X.block := @X.block
theorem qI : type_of% @one_sl := @one_sl
theorem qJ : type_of% @sizeOf36 := @sizeOf36
theorem qK : type_of% @XOp.addR := @XOp.addR
theorem qL : type_of% @zeroValue2 := @zeroValue2
theorem qM : type_of% @blockQ_exit := @blockQ_exit
theorem qN : type_of% @XOp.pickF := @XOp.pickF
theorem qO : type_of% @XOp.pickT := @XOp.pickT
theorem qP : type_of% @isAgg2 := @isAgg2
theorem qQ : type_of% @XOp.lss := @XOp.lss
theorem qR : type_of% @runUnderlying206 := @runUnderlying206
theorem qS : type_of% @runUnderlying106 := @runUnderlying106
theorem qT : type_of% @sizeOf108 := @sizeOf108
theorem qU : type_of% @isAgg22 := @isAgg22
theorem qV : type_of% @XOp.storeN := @XOp.storeN
theorem qW : type_of% @sizeOf102 := @sizeOf102
theorem qX : type_of% @ones_nil := @ones_nil
theorem qY : type_of% @X.freezeF := @X.freezeF
theorem qZ : type_of% @XG.yes := @XG.yes
theorem ja : type_of% @XL.freezeF := @XL.freezeF
theorem jb : type_of% @XOp.box := @XOp.box
theorem jc : type_of% @runUnderlying137 := @runUnderlying137
theorem jd : type_of% @XOp.extract := @XOp.extract
theorem je : type_of% @XOp.subR := @XOp.subR
theorem jf : type_of% @isAgg36 := @isAgg36
theorem jg : type_of% @X.exit := @X.exit
theorem jh : type_of% @XG.no := @XG.no
theorem ji : type_of% @runUnderlying36 := @runUnderlying36
theorem jj : type_of% @isAgg108 := @isAgg108
theorem jk : type_of% @XOp.nilCheck := @XOp.nilCheck
theorem jl : type_of% @sizeOf206 := @sizeOf206
theorem jm : type_of% @sizeOf106 := @sizeOf106
theorem jn : type_of% @X.loop := @X.loop
theorem jo : type_of% @isSl_lit := @isSl_lit
theorem jp : type_of% @sizeOf137 := @sizeOf137
theorem jq : type_of% @Does.at := @Does.at
theorem jr : type_of% @XOp.alloc := @XOp.alloc
theorem js : type_of% @runUnderlying39 := @runUnderlying39
theorem jt : type_of% @XOp.notB := @XOp.notB
theorem ju : type_of% @XOp.eql := @XOp.eql
theorem jv : type_of% @XOp.build := @XOp.build
theorem jw : type_of% @XOp.store1 := @XOp.store1
theorem jx : type_of% @X.draw := @X.draw
theorem jy : type_of% @runUnderlying76 := @runUnderlying76
theorem jz : type_of% @isAgg102 := @isAgg102
theorem jA : type_of% @X.condT := @X.condT
theorem jB : type_of% @zeroValue137 := @zeroValue137
theorem jC : type_of% @zeroValue206 := @zeroValue206
theorem jD : type_of% @XOp.frzF := @XOp.frzF
theorem jE : type_of% @isAgg106 := @isAgg106
theorem jF : type_of% @X.cond := @X.cond
theorem jG : type_of% @XOp.gtr := @XOp.gtr
theorem jH : type_of% @loadNV := @loadNV
theorem jI : type_of% @zeroValue22 := @zeroValue22
theorem jJ : type_of% @runUnderlying328 := @runUnderlying328
theorem jK : type_of% @sizeOf39 := @sizeOf39
theorem jL : type_of% @runUnderlying221 := @runUnderlying221
theorem jM : type_of% @X.drawG := @X.drawG
theorem jN : type_of% @Sub.trans := @Sub.trans
theorem jO : type_of% @X.condF := @X.condF
theorem jP : type_of% @XOp.geq := @XOp.geq
theorem jQ : type_of% @isAgg137 := @isAgg137
theorem jR : type_of% @runUnderlying247 := @runUnderlying247
theorem jS : type_of% @runUnderlying299 := @runUnderlying299
theorem jT : type_of% @XOp.append := @XOp.append
theorem jU : type_of% @isAgg39 := @isAgg39
theorem jV : type_of% @XOp.sliceI := @XOp.sliceI
theorem jW : type_of% @isAgg206 := @isAgg206
theorem jX : type_of% @XOp.append1 := @XOp.append1
theorem jY : type_of% @XOp.notD := @XOp.notD
theorem jZ : type_of% @runUnderlying37 := @runUnderlying37
theorem ya : type_of% @runUnderlying45 := @runUnderlying45
theorem yb : type_of% @call116 := @call116
theorem yc : type_of% @runUnderlying219 := @runUnderlying219
theorem yd : type_of% @XOp.appendI := @XOp.appendI
theorem ye : type_of% @XOp.indexA := @XOp.indexA

theorem mixed : prog.follows .mixedOrders = true := by kernel_rfl

/- impl.arityAt -/
theorem arityAt_spec {F : FH} {L : List HP} {arv : Value} {ar : List Int} (har : IntsF F arv ar) {n : Int} (hn : n < (ar.length : Int)) :
    Does prog 366 [.agg #[arv], ii (n)] F (L) (fun v F' L' => (ii (arity ar n) : Value) = v ∧ F = F' ∧ L = L') := by
 refine qG func366 rfl rfl rfl (qd (qb (cX (jb [arv] rfl rfl ?_))))
 intro b1
 refine qh (ii (0)) rfl (qc (qd (qd (qb (qg (ii (n)) rfl (cX (qQ rfl rfl (qc ?_))))))))
 refine qC (p := (n : Int) < 0) rfl (fun h1 => ?_) (fun h1 => ?_)
 ·refine qd (qb (qh (ii (0)) rfl (qc (qw (ql (qr (L' := L) [ii (0)] (ii (0)) (.tmp rfl .nil) rfl rF rF (sD sR) ?_))))))
  exact ⟨(vI (by simp [arity, *])), rfl, rfl⟩
 refine qz (qd (qb (cX (qk (0) ji rfl qA (by decide) rfl rfl (cX (qj qU rfl (Rd.own [] rfl rfl) (qg (ii (n)) rfl (cX (qt ((n).toNat) qf qq rfl rfl (by omega) har.slv (by omega) (Nat.mul_one _) (cX (qj qP rfl (har.rd (by omega)) (qh (ii (ar.getD ((n).toNat) 0)) rfl (qc (qw (qr (L' := L) [ii (ar.getD ((n).toNat) 0)] (ii (ar.getD ((n).toNat) 0)) (.tmp rfl .nil) rfl rF rF (sD sR) ?_)))))))))))))))
 exact ⟨(vI (by simp [arity, *])), rfl, rfl⟩

/- impl.SigOk -/
theorem SigOk_spec {F : FH} {L : List HP} {arv : Value} {ar : List Int} (har : IntsF F arv ar) :
    Does prog 158 [.agg #[arv]] F (L) (fun v F' L' => (.bool (sigOk ar) : Value) = v ∧ F = F' ∧ L = L') := by
 refine qG func158 rfl rfl rfl (qd (qb (cX (jb [arv] rfl rfl ?_))))
 intro b1
 refine qh (.bool (false)) rfl (qc (qd (qd (qb (cX (qk (0) ji rfl qA (by decide) rfl rfl (cX (qj qU rfl (Rd.own [] rfl rfl) (cX (qE qf rfl har.slv (cX (qQ rfl rfl (qg (.bool (decide (((ar.length : Int) : Int) < 1))) rfl ?_)))))))))))))
 by_cases h1 : ((ar.length : Int) : Int) < 1
 ·refine qp (t := 9) rfl (vT h1) (qp (t := 9) rfl (vT h1) (qp (t := 9) rfl (vT h1) (qp (t := 9) rfl (vT h1) (cX (qO (.bool (true)) (vT h1) rfl (qc (jA rfl (qd (qb (qh (.bool (false)) rfl (qc ?_)))))))))))
  refine qw (ql (qr (L' := L) [.bool (false)] (.bool (false)) (.tmp rfl .nil) rfl rF rF (sD sR) ?_))
  exact ⟨(vB (sigOk_short (by omega))), rfl, rfl⟩
 refine qo (t := 9) rfl (vF h1) (qk (0) ji rfl qA (by decide) rfl rfl (qo (t := 9) rfl (vF h1) (qj qU rfl (Rd.own [] rfl rfl) (qo (t := 9) rfl (vF h1) (qE qf rfl har.slv (qo (t := 9) rfl (vF h1) (jG rfl rfl (cX (qN (.bool (decide (((ar.length : Int) : Int) > 8))) (vF h1) rfl (qc ?_))))))))))
 refine qC (p := ((ar.length : Int) : Int) > 8) rfl (fun h2 => ?_) (fun h2 => ?_)
 ·refine qd (qb (qh (.bool (false)) rfl (qc (qw (ql (qr (L' := L) [.bool (false)] (.bool (false)) (.tmp rfl .nil) rfl rF rF (sD sR) ?_))))))
  exact ⟨(vB (sigOk_short (by omega))), rfl, rfl⟩
 refine qz (qd (qd (qb (cX (qk (0) ji rfl qA (by decide) rfl rfl (cX (qj qU rfl (Rd.own [] rfl rfl) (cX (qE qf rfl har.slv (qg (ii (0)) rfl (qc (qH (jn (α := Nat) (fun k => [(16, arv), (17, ii ((ar.length : Int))), (18, ii ((k : Int)))]) (fun k => cellsH b1 [arv] 36 :: L) (fun k F' => F = F' ∧ (k ≤ ar.length) ∧ (∀ i, i < k → 0 ≤ ar.getD i 0 ∧ ar.getD i 0 ≤ 3)) (fun k => ar.length - k) 0 ⟨rfl, rfl, rfl, ⟨⟩⟩ (sC sR) ⟨rfl, (by omega), (fun i hi => absurd hi (by omega))⟩ ?_)))))))))))))
 rintro k rE _ _ ⟨rfl, hk, hall⟩
 show X _ _ _ _ (envs [(16, arv), (17, ii ((ar.length : Int))), (18, ii ((k : Int)))] rE) _ (cellsH b1 [arv] 36 :: L)
 refine qd (qb (cX (qQ rfl rfl (qc (qd ?_)))))
 refine qC (p := (k : Int) < (ar.length : Int)) rfl (fun h3 => ?_) (fun h3 => ?_)
 ·refine qz (qd (qH (qd (qb (cX (qt k qf qq rfl rfl rfl har.slv (by omega) (Nat.mul_one _) (cX (qj qP rfl (har.rd (by omega)) (qh (ii (ar.getD k 0)) rfl (qc (qd (qb (qg (ii (ar.getD k 0)) rfl (cX (qQ rfl rfl (qg (.bool (decide ((ar.getD k 0 : Int) < 0))) rfl ?_))))))))))))))))
  by_cases h4 : (ar.getD k 0 : Int) < 0
  ·refine qp (t := 24) rfl (vT h4) (qp (t := 24) rfl (vT h4) (cX (qO (.bool (true)) (vT h4) rfl (qc (jA rfl (qd (qb (qh (.bool (false)) rfl (qc (qw (qD (ql (ql (qD (ql (qr (L' := L) [.bool (false)] (.bool (false)) (.tmp rfl .nil) rfl rF rF (sD sR) ?_))))))))))))))))
   exact ⟨(vB (sigOk_bad (i := k) (by omega) (by omega))), rfl, rfl⟩
  refine qo (t := 24) rfl (vF h4) (qm (ii (ar.getD k 0)) rfl (qo (t := 24) rfl (vF h4) (jG rfl rfl (cX (qN (.bool (decide ((ar.getD k 0 : Int) > 3))) (vF h4) rfl (qc ?_))))))
  refine qC (p := (ar.getD k 0 : Int) > 3) rfl (fun h5 => ?_) (fun h5 => ?_)
  ·refine qd (qb (qh (.bool (false)) rfl (qc (qw (qD (ql (ql (qD (ql (qr (L' := L) [.bool (false)] (.bool (false)) (.tmp rfl .nil) rfl rF rF (sD sR) ?_))))))))))
   exact ⟨(vB (sigOk_bad (i := k) (by omega) (by omega))), rfl, rfl⟩
  refine qz (qb (cX (qK (((k + 1 : Nat) : Int)) rfl rfl (by omega) (by omega) (qg (ii (((k + 1 : Nat) : Int))) rfl (qc ?_)))))
  exact ⟨k + 1, _, FLe.refl _, rF, ⟨rfl, rfl, rfl, ⟨⟩⟩, (sC sR), ⟨rfl, (by omega), (fun i hi => (Nat.lt_or_ge i k).elim (fun h => hall i h) (fun h => by obtain rfl : i = k := (by omega); omega))⟩, (by omega)⟩
 refine jg (qv (qv (qM (qd (qb (qh (.bool (true)) rfl (qc (qw (qr (L' := L) [.bool (true)] (.bool (true)) (.tmp rfl .nil) rfl rF rF (sD sR) ?_)))))))))
 exact ⟨(vB (sigOk_of (by omega) (by omega) (fun i hi => hall i (by omega)))), rfl, rfl⟩

/- (*impl.cursor).next -/
theorem next_spec {F : FH} {L : List HP} {c p : Nat} {arv : Value} {ar : List Int} (har : IntsF F arv ar) {tv : Value} {t : List Int} (ht : IntsF F tv t) (hb : t.length ≤ 4000000) :
    Does prog 354 [ptr c 0] F (cellsH c [arv, tv, ii ((p : Int))] 328 :: L) (fun v F' L' => F = F' ∧ ((p < t.length ∧ t.getD p 0 < (ar.length : Int) ∧ (ii (arity ar (t.getD p 0)) : Value) = v ∧ cellsH c [arv, tv, ii ((p + 1 : Nat) : Int)] 328 :: L = L') ∨ (¬ (p < t.length ∧ t.getD p 0 < (ar.length : Int)) ∧ (ii (-1) : Value) = v ∧ cellsH c [arv, tv, ii (p : Int)] 328 :: L = L'))) := by
 refine qG func354 rfl rfl rfl (qd (qb (qh (ii (0)) rfl (qc (qd (qd ?_))))))
 by_cases h1 : (p : Int) ≥ (t.length : Int)
 ·refine jx [cellsH c [arv, tv, ii ((p : Int))] 328] L 27 [] [[], [0], [1], [2], [], [4], [5], [6], [7], [3, 8], [9], [10], [10, 11], [10, 12], [10, 13], [10], [10, 15], [10, 16], [10, 17], [10, 14, 18], [10, 19], [10], [10, 21], [10, 22], [10, 23], [10, 24], [10, 25]] (phiL [qe (ptr c 0), qe (ptr c 0), qe (ptr c 2), qe (ii ((p : Int)) : Value), qe (ptr c 0), qe (ptr c 0), qe (ptr c 1), qe tv, qe (ii ((t.length : Int)) : Value), qe (.bool (decide ((p : Int) ≥ (t.length : Int))) : Value), qe (.bool (decide ((p : Int) ≥ (t.length : Int))) : Value), qe undef, qe undef, qe undef, qe undef, qe undef, qe undef, qe undef, qe undef, qe undef, qe undef, qe undef, qe undef, qe undef, qe undef, qe undef, qe undef]) (ownL []) mixed rfl rfl (by kernel_rfl) ?_ ?_
  ·refine pD (fun W R z9 => ?_) ?_
   ·refine qi (qm (ptr c 0) rfl ?_)
    exact ⟨rfl, rfl, rfl⟩
   refine pD (fun W R z9 => ?_) ?_
   ·rw [zA 0 (z9 0 rfl)]
    refine qi (jk rfl ?_)
    exact ⟨rfl, rfl, rfl⟩
   refine pD (fun W R z9 => ?_) ?_
   ·rw [zA 1 (z9 1 rfl)]
    refine qi (qk (2) jJ rfl sizeOf3 (by decide) rfl rfl ?_)
    exact ⟨rfl, rfl, rfl⟩
   refine pD (fun W R z9 => ?_) ?_
   ·rw [zA 2 (z9 2 rfl)]
    refine qi (qj isAgg3 rfl (Rd.own [] rfl rfl) ?_)
    exact ⟨rfl, rfl, rfl⟩
   refine pD (fun W R z9 => ?_) ?_
   ·refine qi (qm (ptr c 0) rfl ?_)
    exact ⟨rfl, rfl, rfl⟩
   refine pD (fun W R z9 => ?_) ?_
   ·rw [zA 4 (z9 4 rfl)]
    refine qi (jk rfl ?_)
    exact ⟨rfl, rfl, rfl⟩
   refine pD (fun W R z9 => ?_) ?_
   ·rw [zA 5 (z9 5 rfl)]
    refine qi (qk (1) jJ rfl qA (by decide) rfl rfl ?_)
    exact ⟨rfl, rfl, rfl⟩
   refine pD (fun W R z9 => ?_) ?_
   ·rw [zA 6 (z9 6 rfl)]
    refine qi (qj qU rfl (Rd.own [] rfl rfl) ?_)
    exact ⟨rfl, rfl, rfl⟩
   refine pD (fun W R z9 => ?_) ?_
   ·rw [zA 7 (z9 7 rfl)]
    refine qi (qE qf rfl ht.slv ?_)
    exact ⟨rfl, rfl, rfl⟩
   refine pD (fun W R z9 => ?_) ?_
   ·rw [zB 3 8 (z9 3 rfl) (z9 8 rfl)]
    refine qi (jP rfl rfl ?_)
    exact ⟨rfl, rfl, rfl⟩
   refine pD (fun W R z9 => ?_) ?_
   ·rw [zA 9 (z9 9 rfl)]
    refine qi (qm (.bool (decide ((p : Int) ≥ (t.length : Int)))) rfl ?_)
    exact ⟨rfl, rfl, rfl⟩
   refine pD (fun W R z9 => ?_) ?_
   ·rw [zA 10 (z9 10 rfl)]
    exact jh (t := 13) rfl (vT h1) ⟨rfl, rfl, rfl⟩
   refine pD (fun W R z9 => ?_) ?_
   ·rw [eS (l := [(10, _), (11, undef)]) ⟨z9 10 rfl, z9 11 rfl, ⟨⟩⟩]
    exact jh (t := 13) rfl (vT h1) ⟨rfl, rfl, rfl⟩
   refine pD (fun W R z9 => ?_) ?_
   ·rw [eS (l := [(10, _), (12, undef)]) ⟨z9 10 rfl, z9 12 rfl, ⟨⟩⟩]
    exact jh (t := 13) rfl (vT h1) ⟨rfl, rfl, rfl⟩
   refine pD (fun W R z9 => ?_) ?_
   ·rw [eS (l := [(10, _), (13, undef)]) ⟨z9 10 rfl, z9 13 rfl, ⟨⟩⟩]
    exact jh (t := 13) rfl (vT h1) ⟨rfl, rfl, rfl⟩
   refine pD (fun W R z9 => ?_) ?_
   ·rw [zA 10 (z9 10 rfl)]
    exact jh (t := 13) rfl (vT h1) ⟨rfl, rfl, rfl⟩
   refine pD (fun W R z9 => ?_) ?_
   ·rw [eS (l := [(10, _), (15, undef)]) ⟨z9 10 rfl, z9 15 rfl, ⟨⟩⟩]
    exact jh (t := 13) rfl (vT h1) ⟨rfl, rfl, rfl⟩
   refine pD (fun W R z9 => ?_) ?_
   ·rw [eS (l := [(10, _), (16, undef)]) ⟨z9 10 rfl, z9 16 rfl, ⟨⟩⟩]
    exact jh (t := 13) rfl (vT h1) ⟨rfl, rfl, rfl⟩
   refine pD (fun W R z9 => ?_) ?_
   ·rw [eS (l := [(10, _), (17, undef)]) ⟨z9 10 rfl, z9 17 rfl, ⟨⟩⟩]
    exact jh (t := 13) rfl (vT h1) ⟨rfl, rfl, rfl⟩
   refine pD (fun W R z9 => ?_) ?_
   ·rw [eS (l := [(10, _), (14, undef), (18, undef)]) ⟨z9 10 rfl, z9 14 rfl, z9 18 rfl, ⟨⟩⟩]
    exact jh (t := 13) rfl (vT h1) ⟨rfl, rfl, rfl⟩
   refine pD (fun W R z9 => ?_) ?_
   ·rw [eS (l := [(10, _), (19, undef)]) ⟨z9 10 rfl, z9 19 rfl, ⟨⟩⟩]
    exact jh (t := 13) rfl (vT h1) ⟨rfl, rfl, rfl⟩
   refine pD (fun W R z9 => ?_) ?_
   ·rw [zA 10 (z9 10 rfl)]
    exact jh (t := 13) rfl (vT h1) ⟨rfl, rfl, rfl⟩
   refine pD (fun W R z9 => ?_) ?_
   ·rw [eS (l := [(10, _), (21, undef)]) ⟨z9 10 rfl, z9 21 rfl, ⟨⟩⟩]
    exact jh (t := 13) rfl (vT h1) ⟨rfl, rfl, rfl⟩
   refine pD (fun W R z9 => ?_) ?_
   ·rw [eS (l := [(10, _), (22, undef)]) ⟨z9 10 rfl, z9 22 rfl, ⟨⟩⟩]
    exact jh (t := 13) rfl (vT h1) ⟨rfl, rfl, rfl⟩
   refine pD (fun W R z9 => ?_) ?_
   ·rw [eS (l := [(10, _), (23, undef)]) ⟨z9 10 rfl, z9 23 rfl, ⟨⟩⟩]
    exact jh (t := 13) rfl (vT h1) ⟨rfl, rfl, rfl⟩
   refine pD (fun W R z9 => ?_) ?_
   ·rw [eS (l := [(10, _), (24, undef)]) ⟨z9 10 rfl, z9 24 rfl, ⟨⟩⟩]
    exact jh (t := 13) rfl (vT h1) ⟨rfl, rfl, rfl⟩
   refine pD (fun W R z9 => ?_) ?_
   ·rw [eS (l := [(10, _), (25, undef)]) ⟨z9 10 rfl, z9 25 rfl, ⟨⟩⟩]
    exact jh (t := 13) rfl (vT h1) ⟨rfl, rfl, rfl⟩
   exact stepsP.nil
  intro W hphi
  rw [eS (l := [(10, _), (20, undef), (26, undef)]) ⟨(hphi 10 (by decide)), (hphi 20 (by decide)), (hphi 26 (by decide)), ⟨⟩⟩]
  show XL _ _ _ _ _ _ _ (cellsH c [arv, tv, ii ((p : Int))] 328 :: L)
  refine qp (t := 13) rfl (vT h1) (cX (qO (.bool (true)) (vT h1) rfl (qc (jA rfl (qd (qb (qh (ii (-1)) rfl (qc (qw (ql (qr (L' := cellsH c [arv, tv, ii ((p : Int))] 328 :: L) [ii (-1)] (ii (-1)) (.tmp rfl .nil) rfl rF rF (sC sR) ?_)))))))))))
  exact ⟨rfl, .inr ⟨by omega, rfl, rfl⟩⟩
 refine jx [cellsH c [arv, tv, ii ((p : Int))] 328] L 27 [] [[], [0], [1], [2], [], [4], [5], [6], [7], [3, 8], [9], [10], [10, 11], [10, 12], [10, 13], [10], [10, 15], [10, 16], [10, 17], [10, 14, 18], [10, 19], [10], [10, 21], [10, 22], [10, 23], [10, 24], [10, 25]] (phiL [qe (ptr c 0), qe (ptr c 0), qe (ptr c 2), qe (ii ((p : Int)) : Value), qe (ptr c 0), qe (ptr c 0), qe (ptr c 1), qe tv, qe (ii ((t.length : Int)) : Value), qe (.bool (decide ((p : Int) ≥ (t.length : Int))) : Value), qe (.bool (decide ((p : Int) ≥ (t.length : Int))) : Value), qe (ptr c 0), qe (ptr c 0), qe (ptr c 1), qe tv, qe (ptr c 0), qe (ptr c 0), qe (ptr c 2), qe (ii ((p : Int)) : Value), qe (.pointer (some (elemA tv (p)))), qe (ii (t.getD p 0)), qe (ptr c 0), qe (ptr c 0), qe (ptr c 0), qe (ptr c 0), qe arv, qe (ii ((ar.length : Int)) : Value)]) (ownL []) mixed rfl rfl (by kernel_rfl) ?_ ?_
 ·refine pD (fun W R z9 => ?_) ?_
  ·refine qi (qm (ptr c 0) rfl ?_)
   exact ⟨rfl, rfl, rfl⟩
  refine pD (fun W R z9 => ?_) ?_
  ·rw [zA 0 (z9 0 rfl)]
   refine qi (jk rfl ?_)
   exact ⟨rfl, rfl, rfl⟩
  refine pD (fun W R z9 => ?_) ?_
  ·rw [zA 1 (z9 1 rfl)]
   refine qi (qk (2) jJ rfl sizeOf3 (by decide) rfl rfl ?_)
   exact ⟨rfl, rfl, rfl⟩
  refine pD (fun W R z9 => ?_) ?_
  ·rw [zA 2 (z9 2 rfl)]
   refine qi (qj isAgg3 rfl (Rd.own [] rfl rfl) ?_)
   exact ⟨rfl, rfl, rfl⟩
  refine pD (fun W R z9 => ?_) ?_
  ·refine qi (qm (ptr c 0) rfl ?_)
   exact ⟨rfl, rfl, rfl⟩
  refine pD (fun W R z9 => ?_) ?_
  ·rw [zA 4 (z9 4 rfl)]
   refine qi (jk rfl ?_)
   exact ⟨rfl, rfl, rfl⟩
  refine pD (fun W R z9 => ?_) ?_
  ·rw [zA 5 (z9 5 rfl)]
   refine qi (qk (1) jJ rfl qA (by decide) rfl rfl ?_)
   exact ⟨rfl, rfl, rfl⟩
  refine pD (fun W R z9 => ?_) ?_
  ·rw [zA 6 (z9 6 rfl)]
   refine qi (qj qU rfl (Rd.own [] rfl rfl) ?_)
   exact ⟨rfl, rfl, rfl⟩
  refine pD (fun W R z9 => ?_) ?_
  ·rw [zA 7 (z9 7 rfl)]
   refine qi (qE qf rfl ht.slv ?_)
   exact ⟨rfl, rfl, rfl⟩
  refine pD (fun W R z9 => ?_) ?_
  ·rw [zB 3 8 (z9 3 rfl) (z9 8 rfl)]
   refine qi (jP rfl rfl ?_)
   exact ⟨rfl, rfl, rfl⟩
  refine pD (fun W R z9 => ?_) ?_
  ·rw [zA 9 (z9 9 rfl)]
   refine qi (qm (.bool (decide ((p : Int) ≥ (t.length : Int)))) rfl ?_)
   exact ⟨rfl, rfl, rfl⟩
  refine pD (fun W R z9 => ?_) ?_
  ·rw [zA 10 (z9 10 rfl)]
   refine qZ (t := 13) rfl (vF h1) (qm (ptr c 0) rfl ?_)
   exact ⟨rfl, rfl, rfl⟩
  refine pD (fun W R z9 => ?_) ?_
  ·rw [zB 10 11 (z9 10 rfl) (z9 11 rfl)]
   refine qZ (t := 13) rfl (vF h1) (jk rfl ?_)
   exact ⟨rfl, rfl, rfl⟩
  refine pD (fun W R z9 => ?_) ?_
  ·rw [zB 10 12 (z9 10 rfl) (z9 12 rfl)]
   refine qZ (t := 13) rfl (vF h1) (qk (1) jJ rfl qA (by decide) rfl rfl ?_)
   exact ⟨rfl, rfl, rfl⟩
  refine pD (fun W R z9 => ?_) ?_
  ·rw [zB 10 13 (z9 10 rfl) (z9 13 rfl)]
   refine qZ (t := 13) rfl (vF h1) (qj qU rfl (Rd.own [] rfl rfl) ?_)
   exact ⟨rfl, rfl, rfl⟩
  refine pD (fun W R z9 => ?_) ?_
  ·rw [zA 10 (z9 10 rfl)]
   refine qZ (t := 13) rfl (vF h1) (qm (ptr c 0) rfl ?_)
   exact ⟨rfl, rfl, rfl⟩
  refine pD (fun W R z9 => ?_) ?_
  ·rw [zB 10 15 (z9 10 rfl) (z9 15 rfl)]
   refine qZ (t := 13) rfl (vF h1) (jk rfl ?_)
   exact ⟨rfl, rfl, rfl⟩
  refine pD (fun W R z9 => ?_) ?_
  ·rw [zB 10 16 (z9 10 rfl) (z9 16 rfl)]
   refine qZ (t := 13) rfl (vF h1) (qk (2) jJ rfl sizeOf3 (by decide) rfl rfl ?_)
   exact ⟨rfl, rfl, rfl⟩
  refine pD (fun W R z9 => ?_) ?_
  ·rw [zB 10 17 (z9 10 rfl) (z9 17 rfl)]
   refine qZ (t := 13) rfl (vF h1) (qj isAgg3 rfl (Rd.own [] rfl rfl) ?_)
   exact ⟨rfl, rfl, rfl⟩
  refine pD (fun W R z9 => ?_) ?_
  ·rw [eS (l := [(10, _), (14, _), (18, _)]) ⟨z9 10 rfl, z9 14 rfl, z9 18 rfl, ⟨⟩⟩]
   refine qZ (t := 13) rfl (vF h1) (qt p qf qq rfl rfl rfl ht.slv (by omega) (Nat.mul_one _) ?_)
   exact ⟨rfl, rfl, rfl⟩
  refine pD (fun W R z9 => ?_) ?_
  ·rw [zB 10 19 (z9 10 rfl) (z9 19 rfl)]
   refine qZ (t := 13) rfl (vF h1) (qj qP rfl (ht.rd (by omega)) ?_)
   exact ⟨rfl, rfl, rfl⟩
  refine pD (fun W R z9 => ?_) ?_
  ·rw [zA 10 (z9 10 rfl)]
   refine qZ (t := 13) rfl (vF h1) (qm (ptr c 0) rfl ?_)
   exact ⟨rfl, rfl, rfl⟩
  refine pD (fun W R z9 => ?_) ?_
  ·rw [zB 10 21 (z9 10 rfl) (z9 21 rfl)]
   refine qZ (t := 13) rfl (vF h1) (jk rfl ?_)
   exact ⟨rfl, rfl, rfl⟩
  refine pD (fun W R z9 => ?_) ?_
  ·rw [zB 10 22 (z9 10 rfl) (z9 22 rfl)]
   refine qZ (t := 13) rfl (vF h1) (qk (0) jJ rfl qJ (by decide) rfl rfl ?_)
   exact ⟨rfl, rfl, rfl⟩
  refine pD (fun W R z9 => ?_) ?_
  ·rw [zB 10 23 (z9 10 rfl) (z9 23 rfl)]
   refine qZ (t := 13) rfl (vF h1) (qk (0) ji rfl qA (by decide) rfl rfl ?_)
   exact ⟨rfl, rfl, rfl⟩
  refine pD (fun W R z9 => ?_) ?_
  ·rw [zB 10 24 (z9 10 rfl) (z9 24 rfl)]
   refine qZ (t := 13) rfl (vF h1) (qj qU rfl (Rd.own [] rfl rfl) ?_)
   exact ⟨rfl, rfl, rfl⟩
  refine pD (fun W R z9 => ?_) ?_
  ·rw [zB 10 25 (z9 10 rfl) (z9 25 rfl)]
   refine qZ (t := 13) rfl (vF h1) (qE qf rfl har.slv ?_)
   exact ⟨rfl, rfl, rfl⟩
  exact stepsP.nil
 intro W hphi
 rw [eS (l := [(10, _), (20, _), (26, _)]) ⟨(hphi 10 (by decide)), (hphi 20 (by decide)), (hphi 26 (by decide)), ⟨⟩⟩]
 show XL _ _ _ _ _ _ _ (cellsH c [arv, tv, ii ((p : Int))] 328 :: L)
 refine qo (t := 13) rfl (vF h1) (jP rfl rfl (cX (qN (.bool (decide ((t.getD p 0 : Int) ≥ (ar.length : Int)))) (vF h1) rfl (qc ?_))))
 refine qC (p := (t.getD p 0 : Int) ≥ (ar.length : Int)) rfl (fun h2 => ?_) (fun h2 => ?_)
 ·refine qd (qb (qh (ii (-1)) rfl (qc (qw (ql (qr (L' := cellsH c [arv, tv, ii ((p : Int))] 328 :: L) [ii (-1)] (ii (-1)) (.tmp rfl .nil) rfl rF rF (sC sR) ?_))))))
  exact ⟨rfl, .inr ⟨by omega, rfl, rfl⟩⟩
 refine qz (qd (qb (qg (ptr c 0) rfl (cX (jk rfl (cX (qk (2) jJ rfl sizeOf3 (by decide) rfl rfl (cX (qj isAgg3 rfl (Rd.own [] rfl rfl) (cX (qK (((p + 1 : Nat) : Int)) rfl rfl (by omega) (by omega) (cX (jk rfl (cX (qk (2) jJ rfl sizeOf3 (by decide) rfl rfl (cX (jw [] _ [arv, tv, ii (((p + 1 : Nat) : Int))] sizeOf3 rfl rfl rfl rfl rfl rfl (qc (qd ?_)))))))))))))))))))
 refine jx [cellsH c [arv, tv, ii (((p + 1 : Nat) : Int))] 328] L 15 [] [[], [0], [1], [2], [], [4], [5], [6], [], [8], [9], [10], [11], [7, 12], [13]] (phiL [qe (ptr c 0), qe (ptr c 0), qe (ptr c 0), qe (.agg #[arv]), qe (ptr c 0), qe (ptr c 0), qe (ptr c 1), qe tv, qe (ptr c 0), qe (ptr c 0), qe (ptr c 2), qe (ii (((p + 1 : Nat) : Int)) : Value), qe (ii ((p : Int)) : Value), qe (.pointer (some (elemA tv (p)))), qe (ii (t.getD p 0))]) (ownL []) mixed rfl rfl (by kernel_rfl) ?_ ?_
 ·refine pD (fun W R z9 => ?_) ?_
  ·refine qi (qm (ptr c 0) rfl ?_)
   exact ⟨rfl, rfl, rfl⟩
  refine pD (fun W R z9 => ?_) ?_
  ·rw [zA 0 (z9 0 rfl)]
   refine qi (jk rfl ?_)
   exact ⟨rfl, rfl, rfl⟩
  refine pD (fun W R z9 => ?_) ?_
  ·rw [zA 1 (z9 1 rfl)]
   refine qi (qk (0) jJ rfl qJ (by decide) rfl rfl ?_)
   exact ⟨rfl, rfl, rfl⟩
  refine pD (fun W R z9 => ?_) ?_
  ·rw [zA 2 (z9 2 rfl)]
   refine qi (qu [arv] jf qJ rfl rfl (Rd.ownN [] rfl rfl) ?_)
   exact ⟨rfl, rfl, rfl⟩
  refine pD (fun W R z9 => ?_) ?_
  ·refine qi (qm (ptr c 0) rfl ?_)
   exact ⟨rfl, rfl, rfl⟩
  refine pD (fun W R z9 => ?_) ?_
  ·rw [zA 4 (z9 4 rfl)]
   refine qi (jk rfl ?_)
   exact ⟨rfl, rfl, rfl⟩
  refine pD (fun W R z9 => ?_) ?_
  ·rw [zA 5 (z9 5 rfl)]
   refine qi (qk (1) jJ rfl qA (by decide) rfl rfl ?_)
   exact ⟨rfl, rfl, rfl⟩
  refine pD (fun W R z9 => ?_) ?_
  ·rw [zA 6 (z9 6 rfl)]
   refine qi (qj qU rfl (Rd.own [] rfl rfl) ?_)
   exact ⟨rfl, rfl, rfl⟩
  refine pD (fun W R z9 => ?_) ?_
  ·refine qi (qm (ptr c 0) rfl ?_)
   exact ⟨rfl, rfl, rfl⟩
  refine pD (fun W R z9 => ?_) ?_
  ·rw [zA 8 (z9 8 rfl)]
   refine qi (jk rfl ?_)
   exact ⟨rfl, rfl, rfl⟩
  refine pD (fun W R z9 => ?_) ?_
  ·rw [zA 9 (z9 9 rfl)]
   refine qi (qk (2) jJ rfl sizeOf3 (by decide) rfl rfl ?_)
   exact ⟨rfl, rfl, rfl⟩
  refine pD (fun W R z9 => ?_) ?_
  ·rw [zA 10 (z9 10 rfl)]
   refine qi (qj isAgg3 rfl (Rd.own [] rfl rfl) ?_)
   exact ⟨rfl, rfl, rfl⟩
  refine pD (fun W R z9 => ?_) ?_
  ·rw [zA 11 (z9 11 rfl)]
   refine qi (je ((p : Int)) rfl rfl (by omega) (by omega) ?_)
   exact ⟨rfl, rfl, rfl⟩
  refine pD (fun W R z9 => ?_) ?_
  ·rw [zB 7 12 (z9 7 rfl) (z9 12 rfl)]
   refine qi (qt p qf qq rfl rfl rfl ht.slv (by omega) (Nat.mul_one _) ?_)
   exact ⟨rfl, rfl, rfl⟩
  refine pD (fun W R z9 => ?_) ?_
  ·rw [zA 13 (z9 13 rfl)]
   refine qi (qj qP rfl (ht.rd (by omega)) ?_)
   exact ⟨rfl, rfl, rfl⟩
  exact stepsP.nil
 intro W hphi
 rw [zB 3 14 (hphi 3 (by decide)) (hphi 14 (by decide))]
 show XL _ _ _ _ _ _ _ (cellsH c [arv, tv, ii (((p + 1 : Nat) : Int))] 328 :: L)
 refine cX (qn (args := [.agg #[arv], ii (t.getD p 0)]) call366 rfl (arityAt_spec (n := t.getD p 0) har (hn := (by first | assumption | rfl | omega | simp))) ?_)
 rintro _ _ _ _ ⟨rfl, rfl, rfl⟩
 refine qh (ii (arity ar (t.getD p 0))) rfl (qc (qw (qr (L' := cellsH c [arv, tv, ii (((p + 1 : Nat) : Int))] 328 :: L) [ii (arity ar (t.getD p 0))] (ii (arity ar (t.getD p 0))) (.tmp rfl .nil) rfl rF rF (sC sR) ?_)))
 exact ⟨rfl, .inl ⟨by omega, by omega, rfl, rfl⟩⟩

/- (*impl.cursor).skip -/
theorem skip_spec {F : FH} {L : List HP} {c p0 : Nat} {arv : Value} {ar : List Int} (har : IntsF F arv ar) {tv : Value} {t : List Int} (ht : IntsF F tv t) (hb : t.length ≤ 4000000) (hs : sigOk ar = true) (hp : p0 ≤ t.length) :
    Does prog 298 [ptr c 0] F (cellsH c [arv, tv, ii ((p0 : Int))] 328 :: L) (fun v F' L' => F = F' ∧ ∃ q : Nat, (.bool (endGo ar (t.drop p0) 1).isSome : Value) = v ∧ (∀ e, endGo ar (t.drop p0) 1 = some e → q = p0 + e) ∧ cellsH c [arv, tv, ii (q : Int)] 328 :: L = L') := by
 refine qG func298 rfl rfl rfl (qd (qb (qh (.bool (false)) rfl (qc (qd (qd (qb (qh (ii (1)) rfl (qc (qH (jn (α := Nat × Nat) (fun xQ => [(0, ptr c 0), (3, ii (((xQ.1 : Nat) : Int)))]) (fun xQ => cellsH c [arv, tv, ii (((xQ.2 : Nat) : Int))] 328 :: L) (fun xQ F' => F = F' ∧ (endGo ar (t.drop p0) 1 = (endGo ar (t.drop xQ.2) xQ.1).map (· + (xQ.2 - p0))) ∧ (p0 ≤ xQ.2 ∧ xQ.2 ≤ t.length) ∧ (xQ.1 ≤ 1 + 3 * xQ.2)) (fun xQ => t.length - xQ.2) (1, p0) ⟨rfl, rfl, ⟨⟩⟩ (sC sR) ⟨rfl, (by simp), (by omega), (by omega)⟩ ?_)))))))))))
 rintro ⟨k, p⟩ rE _ _ ⟨rfl, hi, h1, h2⟩
 show X _ _ _ _ (envs [(0, ptr c 0), (3, ii ((k : Int)))] rE) _ (cellsH c [arv, tv, ii ((p : Int))] 328 :: L)
 dsimp only at hi h1 h2
 refine qd (qd (qb (qg (ii ((k : Int))) rfl (cX (jG rfl rfl (qc ?_))))))
 refine qC (p := (k : Int) > 0) rfl (fun h1 => ?_) (fun h1 => ?_)
 ·refine qz (qd (qH (qd (qb (qg (ptr c 0) rfl (cX (qn (args := [ptr c 0]) call354 rfl (next_spec (p := p) har ht (by omega)) ?_)))))))
  rintro _ _ _ _ ⟨rfl, ⟨hn1a, hn1b, rfl, rfl⟩ | ⟨hn1c, rfl, rfl⟩⟩
  ·have hA := arity_le hs hn1b
   refine qh (ii (arity ar ((t).getD p 0))) rfl (qc (qd (qd (qb (qg (ii (arity ar ((t).getD p 0))) rfl (cX (qQ rfl rfl (qc ?_))))))))
   refine qC (p := (arity ar ((t).getD p 0) : Int) < 0) rfl (fun h2 => ?_) (fun h2 => ?_)
   ·omega
   refine qz (qb (qg (ii ((k : Int))) rfl (qg (ii (arity ar ((t).getD p 0))) rfl (cX (qK (((k + (arity ar (t.getD p 0)).toNat : Nat) : Int)) rfl rfl (by omega) (by omega) (qh (ii (((k + (arity ar (t.getD p 0)).toNat : Nat) : Int))) rfl (qc (qb (qg (ii (((k + (arity ar (t.getD p 0)).toNat : Nat) : Int))) rfl (cX (je (((k - 1 + (arity ar (t.getD p 0)).toNat : Nat) : Int)) rfl rfl (by omega) (by omega) (qh (ii (((k - 1 + (arity ar (t.getD p 0)).toNat : Nat) : Int))) rfl (qc ?_)))))))))))))
   exact ⟨(k - 1 + (arity ar (t.getD p 0)).toNat, p + 1), _, FLe.refl _, rF, ⟨rfl, rfl, ⟨⟩⟩, (sC sR), ⟨rfl, (by rw [hi, endGo_step (by omega) (by omega) (by omega), Option.map_map]; congr 1; funext e; simp; omega), (by omega), (by omega)⟩, (by omega)⟩
  refine qh (ii (-1)) rfl (qc (qd (qd (qb (qg (ii (-1)) rfl (cX (qQ rfl rfl (qc (jA rfl (qd (qb (qh (.bool (false)) rfl (qc (qw (ql (qD (ql (ql (qD (ql (qr (L' := cellsH c [arv, tv, ii ((p : Int))] 328 :: L) [.bool (false)] (.bool (false)) (.tmp rfl .nil) rfl rF rF (sC sR) ?_)))))))))))))))))))))
  have hz : endGo ar (t.drop p0) 1 = none := by rw [hi, endGo_none (by omega) (by omega)]; rfl
  refine ⟨rfl, p, ?_, ?_, rfl⟩
  · rw [hz]; rfl
  · intro e he; rw [hz] at he; cases he
 refine jg (qv (qv (qM (qd (qb (qh (.bool (true)) rfl (qc (qw (qr (L' := cellsH c [arv, tv, ii ((p : Int))] 328 :: L) [.bool (true)] (.bool (true)) (.tmp rfl .nil) rfl rF rF (sC sR) ?_)))))))))
 obtain rfl : k = 0 := by omega
 have hz : endGo ar (t.drop p0) 1 = some (p - p0) := by rw [hi]; simp [endGo]
 refine ⟨rfl, p, ?_, ?_, rfl⟩
 · rw [hz]; rfl
 · intro e he; rw [hz] at he; cases he; omega

/- impl.endAt -/
theorem endAt_spec {F : FH} {L : List HP} {arv : Value} {ar : List Int} (har : IntsF F arv ar) {tv : Value} {t : List Int} (ht : IntsF F tv t) {p : Nat} (hs : sigOk ar = true) (hb : t.length ≤ 4000000) (hp : p ≤ t.length) :
    Does prog 206 [.agg #[arv], tv, ii ((p : Int))] F (L) (fun v F' L' => (ii (endZ ar t p) : Value) = v ∧ F = F' ∧ L = L') := by
 refine qG func206 rfl rfl rfl (qd (qb (cX (jb [arv] rfl rfl ?_))))
 intro b1
 refine qh (ii (0)) rfl (qc (qd (qb (cX (qu [arv] jf qJ rfl rfl (Rd.ownN [] rfl rfl) (qg (tv) rfl (qg (ii ((p : Int))) rfl (cX (jv [arv, tv, ii ((p : Int))] [sN, sN, ii (0)] [(0, 1), (1, 1), (2, 1)] [(0, [arv]), (1, [tv]), (2, [ii ((p : Int))])] jJ zeroValue328 rfl (.cons rfl qJ (.cons rfl qA (.cons rfl sizeOf3 PlacesAre.nil))) rfl (.cons rfl (.cons (cells_one (qB ht)) (.cons rfl CellsAre.nil))) (cX (jr [sN, sN, ii (0)] zeroValue328 rfl ?_)))))))))))
 intro b2
 refine cX (qV [] _ [arv, tv, ii ((p : Int))] sizeOf328 rfl rfl rfl (qx (qI (qB har)) (qx (qI (qB ht)) (qx rfl qX))) rfl rfl rfl (qc (qd (qd (qb (cX (qn (args := [ptr b2 0]) call298 rfl (skip_spec (p0 := p) har ht (by omega) hs (by omega)) ?_)))))))
 rintro _ _ _ _ ⟨rfl, q1, rfl, hq1, rfl⟩
 refine cX (jt rfl (qc ?_))
 refine jF (t := !((endGo ar (t.drop p) 1).isSome)) rfl (fun h1 => ?_) (fun h1 => ?_)
 ·refine qd (qb (qh (ii (-1)) rfl (qc (qw (ql (qr (L' := L) [ii (-1)] (ii (-1)) (.tmp rfl .nil) rfl rF rF (sD (sD sR)) ?_))))))
  exact ⟨(vI (endZ_none (by rw [Bool.eq_false_iff] at *; simpa using h1))), rfl, rfl⟩
 refine qz (qd (qb (cX (qk (2) jJ rfl sizeOf3 (by decide) rfl rfl (cX (qj isAgg3 rfl (Rd.own [] rfl rfl) (qh (ii ((q1 : Int))) rfl (qc (qw (qr (L' := L) [ii ((q1 : Int))] (ii ((q1 : Int))) (.tmp rfl .nil) rfl rF rF (sD (sD sR)) ?_))))))))))
 exact ⟨(vI (endZ_some hq1 (by simpa using h1))), rfl, rfl⟩

/- slices.Min[[]int64,int64] -/
theorem Min_spec {F : FH} {L : List HP} {xsv : Value} {xs : List Int} (hxs : IntsF F xsv xs) (h1 : 1 ≤ xs.length) (hbd : xs.length ≤ 4000000) :
    Does prog 219 [xsv] F (L) (fun v F' L' => (ii (minL xs) : Value) = v ∧ F = F' ∧ L = L') := by
 refine qG func219 rfl rfl rfl (qd (qb (qh (ii (0)) rfl (qc (qd (qd (qb (qg (xsv) rfl (cX (qE qf rfl hxs.slv (cX (qQ rfl rfl (qc ?_)))))))))))))
 refine qC (p := ((xs.length : Int) : Int) < 1) rfl (fun h1 => ?_) (fun h1 => ?_)
 ·omega
 refine qz (qd (qb (qg (xsv) rfl (cX (qt 0 qf qq rfl rfl rfl hxs.slv (by omega) (Nat.mul_one _) (cX (qj qP rfl (hxs.rd (by omega)) (qh (ii (xs.getD 0 0)) rfl (qc (qd (qd (qb (qh (ii (1)) rfl (qc (qH (jn (α := Nat) (fun k => [(0, xsv), (3, ii (minL (xs.take k))), (4, ii ((k : Int)))]) (fun k => L) (fun k F' => F = F' ∧ (1 ≤ k ∧ k ≤ xs.length)) (fun k => xs.length - k) 1 ⟨rfl, (vI (minL_take1 (xs := xs) (by omega)).symm), rfl, ⟨⟩⟩ sR ⟨rfl, (by omega)⟩ ?_))))))))))))))))
 rintro k rE _ _ ⟨rfl, hk⟩
 show X _ _ _ _ (envs [(0, xsv), (3, ii (minL (xs.take k))), (4, ii ((k : Int)))] rE) _ (L)
 refine qd (qd (qb (qg (ii ((k : Int))) rfl (qg (xsv) rfl (cX (qE qf rfl hxs.slv (cX (qQ rfl rfl (qc ?_)))))))))
 refine qC (p := (k : Int) < (xs.length : Int)) rfl (fun h2 => ?_) (fun h2 => ?_)
 ·refine qz (qd (qH (qb (qg (ii (minL (xs.take k))) rfl (qg (xsv) rfl (qg (ii ((k : Int))) rfl (cX (qt k qf qq rfl rfl rfl hxs.slv (by omega) (Nat.mul_one _) (cX (qj qP rfl (hxs.rd (by omega)) (cX (XOp.min2R (a := minL (xs.take k)) (b := xs.getD k 0) (minL (xs.take (k + 1))) rfl rfl ((minL_step (by omega) (by omega)).symm) (qh (ii (minL (xs.take (k + 1)))) rfl (qc (qb (qg (ii ((k : Int))) rfl ?_))))))))))))))))
  refine cX (qK (((k + 1 : Nat) : Int)) rfl rfl (by omega) (by omega) (qh (ii (((k + 1 : Nat) : Int))) rfl (qc ?_)))
  exact ⟨k + 1, _, FLe.refl _, rF, ⟨rfl, rfl, rfl, ⟨⟩⟩, sR, ⟨rfl, (by omega)⟩, (by omega)⟩
 refine jg (qv (qv (qM (qd (qb (qg (ii (minL (xs.take k))) rfl (qh (ii (minL (xs.take k))) rfl (qc (qw (qr (L' := L) [ii (minL (xs.take k))] (ii (minL (xs.take k))) (.tmp rfl .nil) rfl rF rF sR ?_))))))))))
 exact ⟨(vI (by rw [minL_take_all (by omega)])), rfl, rfl⟩

/- slices.Equal[[]int64,int64] -/
theorem Equal_spec {F : FH} {L : List HP} {av : Value} {a : List Int} (ha : IntsF F av a) {bv : Value} {b : List Int} (hb : IntsF F bv b) (hbd : a.length ≤ 9223372036854775807 ∨ b.length ≤ 9223372036854775807) :
    Does prog 236 [av, bv] F (L) (fun v F' L' => (.bool (decide (a = b)) : Value) = v ∧ F = F' ∧ L = L') := by
 refine qG func236 rfl rfl rfl (qd (qb (qh (.bool (false)) rfl (qc (qd (qd (qb (qg (av) rfl (cX (qE qf rfl ha.slv (qg (bv) rfl (cX (qE qf rfl hb.slv (cX (XOp.neq rfl rfl (qc ?_))))))))))))))))
 refine qC (p := ((a.length : Int) : Int) ≠ (b.length : Int)) rfl (fun h1 => ?_) (fun h1 => ?_)
 ·refine qd (qb (qh (.bool (false)) rfl (qc (qw (ql (qr (L' := L) [.bool (false)] (.bool (false)) (.tmp rfl .nil) rfl rF rF sR ?_))))))
  exact ⟨(vB (decide_eq_false (fun e => by rw [e] at h1; omega))), rfl, rfl⟩
 refine qz (qd (qd (qb (qg (av) rfl (cX (qE qf rfl ha.slv (qg (ii (0)) rfl (qc (qH (jn (α := Nat) (fun k => [(0, av), (1, bv), (12, ii ((a.length : Int))), (13, ii ((k : Int)))]) (fun k => L) (fun k F' => F = F' ∧ (k ≤ a.length) ∧ (∀ i, i < k → a.getD i 0 = b.getD i 0)) (fun k => a.length - k) 0 ⟨rfl, rfl, rfl, rfl, ⟨⟩⟩ sR ⟨rfl, (by omega), (fun i hi => absurd hi (by omega))⟩ ?_))))))))))
 rintro k rE _ _ ⟨rfl, hk, hall⟩
 show X _ _ _ _ (envs [(0, av), (1, bv), (12, ii ((a.length : Int))), (13, ii ((k : Int)))] rE) _ (L)
 refine qd (qb (cX (qQ rfl rfl (qc (qd ?_)))))
 refine qC (p := (k : Int) < (a.length : Int)) rfl (fun h2 => ?_) (fun h2 => ?_)
 ·refine qz (qd (qH (qd (qb (qg (ii ((k : Int))) rfl (qh (ii ((k : Int))) rfl (qc (qd ?_))))))))
  refine jx [] L 8 [] [[], [], [0, 1], [2], [], [], [4, 5], [6]] (phiL [qe av, qe (ii ((k : Int)) : Value), qe (.pointer (some (elemA av (k)))), qe (ii (a.getD k 0)), qe bv, qe (ii ((k : Int)) : Value), qe (.pointer (some (elemA bv (k)))), qe (ii (b.getD k 0))]) (ownL []) mixed rfl rfl (by kernel_rfl) ?_ ?_
  ·refine pD (fun W R z9 => ?_) ?_
   ·refine qi (qm (av) rfl ?_)
    exact ⟨rfl, rfl, rfl⟩
   refine pD (fun W R z9 => ?_) ?_
   ·refine qi (qm (ii ((k : Int))) rfl ?_)
    exact ⟨rfl, rfl, rfl⟩
   refine pD (fun W R z9 => ?_) ?_
   ·rw [zB 0 1 (z9 0 rfl) (z9 1 rfl)]
    refine qi (qt k qf qq rfl rfl rfl ha.slv (by omega) (Nat.mul_one _) ?_)
    exact ⟨rfl, rfl, rfl⟩
   refine pD (fun W R z9 => ?_) ?_
   ·rw [zA 2 (z9 2 rfl)]
    refine qi (qj qP rfl (ha.rd (by omega)) ?_)
    exact ⟨rfl, rfl, rfl⟩
   refine pD (fun W R z9 => ?_) ?_
   ·refine qi (qm (bv) rfl ?_)
    exact ⟨rfl, rfl, rfl⟩
   refine pD (fun W R z9 => ?_) ?_
   ·refine qi (qm (ii ((k : Int))) rfl ?_)
    exact ⟨rfl, rfl, rfl⟩
   refine pD (fun W R z9 => ?_) ?_
   ·rw [zB 4 5 (z9 4 rfl) (z9 5 rfl)]
    refine qi (qt k qf qq rfl rfl rfl hb.slv (by omega) (Nat.mul_one _) ?_)
    exact ⟨rfl, rfl, rfl⟩
   refine pD (fun W R z9 => ?_) ?_
   ·rw [zA 6 (z9 6 rfl)]
    refine qi (qj qP rfl (hb.rd (by omega)) ?_)
    exact ⟨rfl, rfl, rfl⟩
   exact stepsP.nil
  intro W hphi
  rw [zB 3 7 (hphi 3 (by decide)) (hphi 7 (by decide))]
  show XL _ _ _ _ _ _ _ (L)
  refine cX (XOp.neq rfl rfl (qc ?_))
  refine qC (p := (a.getD k 0 : Int) ≠ b.getD k 0) rfl (fun h3 => ?_) (fun h3 => ?_)
  ·refine qd (qb (qh (.bool (false)) rfl (qc (qw (qD (ql (ql (qD (ql (qr (L' := L) [.bool (false)] (.bool (false)) (.tmp rfl .nil) rfl rF rF sR ?_))))))))))
   exact ⟨(vB (decide_eq_false (ne_of_getD (i := k) (by omega)))), rfl, rfl⟩
  refine qz (qb (cX (qK (((k + 1 : Nat) : Int)) rfl rfl (by omega) (by omega) (qg (ii (((k + 1 : Nat) : Int))) rfl (qc ?_)))))
  exact ⟨k + 1, _, FLe.refl _, rF, ⟨rfl, rfl, rfl, rfl, ⟨⟩⟩, sR, ⟨rfl, (by omega), (fun i hi => (Nat.lt_or_ge i k).elim (fun h => hall i h) (fun h => by obtain rfl : i = k := (by omega); omega))⟩, (by omega)⟩
 refine jg (qv (qv (qM (qd (qb (qh (.bool (true)) rfl (qc (qw (qr (L' := L) [.bool (true)] (.bool (true)) (.tmp rfl .nil) rfl rF rF sR ?_)))))))))
 exact ⟨(vB (decide_eq_true (ext_getD (by omega) (fun i hi => hall i (by omega))))), rfl, rfl⟩

/- spec.SameTerm -/
theorem SameTerm_spec {F : FH} {L : List HP} {av : Value} {a : List Int} (ha : IntsF F av a) {bv : Value} {b : List Int} (hb : IntsF F bv b) (hbd : a.length ≤ 9223372036854775807 ∨ b.length ≤ 9223372036854775807) :
    Does prog 32 [av, bv] F (L) (fun v F' L' => (.bool (decide (a = b)) : Value) = v ∧ F = F' ∧ L = L') := by
 refine qG func32 rfl rfl rfl (qd (qb (qh (.bool (false)) rfl (qc (qd (qd (qb (qg (av) rfl (cX (qE qf rfl ha.slv (qg (bv) rfl (cX (qE qf rfl hb.slv (cX (XOp.neq rfl rfl (qc ?_))))))))))))))))
 refine qC (p := ((a.length : Int) : Int) ≠ (b.length : Int)) rfl (fun h1 => ?_) (fun h1 => ?_)
 ·refine qd (qb (qh (.bool (false)) rfl (qc (qw (ql (qr (L' := L) [.bool (false)] (.bool (false)) (.tmp rfl .nil) rfl rF rF sR ?_))))))
  exact ⟨(vB (decide_eq_false (fun e => by rw [e] at h1; omega))), rfl, rfl⟩
 refine qz (qd (qd (qb (qh (ii (0)) rfl (qc (qH (jn (α := Nat) (fun k => [(0, av), (1, bv), (5, ii ((k : Int)))]) (fun k => L) (fun k F' => F = F' ∧ (k ≤ a.length) ∧ (∀ i, i < k → a.getD i 0 = b.getD i 0)) (fun k => a.length - k) 0 ⟨rfl, rfl, rfl, ⟨⟩⟩ sR ⟨rfl, (by omega), (fun i hi => absurd hi (by omega))⟩ ?_)))))))
 rintro k rE _ _ ⟨rfl, hk, hall⟩
 show X _ _ _ _ (envs [(0, av), (1, bv), (5, ii ((k : Int)))] rE) _ (L)
 refine qd (qd (qb (qg (ii ((k : Int))) rfl (qg (av) rfl (cX (qE qf rfl ha.slv (cX (qQ rfl rfl (qc ?_)))))))))
 refine qC (p := (k : Int) < (a.length : Int)) rfl (fun h2 => ?_) (fun h2 => ?_)
 ·refine qz (qd (qH (qd ?_)))
  refine jx [] L 8 [] [[], [], [0, 1], [2], [], [], [4, 5], [6]] (phiL [qe av, qe (ii ((k : Int)) : Value), qe (.pointer (some (elemA av (k)))), qe (ii (a.getD k 0)), qe bv, qe (ii ((k : Int)) : Value), qe (.pointer (some (elemA bv (k)))), qe (ii (b.getD k 0))]) (ownL []) mixed rfl rfl (by kernel_rfl) ?_ ?_
  ·refine pD (fun W R z9 => ?_) ?_
   ·refine qi (qm (av) rfl ?_)
    exact ⟨rfl, rfl, rfl⟩
   refine pD (fun W R z9 => ?_) ?_
   ·refine qi (qm (ii ((k : Int))) rfl ?_)
    exact ⟨rfl, rfl, rfl⟩
   refine pD (fun W R z9 => ?_) ?_
   ·rw [zB 0 1 (z9 0 rfl) (z9 1 rfl)]
    refine qi (qt k qf qq rfl rfl rfl ha.slv (by omega) (Nat.mul_one _) ?_)
    exact ⟨rfl, rfl, rfl⟩
   refine pD (fun W R z9 => ?_) ?_
   ·rw [zA 2 (z9 2 rfl)]
    refine qi (qj qP rfl (ha.rd (by omega)) ?_)
    exact ⟨rfl, rfl, rfl⟩
   refine pD (fun W R z9 => ?_) ?_
   ·refine qi (qm (bv) rfl ?_)
    exact ⟨rfl, rfl, rfl⟩
   refine pD (fun W R z9 => ?_) ?_
   ·refine qi (qm (ii ((k : Int))) rfl ?_)
    exact ⟨rfl, rfl, rfl⟩
   refine pD (fun W R z9 => ?_) ?_
   ·rw [zB 4 5 (z9 4 rfl) (z9 5 rfl)]
    refine qi (qt k qf qq rfl rfl rfl hb.slv (by omega) (Nat.mul_one _) ?_)
    exact ⟨rfl, rfl, rfl⟩
   refine pD (fun W R z9 => ?_) ?_
   ·rw [zA 6 (z9 6 rfl)]
    refine qi (qj qP rfl (hb.rd (by omega)) ?_)
    exact ⟨rfl, rfl, rfl⟩
   exact stepsP.nil
  intro W hphi
  rw [zB 3 7 (hphi 3 (by decide)) (hphi 7 (by decide))]
  show XL _ _ _ _ _ _ _ (L)
  refine cX (XOp.neq rfl rfl (qc ?_))
  refine qC (p := (a.getD k 0 : Int) ≠ b.getD k 0) rfl (fun h3 => ?_) (fun h3 => ?_)
  ·refine qd (qb (qh (.bool (false)) rfl (qc (qw (qD (ql (ql (qD (ql (qr (L' := L) [.bool (false)] (.bool (false)) (.tmp rfl .nil) rfl rF rF sR ?_))))))))))
   exact ⟨(vB (decide_eq_false (ne_of_getD (i := k) (by omega)))), rfl, rfl⟩
  refine qz (qb (qg (ii ((k : Int))) rfl (cX (qK (((k + 1 : Nat) : Int)) rfl rfl (by omega) (by omega) (qh (ii (((k + 1 : Nat) : Int))) rfl (qc ?_))))))
  exact ⟨k + 1, _, FLe.refl _, rF, ⟨rfl, rfl, rfl, ⟨⟩⟩, sR, ⟨rfl, (by omega), (fun i hi => (Nat.lt_or_ge i k).elim (fun h => hall i h) (fun h => by obtain rfl : i = k := (by omega); omega))⟩, (by omega)⟩
 refine jg (qv (qv (qM (qd (qb (qh (.bool (true)) rfl (qc (qw (qr (L' := L) [.bool (true)] (.bool (true)) (.tmp rfl .nil) rfl rF rF sR ?_)))))))))
 exact ⟨(vB (decide_eq_true (ext_getD (by omega) (fun i hi => hall i (by omega))))), rfl, rfl⟩

/- slices.Index[[]int64,int64] -/
theorem Index_spec {F : FH} {L : List HP} {xsv : Value} {xs : List Int} (hxs : IntsF F xsv xs) {n : Int} (hbd : xs.length ≤ 9223372036854775807) :
    Does prog 305 [xsv, ii (n)] F (L) (fun v F' L' => (ii (indexZ xs n) : Value) = v ∧ F = F' ∧ L = L') := by
 refine qG func305 rfl rfl rfl (qd (qb (qh (ii (0)) rfl (qc (qd (qd (qb (qg (xsv) rfl (cX (qE qf rfl hxs.slv (qg (ii (0)) rfl (qc (qH (jn (α := Nat) (fun k => [(0, xsv), (1, ii (n)), (7, ii ((xs.length : Int))), (8, ii ((k : Int)))]) (fun k => L) (fun k F' => F = F' ∧ (k ≤ xs.length) ∧ (∀ i, i < k → xs.getD i 0 ≠ n)) (fun k => xs.length - k) 0 ⟨rfl, rfl, rfl, rfl, ⟨⟩⟩ sR ⟨rfl, (by omega), (fun i hi => absurd hi (by omega))⟩ ?_))))))))))))))
 rintro k rE _ _ ⟨rfl, hk, hall⟩
 show X _ _ _ _ (envs [(0, xsv), (1, ii (n)), (7, ii ((xs.length : Int))), (8, ii ((k : Int)))] rE) _ (L)
 refine qd (qb (cX (qQ rfl rfl (qc (qd ?_)))))
 refine qC (p := (k : Int) < (xs.length : Int)) rfl (fun h1 => ?_) (fun h1 => ?_)
 ·refine qz (qd (qH (qd (qb (qg (ii ((k : Int))) rfl (qh (ii ((k : Int))) rfl (qc (qd (qb (qg (ii (n)) rfl (qg (xsv) rfl (qg (ii ((k : Int))) rfl (cX (qt k qf qq rfl rfl rfl hxs.slv (by omega) (Nat.mul_one _) (cX (qj qP rfl (hxs.rd (by omega)) (cX (ju rfl rfl ?_))))))))))))))))))
  refine qc ?_
  refine qC (p := (n : Int) = xs.getD k 0) rfl (fun h2 => ?_) (fun h2 => ?_)
  ·refine qd (qb (qg (ii ((k : Int))) rfl (qh (ii ((k : Int))) rfl (qc (qw (qD (ql (ql (qD (ql (qr (L' := L) [ii ((k : Int))] (ii ((k : Int))) (.tmp rfl .nil) rfl rF rF sR ?_)))))))))))
   exact ⟨(vI (indexZ_some (by omega) (by omega) hall)), rfl, rfl⟩
  refine qz (qb (cX (qK (((k + 1 : Nat) : Int)) rfl rfl (by omega) (by omega) (qg (ii (((k + 1 : Nat) : Int))) rfl (qc ?_)))))
  exact ⟨k + 1, _, FLe.refl _, rF, ⟨rfl, rfl, rfl, rfl, ⟨⟩⟩, sR, ⟨rfl, (by omega), (fun i hi => (Nat.lt_or_ge i k).elim (fun h => hall i h) (fun h => by obtain rfl : i = k := (by omega); omega))⟩, (by omega)⟩
 refine jg (qv (qv (qM (qd (qb (qh (ii (-1)) rfl (qc (qw (qr (L' := L) [ii (-1)] (ii (-1)) (.tmp rfl .nil) rfl rF rF sR ?_)))))))))
 exact ⟨(vI (indexZ_none (fun i hi => hall i (by omega)))), rfl, rfl⟩

/- slices.Contains[[]int64,int64] -/
theorem Contains_spec {F : FH} {L : List HP} {xsv : Value} {xs : List Int} (hxs : IntsF F xsv xs) {n : Int} (hbd : xs.length ≤ 9223372036854775807) :
    Does prog 218 [xsv, ii (n)] F (L) (fun v F' L' => (.bool (decide (n ∈ xs)) : Value) = v ∧ F = F' ∧ L = L') := by
 refine qG func218 rfl rfl rfl (qd (qb (qh (.bool (false)) rfl (qc (qd (qb (qg (xsv) rfl (qg (ii (n)) rfl (cX (qn (args := [xsv, ii (n)]) call305 rfl (Index_spec (n := n) hxs (hbd := (by first | assumption | rfl | omega | simp))) ?_))))))))))
 rintro _ _ _ _ ⟨rfl, rfl, rfl⟩
 refine cX (jP rfl rfl (qh (.bool (decide ((indexZ xs n : Int) ≥ 0))) rfl (qc (qw (qr (L' := L) [.bool (decide ((indexZ xs n : Int) ≥ 0))] (.bool (decide ((indexZ xs n : Int) ≥ 0))) (.tmp rfl .nil) rfl rF rF sR ?_)))))
 exact ⟨(vB (decide_eq_decide.2 indexZ_mem.symm)), rfl, rfl⟩

/- spec.l1Has -/
theorem l1Has_spec {F : FH} {L : List HP} {xsv : Value} {xs : List Int} (hxs : IntsF F xsv xs) {n : Int} (hbd : xs.length ≤ 9223372036854775807) :
    Does prog 259 [xsv, ii (n)] F (L) (fun v F' L' => (.bool (decide (n ∈ xs)) : Value) = v ∧ F = F' ∧ L = L') := by
 refine qG func259 rfl rfl rfl (qd (qb (qh (.bool (false)) rfl (qc (qd (qd (qb (qh (ii (0)) rfl (qc (qH (jn (α := Nat) (fun k => [(0, xsv), (1, ii (n)), (5, ii ((k : Int)))]) (fun k => L) (fun k F' => F = F' ∧ (k ≤ xs.length) ∧ (∀ i, i < k → xs.getD i 0 ≠ n)) (fun k => xs.length - k) 0 ⟨rfl, rfl, rfl, ⟨⟩⟩ sR ⟨rfl, (by omega), (fun i hi => absurd hi (by omega))⟩ ?_)))))))))))
 rintro k rE _ _ ⟨rfl, hk, hall⟩
 show X _ _ _ _ (envs [(0, xsv), (1, ii (n)), (5, ii ((k : Int)))] rE) _ (L)
 refine qd (qd (qb (qg (ii ((k : Int))) rfl (qg (xsv) rfl (cX (qE qf rfl hxs.slv (cX (qQ rfl rfl (qc ?_)))))))))
 refine qC (p := (k : Int) < (xs.length : Int)) rfl (fun h1 => ?_) (fun h1 => ?_)
 ·refine qz (qd (qH (qd (qb (qg (xsv) rfl (qg (ii ((k : Int))) rfl (cX (qt k qf qq rfl rfl rfl hxs.slv (by omega) (Nat.mul_one _) (cX (qj qP rfl (hxs.rd (by omega)) (qg (ii (n)) rfl (cX (ju rfl rfl (qc ?_))))))))))))))
  refine qC (p := (xs.getD k 0 : Int) = n) rfl (fun h2 => ?_) (fun h2 => ?_)
  ·refine qd (qb (qh (.bool (true)) rfl (qc (qw (qD (ql (ql (qD (ql (qr (L' := L) [.bool (true)] (.bool (true)) (.tmp rfl .nil) rfl rF rF sR ?_))))))))))
   exact ⟨(vB (decide_eq_true (mem_of_getD (k := k) (by omega) (by omega)))), rfl, rfl⟩
  refine qz (qb (qg (ii ((k : Int))) rfl (cX (qK (((k + 1 : Nat) : Int)) rfl rfl (by omega) (by omega) (qh (ii (((k + 1 : Nat) : Int))) rfl (qc ?_))))))
  exact ⟨k + 1, _, FLe.refl _, rF, ⟨rfl, rfl, rfl, ⟨⟩⟩, sR, ⟨rfl, (by omega), (fun i hi => (Nat.lt_or_ge i k).elim (fun h => hall i h) (fun h => by obtain rfl : i = k := (by omega); omega))⟩, (by omega)⟩
 refine jg (qv (qv (qM (qd (qb (qh (.bool (false)) rfl (qc (qw (qr (L' := L) [.bool (false)] (.bool (false)) (.tmp rfl .nil) rfl rF rF sR ?_)))))))))
 exact ⟨(vB (decide_eq_false (not_mem_of_getD (fun i hi => hall i (by omega))))), rfl, rfl⟩

/- spec.l1In -/
theorem l1In_spec {F : FH} {L : List HP} {n : Int} {a : Int} {b : Int} :
    Does prog 109 [ii (n), ii (a), ii (b)] F (L) (fun v F' L' => (.bool (decide (a ≤ n ∧ n ≤ b)) : Value) = v ∧ F = F' ∧ L = L') := by
 refine qG func109 rfl rfl rfl (qd (qb (qh (.bool (false)) rfl (qc (qd (qb (qg (ii (n)) rfl (qg (ii (a)) rfl (cX (jP rfl rfl (qg (.bool (decide ((n : Int) ≥ a))) rfl ?_)))))))))))
 by_cases h1 : (n : Int) ≥ a
 ·refine qo (t := 10) rfl (vT h1) (qm (ii (n)) rfl (qo (t := 10) rfl (vT h1) (qm (ii (b)) rfl (qo (t := 10) rfl (vT h1) (XOp.leq rfl rfl (cX (qO (.bool (decide ((n : Int) ≤ b))) (vT h1) rfl (qh (.bool (decide ((n : Int) ≤ b))) rfl (qc (qw (qr (L' := L) [.bool (decide ((n : Int) ≤ b))] (.bool (decide ((n : Int) ≤ b))) (.tmp rfl .nil) rfl rF rF sR ?_)))))))))))
  exact ⟨(vB (decide_eq_decide.2 (by omega))), rfl, rfl⟩
 refine qp (t := 10) rfl (vF h1) (qp (t := 10) rfl (vF h1) (qp (t := 10) rfl (vF h1) (cX (qN (.bool (false)) (vF h1) rfl (qh (.bool (false)) rfl (qc (qw (qr (L' := L) [.bool (false)] (.bool (false)) (.tmp rfl .nil) rfl rF rF sR ?_))))))))
 exact ⟨(vB (decide_eq_false (by omega))), rfl, rfl⟩

/- spec.l1Arity -/
theorem l1Arity_spec {F : FH} {L : List HP} {arv : Value} {ar : List Int} (har : IntsF F arv ar) {n : Int} (hla : ar.length ≤ 4000000) :
    Does prog 299 [.agg #[arv], ii (n)] F (L) (fun v F' L' => (ii (sArity ar n) : Value) = v ∧ F = F' ∧ L = L') := by
 refine qG func299 rfl rfl rfl (qd (qb (cX (jb [arv] rfl rfl ?_))))
 intro b1
 refine qh (ii (0)) rfl (qc (qd (qH (qd (qb (qg (ii (n)) rfl (cX (qn (args := [ii (n), ii (-24), ii (-1)]) call109 rfl (l1In_spec (n := n) (a := -24) (b := -1)) ?_))))))))
 rintro _ _ _ _ ⟨rfl, rfl, rfl⟩
 refine qh (.bool (decide ((-24) ≤ n ∧ n ≤ (-1)))) rfl (qc ?_)
 refine qC (p := (-24) ≤ n ∧ n ≤ (-1)) rfl (fun h1 => ?_) (fun h1 => ?_)
 ·refine qd (qb (qh (ii (0)) rfl (qc (qw (qD (ql (qr (L' := L) [ii (0)] (ii (0)) (.tmp rfl .nil) rfl rF rF (sD sR) ?_)))))))
  exact ⟨(vI (by unfold sArity; split <;> (try split) <;> first | rfl | omega)), rfl, rfl⟩
 refine qd (qb (qg (ii (n)) rfl (cX (qk (0) ji rfl qA (by decide) rfl rfl (cX (qj qU rfl (Rd.own [] rfl rfl) (cX (qE qf rfl har.slv (cX (je (((ar.length : Int)) - 1) rfl rfl (by omega) (by omega) (cX (qn (args := [ii (n), ii (0), ii (((ar.length : Int)) - 1)]) call109 rfl (l1In_spec (n := n) (a := 0) (b := ((ar.length : Int)) - 1)) ?_))))))))))))
 rintro _ _ _ _ ⟨rfl, rfl, rfl⟩
 refine qh (.bool (decide (0 ≤ n ∧ n ≤ (((ar.length : Int)) - 1)))) rfl (qc ?_)
 refine qC (p := 0 ≤ n ∧ n ≤ (((ar.length : Int)) - 1)) rfl (fun h2 => ?_) (fun h2 => ?_)
 ·refine qd (qb (cX (qk (0) ji rfl qA (by decide) rfl rfl (cX (qj qU rfl (Rd.own [] rfl rfl) (qg (ii (n)) rfl (cX (qt ((n).toNat) qf qq rfl rfl (by omega) har.slv (by omega) (Nat.mul_one _) (cX (qj qP rfl (har.rd (by omega)) (qh (ii (ar.getD ((n).toNat) 0)) rfl (qc (qw (qD (ql (qr (L' := L) [ii (ar.getD ((n).toNat) 0)] (ii (ar.getD ((n).toNat) 0)) (.tmp rfl .nil) rfl rF rF (sD sR) ?_))))))))))))))))
  exact ⟨(vI (by unfold sArity; split <;> (try split) <;> first | rfl | omega)), rfl, rfl⟩
 refine qz (qd (qb (qh (ii (-1)) rfl (qc (qw (qr (L' := L) [ii (-1)] (ii (-1)) (.tmp rfl .nil) rfl rF rF (sD sR) ?_))))))
 exact ⟨(vI (by unfold sArity; split <;> (try split) <;> first | rfl | omega)), rfl, rfl⟩

/- spec.SigOk -/
theorem sSigOk_spec {F : FH} {L : List HP} {arv : Value} {ar : List Int} (har : IntsF F arv ar) (hla : ar.length ≤ 4000000) :
    Does prog 120 [.agg #[arv]] F (L) (fun v F' L' => (.bool (sigOk ar) : Value) = v ∧ F = F' ∧ L = L') := by
 refine qG func120 rfl rfl rfl (qd (qb (cX (jb [arv] rfl rfl ?_))))
 intro b1
 refine qh (.bool (false)) rfl (qc (qd (qd (qb (cX (qk (0) ji rfl qA (by decide) rfl rfl (cX (qj qU rfl (Rd.own [] rfl rfl) (cX (qE qf rfl har.slv (cX (qn (args := [ii ((ar.length : Int)), ii (1), ii (8)]) call109 rfl (l1In_spec (n := (ar.length : Int)) (a := 1) (b := 8)) ?_))))))))))))
 rintro _ _ _ _ ⟨rfl, rfl, rfl⟩
 refine cX (jY rfl (qc ?_))
 refine qC (p := ¬(1 ≤ ((ar.length : Int)) ∧ ((ar.length : Int)) ≤ 8)) rfl (fun h1 => ?_) (fun h1 => ?_)
 ·refine qd (qb (qh (.bool (false)) rfl (qc (qw (ql (qr (L' := L) [.bool (false)] (.bool (false)) (.tmp rfl .nil) rfl rF rF (sD sR) ?_))))))
  exact ⟨(vB (sigOk_short (by omega))), rfl, rfl⟩
 refine qz (qd (qd (qb (qh (ii (0)) rfl (qc (qH (jn (α := Nat) (fun k => [(1, ptr b1 0), (3, ii ((k : Int)))]) (fun k => cellsH b1 [arv] 36 :: L) (fun k F' => F = F' ∧ (k ≤ ar.length) ∧ (∀ i, i < k → 0 ≤ ar.getD i 0 ∧ ar.getD i 0 ≤ 3)) (fun k => ar.length - k) 0 ⟨rfl, rfl, ⟨⟩⟩ (sC sR) ⟨rfl, (by omega), (fun i hi => absurd hi (by omega))⟩ ?_)))))))
 rintro k rE _ _ ⟨rfl, hk, hall⟩
 show X _ _ _ _ (envs [(1, ptr b1 0), (3, ii ((k : Int)))] rE) _ (cellsH b1 [arv] 36 :: L)
 refine qd (qd (qb (qg (ii ((k : Int))) rfl (cX (qk (0) ji rfl qA (by decide) rfl rfl (cX (qj qU rfl (Rd.own [] rfl rfl) (cX (qE qf rfl har.slv (cX (qQ rfl rfl (qc ?_))))))))))))
 refine qC (p := (k : Int) < (ar.length : Int)) rfl (fun h2 => ?_) (fun h2 => ?_)
 ·refine qz (qd (qH (qd (qb (cX (qk (0) ji rfl qA (by decide) rfl rfl (cX (qj qU rfl (Rd.own [] rfl rfl) (qg (ii ((k : Int))) rfl (cX (qt k qf qq rfl rfl rfl har.slv (by omega) (Nat.mul_one _) (cX (qj qP rfl (har.rd (by omega)) (cX (qn (args := [ii (ar.getD k 0), ii (0), ii (3)]) call109 rfl (l1In_spec (n := ar.getD k 0) (a := 0) (b := 3)) ?_)))))))))))))))
  rintro _ _ _ _ ⟨rfl, rfl, rfl⟩
  refine cX (jY rfl (qc ?_))
  refine qC (p := ¬(0 ≤ (ar.getD k 0) ∧ (ar.getD k 0) ≤ 3)) rfl (fun h3 => ?_) (fun h3 => ?_)
  ·refine qd (qb (qh (.bool (false)) rfl (qc (qw (qD (ql (ql (qD (ql (qr (L' := L) [.bool (false)] (.bool (false)) (.tmp rfl .nil) rfl rF rF (sD sR) ?_))))))))))
   exact ⟨(vB (sigOk_bad (i := k) (by omega) (by omega))), rfl, rfl⟩
  refine qz (qb (qg (ii ((k : Int))) rfl (cX (qK (((k + 1 : Nat) : Int)) rfl rfl (by omega) (by omega) (qh (ii (((k + 1 : Nat) : Int))) rfl (qc ?_))))))
  exact ⟨k + 1, _, FLe.refl _, rF, ⟨rfl, rfl, ⟨⟩⟩, (sC sR), ⟨rfl, (by omega), (fun i hi => (Nat.lt_or_ge i k).elim (fun h => hall i h) (fun h => by obtain rfl : i = k := (by omega); omega))⟩, (by omega)⟩
 refine jg (qv (qv (qM (qd (qb (qh (.bool (true)) rfl (qc (qw (qr (L' := L) [.bool (true)] (.bool (true)) (.tmp rfl .nil) rfl rF rF (sD sR) ?_)))))))))
 exact ⟨(vB (sigOk_of (by omega) (by omega) (fun i hi => hall i (by omega)))), rfl, rfl⟩

/- spec.l1End -/
theorem l1End_spec {F : FH} {L : List HP} {arv : Value} {ar : List Int} (har : IntsF F arv ar) {tv : Value} {t : List Int} (ht : IntsF F tv t) {p0 : Nat} (hs : sigOk ar = true) (hlt : t.length ≤ 4000000) (hp : p0 ≤ t.length) :
    Does prog 208 [.agg #[arv], tv, ii ((p0 : Int))] F (L) (fun v F' L' => (ii (sEndZ ar t p0) : Value) = v ∧ F = F' ∧ L = L') := by
 refine qG func208 rfl rfl rfl ?_
 have hsl := sigOk_spec hs
 refine qd (qb (cX (jb [arv] rfl rfl ?_)))
 intro b1
 refine qh (ii (0)) rfl (qc (qd (qb (qh (ii (1)) rfl (qc (qd (qd (qb (qg (ii ((p0 : Int))) rfl (qh (ii ((p0 : Int))) rfl (qc (qH (jn (α := Nat × Nat) (fun xQ => [(1, tv), (3, ptr b1 0), (7, ii (((xQ.1 : Nat) : Int))), (8, ii (((xQ.2 : Nat) : Int)))]) (fun xQ => cellsH b1 [arv] 36 :: L) (fun xQ F' => F = F' ∧ (sEndGo ar (t.drop p0) 1 = (sEndGo ar (t.drop xQ.2) xQ.1).map (· + (xQ.2 - p0))) ∧ (p0 ≤ xQ.2 ∧ xQ.2 ≤ t.length) ∧ (1 ≤ xQ.1 ∧ xQ.1 ≤ 1 + 3 * xQ.2)) (fun xQ => t.length - xQ.2) (1, p0) ⟨rfl, rfl, rfl, rfl, ⟨⟩⟩ (sC sR) ⟨rfl, (by simp), (by omega), (by omega)⟩ ?_)))))))))))))
 rintro ⟨k, p⟩ rE _ _ ⟨rfl, hi, h1, h2⟩
 show X _ _ _ _ (envs [(1, tv), (3, ptr b1 0), (7, ii ((k : Int))), (8, ii ((p : Int)))] rE) _ (cellsH b1 [arv] 36 :: L)
 dsimp only at hi h1 h2
 refine qd (qd (qb (qg (ii ((p : Int))) rfl (qg (tv) rfl (cX (qE qf rfl ht.slv (cX (qQ rfl rfl (qc ?_)))))))))
 refine qC (p := (p : Int) < (t.length : Int)) rfl (fun h1 => ?_) (fun h1 => ?_)
 ·refine qz (qd (qH (qd ?_)))
  refine jx [cellsH b1 [arv] 36] L 5 [] [[], [], [], [1, 2], [3]] (phiL [qe (.agg #[arv]), qe tv, qe (ii ((p : Int)) : Value), qe (.pointer (some (elemA tv (p)))), qe (ii (t.getD p 0))]) (ownL []) mixed rfl rfl (by kernel_rfl) ?_ ?_
  ·refine pD (fun W R z9 => ?_) ?_
   ·refine qi (qu [arv] jf qJ rfl rfl (Rd.ownN [] rfl rfl) ?_)
    exact ⟨rfl, rfl, rfl⟩
   refine pD (fun W R z9 => ?_) ?_
   ·refine qi (qm (tv) rfl ?_)
    exact ⟨rfl, rfl, rfl⟩
   refine pD (fun W R z9 => ?_) ?_
   ·refine qi (qm (ii ((p : Int))) rfl ?_)
    exact ⟨rfl, rfl, rfl⟩
   refine pD (fun W R z9 => ?_) ?_
   ·rw [zB 1 2 (z9 1 rfl) (z9 2 rfl)]
    refine qi (qt p qf qq rfl rfl rfl ht.slv (by omega) (Nat.mul_one _) ?_)
    exact ⟨rfl, rfl, rfl⟩
   refine pD (fun W R z9 => ?_) ?_
   ·rw [zA 3 (z9 3 rfl)]
    refine qi (qj qP rfl (ht.rd (by omega)) ?_)
    exact ⟨rfl, rfl, rfl⟩
   exact stepsP.nil
  intro W hphi
  rw [zB 0 4 (hphi 0 (by decide)) (hphi 4 (by decide))]
  show XL _ _ _ _ _ _ _ (cellsH b1 [arv] 36 :: L)
  refine cX (qn (args := [.agg #[arv], ii (t.getD p 0)]) call299 rfl (l1Arity_spec (n := t.getD p 0) har (hla := (by first | assumption | rfl | omega | simp))) ?_)
  rintro _ _ _ _ ⟨rfl, rfl, rfl⟩
  refine qh (ii (sArity ar (t.getD p 0))) rfl (qc (qd (qd (qb (qg (ii (sArity ar (t.getD p 0))) rfl (cX (qQ rfl rfl (qc ?_))))))))
  refine qC (p := (sArity ar (t.getD p 0) : Int) < 0) rfl (fun h2 => ?_) (fun h2 => ?_)
  ·rw [sArity_neg hs] at h2
   refine qd (qb (qh (ii (-1)) rfl (qc (qw (ql (qD (ql (ql (qD (ql (qr (L' := L) [ii (-1)] (ii (-1)) (.tmp rfl .nil) rfl rF rF (sD sR) ?_)))))))))))
   exact ⟨(vI (by unfold sEndZ; rw [hi, sEndGo_none (by omega) (by omega)]; rfl)), rfl, rfl⟩
  have hA : -24 ≤ t.getD p 0 ∧ t.getD p 0 < ar.length := by rw [sArity_neg hs] at h2; omega
  have hB := arity_le hs hA.2
  have hC := sArity_eq hA
  refine qz (qd (qb (qg (ii ((k : Int))) rfl (qg (ii (sArity ar (t.getD p 0))) rfl (cX (qK (((k + (arity ar (t.getD p 0)).toNat : Nat) : Int)) rfl rfl (by omega) (by omega) (cX (je (((k - 1 + (arity ar (t.getD p 0)).toNat : Nat) : Int)) rfl rfl (by omega) (by omega) (qh (ii (((k - 1 + (arity ar (t.getD p 0)).toNat : Nat) : Int))) rfl (qc (qd (qb (qg (ii (((k - 1 + (arity ar (t.getD p 0)).toNat : Nat) : Int))) rfl (cX (ju rfl rfl (qc ?_))))))))))))))))
  refine qC (p := (((k - 1 + (arity ar (t.getD p 0)).toNat : Nat) : Int) : Int) = 0) rfl (fun h3 => ?_) (fun h3 => ?_)
  ·refine qd (qb (qg (ii ((p : Int))) rfl (cX (qK (((p + 1 : Nat) : Int)) rfl rfl (by omega) (by omega) (qh (ii (((p + 1 : Nat) : Int))) rfl (qc (qw (qD (ql (ql (qD (ql (qr (L' := L) [ii (((p + 1 : Nat) : Int))] (ii (((p + 1 : Nat) : Int))) (.tmp rfl .nil) rfl rF rF (sD sR) ?_)))))))))))))
   exact ⟨(vI (by have hz := sEndGo_step (ar := ar) (t := t) (p := p) (k := k) (by omega) (by omega) hA; rw [show k - 1 + (arity ar (t.getD p 0)).toNat = 0 from by omega] at hz; unfold sEndZ; rw [hi, hz]; simp [sEndGo]; omega)), rfl, rfl⟩
  refine qz (qb (qg (ii ((p : Int))) rfl (cX (qK (((p + 1 : Nat) : Int)) rfl rfl (by omega) (by omega) (qh (ii (((p + 1 : Nat) : Int))) rfl (qc ?_))))))
  exact ⟨(k - 1 + (arity ar (t.getD p 0)).toNat, p + 1), _, FLe.refl _, rF, ⟨rfl, rfl, rfl, rfl, ⟨⟩⟩, (sC sR), ⟨rfl, (by rw [hi, sEndGo_step (by omega) (by omega) (by omega), Option.map_map]; congr 1; funext e; simp; omega), (by omega), (by omega)⟩, (by omega)⟩
 refine jg (qv (qv (qM (qd (qb (qh (ii (-1)) rfl (qc (qw (qr (L' := L) [ii (-1)] (ii (-1)) (.tmp rfl .nil) rfl rF rF (sD sR) ?_)))))))))
 exact ⟨(vI (by unfold sEndZ; rw [hi, sEndGo_none (by omega) (by omega)]; rfl)), rfl, rfl⟩

/- impl.TermOk -/
theorem TermOk_spec {F : FH} {L : List HP} {arv : Value} {ar : List Int} (har : IntsF F arv ar) {tv : Value} {t : List Int} (ht : IntsF F tv t) :
    Does prog 112 [.agg #[arv], tv] F (L) (fun v F' L' => (.bool (termOk ar t) : Value) = v ∧ F = F' ∧ L = L') := by
 refine qG func112 rfl rfl rfl (qd (qb (cX (jb [arv] rfl rfl ?_))))
 intro b1
 refine qh (.bool (false)) rfl (qc (qd (qb (cX (qu [arv] jf qJ rfl rfl (Rd.ownN [] rfl rfl) (cX (qn (args := [.agg #[arv]]) call158 rfl (SigOk_spec har) ?_)))))))
 rintro _ _ _ _ ⟨rfl, rfl, rfl⟩
 refine qg (.bool (sigOk ar)) rfl ?_
 by_cases h1 : (sigOk ar) = true
 ·refine qo (t := 7) rfl (vB h1) (qm (tv) rfl (qo (t := 7) rfl (vB h1) (qE qf rfl ht.slv (qo (t := 7) rfl (vB h1) (jG rfl rfl (cX (qO (.bool (decide (((t.length : Int) : Int) > 0))) (vB h1) rfl (qg (.bool (decide (((t.length : Int) : Int) > 0))) rfl ?_))))))))
  by_cases h2 : ((t.length : Int) : Int) > 0
  ·refine qo (t := 12) rfl (vT h2) (qm (tv) rfl (qo (t := 12) rfl (vT h2) (qE qf rfl ht.slv (qo (t := 12) rfl (vT h2) (XOp.leq rfl rfl (cX (qO (.bool (decide (((t.length : Int) : Int) ≤ 60))) (vT h2) rfl (qg (.bool (decide (((t.length : Int) : Int) ≤ 60))) rfl ?_))))))))
   by_cases h3 : ((t.length : Int) : Int) ≤ 60
   ·refine qo (t := 17) rfl (vT h3) (qm (tv) rfl (qo (t := 17) rfl (vT h3) (qn (args := [tv]) call219 rfl (Min_spec ht (h1 := (by first | assumption | rfl | omega | simp)) (hbd := (by first | assumption | rfl | omega | simp))) ?_)))
    rintro _ _ _ _ ⟨rfl, rfl, rfl⟩
    refine qo (t := 17) rfl (vT h3) (jP rfl rfl (cX (qO (.bool (decide ((minL t : Int) ≥ -24))) (vT h3) rfl (qg (.bool (decide ((minL t : Int) ≥ -24))) rfl ?_))))
    by_cases h4 : (minL t : Int) ≥ -24
    ·refine qo (t := 22) rfl (vT h4) (qu [arv] jf qJ rfl rfl (Rd.ownN [] rfl rfl) (qo (t := 22) rfl (vT h4) (qm (tv) rfl (qo (t := 22) rfl (vT h4) (qn (args := [.agg #[arv], tv, ii ((0 : Nat) : Int)]) call206 rfl (endAt_spec (p := 0) har ht (hs := (by first | assumption | rfl | omega | simp)) (hb := (by first | assumption | rfl | omega | simp)) (hp := (by first | assumption | rfl | omega | simp))) ?_)))))
     rintro _ _ _ _ ⟨rfl, rfl, rfl⟩
     refine qo (t := 22) rfl (vT h4) (qm (tv) rfl (qo (t := 22) rfl (vT h4) (qE qf rfl ht.slv (qo (t := 22) rfl (vT h4) (ju rfl rfl (cX (qO (.bool (decide ((endZ ar t 0 : Int) = (t.length : Int)))) (vT h4) rfl (qh (.bool (decide ((endZ ar t 0 : Int) = (t.length : Int)))) rfl (qc (qw (qr (L' := L) [.bool (decide ((endZ ar t 0 : Int) = (t.length : Int)))] (.bool (decide ((endZ ar t 0 : Int) = (t.length : Int)))) (.tmp rfl .nil) rfl rF rF (sD sR) ?_)))))))))))
     exact ⟨(vB (termOk_of (by assumption) (by omega) (by omega) (by omega))), rfl, rfl⟩
    refine qp (t := 22) rfl (vF h4) (qp (t := 22) rfl (vF h4) (qp (t := 22) rfl (vF h4) (qp (t := 22) rfl (vF h4) (qp (t := 22) rfl (vF h4) (qp (t := 22) rfl (vF h4) (cX (qN (.bool (false)) (vF h4) rfl (qh (.bool (false)) rfl (qc (qw (qr (L' := L) [.bool (false)] (.bool (false)) (.tmp rfl .nil) rfl rF rF (sD sR) ?_)))))))))))
    exact ⟨(vB (by first | (refine termOk_nosig ?_; assumption) | (refine termOk_short ?_; omega) | (refine termOk_min ?_ ?_ <;> omega))), rfl, rfl⟩
   refine qp (t := 17) rfl (vF h3) (qp (t := 17) rfl (vF h3) (qp (t := 17) rfl (vF h3) (cX (qN (.bool (false)) (vF h3) rfl (qg (.bool (false)) rfl (qp (t := 22) rfl rfl (qp (t := 22) rfl rfl (qp (t := 22) rfl rfl (qp (t := 22) rfl rfl (qp (t := 22) rfl rfl ?_))))))))))
   refine qp (t := 22) rfl rfl (cX (qN (.bool (false)) rfl rfl (qh (.bool (false)) rfl (qc (qw (qr (L' := L) [.bool (false)] (.bool (false)) (.tmp rfl .nil) rfl rF rF (sD sR) ?_))))))
   exact ⟨(vB (by first | (refine termOk_nosig ?_; assumption) | (refine termOk_short ?_; omega) | (refine termOk_min ?_ ?_ <;> omega))), rfl, rfl⟩
  refine qp (t := 12) rfl (vF h2) (qp (t := 12) rfl (vF h2) (qp (t := 12) rfl (vF h2) (cX (qN (.bool (false)) (vF h2) rfl (qg (.bool (false)) rfl (qp (t := 17) rfl rfl (qp (t := 17) rfl rfl (qp (t := 17) rfl rfl (cX (qN (.bool (false)) rfl rfl (qg (.bool (false)) rfl ?_)))))))))))
  refine qp (t := 22) rfl rfl (qp (t := 22) rfl rfl (qp (t := 22) rfl rfl (qp (t := 22) rfl rfl (qp (t := 22) rfl rfl (qp (t := 22) rfl rfl (cX (qN (.bool (false)) rfl rfl (qh (.bool (false)) rfl (qc (qw (qr (L' := L) [.bool (false)] (.bool (false)) (.tmp rfl .nil) rfl rF rF (sD sR) ?_)))))))))))
  exact ⟨(vB (by first | (refine termOk_nosig ?_; assumption) | (refine termOk_short ?_; omega) | (refine termOk_min ?_ ?_ <;> omega))), rfl, rfl⟩
 rw [Bool.not_eq_true] at h1
 refine qp (t := 7) rfl (vB h1) (qp (t := 7) rfl (vB h1) (qp (t := 7) rfl (vB h1) (cX (qN (.bool (false)) (vB h1) rfl (qg (.bool (false)) rfl (qp (t := 12) rfl rfl (qp (t := 12) rfl rfl (qp (t := 12) rfl rfl (cX (qN (.bool (false)) rfl rfl (qg (.bool (false)) rfl ?_)))))))))))
 refine qp (t := 17) rfl rfl (qp (t := 17) rfl rfl (qp (t := 17) rfl rfl (cX (qN (.bool (false)) rfl rfl (qg (.bool (false)) rfl (qp (t := 22) rfl rfl (qp (t := 22) rfl rfl (qp (t := 22) rfl rfl (qp (t := 22) rfl rfl (qp (t := 22) rfl rfl ?_))))))))))
 refine qp (t := 22) rfl rfl (cX (qN (.bool (false)) rfl rfl (qh (.bool (false)) rfl (qc (qw (qr (L' := L) [.bool (false)] (.bool (false)) (.tmp rfl .nil) rfl rF rF (sD sR) ?_))))))
 exact ⟨(vB (by first | (refine termOk_nosig ?_; assumption) | (refine termOk_short ?_; omega) | (refine termOk_min ?_ ?_ <;> omega))), rfl, rfl⟩

/- spec.TermOk -/
theorem sTermOk_spec {F : FH} {L : List HP} {arv : Value} {ar : List Int} (har : IntsF F arv ar) {tv : Value} {t : List Int} (ht : IntsF F tv t) (hla : ar.length ≤ 4000000) (hlt : t.length ≤ 4000000) :
    Does prog 202 [.agg #[arv], tv] F (L) (fun v F' L' => (.bool (termOk ar t) : Value) = v ∧ F = F' ∧ L = L') := by
 refine qG func202 rfl rfl rfl (qd (qb (cX (jb [arv] rfl rfl ?_))))
 intro b1
 refine qh (.bool (false)) rfl (qc (qd (qb (cX (qu [arv] jf qJ rfl rfl (Rd.ownN [] rfl rfl) (cX (qn (args := [.agg #[arv]]) call120 rfl (sSigOk_spec har (hla := (by first | assumption | rfl | omega | simp))) ?_)))))))
 rintro _ _ _ _ ⟨rfl, rfl, rfl⟩
 refine qg (.bool (sigOk ar)) rfl ?_
 by_cases h1 : (sigOk ar) = true
 ·refine qo (t := 7) rfl (vB h1) (qm (tv) rfl (qo (t := 7) rfl (vB h1) (qE qf rfl ht.slv (qo (t := 7) rfl (vB h1) (qn (args := [ii ((t.length : Int)), ii (1), ii (60)]) call109 rfl (l1In_spec (n := (t.length : Int)) (a := 1) (b := 60)) ?_)))))
  rintro _ _ _ _ ⟨rfl, rfl, rfl⟩
  refine cX (qO (.bool (decide (1 ≤ ((t.length : Int)) ∧ ((t.length : Int)) ≤ 60))) (vB h1) rfl (qg (.bool (decide (1 ≤ ((t.length : Int)) ∧ ((t.length : Int)) ≤ 60))) rfl ?_))
  by_cases h2 : 1 ≤ ((t.length : Int)) ∧ ((t.length : Int)) ≤ 60
  ·refine qo (t := 12) rfl (vT h2) (qu [arv] jf qJ rfl rfl (Rd.ownN [] rfl rfl) (qo (t := 12) rfl (vT h2) (qm (tv) rfl (qo (t := 12) rfl (vT h2) (qn (args := [.agg #[arv], tv, ii ((0 : Nat) : Int)]) call208 rfl (l1End_spec (p0 := 0) har ht (hs := (by first | assumption | rfl | omega | simp)) (hlt := (by first | assumption | rfl | omega | simp)) (hp := (by first | assumption | rfl | omega | simp))) ?_)))))
   rintro _ _ _ _ ⟨rfl, rfl, rfl⟩
   refine qo (t := 12) rfl (vT h2) (qm (tv) rfl (qo (t := 12) rfl (vT h2) (qE qf rfl ht.slv (qo (t := 12) rfl (vT h2) (ju rfl rfl (cX (qO (.bool (decide ((sEndZ ar t 0 : Int) = (t.length : Int)))) (vT h2) rfl (qh (.bool (decide ((sEndZ ar t 0 : Int) = (t.length : Int)))) rfl (qc (qw (qr (L' := L) [.bool (decide ((sEndZ ar t 0 : Int) = (t.length : Int)))] (.bool (decide ((sEndZ ar t 0 : Int) = (t.length : Int)))) (.tmp rfl .nil) rfl rF rF (sD sR) ?_)))))))))))
   exact ⟨(vB (termOk_s (by assumption) (by omega))), rfl, rfl⟩
  refine qp (t := 12) rfl (vF h2) (qp (t := 12) rfl (vF h2) (qp (t := 12) rfl (vF h2) (qp (t := 12) rfl (vF h2) (qp (t := 12) rfl (vF h2) (qp (t := 12) rfl (vF h2) (cX (qN (.bool (false)) (vF h2) rfl (qh (.bool (false)) rfl (qc (qw (qr (L' := L) [.bool (false)] (.bool (false)) (.tmp rfl .nil) rfl rF rF (sD sR) ?_)))))))))))
  exact ⟨(vB (by first | (refine termOk_nosig ?_; assumption) | (refine termOk_short ?_; omega))), rfl, rfl⟩
 rw [Bool.not_eq_true] at h1
 refine qp (t := 7) rfl (vB h1) (qp (t := 7) rfl (vB h1) (qp (t := 7) rfl (vB h1) (cX (qN (.bool (false)) (vB h1) rfl (qg (.bool (false)) rfl (qp (t := 12) rfl rfl (qp (t := 12) rfl rfl (qp (t := 12) rfl rfl (qp (t := 12) rfl rfl (qp (t := 12) rfl rfl ?_))))))))))
 refine qp (t := 12) rfl rfl (cX (qN (.bool (false)) rfl rfl (qh (.bool (false)) rfl (qc (qw (qr (L' := L) [.bool (false)] (.bool (false)) (.tmp rfl .nil) rfl rF rF (sD sR) ?_))))))
 exact ⟨(vB (by first | (refine termOk_nosig ?_; assumption) | (refine termOk_short ?_; omega))), rfl, rfl⟩

theorem endAt_ok {F : FH} {L : List HP} {p : Nat} {arv : Value} {ar : List Int} (har : IntsF F arv ar) {tv : Value} {t : List Int} (ht : IntsF F tv t) (ho : termOk ar t = true) (hp : p < t.length) :
    Does prog 206 [.agg #[arv], tv, ii (p : Int)] F L (fun v F' L' => (ii ((endN ar t p : Nat) : Int) : Value) = v ∧ F = F' ∧ L = L') := by
  have hl := termOk_len ho
  have h := endAt_spec (F := F) (L := L) (p := p) har ht (termOk_sig ho) (by omega) (by omega)
  rw [endZ_endN ho hp] at h
  exact h

theorem l1End_ok {F : FH} {L : List HP} {p : Nat} {arv : Value} {ar : List Int} (har : IntsF F arv ar) {tv : Value} {t : List Int} (ht : IntsF F tv t) (ho : termOk ar t = true) (hp : p < t.length) :
    Does prog 208 [.agg #[arv], tv, ii (p : Int)] F L (fun v F' L' => (ii ((endN ar t p : Nat) : Int) : Value) = v ∧ F = F' ∧ L = L') := by
  have hl := termOk_len ho
  have h := l1End_spec (F := F) (L := L) (p0 := p) har ht (termOk_sig ho) (by omega) (by omega)
  rw [sEndZ_endN ho hp] at h
  exact h


/- impl.subAt -/
theorem subAt_spec {F : FH} {L : List HP} {arv : Value} {ar : List Int} (har : IntsF F arv ar) {tv : Value} {t : List Int} (ht : IntsF F tv t) {p : Nat} (ho : termOk ar t = true) (hp : p < t.length) (hnn : isNil tv = false) :
    Does prog 142 [.agg #[arv], tv, ii ((p : Int))] F (L) (fun v F' L' => F = F' ∧ L = L' ∧ IntsF F v (sub ar t p) ∧ isNil v = false) := by
 refine qG func142 rfl rfl rfl ?_
 have hsl := sigOk_spec (termOk_sig ho)
 have htl := termOk_len ho
 have hsig := termOk_sig ho
 have hee := endN_spec ho hp
 refine qd (qb (cX (jb [arv] rfl rfl ?_)))
 intro b1
 refine qh (sN) rfl (qc (qd (qb (qg (tv) rfl (qg (ii ((p : Int))) rfl (cX (qu [arv] jf qJ rfl rfl (Rd.ownN [] rfl rfl) (qg (tv) rfl (qg (ii ((p : Int))) rfl (cX (qn (args := [.agg #[arv], tv, ii (p : Int)]) call206 rfl (endAt_ok (p := p) har ht (ho := (by first | assumption | rfl | omega | (left; simp; done) | (right; simp; done))) (hp := (by first | assumption | rfl | omega | (left; simp; done) | (right; simp; done)))) ?_)))))))))))
 rintro _ _ _ _ ⟨rfl, rfl, rfl⟩
 refine cX (jV p (endN ar t p) qf qq rfl ht ⟨_, rfl⟩ ⟨_, rfl⟩ (by omega) (by omega) ?_)
 intro v1 hv1 hn1
 refine qh (v1) rfl (qc (qw (qr (L' := L) [v1] (v1) (.tmp rfl .nil) rfl rF rF (sD sR) ?_)))
 exact ⟨rfl, rfl, hv1, by rw [hn1]; exact hnn⟩

/- spec.l1Copy -/
theorem l1Copy_spec {F : FH} {L : List HP} {tv : Value} {t : List Int} (ht : IntsF F tv t) (hlt : t.length ≤ 4000000) :
    Does prog 105 [tv] F (L) (fun v F' L' => F = F' ∧ IsSl v ∧ intsH 2 v t :: L = L') := by
 refine qG func105 rfl rfl rfl (qd (qb (qh (sN) rfl (qc (qd (qb (cX (qs (s := 1) [] [ii (0)] [] qf qq qL rfl (by decide) rfl CellsAre.nil rfl ?_))))))))
 intro v1 hv1
 refine qg (tv) rfl ?_
 show XL _ _ _ _ _ _ _ (intsH 2 v1 ([] : List Int) :: L)
 refine cX (yd [] _ qf typeInfo2 rfl rfl rfl rfl rfl rfl ht (by (try simp only [List.length_append, List.length_nil, List.length_cons, List.length_singleton, List.length_take, List.length_drop]); omega) ?_)
 intro v2 hs1 hn1 hm1
 refine qh (v2) rfl (qc (qw (qr (L' := intsH 2 v2 (([] : List Int) ++ t) :: L) [v2] (v2) (.tmp rfl .nil) rfl rF rF (sC sR) ?_)))
 refine ⟨rfl, hs1, ?_⟩
 have hxs : (t : List Int) = ([] : List Int) ++ t := by simp
 exact congrArg (fun z => intsH 2 _ z :: L) hxs

/- slices.Clone[[]int64,int64] -/
theorem Clone_spec {F : FH} {L : List HP} {tv : Value} {t : List Int} (ht : IntsF F tv t) (hlt : t.length ≤ 4000000) :
    Does prog 96 [tv] F (L) (fun v F' L' => F = F' ∧ IsSl v ∧ intsH 2 v t :: L = L') := by
 refine qG func96 rfl rfl rfl (qd (qb (qh (sN) rfl (qc (qd (qd (qb (qg (tv) rfl (cX (XOp.eqNil qf rfl rfl (qB ht) (qc ?_)))))))))))
 refine jF (t := isNil tv) rfl (fun h1 => ?_) (fun h1 => ?_)
 ·refine qd (qb (qh (sN) rfl (qc (qw (ql (qr (L' := intsH 2 (sN) ([]) :: L) [sN] (sN) (.tmp rfl .nil) rfl rF rF (jN (intsH.addNil 2 none _) (sC sR)) ?_))))))
  refine ⟨rfl, ⟨_, _, _, rfl⟩, ?_⟩
  have hxs : (t : List Int) = [] := by exact nil_of_isNil ht h1
  exact congrArg (fun z => intsH 2 _ z :: L) hxs
 refine qz (qd (qb (cX (qs (s := 1) [] [ii (0)] [] qf qq qL rfl (by decide) rfl CellsAre.nil rfl ?_))))
 intro v1 hv1
 refine qg (tv) rfl ?_
 show XL _ _ _ _ _ _ _ (intsH 2 v1 ([] : List Int) :: L)
 refine cX (yd [] _ qf typeInfo2 rfl rfl rfl rfl rfl rfl ht (by (try simp only [List.length_append, List.length_nil, List.length_cons, List.length_singleton, List.length_take, List.length_drop]); omega) ?_)
 intro v2 hs1 hn1 hm1
 refine qh (v2) rfl (qc (qw (qr (L' := intsH 2 v2 (([] : List Int) ++ t) :: L) [v2] (v2) (.tmp rfl .nil) rfl rF rF (sC sR) ?_)))
 refine ⟨rfl, hs1, ?_⟩
 have hxs : (t : List Int) = ([] : List Int) ++ t := by simp
 exact congrArg (fun z => intsH 2 _ z :: L) hxs

/- spec.l1Sub -/
theorem l1Sub_spec {F : FH} {L : List HP} {arv : Value} {ar : List Int} (har : IntsF F arv ar) {tv : Value} {t : List Int} (ht : IntsF F tv t) {p : Nat} (ho : termOk ar t = true) (hp : p < t.length) :
    Does prog 150 [.agg #[arv], tv, ii ((p : Int))] F (L) (fun v F' L' => F = F' ∧ IsSl v ∧ intsH 2 v (sub ar t p) :: L = L') := by
 refine qG func150 rfl rfl rfl ?_
 have hsl := sigOk_spec (termOk_sig ho)
 have htl := termOk_len ho
 have hsig := termOk_sig ho
 have hee := endN_spec ho hp
 refine qd (qb (cX (jb [arv] rfl rfl ?_)))
 intro b1
 refine qh (sN) rfl (qc (qd (qb (qg (tv) rfl (qg (ii ((p : Int))) rfl (cX (qu [arv] jf qJ rfl rfl (Rd.ownN [] rfl rfl) (qg (tv) rfl (qg (ii ((p : Int))) rfl (cX (qn (args := [.agg #[arv], tv, ii (p : Int)]) call208 rfl (l1End_ok (p := p) har ht (ho := (by first | assumption | rfl | omega | (left; simp; done) | (right; simp; done))) (hp := (by first | assumption | rfl | omega | (left; simp; done) | (right; simp; done)))) ?_)))))))))))
 rintro _ _ _ _ ⟨rfl, rfl, rfl⟩
 refine cX (jV p (endN ar t p) qf qq rfl ht ⟨_, rfl⟩ ⟨_, rfl⟩ (by omega) (by omega) ?_)
 intro v1 hv1 hn1
 refine cX (qn (args := [v1]) call105 rfl (l1Copy_spec hv1 (hlt := (by rw [List.length_take, List.length_drop]; omega))) ?_)
 rintro v2 _ _ _ ⟨rfl, hs1, rfl⟩
 refine qh (v2) rfl (qc (qw (qr (L' := intsH 2 v2 (((((t.drop p).take ((endN ar t p) - p))))) :: L) [v2] (v2) (.tmp rfl .nil) rfl rF rF (sC (sD sR)) ?_)))
 refine ⟨rfl, hs1, ?_⟩
 have hxs : (sub ar t p : List Int) = ((((t.drop p).take ((endN ar t p) - p)))) := rfl
 exact congrArg (fun z => intsH 2 _ z :: L) hxs

/- impl.RuleOk -/
theorem RuleOk_spec {F : FH} {L : List HP} {arv : Value} {ar : List Int} (har : IntsF F arv ar) {lv : Value} {l : List Int} (hl : IntsF F lv l) {rv : Value} {r : List Int} (hr : IntsF F rv r) :
    Does prog 264 [.agg #[arv], .agg #[lv, rv]] F (L) (fun v F' L' => (.bool (ruleOk ar l r) : Value) = v ∧ F = F' ∧ L = L') := by
 refine qG func264 rfl rfl rfl (qd (qb (cX (jb [arv] rfl rfl ?_))))
 intro b1
 refine cX (jb [lv, rv] rfl rfl ?_)
 intro b2
 refine qh (.bool (false)) rfl (qc (qd (qd (qb (cX (qu [arv] jf qJ rfl rfl (Rd.ownN [_] rfl rfl) (cX (qk (0) jy rfl qA (by decide) rfl rfl (cX (qj qU rfl (Rd.own [] rfl rfl) (cX (qn (args := [.agg #[arv], lv]) call112 rfl (TermOk_spec har hl) ?_))))))))))))
 rintro _ _ _ _ ⟨rfl, rfl, rfl⟩
 refine cX (jt rfl (qg (.bool (!(termOk ar l))) rfl ?_))
 by_cases h1 : (!(termOk ar l)) = true
 ·refine qp (t := 12) rfl (vB h1) (qp (t := 12) rfl (vB h1) (qp (t := 12) rfl (vB h1) (qp (t := 12) rfl (vB h1) (qp (t := 12) rfl (vB h1) (cX (qO (.bool (true)) (vB h1) rfl (qg (.bool (true)) rfl (qp (t := 19) rfl rfl (qp (t := 19) rfl rfl (qp (t := 19) rfl rfl ?_))))))))))
  refine qp (t := 19) rfl rfl (qp (t := 19) rfl rfl (cX (qO (.bool (true)) rfl rfl (qc (jA rfl (qd (qb (qh (.bool (false)) rfl (qc (qw (ql (qr (L' := L) [.bool (false)] (.bool (false)) (.tmp rfl .nil) rfl rF rF (sD (sD sR)) ?_))))))))))))
  exact ⟨(vB (ruleOk_false (fun h => by have := h.left; have := h.right; have := h.head; simp_all <;> omega))), rfl, rfl⟩
 rw [Bool.not_eq_true] at h1
 have hlo : termOk ar l = true := by simpa using h1
 have hl60 := termOk_len hlo
 refine qo (t := 12) rfl (vB h1) (qu [arv] jf qJ rfl rfl (Rd.ownN [_] rfl rfl) (qo (t := 12) rfl (vB h1) (qk (1) jy rfl qA (by decide) rfl rfl (qo (t := 12) rfl (vB h1) (qj qU rfl (Rd.own [] rfl rfl) (qo (t := 12) rfl (vB h1) (qn (args := [.agg #[arv], rv]) call112 rfl (TermOk_spec har hr) ?_)))))))
 rintro _ _ _ _ ⟨rfl, rfl, rfl⟩
 refine qo (t := 12) rfl (vB h1) (jt rfl (cX (qN (.bool (!(termOk ar r))) (vB h1) rfl (qg (.bool (!(termOk ar r))) rfl ?_))))
 by_cases h2 : (!(termOk ar r)) = true
 ·refine qp (t := 19) rfl (vB h2) (qp (t := 19) rfl (vB h2) (qp (t := 19) rfl (vB h2) (qp (t := 19) rfl (vB h2) (qp (t := 19) rfl (vB h2) (cX (qO (.bool (true)) (vB h2) rfl (qc (jA rfl (qd (qb (qh (.bool (false)) rfl ?_)))))))))))
  refine qc (qw (ql (qr (L' := L) [.bool (false)] (.bool (false)) (.tmp rfl .nil) rfl rF rF (sD (sD sR)) ?_)))
  exact ⟨(vB (ruleOk_false (fun h => by have := h.left; have := h.right; have := h.head; simp_all <;> omega))), rfl, rfl⟩
 rw [Bool.not_eq_true] at h2
 have hro : termOk ar r = true := by simpa using h2
 have hr60 := termOk_len hro
 refine qo (t := 19) rfl (vB h2) (qk (0) jy rfl qA (by decide) rfl rfl (qo (t := 19) rfl (vB h2) (qj qU rfl (Rd.own [] rfl rfl) (qo (t := 19) rfl (vB h2) (qt 0 qf qq rfl rfl rfl hl.slv (by omega) (Nat.mul_one _) (qo (t := 19) rfl (vB h2) (qj qP rfl (hl.rd (by omega)) (qo (t := 19) rfl (vB h2) (qQ rfl rfl (cX (qN (.bool (decide ((l.getD 0 0 : Int) < 0))) (vB h2) rfl (qc ?_))))))))))))
 refine qC (p := (l.getD 0 0 : Int) < 0) rfl (fun h3 => ?_) (fun h3 => ?_)
 ·refine qd (qb (qh (.bool (false)) rfl (qc (qw (ql (qr (L' := L) [.bool (false)] (.bool (false)) (.tmp rfl .nil) rfl rF rF (sD (sD sR)) ?_))))))
  exact ⟨(vB (ruleOk_false (fun h => by have := h.left; have := h.right; have := h.head; simp_all <;> omega))), rfl, rfl⟩
 refine qz (qd (qd (qb (cX (qk (1) jy rfl qA (by decide) rfl rfl (cX (qj qU rfl (Rd.own [] rfl rfl) (cX (qE qf rfl hr.slv (qg (ii (0)) rfl (qc (qH (jn (α := Nat) (fun k => [(3, ptr b2 0), (27, rv), (28, ii ((r.length : Int))), (29, ii ((k : Int)))]) (fun k => cellsH b2 [lv, rv] 76 :: cellsH b1 [arv] 36 :: L) (fun k F' => F = F' ∧ (k ≤ r.length) ∧ (∀ i, i < k → r.getD i 0 < 0 → r.getD i 0 ∈ l)) (fun k => r.length - k) 0 ⟨rfl, rfl, rfl, rfl, ⟨⟩⟩ (sC (sC sR)) ⟨rfl, (by omega), (fun i hi => absurd hi (by omega))⟩ ?_)))))))))))))
 rintro k rE _ _ ⟨rfl, hk, hall⟩
 show X _ _ _ _ (envs [(3, ptr b2 0), (27, rv), (28, ii ((r.length : Int))), (29, ii ((k : Int)))] rE) _ (cellsH b2 [lv, rv] 76 :: cellsH b1 [arv] 36 :: L)
 refine qd (qb (cX (qQ rfl rfl (qc (qd ?_)))))
 refine qC (p := (k : Int) < (r.length : Int)) rfl (fun h4 => ?_) (fun h4 => ?_)
 ·refine qz (qd (qH (qd (qb (cX (qt k qf qq rfl rfl rfl hr.slv (by omega) (Nat.mul_one _) (cX (qj qP rfl (hr.rd (by omega)) (qh (ii (r.getD k 0)) rfl (qc (qd (qb (qg (ii (r.getD k 0)) rfl (cX (qQ rfl rfl (qg (.bool (decide ((r.getD k 0 : Int) < 0))) rfl ?_))))))))))))))))
  by_cases h5 : (r.getD k 0 : Int) < 0
  ·refine qo (t := 35) rfl (vT h5) (qk (0) jy rfl qA (by decide) rfl rfl (qo (t := 35) rfl (vT h5) (qj qU rfl (Rd.own [] rfl rfl) (qo (t := 35) rfl (vT h5) (qm (ii (r.getD k 0)) rfl (qo (t := 35) rfl (vT h5) (qn (args := [lv, ii (r.getD k 0)]) call218 rfl (Contains_spec (n := r.getD k 0) hl (hbd := (by first | assumption | rfl | omega | simp))) ?_)))))))
   rintro _ _ _ _ ⟨rfl, rfl, rfl⟩
   refine qo (t := 35) rfl (vT h5) (jY rfl (cX (qO (.bool (decide (¬((r.getD k 0) ∈ l)))) (vT h5) rfl (qc ?_))))
   refine qC (p := ¬((r.getD k 0) ∈ l)) rfl (fun h6 => ?_) (fun h6 => ?_)
   ·refine qd (qb (qh (.bool (false)) rfl (qc (qw (qD (ql (ql (qD (ql (qr (L' := L) [.bool (false)] (.bool (false)) (.tmp rfl .nil) rfl rF rF (sD (sD sR)) ?_))))))))))
    exact ⟨(vB (ruleOk_false (fun h => by have := h.vars (r.getD k 0) (mem_of_getD (k := k) (by omega) rfl); simp_all))), rfl, rfl⟩
   refine qz (qb (cX (qK (((k + 1 : Nat) : Int)) rfl rfl (by omega) (by omega) (qg (ii (((k + 1 : Nat) : Int))) rfl (qc ?_)))))
   exact ⟨k + 1, _, FLe.refl _, rF, ⟨rfl, rfl, rfl, rfl, ⟨⟩⟩, (sC (sC sR)), ⟨rfl, (by omega), (fun i hi h0 => (Nat.lt_or_ge i k).elim (fun h => hall i h h0) (fun h => by obtain rfl : i = k := (by omega); first | assumption | (exfalso; omega) | simp_all))⟩, (by omega)⟩
  refine qp (t := 35) rfl (vF h5) (qp (t := 35) rfl (vF h5) (qp (t := 35) rfl (vF h5) (qp (t := 35) rfl (vF h5) (qp (t := 35) rfl (vF h5) (cX (qN (.bool (false)) (vF h5) rfl (qc (jO rfl (qz (qb (cX (qK (((k + 1 : Nat) : Int)) rfl rfl (by omega) (by omega) ?_))))))))))))
  refine qg (ii (((k + 1 : Nat) : Int))) rfl (qc ?_)
  exact ⟨k + 1, _, FLe.refl _, rF, ⟨rfl, rfl, rfl, rfl, ⟨⟩⟩, (sC (sC sR)), ⟨rfl, (by omega), (fun i hi h0 => (Nat.lt_or_ge i k).elim (fun h => hall i h h0) (fun h => by obtain rfl : i = k := (by omega); first | assumption | (exfalso; omega) | simp_all))⟩, (by omega)⟩
 refine jg (qv (qv (qM (qd (qb (qh (.bool (true)) rfl (qc (qw (qr (L' := L) [.bool (true)] (.bool (true)) (.tmp rfl .nil) rfl rF rF (sD (sD sR)) ?_)))))))))
 exact ⟨(vB (ruleOk_iff.2 ⟨hlo, hro, by omega, fun n hn h0 => by obtain ⟨i, hi, rfl⟩ := List.getElem_of_mem hn; have := hall i (by omega); simp [List.getD, hi] at this; exact this h0⟩)), rfl, rfl⟩

/- spec.RuleOk -/
theorem sRuleOk_spec {F : FH} {L : List HP} {arv : Value} {ar : List Int} (har : IntsF F arv ar) {lv : Value} {l : List Int} (hl : IntsF F lv l) {rv : Value} {r : List Int} (hr : IntsF F rv r) (hla : ar.length ≤ 4000000) (hlb : l.length ≤ 4000000) (hlc : r.length ≤ 4000000) :
    Does prog 179 [.agg #[arv], .agg #[lv, rv]] F (L) (fun v F' L' => (.bool (ruleOk ar l r) : Value) = v ∧ F = F' ∧ L = L') := by
 refine qG func179 rfl rfl rfl (qd (qb (cX (jb [arv] rfl rfl ?_))))
 intro b1
 refine cX (jb [lv, rv] rfl rfl ?_)
 intro b2
 refine qh (.bool (false)) rfl (qc (qd (qd (qb (cX (qu [arv] jf qJ rfl rfl (Rd.ownN [_] rfl rfl) (cX (qk (0) jy rfl qA (by decide) rfl rfl (cX (qj qU rfl (Rd.own [] rfl rfl) (cX (qn (args := [.agg #[arv], lv]) call202 rfl (sTermOk_spec har hl (hla := (by first | assumption | rfl | omega | simp)) (hlt := (by first | assumption | rfl | omega | simp))) ?_))))))))))))
 rintro _ _ _ _ ⟨rfl, rfl, rfl⟩
 refine cX (jt rfl (qg (.bool (!(termOk ar l))) rfl ?_))
 by_cases h1 : (!(termOk ar l)) = true
 ·refine qp (t := 11) rfl (vB h1) (qp (t := 11) rfl (vB h1) (qp (t := 11) rfl (vB h1) (qp (t := 11) rfl (vB h1) (qp (t := 11) rfl (vB h1) (cX (qO (.bool (true)) (vB h1) rfl (qg (.bool (true)) rfl (qp (t := 18) rfl rfl (qp (t := 18) rfl rfl (qp (t := 18) rfl rfl ?_))))))))))
  refine qp (t := 18) rfl rfl (qp (t := 18) rfl rfl (cX (qO (.bool (true)) rfl rfl (qc (jA rfl (qd (qb (qh (.bool (false)) rfl (qc (qw (ql (qr (L' := L) [.bool (false)] (.bool (false)) (.tmp rfl .nil) rfl rF rF (sD (sD sR)) ?_))))))))))))
  exact ⟨(vB (ruleOk_false (fun h => by have := h.left; have := h.right; have := h.head; simp_all <;> omega))), rfl, rfl⟩
 rw [Bool.not_eq_true] at h1
 have hlo : termOk ar l = true := by simpa using h1
 have hl60 := termOk_len hlo
 refine qo (t := 11) rfl (vB h1) (qu [arv] jf qJ rfl rfl (Rd.ownN [_] rfl rfl) (qo (t := 11) rfl (vB h1) (qk (1) jy rfl qA (by decide) rfl rfl (qo (t := 11) rfl (vB h1) (qj qU rfl (Rd.own [] rfl rfl) (qo (t := 11) rfl (vB h1) (qn (args := [.agg #[arv], rv]) call202 rfl (sTermOk_spec har hr (hla := (by first | assumption | rfl | omega | simp)) (hlt := (by first | assumption | rfl | omega | simp))) ?_)))))))
 rintro _ _ _ _ ⟨rfl, rfl, rfl⟩
 refine qo (t := 11) rfl (vB h1) (jt rfl (cX (qN (.bool (!(termOk ar r))) (vB h1) rfl (qg (.bool (!(termOk ar r))) rfl ?_))))
 by_cases h2 : (!(termOk ar r)) = true
 ·refine qp (t := 18) rfl (vB h2) (qp (t := 18) rfl (vB h2) (qp (t := 18) rfl (vB h2) (qp (t := 18) rfl (vB h2) (qp (t := 18) rfl (vB h2) (cX (qO (.bool (true)) (vB h2) rfl (qc (jA rfl (qd (qb (qh (.bool (false)) rfl ?_)))))))))))
  refine qc (qw (ql (qr (L' := L) [.bool (false)] (.bool (false)) (.tmp rfl .nil) rfl rF rF (sD (sD sR)) ?_)))
  exact ⟨(vB (ruleOk_false (fun h => by have := h.left; have := h.right; have := h.head; simp_all <;> omega))), rfl, rfl⟩
 rw [Bool.not_eq_true] at h2
 have hro : termOk ar r = true := by simpa using h2
 have hr60 := termOk_len hro
 refine qo (t := 18) rfl (vB h2) (qk (0) jy rfl qA (by decide) rfl rfl (qo (t := 18) rfl (vB h2) (qj qU rfl (Rd.own [] rfl rfl) (qo (t := 18) rfl (vB h2) (qt 0 qf qq rfl rfl rfl hl.slv (by omega) (Nat.mul_one _) (qo (t := 18) rfl (vB h2) (qj qP rfl (hl.rd (by omega)) (qo (t := 18) rfl (vB h2) (qQ rfl rfl (cX (qN (.bool (decide ((l.getD 0 0 : Int) < 0))) (vB h2) rfl (qc ?_))))))))))))
 refine qC (p := (l.getD 0 0 : Int) < 0) rfl (fun h3 => ?_) (fun h3 => ?_)
 ·refine qd (qb (qh (.bool (false)) rfl (qc (qw (ql (qr (L' := L) [.bool (false)] (.bool (false)) (.tmp rfl .nil) rfl rF rF (sD (sD sR)) ?_))))))
  exact ⟨(vB (ruleOk_false (fun h => by have := h.left; have := h.right; have := h.head; simp_all <;> omega))), rfl, rfl⟩
 refine qz (qd (qd (qb (qh (ii (0)) rfl (qc (qH (jn (α := Nat) (fun k => [(3, ptr b2 0), (5, ii ((k : Int)))]) (fun k => cellsH b2 [lv, rv] 76 :: cellsH b1 [arv] 36 :: L) (fun k F' => F = F' ∧ (k ≤ r.length) ∧ (∀ i, i < k → r.getD i 0 < 0 → r.getD i 0 ∈ l)) (fun k => r.length - k) 0 ⟨rfl, rfl, ⟨⟩⟩ (sC (sC sR)) ⟨rfl, (by omega), (fun i hi => absurd hi (by omega))⟩ ?_)))))))
 rintro k rE _ _ ⟨rfl, hk, hall⟩
 show X _ _ _ _ (envs [(3, ptr b2 0), (5, ii ((k : Int)))] rE) _ (cellsH b2 [lv, rv] 76 :: cellsH b1 [arv] 36 :: L)
 refine qd (qd (qb (qg (ii ((k : Int))) rfl (cX (qk (1) jy rfl qA (by decide) rfl rfl (cX (qj qU rfl (Rd.own [] rfl rfl) (cX (qE qf rfl hr.slv (cX (qQ rfl rfl (qc ?_))))))))))))
 refine qC (p := (k : Int) < (r.length : Int)) rfl (fun h4 => ?_) (fun h4 => ?_)
 ·refine qz (qd (qH (qd ?_)))
  by_cases h5 : (r.getD k 0 : Int) < 0
  ·refine jx [cellsH b2 [lv, rv] 76, cellsH b1 [arv] 36] L 14 [] [[], [0], [], [1, 2], [3], [4], [5], [6], [6, 7], [6], [6, 9], [6], [6, 10, 11], [6, 12]] (phiL [qe (ptr b2 1), qe rv, qe (ii ((k : Int)) : Value), qe (.pointer (some (elemA rv (k)))), qe (ii (r.getD k 0)), qe (.bool (decide ((r.getD k 0 : Int) < 0)) : Value), qe (.bool (decide ((r.getD k 0 : Int) < 0)) : Value), qe (ptr b2 0), qe lv, qe (ptr b2 1), qe rv, qe (ii ((k : Int)) : Value), qe (.pointer (some (elemA rv (k)))), qe (ii (r.getD k 0))]) (ownL []) mixed rfl rfl (by kernel_rfl) ?_ ?_
   ·refine pD (fun W R z9 => ?_) ?_
    ·refine qi (qk (1) jy rfl qA (by decide) rfl rfl ?_)
     exact ⟨rfl, rfl, rfl⟩
    refine pD (fun W R z9 => ?_) ?_
    ·rw [zA 0 (z9 0 rfl)]
     refine qi (qj qU rfl (Rd.own [] rfl rfl) ?_)
     exact ⟨rfl, rfl, rfl⟩
    refine pD (fun W R z9 => ?_) ?_
    ·refine qi (qm (ii ((k : Int))) rfl ?_)
     exact ⟨rfl, rfl, rfl⟩
    refine pD (fun W R z9 => ?_) ?_
    ·rw [zB 1 2 (z9 1 rfl) (z9 2 rfl)]
     refine qi (qt k qf qq rfl rfl rfl hr.slv (by omega) (Nat.mul_one _) ?_)
     exact ⟨rfl, rfl, rfl⟩
    refine pD (fun W R z9 => ?_) ?_
    ·rw [zA 3 (z9 3 rfl)]
     refine qi (qj qP rfl (hr.rd (by omega)) ?_)
     exact ⟨rfl, rfl, rfl⟩
    refine pD (fun W R z9 => ?_) ?_
    ·rw [zA 4 (z9 4 rfl)]
     refine qi (qQ rfl rfl ?_)
     exact ⟨rfl, rfl, rfl⟩
    refine pD (fun W R z9 => ?_) ?_
    ·rw [zA 5 (z9 5 rfl)]
     refine qi (qm (.bool (decide ((r.getD k 0 : Int) < 0))) rfl ?_)
     exact ⟨rfl, rfl, rfl⟩
    refine pD (fun W R z9 => ?_) ?_
    ·rw [zA 6 (z9 6 rfl)]
     refine qZ (t := 38) rfl (vT h5) (qk (0) jy rfl qA (by decide) rfl rfl ?_)
     exact ⟨rfl, rfl, rfl⟩
    refine pD (fun W R z9 => ?_) ?_
    ·rw [zB 6 7 (z9 6 rfl) (z9 7 rfl)]
     refine qZ (t := 38) rfl (vT h5) (qj qU rfl (Rd.own [] rfl rfl) ?_)
     exact ⟨rfl, rfl, rfl⟩
    refine pD (fun W R z9 => ?_) ?_
    ·rw [zA 6 (z9 6 rfl)]
     refine qZ (t := 38) rfl (vT h5) (qk (1) jy rfl qA (by decide) rfl rfl ?_)
     exact ⟨rfl, rfl, rfl⟩
    refine pD (fun W R z9 => ?_) ?_
    ·rw [zB 6 9 (z9 6 rfl) (z9 9 rfl)]
     refine qZ (t := 38) rfl (vT h5) (qj qU rfl (Rd.own [] rfl rfl) ?_)
     exact ⟨rfl, rfl, rfl⟩
    refine pD (fun W R z9 => ?_) ?_
    ·rw [zA 6 (z9 6 rfl)]
     refine qZ (t := 38) rfl (vT h5) (qm (ii ((k : Int))) rfl ?_)
     exact ⟨rfl, rfl, rfl⟩
    refine pD (fun W R z9 => ?_) ?_
    ·rw [eS (l := [(6, _), (10, _), (11, _)]) ⟨z9 6 rfl, z9 10 rfl, z9 11 rfl, ⟨⟩⟩]
     refine qZ (t := 38) rfl (vT h5) (qt k qf qq rfl rfl rfl hr.slv (by omega) (Nat.mul_one _) ?_)
     exact ⟨rfl, rfl, rfl⟩
    refine pD (fun W R z9 => ?_) ?_
    ·rw [zB 6 12 (z9 6 rfl) (z9 12 rfl)]
     refine qZ (t := 38) rfl (vT h5) (qj qP rfl (hr.rd (by omega)) ?_)
     exact ⟨rfl, rfl, rfl⟩
    exact stepsP.nil
   intro W hphi
   rw [eS (l := [(6, _), (8, _), (13, _)]) ⟨(hphi 6 (by decide)), (hphi 8 (by decide)), (hphi 13 (by decide)), ⟨⟩⟩]
   show XL _ _ _ _ _ _ _ (cellsH b2 [lv, rv] 76 :: cellsH b1 [arv] 36 :: L)
   refine qo (t := 38) rfl (vT h5) (qn (args := [lv, ii (r.getD k 0)]) call259 rfl (l1Has_spec (n := r.getD k 0) hl (hbd := (by first | assumption | rfl | omega | simp))) ?_)
   rintro _ _ _ _ ⟨rfl, rfl, rfl⟩
   refine qo (t := 38) rfl (vT h5) (jY rfl (cX (qO (.bool (decide (¬((r.getD k 0) ∈ l)))) (vT h5) rfl (qc ?_))))
   refine qC (p := ¬((r.getD k 0) ∈ l)) rfl (fun h6 => ?_) (fun h6 => ?_)
   ·refine qd (qb (qh (.bool (false)) rfl (qc (qw (qD (ql (ql (qD (ql (qr (L' := L) [.bool (false)] (.bool (false)) (.tmp rfl .nil) rfl rF rF (sD (sD sR)) ?_))))))))))
    exact ⟨(vB (ruleOk_false (fun h => by have := h.vars (r.getD k 0) (mem_of_getD (k := k) (by omega) rfl); simp_all))), rfl, rfl⟩
   refine qz (qb (qg (ii ((k : Int))) rfl (cX (qK (((k + 1 : Nat) : Int)) rfl rfl (by omega) (by omega) (qh (ii (((k + 1 : Nat) : Int))) rfl (qc ?_))))))
   exact ⟨k + 1, _, FLe.refl _, rF, ⟨rfl, rfl, ⟨⟩⟩, (sC (sC sR)), ⟨rfl, (by omega), (fun i hi h0 => (Nat.lt_or_ge i k).elim (fun h => hall i h h0) (fun h => by obtain rfl : i = k := (by omega); first | assumption | (exfalso; omega) | simp_all))⟩, (by omega)⟩
  refine jx [cellsH b2 [lv, rv] 76, cellsH b1 [arv] 36] L 14 [] [[], [0], [], [1, 2], [3], [4], [5], [6], [6, 7], [6], [6, 9], [6], [6, 10, 11], [6, 12]] (phiL [qe (ptr b2 1), qe rv, qe (ii ((k : Int)) : Value), qe (.pointer (some (elemA rv (k)))), qe (ii (r.getD k 0)), qe (.bool (decide ((r.getD k 0 : Int) < 0)) : Value), qe (.bool (decide ((r.getD k 0 : Int) < 0)) : Value), qe undef, qe undef, qe undef, qe undef, qe undef, qe undef, qe undef]) (ownL []) mixed rfl rfl (by kernel_rfl) ?_ ?_
  ·refine pD (fun W R z9 => ?_) ?_
   ·refine qi (qk (1) jy rfl qA (by decide) rfl rfl ?_)
    exact ⟨rfl, rfl, rfl⟩
   refine pD (fun W R z9 => ?_) ?_
   ·rw [zA 0 (z9 0 rfl)]
    refine qi (qj qU rfl (Rd.own [] rfl rfl) ?_)
    exact ⟨rfl, rfl, rfl⟩
   refine pD (fun W R z9 => ?_) ?_
   ·refine qi (qm (ii ((k : Int))) rfl ?_)
    exact ⟨rfl, rfl, rfl⟩
   refine pD (fun W R z9 => ?_) ?_
   ·rw [zB 1 2 (z9 1 rfl) (z9 2 rfl)]
    refine qi (qt k qf qq rfl rfl rfl hr.slv (by omega) (Nat.mul_one _) ?_)
    exact ⟨rfl, rfl, rfl⟩
   refine pD (fun W R z9 => ?_) ?_
   ·rw [zA 3 (z9 3 rfl)]
    refine qi (qj qP rfl (hr.rd (by omega)) ?_)
    exact ⟨rfl, rfl, rfl⟩
   refine pD (fun W R z9 => ?_) ?_
   ·rw [zA 4 (z9 4 rfl)]
    refine qi (qQ rfl rfl ?_)
    exact ⟨rfl, rfl, rfl⟩
   refine pD (fun W R z9 => ?_) ?_
   ·rw [zA 5 (z9 5 rfl)]
    refine qi (qm (.bool (decide ((r.getD k 0 : Int) < 0))) rfl ?_)
    exact ⟨rfl, rfl, rfl⟩
   refine pD (fun W R z9 => ?_) ?_
   ·rw [zA 6 (z9 6 rfl)]
    exact jh (t := 38) rfl (vF h5) ⟨rfl, rfl, rfl⟩
   refine pD (fun W R z9 => ?_) ?_
   ·rw [eS (l := [(6, _), (7, undef)]) ⟨z9 6 rfl, z9 7 rfl, ⟨⟩⟩]
    exact jh (t := 38) rfl (vF h5) ⟨rfl, rfl, rfl⟩
   refine pD (fun W R z9 => ?_) ?_
   ·rw [zA 6 (z9 6 rfl)]
    exact jh (t := 38) rfl (vF h5) ⟨rfl, rfl, rfl⟩
   refine pD (fun W R z9 => ?_) ?_
   ·rw [eS (l := [(6, _), (9, undef)]) ⟨z9 6 rfl, z9 9 rfl, ⟨⟩⟩]
    exact jh (t := 38) rfl (vF h5) ⟨rfl, rfl, rfl⟩
   refine pD (fun W R z9 => ?_) ?_
   ·rw [zA 6 (z9 6 rfl)]
    exact jh (t := 38) rfl (vF h5) ⟨rfl, rfl, rfl⟩
   refine pD (fun W R z9 => ?_) ?_
   ·rw [eS (l := [(6, _), (10, undef), (11, undef)]) ⟨z9 6 rfl, z9 10 rfl, z9 11 rfl, ⟨⟩⟩]
    exact jh (t := 38) rfl (vF h5) ⟨rfl, rfl, rfl⟩
   refine pD (fun W R z9 => ?_) ?_
   ·rw [eS (l := [(6, _), (12, undef)]) ⟨z9 6 rfl, z9 12 rfl, ⟨⟩⟩]
    exact jh (t := 38) rfl (vF h5) ⟨rfl, rfl, rfl⟩
   exact stepsP.nil
  intro W hphi
  rw [eS (l := [(6, _), (8, undef), (13, undef)]) ⟨(hphi 6 (by decide)), (hphi 8 (by decide)), (hphi 13 (by decide)), ⟨⟩⟩]
  show XL _ _ _ _ _ _ _ (cellsH b2 [lv, rv] 76 :: cellsH b1 [arv] 36 :: L)
  refine qp (t := 38) rfl (vF h5) (qp (t := 38) rfl (vF h5) (cX (qN (.bool (false)) (vF h5) rfl (qc (jO rfl (qz (qb (qg (ii ((k : Int))) rfl (cX (qK (((k + 1 : Nat) : Int)) rfl rfl (by omega) (by omega) (qh (ii (((k + 1 : Nat) : Int))) rfl (qc ?_))))))))))))
  exact ⟨k + 1, _, FLe.refl _, rF, ⟨rfl, rfl, ⟨⟩⟩, (sC (sC sR)), ⟨rfl, (by omega), (fun i hi h0 => (Nat.lt_or_ge i k).elim (fun h => hall i h h0) (fun h => by obtain rfl : i = k := (by omega); first | assumption | (exfalso; omega) | simp_all))⟩, (by omega)⟩
 refine jg (qv (qv (qM (qd (qb (qh (.bool (true)) rfl (qc (qw (qr (L' := L) [.bool (true)] (.bool (true)) (.tmp rfl .nil) rfl rF rF (sD (sD sR)) ?_)))))))))
 exact ⟨(vB (ruleOk_iff.2 ⟨hlo, hro, by omega, fun n hn h0 => by obtain ⟨i, hi, rfl⟩ := List.getElem_of_mem hn; have := hall i (by omega); simp [List.getD, hi] at this; exact this h0⟩)), rfl, rfl⟩

/- spec.SystemOk -/
theorem sSystemOk_spec {F : FH} {L : List HP} {arv : Value} {ar : List Int} (har : IntsF F arv ar) {rsv : Value} {rs : List (List Int × List Int)} (hrs : PairsF F rsv rs) (hla : ar.length ≤ 4000000) (hlr : rs.length ≤ 4000000) (hrb : ∀ i, i < rs.length → (rs.getD i ([], [])).1.length ≤ 4000000 ∧ (rs.getD i ([], [])).2.length ≤ 4000000) :
    Does prog 82 [.agg #[arv, rsv]] F (L) (fun v F' L' => (.bool (sysOk ar rs) : Value) = v ∧ F = F' ∧ L = L') := by
 refine qG func82 rfl rfl rfl (qd (qb (cX (jb [arv, rsv] rfl rfl ?_))))
 intro b1
 refine qh (.bool (false)) rfl (qc (qd (qd (qb (cX (qk (0) js rfl qJ (by decide) rfl rfl (cX (qu [arv] jf qJ rfl rfl (Rd.ownN [] rfl rfl) (cX (qn (args := [.agg #[arv]]) call120 rfl (sSigOk_spec har (hla := (by first | assumption | rfl | omega | simp))) ?_))))))))))
 rintro _ _ _ _ ⟨rfl, rfl, rfl⟩
 refine cX (jt rfl (qg (.bool (!(sigOk ar))) rfl ?_))
 by_cases h1 : (!(sigOk ar)) = true
 ·refine qp (t := 8) rfl (vB h1) (qp (t := 8) rfl (vB h1) (qp (t := 8) rfl (vB h1) (qp (t := 8) rfl (vB h1) (cX (qO (.bool (true)) (vB h1) rfl (qc (jA rfl (qd (qb (qh (.bool (false)) rfl (qc ?_)))))))))))
  refine qw (ql (qr (L' := L) [.bool (false)] (.bool (false)) (.tmp rfl .nil) rfl rF rF (sD sR) ?_))
  exact ⟨(vB (sysOk_false (fun h => by have := h.1; have := h.2.1; simp_all <;> omega))), rfl, rfl⟩
 rw [Bool.not_eq_true] at h1
 refine qo (t := 8) rfl (vB h1) (qk (1) js rfl sizeOf37 (by decide) rfl rfl (qo (t := 8) rfl (vB h1) (qj isAgg37 rfl (Rd.own [] rfl rfl) (qo (t := 8) rfl (vB h1) (qE jZ rfl hrs.slv (qo (t := 8) rfl (vB h1) (jG rfl rfl (cX (qN (.bool (decide (((rs.length : Int) : Int) > 12))) (vB h1) rfl (qc ?_))))))))))
 refine qC (p := ((rs.length : Int) : Int) > 12) rfl (fun h2 => ?_) (fun h2 => ?_)
 ·refine qd (qb (qh (.bool (false)) rfl (qc (qw (ql (qr (L' := L) [.bool (false)] (.bool (false)) (.tmp rfl .nil) rfl rF rF (sD sR) ?_))))))
  exact ⟨(vB (sysOk_false (fun h => by have := h.1; have := h.2.1; simp_all <;> omega))), rfl, rfl⟩
 refine qz (qd (qd (qb (qh (ii (0)) rfl (qc (qH (jn (α := Nat) (fun k => [(1, ptr b1 0), (3, ii ((k : Int)))]) (fun k => cellsH b1 [arv, rsv] 39 :: L) (fun k F' => F = F' ∧ (k ≤ rs.length) ∧ (∀ i, i < k → ruleOk ar (rs.getD i ([], [])).1 (rs.getD i ([], [])).2 = true)) (fun k => rs.length - k) 0 ⟨rfl, rfl, ⟨⟩⟩ (sC sR) ⟨rfl, (by omega), (fun i hi => absurd hi (by omega))⟩ ?_)))))))
 rintro k rE _ _ ⟨rfl, hk, hall⟩
 show X _ _ _ _ (envs [(1, ptr b1 0), (3, ii ((k : Int)))] rE) _ (cellsH b1 [arv, rsv] 39 :: L)
 refine qd (qd (qb (qg (ii ((k : Int))) rfl (cX (qk (1) js rfl sizeOf37 (by decide) rfl rfl (cX (qj isAgg37 rfl (Rd.own [] rfl rfl) (cX (qE jZ rfl hrs.slv (cX (qQ rfl rfl (qc ?_))))))))))))
 refine qC (p := (k : Int) < (rs.length : Int)) rfl (fun h3 => ?_) (fun h3 => ?_)
 ·refine qz (qd (qH (qd ?_)))
  obtain ⟨a1, a2, ha1, ha2, hr1, hr2⟩ := hrs.rd (i := k) (by omega)
  refine jx [cellsH b1 [arv, rsv] 39] L 7 [] [[], [0], [], [2], [], [3, 4], [5]] (phiL [qe (ptr b1 0), qe (.agg #[arv]), qe (ptr b1 1), qe rsv, qe (ii ((k : Int)) : Value), qe (.pointer (some (elemA rsv (k * 2)))), qe (.agg #[a1, a2])]) (ownL []) mixed rfl rfl (by kernel_rfl) ?_ ?_
  ·refine pD (fun W R z9 => ?_) ?_
   ·refine qi (qk (0) js rfl qJ (by decide) rfl rfl ?_)
    exact ⟨rfl, rfl, rfl⟩
   refine pD (fun W R z9 => ?_) ?_
   ·rw [zA 0 (z9 0 rfl)]
    refine qi (qu [arv] jf qJ rfl rfl (Rd.ownN [] rfl rfl) ?_)
    exact ⟨rfl, rfl, rfl⟩
   refine pD (fun W R z9 => ?_) ?_
   ·refine qi (qk (1) js rfl sizeOf37 (by decide) rfl rfl ?_)
    exact ⟨rfl, rfl, rfl⟩
   refine pD (fun W R z9 => ?_) ?_
   ·rw [zA 2 (z9 2 rfl)]
    refine qi (qj isAgg37 rfl (Rd.own [] rfl rfl) ?_)
    exact ⟨rfl, rfl, rfl⟩
   refine pD (fun W R z9 => ?_) ?_
   ·refine qi (qm (ii ((k : Int))) rfl ?_)
    exact ⟨rfl, rfl, rfl⟩
   refine pD (fun W R z9 => ?_) ?_
   ·rw [zB 3 4 (z9 3 rfl) (z9 4 rfl)]
    refine qi (qt k jZ sizeOf76 rfl rfl rfl hrs.slv (by omega) rfl ?_)
    exact ⟨rfl, rfl, rfl⟩
   refine pD (fun W R z9 => ?_) ?_
   ·rw [zA 5 (z9 5 rfl)]
    refine qi (qu [a1, a2] isAgg76 sizeOf76 rfl rfl (Rd.two (hr1 _) (hr2 _)) ?_)
    exact ⟨rfl, rfl, rfl⟩
   exact stepsP.nil
  intro W hphi
  rw [zB 1 6 (hphi 1 (by decide)) (hphi 6 (by decide))]
  show XL _ _ _ _ _ _ _ (cellsH b1 [arv, rsv] 39 :: L)
  refine cX (qn (args := [.agg #[arv], .agg #[a1, a2]]) call179 rfl (sRuleOk_spec har ha1 ha2 (hla := (by first | assumption | rfl | omega | simp)) (hlb := ((hrb k (by omega)).1)) (hlc := ((hrb k (by omega)).2))) ?_)
  rintro _ _ _ _ ⟨rfl, rfl, rfl⟩
  refine cX (jt rfl (qc ?_))
  refine jF (t := !(ruleOk ar ((rs.getD k ([], [])).1) ((rs.getD k ([], [])).2))) rfl (fun h4 => ?_) (fun h4 => ?_)
  ·refine qd (qb (qh (.bool (false)) rfl (qc (qw (qD (ql (ql (qD (ql (qr (L' := L) [.bool (false)] (.bool (false)) (.tmp rfl .nil) rfl rF rF (sD sR) ?_))))))))))
   exact ⟨(vB (sysOk_false (fun h => by have := h.2.2 k (by omega); simp_all))), rfl, rfl⟩
  refine qz (qb (qg (ii ((k : Int))) rfl (cX (qK (((k + 1 : Nat) : Int)) rfl rfl (by omega) (by omega) (qh (ii (((k + 1 : Nat) : Int))) rfl (qc ?_))))))
  exact ⟨k + 1, _, FLe.refl _, rF, ⟨rfl, rfl, ⟨⟩⟩, (sC sR), ⟨rfl, (by omega), (fun i hi => (Nat.lt_or_ge i k).elim (fun h => hall i h) (fun h => by obtain rfl : i = k := (by omega); first | assumption | simp_all))⟩, (by omega)⟩
 refine jg (qv (qv (qM (qd (qb (qh (.bool (true)) rfl (qc (qw (qr (L' := L) [.bool (true)] (.bool (true)) (.tmp rfl .nil) rfl rF rF (sD sR) ?_)))))))))
 exact ⟨(vB (sysOk_iff.2 ⟨by first | assumption | simp_all, by omega, fun i hi => hall i (by omega)⟩)), rfl, rfl⟩

/- impl.matchInto -/
theorem matchInto_spec {F : FH} {L : List HP} {arv : Value} {ar : List Int} (har : IntsF F arv ar) {pv : Value} {p : List Int} (hp : IntsF F pv p) {tv : Value} {t : List Int} (ht : IntsF F tv t) {bs : List Value} {b : RowL} (hb : BindC F bs b) (hbl : b.length = 24) (ho : termOk ar t = true) (hpl : p.length ≤ 4000000) (hpg : ∀ k, k < p.length → -24 ≤ p.getD k 0) :
    Does prog 214 [.agg #[arv], pv, tv, .agg (bs).toArray] F (L) (fun v F' L' => F = F' ∧ ∃ (bs : List Value), ∃ (bl : RowL), (.tuple #[.agg (bs).toArray, .bool ((mGo ar t p 0 b).isSome)] : Value) = v ∧ (BindC F' bs bl) ∧ (bl.length = 24) ∧ (∀ r, mGo ar t p 0 b = some r → bl = r) ∧ L = L') := by
 refine qG func214 rfl rfl rfl ?_
 have hsl := sigOk_spec (termOk_sig ho)
 have htl := termOk_len ho
 have hnn := notNil_of_pos ht (by omega)
 refine qd (qb (cX (jb [arv] rfl rfl ?_)))
 intro b1
 refine cX (jb bs rfl rfl ?_)
 intro b2
 refine cX (jr (List.replicate 24 (sN)) zeroValue259 rfl ?_)
 intro b3
 have hc1 : BindC F _ _ := BindC.nils 24
 refine qh (.bool (false)) rfl (qc (qd (qb (qh (ii (0)) rfl (qc (qd (qd (qb (qg (pv) rfl (cX (qE qf rfl hp.slv (qg (ii (0)) rfl (qc (qH (jn (α := Nat × Nat × List Value × RowL) (fun xQ => [(2, tv), (4, ptr b1 0), (7, ptr b2 0), (8, ptr b3 0), (10, ii (((xQ.2.1 : Nat) : Int))), (14, pv), (15, ii ((p.length : Int))), (16, ii (((xQ.1 : Nat) : Int)))]) (fun xQ => cellsH b3 (List.replicate 24 (sN)) 259 :: cellsH b2 xQ.2.2.1 259 :: cellsH b1 [arv] 36 :: L) (fun xQ F' => F = F' ∧ (BindC F xQ.2.2.1 xQ.2.2.2) ∧ (xQ.2.2.2.length = 24) ∧ (xQ.1 ≤ p.length) ∧ (xQ.2.1 ≤ t.length) ∧ (mGo ar t p 0 b = mGo ar t (p.drop xQ.1) xQ.2.1 xQ.2.2.2)) (fun xQ => p.length - xQ.1) (0, 0, bs, b) ⟨rfl, rfl, rfl, rfl, rfl, rfl, rfl, rfl, ⟨⟩⟩ (sC (sC (sC sR))) ⟨rfl, (hb), (hbl), (by (try dsimp only) <;> omega), (by (try dsimp only) <;> omega), (rfl)⟩ ?_)))))))))))))))
 rintro ⟨k, i, bs, bl⟩ rE _ _ ⟨rfl, hbc, hbl2, hk, hi, hm⟩
 show X _ _ _ _ (envs [(2, tv), (4, ptr b1 0), (7, ptr b2 0), (8, ptr b3 0), (10, ii ((i : Int))), (14, pv), (15, ii ((p.length : Int))), (16, ii ((k : Int)))] rE) _ (cellsH b3 (List.replicate 24 (sN)) 259 :: cellsH b2 bs 259 :: cellsH b1 [arv] 36 :: L)
 dsimp only at hbc hbl2 hk hi hm
 have hpk := hpg k
 have hsl2 := fun h => sub_length (p := i) ho h
 have hee := fun h => endN_spec (p := i) ho h
 refine qd (qb (cX (qQ rfl rfl (qc (qd ?_)))))
 refine qC (p := (k : Int) < (p.length : Int)) rfl (fun h1 => ?_) (fun h1 => ?_)
 ·refine qz (qd (qH (qd (qb (cX (qt k qf qq rfl rfl rfl hp.slv (by omega) (Nat.mul_one _) (cX (qj qP rfl (hp.rd (by omega)) (qh (ii (p.getD k 0)) rfl (qc (qd (qd (qb (qg (ii ((i : Int))) rfl (qg (tv) rfl (cX (qE qf rfl ht.slv (cX (jP rfl rfl (qc ?_))))))))))))))))))))
  refine qC (p := (i : Int) ≥ (t.length : Int)) rfl (fun h2 => ?_) (fun h2 => ?_)
  ·refine qd (qb (cX (qu bs isAgg259 sizeOf259 (by have := CO.len hbc; (try simp only [List.length_set, List.length_replicate] at this ⊢) <;> omega) rfl (Rd.ownN [_] rfl take_all) (cX (qV [] _ bs sizeOf259 rfl rfl (by have := CO.len hbc; (try simp only [List.length_set, List.length_replicate] at this ⊢) <;> omega) hbc.ones rfl (Nat.ble_eq_true_of_le (Nat.le_of_eq (by have := CO.len hc1; (try simp only [List.length_set, List.length_replicate] at this ⊢) <;> omega))) (arr_over (by have := CO.len hc1; (try simp only [List.length_set, List.length_replicate] at this ⊢) <;> omega)) (qh (.bool (false)) rfl (qc (qw (ql (qD (ql (ql (qD (ql (qr (L' := L) [.agg (bs).toArray, .bool (false)] (.tuple #[.agg (bs).toArray, .bool (false)]) (.cell rfl (jH bs isAgg259 sizeOf259 (by have := CO.len hbc; (try simp only [List.length_set, List.length_replicate] at this ⊢) <;> omega) (Rd.ownN [] rfl take_all)) (.tmp rfl .nil)) rfl rF rF (sD (sD (sD sR))) ?_)))))))))))))))
   have hz : mGo ar t p 0 b = none := hm.trans (mGo_short (by omega) (by omega))
   refine ⟨rfl, _, _, by rw [hz]; rfl, hbc, by (try simp only [List.length_set]) <;> omega, fun r hr => ?_, rfl⟩
   rw [hz] at hr; cases hr
  refine qz (qd (qd (qb (qg (ii (p.getD k 0)) rfl (cX (jP rfl rfl (qc ?_)))))))
  refine qC (p := (p.getD k 0 : Int) ≥ 0) rfl (fun h3 => ?_) (fun h3 => ?_)
  ·refine qd (qd (qb (qg (tv) rfl (qg (ii ((i : Int))) rfl (cX (qt i qf qq rfl rfl rfl ht.slv (by omega) (Nat.mul_one _) (cX (qj qP rfl (ht.rd (by omega)) (qg (ii (p.getD k 0)) rfl (cX (XOp.neq rfl rfl (qc ?_))))))))))))
   refine qC (p := (t.getD i 0 : Int) ≠ p.getD k 0) rfl (fun h4 => ?_) (fun h4 => ?_)
   ·refine qd (qb (cX (qu bs isAgg259 sizeOf259 (by have := CO.len hbc; (try simp only [List.length_set, List.length_replicate] at this ⊢) <;> omega) rfl (Rd.ownN [_] rfl take_all) (cX (qV [] _ bs sizeOf259 rfl rfl (by have := CO.len hbc; (try simp only [List.length_set, List.length_replicate] at this ⊢) <;> omega) hbc.ones rfl (Nat.ble_eq_true_of_le (Nat.le_of_eq (by have := CO.len hc1; (try simp only [List.length_set, List.length_replicate] at this ⊢) <;> omega))) (arr_over (by have := CO.len hc1; (try simp only [List.length_set, List.length_replicate] at this ⊢) <;> omega)) (qh (.bool (false)) rfl (qc (qw (ql (ql (qD (ql (ql (qD (ql (qr (L' := L) [.agg (bs).toArray, .bool (false)] (.tuple #[.agg (bs).toArray, .bool (false)]) (.cell rfl (jH bs isAgg259 sizeOf259 (by have := CO.len hbc; (try simp only [List.length_set, List.length_replicate] at this ⊢) <;> omega) (Rd.ownN [] rfl take_all)) (.tmp rfl .nil)) rfl rF rF (sD (sD (sD sR))) ?_))))))))))))))))
    have hz : mGo ar t p 0 b = none := hm.trans (mGo_ne (by omega) (by omega) (by omega) (by assumption))
    refine ⟨rfl, _, _, by rw [hz]; rfl, hbc, by (try simp only [List.length_set]) <;> omega, fun r hr => ?_, rfl⟩
    rw [hz] at hr; cases hr
   refine qz (qd (qb (qg (ii ((i : Int))) rfl (cX (qK (((i + 1 : Nat) : Int)) rfl rfl (by omega) (by omega) (qh (ii (((i + 1 : Nat) : Int))) rfl (qc (jg (qv (qM (qb (cX (qK (((k + 1 : Nat) : Int)) rfl rfl (by omega) (by omega) (qg (ii (((k + 1 : Nat) : Int))) rfl (qc ?_)))))))))))))))
   exact ⟨(k + 1, i + 1, bs, bl), _, FLe.refl _, rF, ⟨rfl, rfl, rfl, rfl, rfl, rfl, rfl, rfl, ⟨⟩⟩, (sC (sC (sC sR))), ⟨rfl, (hbc), (by (try simp only [List.length_set]) <;> omega), (by (try dsimp only) <;> omega), (by (try dsimp only) <;> omega), (hm.trans (mGo_sym (by omega) (by omega) (by omega) (by omega)))⟩, (by omega)⟩
  refine qz (qd (qb (cX (qu [arv] jf qJ rfl rfl (Rd.ownN [_, _] rfl rfl) (qg (tv) rfl (qg (ii ((i : Int))) rfl (cX (qn (args := [.agg #[arv], tv, ii (i : Int)]) call142 rfl (subAt_spec (p := i) har ht (ho := (by first | assumption | rfl | omega | simp)) (hp := (by first | assumption | rfl | omega | simp)) (hnn := (by first | assumption | rfl | omega | simp))) ?_))))))))
  rintro v1 _ _ _ ⟨rfl, rfl, hv1, hn1⟩
  refine qh (v1) rfl (qc (qd (qd (qb (qg (ii (p.getD k 0)) rfl (cX (je ((-1) - (p.getD k 0)) rfl rfl (by omega) (by omega) (cX (ye (i := (-1) - (p.getD k 0)) (((-1) - (p.getD k 0)).toNat) (((-1) - (p.getD k 0)).toNat) runUnderlying259 qA rfl rfl (by omega) (by omega) (by omega) ?_)))))))))
  obtain ⟨a1, ha1, hn2, he1⟩ := hbc.get (i := ((-1) - (p.getD k 0)).toNat) (by omega)
  refine cX (qj qU rfl (Rd.own [_] rfl he1) (cX (XOp.eqNil qf rfl rfl (qB ha1) (qc ?_))))
  refine jF (t := isNil a1) rfl (fun h5 => ?_) (fun h5 => ?_)
  ·refine qb (qg (ii (p.getD k 0)) rfl (cX (je ((-1) - (p.getD k 0)) rfl rfl (by omega) (by omega) (qg (v1) rfl (cX (ye (i := (-1) - (p.getD k 0)) (((-1) - (p.getD k 0)).toNat) (((-1) - (p.getD k 0)).toNat) runUnderlying259 qA rfl rfl (by omega) (by omega) (by omega) (cX (jw [_] _ (bs.set (((-1) - (p.getD k 0)).toNat) v1) qA rfl rfl (qI (qB hv1)) rfl (blt_of (by have := CO.len hbc; (try simp only [List.length_set, List.length_replicate] at this ⊢) <;> omega)) rfl ?_))))))))
   have hc2 := hbc.set (((-1) - (p.getD k 0)).toNat) hv1 (by simp [*, sub_ne ho (show i < t.length by omega)])
   refine qc (qb (qg (ii ((i : Int))) rfl (qg (v1) rfl (cX (qE qf rfl hv1.slv (cX (qK (((i + (((sub ar t i)).length) : Nat) : Int)) rfl rfl (by omega) (by omega) (qh (ii (((i + (((sub ar t i)).length) : Nat) : Int))) rfl (qc (qb (cX (qK (((k + 1 : Nat) : Int)) rfl rfl (by omega) (by omega) (qg (ii (((k + 1 : Nat) : Int))) rfl (qc ?_))))))))))))))
   exact ⟨(k + 1, i + (((sub ar t i)).length), (bs.set (((-1) - (p.getD k 0)).toNat) v1), (bl.set (((-1) - (p.getD k 0)).toNat) ((sub ar t i)))), _, FLe.refl _, rF, ⟨rfl, rfl, rfl, rfl, rfl, rfl, rfl, rfl, ⟨⟩⟩, (sC (sC (sC sR))), ⟨rfl, (hc2), (by (try simp only [List.length_set]) <;> omega), (by (try dsimp only) <;> omega), (by (try dsimp only) <;> omega), (hm.trans (mGo_new (by omega) (by omega) (by omega) (of_decide_eq_true (hn2.symm.trans (by assumption)))))⟩, (by omega)⟩
  refine qd (qb (qg (ii (p.getD k 0)) rfl (cX (je ((-1) - (p.getD k 0)) rfl rfl (by omega) (by omega) (cX (ye (i := (-1) - (p.getD k 0)) (((-1) - (p.getD k 0)).toNat) (((-1) - (p.getD k 0)).toNat) runUnderlying259 qA rfl rfl (by omega) (by omega) (by omega) (cX (qj qU rfl (Rd.own [_] rfl he1) (qg (v1) rfl (cX (qn (args := [a1, v1]) call236 rfl (Equal_spec ha1 hv1 (hbd := (by first | assumption | rfl | omega | (left; simp; done) | (right; simp; done)))) ?_)))))))))))
  rintro _ _ _ _ ⟨rfl, rfl, rfl⟩
  refine cX (jY rfl (qc ?_))
  refine qC (p := ¬(((bl.getD (((-1) - (p.getD k 0)).toNat) [])) = ((sub ar t i)))) rfl (fun h6 => ?_) (fun h6 => ?_)
  ·refine qd (qb (cX (qu bs isAgg259 sizeOf259 (by have := CO.len hbc; (try simp only [List.length_set, List.length_replicate] at this ⊢) <;> omega) rfl (Rd.ownN [_] rfl take_all) (cX (qV [] _ bs sizeOf259 rfl rfl (by have := CO.len hbc; (try simp only [List.length_set, List.length_replicate] at this ⊢) <;> omega) hbc.ones rfl (Nat.ble_eq_true_of_le (Nat.le_of_eq (by have := CO.len hc1; (try simp only [List.length_set, List.length_replicate] at this ⊢) <;> omega))) (arr_over (by have := CO.len hc1; (try simp only [List.length_set, List.length_replicate] at this ⊢) <;> omega)) (qh (.bool (false)) rfl (qc (qw (ql (qD (ql (ql (qD (ql (qr (L' := L) [.agg (bs).toArray, .bool (false)] (.tuple #[.agg (bs).toArray, .bool (false)]) (.cell rfl (jH bs isAgg259 sizeOf259 (by have := CO.len hbc; (try simp only [List.length_set, List.length_replicate] at this ⊢) <;> omega) (Rd.ownN [] rfl take_all)) (.tmp rfl .nil)) rfl rF rF (sD (sD (sD sR))) ?_)))))))))))))))
   have hz : mGo ar t p 0 b = none := hm.trans (mGo_clash (by omega) (by omega) (by omega) (of_decide_eq_false (hn2.symm.trans (by assumption))) (by assumption))
   refine ⟨rfl, _, _, by rw [hz]; rfl, hbc, by (try simp only [List.length_set]) <;> omega, fun r hr => ?_, rfl⟩
   rw [hz] at hr; cases hr
  refine qz (qb (qg (ii ((i : Int))) rfl (qg (v1) rfl (cX (qE qf rfl hv1.slv (cX (qK (((i + (((sub ar t i)).length) : Nat) : Int)) rfl rfl (by omega) (by omega) (qh (ii (((i + (((sub ar t i)).length) : Nat) : Int))) rfl (qc (qb (cX (qK (((k + 1 : Nat) : Int)) rfl rfl (by omega) (by omega) (qg (ii (((k + 1 : Nat) : Int))) rfl (qc ?_))))))))))))))
  exact ⟨(k + 1, i + (((sub ar t i)).length), bs, bl), _, FLe.refl _, rF, ⟨rfl, rfl, rfl, rfl, rfl, rfl, rfl, rfl, ⟨⟩⟩, (sC (sC (sC sR))), ⟨rfl, (hbc), (by (try simp only [List.length_set]) <;> omega), (by (try dsimp only) <;> omega), (by (try dsimp only) <;> omega), (hm.trans (mGo_same (by omega) (by omega) (by omega) (of_decide_eq_false (hn2.symm.trans (by assumption))) (by first | assumption | exact Classical.not_not.1 (by assumption))))⟩, (by omega)⟩
 refine jg (qv (qv (qM (qd (qb (cX (qu bs isAgg259 sizeOf259 (by have := CO.len hbc; (try simp only [List.length_set, List.length_replicate] at this ⊢) <;> omega) rfl (Rd.ownN [_] rfl take_all) (cX (qV [] _ bs sizeOf259 rfl rfl (by have := CO.len hbc; (try simp only [List.length_set, List.length_replicate] at this ⊢) <;> omega) hbc.ones rfl (Nat.ble_eq_true_of_le (Nat.le_of_eq (by have := CO.len hc1; (try simp only [List.length_set, List.length_replicate] at this ⊢) <;> omega))) (arr_over (by have := CO.len hc1; (try simp only [List.length_set, List.length_replicate] at this ⊢) <;> omega)) (qh (.bool (true)) rfl (qc (qw (qr (L' := L) [.agg (bs).toArray, .bool (true)] (.tuple #[.agg (bs).toArray, .bool (true)]) (.cell rfl (jH bs isAgg259 sizeOf259 (by have := CO.len hbc; (try simp only [List.length_set, List.length_replicate] at this ⊢) <;> omega) (Rd.ownN [] rfl take_all)) (.tmp rfl .nil)) rfl rF rF (sD (sD (sD sR))) ?_)))))))))))))
 have hz : mGo ar t p 0 b = some bl := hm.trans (mGo_done (by omega))
 refine ⟨rfl, _, _, by rw [hz]; rfl, hbc, by (try simp only [List.length_set]) <;> omega, fun r hr => ?_, rfl⟩
 rw [hz] at hr; exact Option.some.inj hr

/- impl.variable -/
theorem variable_spec {F : FH} {L : List HP} {i : Nat} (hi : i ≤ 1000) :
    Does prog 194 [ii ((i : Int))] F (L) (fun v F' L' => F = F' ∧ IsSl v ∧ intsH 2 v ([-1 - (i : Int)]) :: L = L') := by
 refine qG func194 rfl rfl rfl (qd (qb (qh (sN) rfl (qc (qd (qb (qg (ii ((i : Int))) rfl (cX (je ((-1) - ((i : Int))) rfl rfl (by omega) (by omega) (cX (qs (s := 1) [ii ((-1) - ((i : Int)))] [ii (0)] [(0, [ii ((-1) - ((i : Int)))])] qf qq qL rfl (by decide) rfl (.cons rfl CellsAre.nil) rfl ?_)))))))))))
 intro v1 hv1
 refine qh (v1) rfl (qc (qw (qr (L' := intsH 2 v1 ([(-1) - ((i : Int))]) :: L) [v1] (v1) (.tmp rfl .nil) rfl rF rF (sC sR) ?_)))
 refine ⟨rfl, (jo hv1), ?_⟩
 have hxs : ([-1 - (i : Int)] : List Int) = [(-1) - ((i : Int))] := rfl
 exact congrArg (fun z => intsH 2 _ z :: L) hxs

/- (impl.bindings).subst -/
theorem subst_spec {F : FH} {L : List HP} {bs : List Value} {b : RowL} (hb : BindC F bs b) (hbl : b.length = 24) :
    Does prog 215 [.agg (bs).toArray] F (L) (fun v F' L' => ∃ (a : Value), (.agg #[a] : Value) = v ∧ (RowsF F' a b) ∧ L = L') := by
 refine qG func215 rfl rfl rfl (qd (qb (cX (jb bs rfl rfl ?_))))
 intro b1
 refine cX (jr [sN] jB rfl ?_)
 intro b2
 refine qc (qd (qb (cX (XOp.sliceArr (cs := bs) [_] _ runUnderlying259 qA rfl (by have := CO.len hb; (try simp only [List.length_set, List.length_replicate] at this ⊢) <;> omega) rfl ?_))))
 intro v1 hv1
 have hc1 := BindC.rows hb
 refine cX (jv [v1] [sN] [(0, 1)] [(0, [v1])] jc jB rfl (.cons rfl qW PlacesAre.nil) rfl (.cons (cells_one ⟨_, _, _, hv1⟩) CellsAre.nil) (cX (qV [] _ [v1] jp rfl rfl rfl (qx (qI ⟨_, _, _, hv1⟩) qX) rfl rfl rfl (qc (qY [_] _ _ rfl (fun F1 le1 hz1 => ?_))))))
 replace hc1 := hc1.mono le1
 have hf1 : RowsF F1 v1 b := CO.fz hc1 (by first | rfl | omega | (rw [List.length_set]; omega) | (simp; done)) hz1.fz
 refine qw (qr (L' := L) [.agg #[v1]] (.agg #[v1]) (.cell rfl (jH [v1] jQ jp rfl (Rd.ownN [] rfl rfl)) .nil) rfl le1 rF (sD sR) ?_)
 exact ⟨_, rfl, hf1, rfl⟩

/- impl.plain -/
theorem plain_spec {F : FH} {L : List HP} {sv : Value} {s : List (List Int)} (hs : RowsF F sv s) (hsl : s.length ≤ 24) (hsb : ∀ i, i < s.length → (s.getD i []).length ≤ 4000000) :
    Does prog 193 [.agg #[sv]] F (L) (fun v F' L' => ∃ (a : Value), (.agg #[a] : Value) = v ∧ (RowsF F' a (plainL s)) ∧ L = L') := by
 refine qG func193 rfl rfl rfl (qd (qb (cX (jb [sv] rfl rfl ?_))))
 intro b1
 refine cX (jr [sN] jB rfl ?_)
 intro b2
 refine qc (qd (qb (cX (jr [sN] jB rfl ?_))))
 intro b3
 refine qc (qd (qd (qb (cX (qk (0) jc rfl qW (by decide) rfl rfl (cX (qj jz rfl (Rd.own [_, _] rfl rfl) (cX (qE qF rfl hs.slv (qg (ii (0)) rfl (qc (qH (jn (α := Nat × Value × RowL × FH) (fun xQ => [(2, ptr b2 0), (3, ptr b3 0), (7, sv), (8, ii ((s.length : Int))), (9, ii (((xQ.1 : Nat) : Int)))]) (fun xQ => rowsH 22 xQ.2.2.2 xQ.2.1 xQ.2.2.1 :: cellsH b3 [xQ.2.1] 137 :: cellsH b2 [sN] 137 :: cellsH b1 [sv] 137 :: L) (fun xQ F' => xQ.2.2.2 = F' ∧ F ≤ xQ.2.2.2 ∧ (IsSl xQ.2.1) ∧ (xQ.2.2.1 = trim ((plainGo 0 s).take xQ.1)) ∧ (xQ.1 ≤ s.length)) (fun xQ => s.length - xQ.1) (0, sN, [], F) ⟨rfl, rfl, rfl, rfl, rfl, ⟨⟩⟩ (coH.addNil none (sC (sC (sC sR)))) ⟨rfl, FLe.refl _, (⟨_, _, _, rfl⟩), (rfl), (by (try dsimp only) <;> omega)⟩ ?_)))))))))))))
 rintro ⟨k, ov, os, G1⟩ rE _ _ ⟨rfl, leG, hov, hos, hk⟩
 show X _ _ _ _ (envs [(2, ptr b2 0), (3, ptr b3 0), (7, sv), (8, ii ((s.length : Int))), (9, ii ((k : Int)))] rE) _ (rowsH 22 G1 ov os :: cellsH b3 [ov] 137 :: cellsH b2 [sN] 137 :: cellsH b1 [sv] 137 :: L)
 replace leG : F ≤ G1 := leG
 dsimp only at hov hos hk
 have leG1 := leG
 replace hs := hs.mono leG1
 refine X.open [] rfl (fun cs1 hc1 => ?_)
 replace hc1 : RowsC G1 cs1 os := hc1
 refine qd (qb (cX (qQ rfl rfl (qc (qd ?_)))))
 refine qC (p := (k : Int) < (s.length : Int)) rfl (fun h1 => ?_) (fun h1 => ?_)
 ·refine qz (qd (qH (qd (qb (qg (ii ((k : Int))) rfl (cX (qt k qF qA rfl rfl rfl hs.slv (by omega) (Nat.mul_one _) ?_)))))))
  obtain ⟨a1, ha1, hr1⟩ := hs.rd (i := k) (by omega)
  refine cX (qj qU rfl (hr1 _) (qh (ii ((k : Int))) rfl (qh (a1) rfl (qc (qd (qd (qb (qg (a1) rfl (cX (qE qf rfl ha1.slv (cX (ju rfl rfl (qg (.bool (decide ((((((s.getD k [])).length : Nat) : Int) : Int) = 0))) rfl ?_)))))))))))))
  by_cases h2 : (((((s.getD k [])).length : Nat) : Int) : Int) = 0
  ·refine qp (t := 17) rfl (vT h2) (qp (t := 17) rfl (vT h2) (qp (t := 17) rfl (vT h2) (qp (t := 17) rfl (vT h2) (cX (qO (.bool (true)) (vT h2) rfl (qc (jA rfl (jg (qv (qM (qb (cX (qK (((k + 1 : Nat) : Int)) rfl rfl (by omega) (by omega) ?_)))))))))))))
   refine qg (ii (((k + 1 : Nat) : Int))) rfl (qc ?_)
   exact ⟨(k + 1, ov, os, G1), _, leG1, rF, ⟨rfl, rfl, rfl, rfl, rfl, ⟨⟩⟩, (coH.close hc1 (by first | rfl | simp) (sC (sC (sC sR)))), ⟨rfl, leG1, (hov), (hos.trans (plain_skip (by omega) (by first | (left; exact List.eq_nil_of_length_eq_zero (by omega)) | (right; assumption))).symm), (by (try dsimp only) <;> omega)⟩, (by omega)⟩
  refine qo (t := 17) rfl (vF h2) (qm (a1) rfl (qo (t := 17) rfl (vF h2) (qm (ii ((k : Int))) rfl (qo (t := 17) rfl (vF h2) (jD <| qn (args := [ii (k : Int)]) call194 rfl (variable_spec (i := k) (hi := (by first | assumption | rfl | omega | simp))) ?_)))))
  rintro v1 _ _ _ ⟨rfl, hs1, rfl⟩
  refine ⟨_, _, rfl, fun F1 le1 hz1 => ?_⟩
  replace hs := hs.mono le1
  replace hc1 := hc1.mono le1
  replace ha1 := ha1.mono le1
  have hf1 : IntsF F1 v1 (([-1 - (k : Int)])) := intsH.fz (xs := ([-1 - (k : Int)])) hz1.fz
  refine qo (t := 17) rfl (vF h2) (qn (args := [a1, v1]) call236 rfl (Equal_spec ha1 hf1 (hbd := (by first | assumption | rfl | omega | (left; simp; done) | (right; simp; done)))) ?_)
  rintro _ _ _ _ ⟨rfl, rfl, rfl⟩
  refine cX (qN (.bool (decide (((s.getD k [])) = (([-1 - (k : Int)]))))) (vF h2) rfl (qc ?_))
  refine qC (p := ((s.getD k [])) = (([-1 - (k : Int)]))) rfl (fun h3 => ?_) (fun h3 => ?_)
  ·refine jg (qv (qM (qb (cX (qK (((k + 1 : Nat) : Int)) rfl rfl (by omega) (by omega) (qg (ii (((k + 1 : Nat) : Int))) rfl (qc ?_)))))))
   exact ⟨(k + 1, ov, os, F1), _, (qa leG1 le1), rF, ⟨rfl, rfl, rfl, rfl, rfl, ⟨⟩⟩, (coH.close hc1 (by first | rfl | simp) (sC (sC (sC sR)))), ⟨rfl, (qa leG1 le1), (hov), (hos.trans (plain_skip (by omega) (by first | (left; exact List.eq_nil_of_length_eq_zero (by omega)) | (right; assumption))).symm), (by (try dsimp only) <;> omega)⟩, (by omega)⟩
  refine qz (qd (qH (jn (α := Nat × Value × RowL × FH) (fun xQ => [(2, ptr b2 0), (3, ptr b3 0), (4, ii ((k : Int))), (5, a1), (7, sv), (8, ii ((s.length : Int))), (9, ii ((k : Int)))]) (fun xQ => rowsH 22 xQ.2.2.2 xQ.2.1 xQ.2.2.1 :: cellsH b3 [xQ.2.1] 137 :: cellsH b2 [sN] 137 :: cellsH b1 [sv] 137 :: L) (fun xQ F' => xQ.2.2.2 = F' ∧ F1 ≤ xQ.2.2.2 ∧ (IsSl xQ.2.1) ∧ (xQ.2.2.1 = os ++ List.replicate xQ.1 []) ∧ (xQ.2.2.1.length ≤ k)) (fun xQ => k - xQ.2.2.1.length) (0, ov, os, F1) ⟨rfl, rfl, rfl, rfl, rfl, rfl, rfl, ⟨⟩⟩ (coH.close hc1 (by first | rfl | simp) (sC (sC (sC sR)))) ⟨rfl, FLe.refl _, (hov), (by simp), (by have := trim_le ((plainGo 0 s).take k); rw [← hos, List.length_take] at this; (try dsimp only); omega)⟩ ?_)))
  rintro ⟨j, ov2, os2, G2⟩ rE _ _ ⟨rfl, leG, hov2, hos2, hl2⟩
  show X _ _ _ _ (envs [(2, ptr b2 0), (3, ptr b3 0), (4, ii ((k : Int))), (5, a1), (7, sv), (8, ii ((s.length : Int))), (9, ii ((k : Int)))] rE) _ (rowsH 22 G2 ov2 os2 :: cellsH b3 [ov2] 137 :: cellsH b2 [sN] 137 :: cellsH b1 [sv] 137 :: L)
  replace leG : F1 ≤ G2 := leG
  dsimp only at hov2 hos2 hl2
  have leG2 := leG
  replace hs := hs.mono leG2
  replace hc1 := hc1.mono leG2
  replace ha1 := ha1.mono leG2
  refine X.open [] rfl (fun cs2 hc2 => ?_)
  replace hc2 : RowsC G2 cs2 os2 := hc2
  refine qd (qd (qb (cX (qk (0) jc rfl qW (by decide) rfl rfl (cX (qj jz rfl (Rd.own [_] rfl rfl) (cX (qE qF rfl (SlV.own [] rfl) (qg (ii ((k : Int))) rfl (cX (qQ rfl rfl (qc ?_))))))))))))
  refine qC (p := ((os2.length : Int) : Int) < (k : Int)) rfl (fun h4 => ?_) (fun h4 => ?_)
  ·refine qz (qH (qb (cX (qk (0) jc rfl qW (by decide) rfl rfl (cX (qj jz rfl (Rd.own [_] rfl rfl) (cX (qs (s := 1) [sN] [sN] [(0, [sN])] qF qA jI rfl (by decide) rfl (.cons rfl CellsAre.nil) rfl ?_))))))))
   intro v2 hv1
   refine cX (jT (m := 1) (bytes := 24) (cs := cs2) [_] _ [sN] qF typeInfo22 rfl rfl rfl rfl rfl rfl rfl (SlV.own [] rfl) rfl (Rd.lit [] rfl) (qx rfl qX) (by (try simp only [List.length_append, List.length_nil, List.length_cons, List.length_singleton]); omega) (by (try simp only [List.length_append, List.length_nil, List.length_cons, List.length_singleton]); omega) ?_)
   intro v3 hs2 hn1 hm1
   have hc3 := RowsC.snoc hc2 IntsF.nilV
   refine cX (qk (0) jc rfl qW (by decide) rfl rfl (cX (jw [_, _] _ [v3] qW rfl rfl (qI hs2) rfl rfl rfl (qc ?_))))
   exact ⟨(j + 1, v3, os2 ++ [[]], G2), _, leG2, rF, ⟨rfl, rfl, rfl, rfl, rfl, rfl, rfl, ⟨⟩⟩, (sD (coH.close hc3 (by first | rfl | simp) (sC (sC (sC sR))))), ⟨rfl, leG2, (hs2), (by dsimp only; rw [hos2, List.append_assoc, List.replicate_succ']), (by dsimp only; rw [List.length_append]; simp only [List.length_singleton]; omega)⟩, (by dsimp only; rw [List.length_append]; simp only [List.length_singleton]; omega)⟩
  refine jg (qv (qv (qM ?_)))
  refine jM [slH 22 1 ov2 ((os2).length) cs2, cellsH b3 [ov2] 137, cellsH b2 [sN] 137, cellsH b1 [sv] 137] L 5 [[], [], [], [], [3]] [[], [0], [], [2], [3]] [] (phiG [pe (ptr b3 0), pe ov2, pe a1, fun FF us v => ((v) : Value) = v ∧ (IntsF FF (v) (((s.getD k [])))), fun FF us v => ∃ b, v = .slice (some ⟨b, 0, none⟩) 1 1]) (ownL [o0, o0, o0, o0, fun us v => [slH 22 1 v 1 [((us.getD 0 undef))]]]) mixed rfl rfl (by kernel_rfl) (by kernel_rfl) (MonoG.get (m1 (m1 (m1 (mC (fun le h => ⟨h.1, h.2.mono le⟩) (mC (fun le h => h) MonoG.nil)))))) ?_ ?_
  ·refine gD (fun W Fs R lF z9 => ?_) ?_
   ·refine qi (qk (0) jc rfl qW (by decide) rfl rfl ?_)
    exact ⟨rfl, rfl⟩
   refine gD (fun W Fs R lF z9 => ?_) ?_
   ·replace hs := hs.mono lF
    replace hc1 := hc1.mono lF
    replace ha1 := ha1.mono lF
    replace hc2 := hc2.mono lF
    rw [zA 0 (z9 0 rfl)]
    refine qi (qj jz rfl (Rd.own [_] rfl rfl) ?_)
    exact ⟨rfl, rfl⟩
   refine gD (fun W Fs R lF z9 => ?_) ?_
   ·refine qi (qm (a1) rfl ?_)
    exact ⟨rfl, rfl⟩
   refine gD (fun W Fs R lF z9 => ?_) ?_
   ·replace hs := hs.mono lF
    replace hc1 := hc1.mono lF
    replace ha1 := ha1.mono lF
    replace hc2 := hc2.mono lF
    rw [zA 2 (z9 2 rfl)]
    refine qi (jD <| qn (args := [a1]) call96 rfl (Clone_spec ha1 (hlt := (hsb k (by omega)))) ?_)
    rintro v6 _ _ _ ⟨rfl, hs4, rfl⟩
    refine ⟨_, _, rfl, fun F2 le2 hz2 => ?_⟩
    replace hc1 := hc1.mono le2
    replace hc2 := hc2.mono le2
    have hf2 : IntsF F2 v6 ((((s.getD k [])))) := intsH.fz (xs := (((s.getD k [])))) hz2.fz
    exact ⟨⟨rfl, hf2⟩, rfl⟩
   refine gD (fun W Fs R lF z9 => ?_) ?_
   ·obtain ⟨e3, f3_1ha⟩ := z9 3 rfl
    replace hc1 := hc1.mono lF
    replace hc2 := hc2.mono lF
    rw [eS (l := [(3, ((W 3)))]) ⟨(e3).symm, ⟨⟩⟩]
    refine qi (qs (s := 1) [((W 3))] [sN] [(0, [((W 3))])] qF qA jI rfl (by decide) rfl (.cons (cells_one (qB f3_1ha)) CellsAre.nil) rfl ?_)
    intro v7 hv3
    exact ⟨hv3, rfl⟩
   exact stepsG.nil
  intro W F3 le3 hphi
  obtain ⟨e3, f3_1ha⟩ := hphi 3 (by decide)
  have f4 : ∃ b, (W 4) = .slice (some ⟨b, 0, none⟩) 1 1 := hphi 4 (by decide)
  generalize hu1 : ((W 3)) = u1 at e3 f3_1ha f4
  generalize hu4 : W 4 = u2 at e3 f3_1ha f4
  rw [eS (l := [(1, _), (3, u1), (4, u2)]) ⟨(hphi 1 (by decide)), hu1, hu4, ⟨⟩⟩]
  replace hc1 := hc1.mono le3
  replace hc2 := hc2.mono le3
  show XL _ _ _ _ _ _ _ (slH 22 1 u2 1 [u1] :: slH 22 1 ov2 ((os2).length) cs2 :: cellsH b3 [ov2] 137 :: cellsH b2 [sN] 137 :: cellsH b1 [sv] 137 :: L)
  refine cX (jT (m := 1) (bytes := 24) (cs := cs2) [_] _ [u1] qF typeInfo22 rfl rfl rfl rfl rfl rfl rfl (SlV.own [] rfl) rfl (Rd.lit [] rfl) (qx (qI (qB f3_1ha)) qX) (by (try simp only [List.length_append, List.length_nil, List.length_cons, List.length_singleton]); omega) (by (try simp only [List.length_append, List.length_nil, List.length_cons, List.length_singleton]); omega) ?_)
  intro v8 hs5 hn2 hm2
  have hc4 := RowsC.snoc hc2 f3_1ha
  refine cX (qk (0) jc rfl qW (by decide) rfl rfl (cX (jw [_, _] _ [v8] qW rfl rfl (qI hs5) rfl rfl rfl (qc (qb (cX (qK (((k + 1 : Nat) : Int)) rfl rfl (by omega) (by omega) (qg (ii (((k + 1 : Nat) : Int))) rfl (qc ?_)))))))))
  exact ⟨(k + 1, v8, os2 ++ [(((s.getD k [])))], F3), _, (qa (qa (qa leG1 le1) leG2) le3), rF, ⟨rfl, rfl, rfl, rfl, rfl, ⟨⟩⟩, (sD (coH.close hc4 (by first | rfl | simp) (sC (sC (sC sR))))), ⟨rfl, (qa (qa (qa leG1 le1) leG2) le3), (hs5), (plain_put (m := os2) (by omega) (by intro e; have := congrArg List.length e; simp only [List.length_nil] at this; omega) (by assumption) (by rw [hos2, hos]; exact plain_padded (by rw [← hos, ← hos2, List.length_take, plainGo_length]; omega))), (by (try dsimp only) <;> omega)⟩, (by omega)⟩
 refine jg (qv (qv (qM (qd (qb (cX (qu [ov] jQ jp rfl rfl (Rd.ownN [_] rfl rfl) (cX (qV [_, _] _ [ov] jp rfl rfl rfl (qx (qI hov) qX) rfl rfl rfl (qc (qY [] _ _ rfl (fun F4 le4 hz3 => ?_))))))))))))
 replace hc1 := hc1.mono le4
 have hf3 : RowsF F4 ov os := CO.fz hc1 (by first | rfl | omega | (rw [List.length_set]; omega) | (simp; done)) hz3.fz
 refine qw (qr (L' := L) [.agg #[ov]] (.agg #[ov]) (.cell rfl (jH [ov] jQ jp rfl (Rd.ownN [_] rfl rfl)) .nil) rfl (qa leG1 le4) rF (sD (sD (sD sR))) ?_)
 have e : os = plainL s := by rw [hos, show k = s.length from by omega, plain_all]
 exact ⟨_, rfl, by rw [← e]; exact hf3, rfl⟩

/- impl.match -/
theorem match_spec {F : FH} {L : List HP} {arv : Value} {ar : List Int} (har : IntsF F arv ar) {pv : Value} {p : List Int} (hp : IntsF F pv p) {tv : Value} {t : List Int} (ht : IntsF F tv t) (ho : termOk ar t = true) (hpo : termOk ar p = true) :
    Does prog 144 [.agg #[arv], pv, tv] F (L) (fun v F' L' => ∃ (a : Value), (.tuple #[.agg #[a], .bool ((matchB ar p t).isSome)] : Value) = v ∧ (RowsF F' a (matchP ar p t)) ∧ L = L') := by
 refine qG func144 rfl rfl rfl ?_
 have hpl := termOk_len hpo
 have hpg := fun k (hk : k < p.length) => termOk_ge hpo hk
 refine qd (qb (cX (jb [arv] rfl rfl ?_)))
 intro b1
 refine cX (jr [sN] jB rfl ?_)
 intro b2
 refine qh (.bool (false)) rfl (qc (qd (qb (cX (qu [arv] jf qJ rfl rfl (Rd.ownN [_] rfl rfl) (qg (pv) rfl (qg (tv) rfl (cX (XOp.build0 (List.replicate 24 (sN)) runUnderlying259 ⟨_, qA⟩ zeroValue259 rfl ?_)))))))))
 have hc1 : BindC F _ _ := BindC.nils 24
 refine cX (qn (args := [.agg #[arv], pv, tv, .agg (List.replicate 24 (sN)).toArray]) call214 rfl (matchInto_spec har hp ht hc1 ((by first | assumption | rfl | simp | omega)) (ho := (by first | assumption | rfl | omega | simp)) (hpl := (by first | assumption | rfl | omega | simp)) (hpg := (by first | assumption | rfl | omega | simp))) ?_)
 rintro _ _ _ _ ⟨rfl, x1, x2, rfl, hr1, hr2, hr3, rfl⟩
 have hbl24 := hr2
 refine qg (.tuple #[.agg (x1).toArray, .bool ((mGo ar t p 0 (List.replicate 24 ([] : List Int))).isSome)]) rfl (cX (jd (.agg (x1).toArray) rfl rfl (cX (jd (.bool ((mGo ar t p 0 (List.replicate 24 ([] : List Int))).isSome)) rfl rfl (cX (jr (List.replicate 24 (sN)) zeroValue259 rfl ?_))))))
 intro b3
 have hc2 : BindC F _ _ := BindC.nils 24
 refine cX (qV [] _ x1 sizeOf259 rfl rfl (by have := CO.len hr1; (try simp only [List.length_set, List.length_replicate] at this ⊢) <;> omega) hr1.ones rfl (Nat.ble_eq_true_of_le (Nat.le_of_eq (by have := CO.len hc2; (try simp only [List.length_set, List.length_replicate] at this ⊢) <;> omega))) (arr_over (by have := CO.len hc2; (try simp only [List.length_set, List.length_replicate] at this ⊢) <;> omega)) (qh (.bool ((mGo ar t p 0 (List.replicate 24 ([] : List Int))).isSome)) rfl (qc (qd (qd (qb (qg (.bool ((mGo ar t p 0 (List.replicate 24 ([] : List Int))).isSome)) rfl (cX (jt rfl (qc ?_))))))))))
 refine jF (t := !((mGo ar t p 0 (List.replicate 24 ([] : List Int))).isSome)) rfl (fun h1 => ?_) (fun h1 => ?_)
 ·refine qd (qb (cX (jv [sN] [sN] [(0, 1)] [] jc jB rfl (.cons rfl qW PlacesAre.nil) rfl CellsAre.nil (cX (qV [_] _ [sN] jp rfl rfl rfl (qx rfl qX) rfl rfl rfl (qh (.bool (false)) rfl (qc (qw (ql (qr (L' := L) [.agg #[sN], .bool (false)] (.tuple #[.agg #[sN], .bool (false)]) (.cell rfl (jH [sN] jQ jp rfl (Rd.ownN [_] rfl rfl)) (.tmp rfl .nil)) rfl rF rF (sD (sD (sD sR))) ?_))))))))))
  have hz : matchB ar p t = none := by have h0 := h1; simpa [matchB] using h0
  exact ⟨_, by rw [hz]; rfl, by rw [matchP, hz]; exact SlOf.nilV, rfl⟩
 have hz : ∃ r, matchB ar p t = some r := Option.isSome_iff_exists.1 (by have h0 := h1; simpa [matchB] using h0)
 have hmb : ∀ i, (x2.getD i []).length ≤ t.length := by obtain ⟨r, hz⟩ := hz; have e := hr3 _ hz; rw [e]; exact (matchB_len hz).2
 have htl := termOk_len ho
 refine qz (qd (qb (cX (qu x1 isAgg259 sizeOf259 (by have := CO.len hr1; (try simp only [List.length_set, List.length_replicate] at this ⊢) <;> omega) rfl (Rd.ownN [] rfl take_all) (cX (qn (args := [.agg (x1).toArray]) call215 rfl (subst_spec hr1 ((by first | assumption | rfl | simp | omega))) ?_))))))
 rintro _ F2 _ le2 ⟨x3, rfl, hr4, rfl⟩
 refine cX (qn (args := [.agg #[x3]]) call193 rfl (plain_spec hr4 (hsl := (by first | assumption | rfl | omega | simp)) (hsb := (fun i hi => by have := hmb i; omega))) ?_)
 rintro _ F3 _ le3 ⟨x4, rfl, hr5, rfl⟩
 refine cX (qV [_] _ [x4] jp rfl rfl rfl (qx (qI (RowsF.isSl hr5)) qX) rfl rfl rfl (qh (.bool (true)) rfl (qc (qw (qr (L' := L) [.agg #[x4], .bool (true)] (.tuple #[.agg #[x4], .bool (true)]) (.cell rfl (jH [x4] jQ jp rfl (Rd.ownN [_] rfl rfl)) (.tmp rfl .nil)) rfl (qa le2 le3) rF (sD (sD (sD sR))) ?_)))))
 obtain ⟨b0, hz⟩ := Option.isSome_iff_exists.1 (show (matchB ar p t).isSome = true from by have h0 := h1; simpa [matchB] using h0)
 have hb0 := hr3 _ hz
 exact ⟨_, by rw [hz]; rfl, by rw [matchP, hz]; subst hb0; exact hr5, rfl⟩

/- impl.instance -/
theorem instance_spec {F : FH} {L : List HP} {arv : Value} {ar : List Int} (har : IntsF F arv ar) {pv : Value} {p : List Int} (hp : IntsF F pv p) {tv : Value} {t : List Int} (ht : IntsF F tv t) (ho : termOk ar t = true) (hpo : termOk ar p = true) :
    Does prog 256 [.agg #[arv], pv, tv] F (L) (fun v F' L' => (.bool ((matchB ar p t).isSome) : Value) = v ∧ F = F' ∧ L = L') := by
 refine qG func256 rfl rfl rfl (qd (qb (cX (jb [arv] rfl rfl ?_))))
 intro b1
 refine qh (.bool (false)) rfl (qc (qd (qb (cX (qu [arv] jf qJ rfl rfl (Rd.ownN [] rfl rfl) (qg (pv) rfl (qg (tv) rfl (cX (qn (args := [.agg #[arv], pv, tv]) call144 rfl (match_spec har hp ht (ho := (by first | assumption | rfl | omega | simp)) (hpo := (by first | assumption | rfl | omega | simp))) ?_)))))))))
 rintro _ F1 _ le1 ⟨x1, rfl, hr1, rfl⟩
 refine qg (.tuple #[.agg #[x1], .bool ((matchB ar p t).isSome)]) rfl (cX (jd (.agg #[x1]) rfl rfl (cX (jd (.bool ((matchB ar p t).isSome)) rfl rfl (cX (jr [sN] jB rfl ?_))))))
 intro b2
 refine cX (qV [] _ [x1] jp rfl rfl rfl (qx (qI (RowsF.isSl hr1)) qX) rfl rfl rfl (qh (.bool ((matchB ar p t).isSome)) rfl (qc (qd (qb (qg (.bool ((matchB ar p t).isSome)) rfl (qh (.bool ((matchB ar p t).isSome)) rfl (qc (qw (qr (L' := L) [.bool ((matchB ar p t).isSome)] (.bool ((matchB ar p t).isSome)) (.tmp rfl .nil) rfl rF le1 (sD (sD sR)) ?_))))))))))
 exact ⟨rfl, rfl, rfl⟩

/- slices.Grow[[]int64,int64] -/
theorem GrowNil_spec {F : FH} {L : List HP}  {n : Nat} (hg1 : 1 ≤ n) (hn : n ≤ 400000000) :
    Does prog 293 [sN, ii ((n : Int))] F (L) (fun v F' L' => F = F' ∧ IsSl v ∧ intsH 2 v ([]) :: L = L') := by
 refine qG func293 rfl rfl rfl (qd (qb (qh (sN) rfl (qc (qd (qd (qb (qg (ii ((n : Int))) rfl (cX (qQ rfl rfl (qc ?_)))))))))))
 refine qC (p := (n : Int) < 0) rfl (fun h1 => ?_) (fun h1 => ?_)
 ·omega
 refine qz (qd (qd (qb (qg (ii ((n : Int))) rfl (qg (sN) rfl (cX (XOp.capNil qf rfl (qg (sN) rfl (cX (qE qf rfl SlV.nil (cX (je (0 - (((0 : Nat) : Int))) rfl rfl (by omega) (by omega) (cX (je (((n : Int)) - (0 - (((0 : Nat) : Int)))) rfl rfl (by omega) (by omega) (qh (ii (((n : Int)) - (0 - (((0 : Nat) : Int))))) rfl (qc (qd (qb ?_))))))))))))))))))
 refine qg (ii (((n : Int)) - (0 - (((0 : Nat) : Int))))) rfl (cX (jG rfl rfl (qc ?_)))
 refine qC (p := (((n : Int)) - (0 - (((0 : Nat) : Int))) : Int) > 0) rfl (fun h2 => ?_) (fun h2 => ?_)
 ·refine qb (qg (sN) rfl (qg (sN) rfl (cX (XOp.capNil qf rfl (cX (XOp.sliceNil qf qq rfl ⟨_, rfl⟩ (qg (ii (((n : Int)) - (0 - (((0 : Nat) : Int))))) rfl (cX (XOp.appendZ (s := 1) (bytes := 8) (n := (((n : Int)) - (0 - (((0 : Nat) : Int)))).toNat) [ii (0)] qf runUnderlying3 typeInfo2 rfl rfl rfl rfl rfl (by decide) rfl (by rw [show (((((n : Int)) - (0 - (((0 : Nat) : Int)))).toNat : Nat) : Int) = ((n : Int)) - (0 - (((0 : Nat) : Int))) from by omega]; rfl) (by omega) (by omega) (by omega) ?_)))))))))
  intro v1 hv1
  have hv2 : IsSl v1 := by obtain ⟨b0, c0, h0⟩ := hv1; exact ⟨_, _, _, h0⟩
  rw [intsH_zeros]
  refine qg (sN) rfl (cX (qE qf rfl SlV.nil (cX (XOp.sliceOwn (cs := List.map (Value.int .i64) ((List.replicate ((((n : Int)) - (0 - (((0 : Nat) : Int)))).toNat) 0))) [] _ 0 qf qq rfl rfl ⟨_, rfl⟩ (Nat.zero_le _) ?_))))
  intro v2 hs1
  show XL _ _ _ _ _ _ _ (intsH 2 v2 ([]) :: L)
  refine qh (v2) rfl (qc (qd (qb (qg (v2) rfl (qh (v2) rfl (qc (qw (qr (L' := intsH 2 v2 ([]) :: L) [v2] (v2) (.tmp rfl .nil) rfl rF rF (sC sR) ?_))))))))
  refine ⟨rfl, hs1, ?_⟩
  have hxs : ([] : List Int) = [] := rfl
  exact congrArg (fun z => intsH 2 _ z :: L) hxs
 omega

/- slices.Concat[[]int64,int64] -/
theorem Concat_spec {F : FH} {L : List HP} {xsv : Value} {xs : List (List Int)} (hxs : RowsF F xsv xs) (hg1 : 1 ≤ xs.flatten.length) (hn : xs.length ≤ 10) (hb : ∀ i, i < xs.length → (xs.getD i []).length ≤ 4000000) :
    Does prog 191 [xsv] F (L) (fun v F' L' => F = F' ∧ IsSl v ∧ intsH 2 v xs.flatten :: L = L') := by
 refine qG func191 rfl rfl rfl (qd (qb (qh (sN) rfl (qc (qd (qb (qh (ii (0)) rfl (qc (qd (qd (qb (qg (xsv) rfl (cX (qE qF rfl hxs.slv (qg (ii (0)) rfl (qc (qH ?_)))))))))))))))))
 refine jn (α := Nat × Nat) (fun xQ => [(0, xsv), (3, ii (((xQ.2 : Nat) : Int))), (9, xsv), (10, ii ((xs.length : Int))), (11, ii (((xQ.1 : Nat) : Int)))]) (fun xQ => L) (fun xQ F' => F = F' ∧ (xQ.1 ≤ xs.length) ∧ (xQ.2 = (xs.take xQ.1).flatten.length) ∧ (xQ.2 ≤ xQ.1 * 4000000)) (fun xQ => xs.length - xQ.1) (0, 0) ⟨rfl, rfl, rfl, rfl, rfl, ⟨⟩⟩ sR ⟨rfl, (by (try dsimp only) <;> omega), (rfl), (by (try dsimp only) <;> omega)⟩ ?_
 rintro ⟨k, z⟩ rE _ _ ⟨rfl, hk, hz, hz2⟩
 show X _ _ _ _ (envs [(0, xsv), (3, ii ((z : Int))), (9, xsv), (10, ii ((xs.length : Int))), (11, ii ((k : Int)))] rE) _ (L)
 dsimp only at hk hz hz2
 have hbk := hb k
 have hft := fun h => congrArg List.length (flatten_take (xs := xs) (k := k) h)
 simp only [List.length_append] at hft
 refine qd (qb (cX (qQ rfl rfl (qc (qd ?_)))))
 refine qC (p := (k : Int) < (xs.length : Int)) rfl (fun h1 => ?_) (fun h1 => ?_)
 ·refine qz (qd (qH (qd (qb (cX (qt k qF qA rfl rfl rfl hxs.slv (by omega) (Nat.mul_one _) ?_))))))
  obtain ⟨a1, ha1, hr1⟩ := hxs.rd (i := k) (by omega)
  refine cX (qj qU rfl (hr1 _) (qh (a1) rfl (qc (qd (qb (qg (ii ((z : Int))) rfl (qg (a1) rfl (cX (qE qf rfl ha1.slv (cX (qK (((z + (((xs.getD k [])).length) : Nat) : Int)) rfl rfl (by omega) (by omega) (qh (ii (((z + (((xs.getD k [])).length) : Nat) : Int))) rfl (qc (qd (qb (qg (ii (((z + (((xs.getD k [])).length) : Nat) : Int))) rfl ?_))))))))))))))))
  refine cX (qQ rfl rfl (qc ?_))
  refine qC (p := (((z + (((xs.getD k [])).length) : Nat) : Int) : Int) < 0) rfl (fun h2 => ?_) (fun h2 => ?_)
  ·omega
  refine qz (qb (cX (qK (((k + 1 : Nat) : Int)) rfl rfl (by omega) (by omega) (qg (ii (((k + 1 : Nat) : Int))) rfl (qc ?_)))))
  exact ⟨(k + 1, z + (((xs.getD k [])).length)), _, FLe.refl _, rF, ⟨rfl, rfl, rfl, rfl, rfl, ⟨⟩⟩, sR, ⟨rfl, (by (try dsimp only) <;> omega), (by (try dsimp only) <;> omega), (by (try dsimp only) <;> omega)⟩, (by omega)⟩
 refine jg (qv (qv (qM (qd (qb ?_)))))
 have hz1 : 1 ≤ z := by rw [hz, show xs.take k = xs from List.take_of_length_le (by omega)]; exact hg1
 refine qg (ii ((z : Int))) rfl (cX (qn (args := [sN, ii (z : Int)]) call293 rfl (GrowNil_spec (n := z) (hg1 := (hz1)) (hn := (by omega))) ?_))
 rintro v1 _ _ _ ⟨rfl, hs1, rfl⟩
 refine qh (v1) rfl (qc (qd (qd (qb (qg (xsv) rfl (cX (qE qF rfl hxs.slv (qg (ii (0)) rfl (qc (qH (jn (α := Nat × Value × List Int) (fun xQ => [(6, xQ.2.1), (25, xsv), (26, ii ((xs.length : Int))), (27, ii (((xQ.1 : Nat) : Int)))]) (fun xQ => intsH 2 xQ.2.1 xQ.2.2 :: L) (fun xQ F' => F = F' ∧ (IsSl xQ.2.1) ∧ (xQ.1 ≤ xs.length) ∧ (xQ.2.2 = (xs.take xQ.1).flatten)) (fun xQ => xs.length - xQ.1) (0, v1, ([])) ⟨rfl, rfl, rfl, rfl, ⟨⟩⟩ (sC sR) ⟨rfl, (hs1), (by (try dsimp only) <;> omega), (rfl)⟩ ?_)))))))))))
 rintro ⟨k, ov, os⟩ rE _ _ ⟨rfl, hov, hk, hos⟩
 show X _ _ _ _ (envs [(6, ov), (25, xsv), (26, ii ((xs.length : Int))), (27, ii ((k : Int)))] rE) _ (intsH 2 ov os :: L)
 dsimp only at hov hk hos
 have hbk := hb k
 have hol : os.length ≤ k * 4000000 := by rw [hos]; exact flatten_bound hb k (by omega)
 refine qd (qb (cX (qQ rfl rfl (qc (qd ?_)))))
 refine qC (p := (k : Int) < (xs.length : Int)) rfl (fun h3 => ?_) (fun h3 => ?_)
 ·refine qz (qd (qH (qd (qb (cX (qt k qF qA rfl rfl rfl hxs.slv (by omega) (Nat.mul_one _) ?_))))))
  obtain ⟨a2, ha2, hr2⟩ := hxs.rd (i := k) (by omega)
  refine cX (qj qU rfl (hr2 _) (qh (a2) rfl (qc (qb (qg (ov) rfl (qg (a2) rfl (cX (yd [] _ qf typeInfo2 rfl rfl rfl rfl rfl rfl ha2 (by (try simp only [List.length_append, List.length_nil, List.length_cons, List.length_singleton, List.length_take, List.length_drop]); omega) ?_))))))))
  intro v2 hs2 hn1 hm1
  refine qh (v2) rfl (qc (qb (cX (qK (((k + 1 : Nat) : Int)) rfl rfl (by omega) (by omega) (qg (ii (((k + 1 : Nat) : Int))) rfl (qc ?_))))))
  exact ⟨(k + 1, v2, os ++ ((xs.getD k []))), _, FLe.refl _, rF, ⟨rfl, rfl, rfl, rfl, ⟨⟩⟩, (sC sR), ⟨rfl, (hs2), (by (try dsimp only) <;> omega), ((by dsimp only; rw [hos, flatten_take (by omega)]))⟩, (by omega)⟩
 refine jg (qv (qv (qM (qd (qb (qg (ov) rfl (qh (ov) rfl (qc (qw (qr (L' := intsH 2 ov os :: L) [ov] (ov) (.tmp rfl .nil) rfl rF rF (sC sR) ?_))))))))))
 refine ⟨rfl, hov, ?_⟩
 have hxs : (xs.flatten : List Int) = os := by rw [hos, List.take_of_length_le (by omega)]
 exact congrArg (fun z => intsH 2 _ z :: L) hxs

/- impl.put -/
theorem byVar_spec {F : FH} {L : List HP} {sv : Value} {s : List (List Int)} (hs : RowsF F sv s) {i : Nat} (hsl : s.length ≤ 4000000) :
    Does prog 329 [.agg #[sv], ii ((i : Int))] F (L) (fun v F' L' => F = F' ∧ ∃ (a : Value), (a : Value) = v ∧ (IntsF F' a (s.getD i [])) ∧ (isNil a = decide (s.getD i [] = [])) ∧ L = L') := by
 refine qG func329 rfl rfl rfl (qd (qb (cX (jb [sv] rfl rfl ?_))))
 intro b1
 refine qh (sN) rfl (qc (qd (qd (qb (qg (ii ((i : Int))) rfl (cX (qk (0) jc rfl qW (by decide) rfl rfl (cX (qj jz rfl (Rd.own [] rfl rfl) (cX (qE qF rfl hs.slv (cX (jP rfl rfl (qg (.bool (decide ((i : Int) ≥ (s.length : Int)))) rfl ?_))))))))))))))
 by_cases h1 : (i : Int) ≥ (s.length : Int)
 ·refine qp (t := 10) rfl (vT h1) (qp (t := 10) rfl (vT h1) (qp (t := 10) rfl (vT h1) (qp (t := 10) rfl (vT h1) (qp (t := 10) rfl (vT h1) (qp (t := 10) rfl (vT h1) (qp (t := 10) rfl (vT h1) (cX (qO (.bool (true)) (vT h1) rfl (qc (jA rfl ?_))))))))))
  refine qd (qb (qh (sN) rfl (qc (qw (ql (qr (L' := L) [sN] (sN) (.tmp rfl .nil) rfl rF rF (sD sR) ?_))))))
  have e : s.getD i [] = [] := by first | exact List.eq_nil_of_length_eq_zero (by omega) | (rw [List.getD_eq_getElem?_getD, List.getElem?_eq_none (by omega)]; rfl)
  exact ⟨rfl, _, rfl, by rw [e]; exact IntsF.nilV, by rw [e]; rfl, rfl⟩
 refine qo (t := 10) rfl (vF h1) (qk (0) jc rfl qW (by decide) rfl rfl (qo (t := 10) rfl (vF h1) (qj jz rfl (Rd.own [] rfl rfl) (qo (t := 10) rfl (vF h1) (qm (ii ((i : Int))) rfl (qo (t := 10) rfl (vF h1) (qt i qF qA rfl rfl rfl hs.slv (by omega) (Nat.mul_one _) ?_)))))))
 obtain ⟨a1, ha1, hr1⟩ := hs.rd (i := i) (by omega)
 refine qo (t := 10) rfl (vF h1) (qj qU rfl (hr1 _) (qo (t := 10) rfl (vF h1) (qE qf rfl ha1.slv (qo (t := 10) rfl (vF h1) (ju rfl rfl (cX (qN (.bool (decide ((((((s.getD i [])).length : Nat) : Int) : Int) = 0))) (vF h1) rfl (qc ?_))))))))
 refine qC (p := (((((s.getD i [])).length : Nat) : Int) : Int) = 0) rfl (fun h2 => ?_) (fun h2 => ?_)
 ·refine qd (qb (qh (sN) rfl (qc (qw (ql (qr (L' := L) [sN] (sN) (.tmp rfl .nil) rfl rF rF (sD sR) ?_))))))
  have e : s.getD i [] = [] := by first | exact List.eq_nil_of_length_eq_zero (by omega) | (rw [List.getD_eq_getElem?_getD, List.getElem?_eq_none (by omega)]; rfl)
  exact ⟨rfl, _, rfl, by rw [e]; exact IntsF.nilV, by rw [e]; rfl, rfl⟩
 refine qz (qd (qb (cX (qk (0) jc rfl qW (by decide) rfl rfl (cX (qj jz rfl (Rd.own [] rfl rfl) (qg (ii ((i : Int))) rfl (cX (qt i qF qA rfl rfl rfl hs.slv (by omega) (Nat.mul_one _) (cX (qj qU rfl (hr1 _) (qh (a1) rfl (qc (qw (qr (L' := L) [a1] (a1) (.tmp rfl .nil) rfl rF rF (sD sR) ?_)))))))))))))))
 have e : s.getD i [] ≠ [] := by intro e; have := congrArg List.length e; simp only [List.length_nil] at this; omega
 exact ⟨rfl, _, rfl, ha1, by rw [notNil_of_pos ha1 (List.length_pos_iff.2 e)]; exact (decide_eq_false e).symm, rfl⟩

/- (impl.Subst).lookup$1 -/
theorem lookup1_spec {F : FH} {L : List HP} {n : Int} {sv : Value} {s : List (List Int)} (hs : RowsF F sv s) {b : Nat} (hzb : FzC F b [sv]) (hsl : s.length ≤ 4000000) (hg : -4000000 ≤ n) :
    Does prog 328 [ii (n), ptr b 0] F (L) (fun v F' L' => F = F' ∧ ∃ (a : Value), (a : Value) = v ∧ (IntsF F' a (lkN s n)) ∧ (isNil a = decide (lkN s n = [])) ∧ L = L') := by
 refine qG func328 rfl rfl rfl (qd (qb (qh (sN) rfl (qc (qd (qd (qb (qg (ii (n)) rfl (cX (jP rfl rfl (qc ?_)))))))))))
 refine qC (p := (n : Int) ≥ 0) rfl (fun h1 => ?_) (fun h1 => ?_)
 ·refine qd (qb (qh (sN) rfl (qc (qw (ql (qr (L' := L) [sN] (sN) (.tmp rfl .nil) rfl rF rF sR ?_))))))
  have e : lkN s n = [] := lkN_pos (by omega)
  exact ⟨rfl, _, rfl, by rw [e]; exact IntsF.nilV, by rw [e]; rfl, rfl⟩
 refine qz (qd (qb (cX (qu [sv] jQ jp rfl rfl (FzC.rd hzb rfl) (qg (ii (n)) rfl (cX (je ((-1) - n) rfl rfl (by omega) (by omega) (cX (qn (args := [.agg #[sv], ii ((((-1) - n).toNat : Nat) : Int)]) call329 (by rw [show ((((-1) - n).toNat : Nat) : Int) = (-1) - n from by omega]; rfl) (byVar_spec (i := ((-1) - n).toNat) hs (hsl := (by first | assumption | rfl | omega | simp))) ?_)))))))))
 rintro _ _ _ _ ⟨rfl, x1, rfl, hr1, hr2, rfl⟩
 refine qh (x1) rfl (qc (qw (qr (L' := L) [x1] (x1) (.tmp rfl .nil) rfl rF rF sR ?_)))
 have e : lkN s n = s.getD (varIx n) [] := lkN_neg (by omega)
 exact ⟨rfl, _, rfl, by rw [e]; exact hr1, by rw [e]; exact hr2, rfl⟩

/- (impl.Subst).lookup -/
theorem lookup_spec {F : FH} {L : List HP} {sv : Value} {s : List (List Int)} (hs : RowsF F sv s) :
    Does prog 257 [.agg #[sv]] F (L) (fun v F' L' => ∃ (b : Nat), (.func (.func 328) #[] #[ptr b 0] : Value) = v ∧ (FzC F' b [sv]) ∧ L = L') := by
 refine qG func257 rfl rfl rfl (qd (qb (cX (jb [sv] rfl rfl ?_))))
 intro b1
 refine qh (.nilFunc) rfl (qc (qd (qb (cX (XOp.makeFuncL [] [ptr b1 0] rfl rfl (qh (.func (.func 328) #[] #[ptr b1 0]) rfl (qc (X.freeze [] _ _ rfl (fun F1 le1 hz1 => ?_)))))))))
 have hf1 : FzC F1 b1 [sv] := Fz.cells hz1
 refine qw (qr (L' := L) [.func (.func 328) #[] #[ptr b1 0]] (.func (.func 328) #[] #[ptr b1 0]) (.tmp rfl .nil) rfl le1 rF sR ?_)
 exact ⟨_, rfl, hf1, rfl⟩

/- impl.fill -/
theorem fill_spec {F : FH} {L : List HP} {sv : Value} {s : List (List Int)} (hs : RowsF F sv s) {tv : Value} {t : List Int} (ht : IntsF F tv t) (hsl : s.length ≤ 4000000) (hsb : ∀ i, (s.getD i []).length ≤ 4000000) (htl : t.length ≤ 4000000) (htg : ∀ k, k < t.length → -4000000 ≤ t.getD k 0) :
    Does prog 146 [.agg #[sv], tv] F (L) (fun v F' L' => ∃ (a : Value), (.tuple #[a, .bool ((fillL s t).isSome)] : Value) = v ∧ (IntsF F' a ((fillL s t).getD [])) ∧ (Fresh F F' (intsH 2 a ((fillL s t).getD []))) ∧ L = L') := by
 refine qG func146 rfl rfl rfl (qd (qb (cX (jb [sv] rfl rfl ?_))))
 intro b1
 refine qh (sN) rfl (qh (.bool (false)) rfl (qc (qd (qb (cX (qu [sv] jQ jp rfl rfl (Rd.ownN [] rfl rfl) (cX (qn (args := [.agg #[sv]]) call257 rfl (lookup_spec hs) ?_))))))))
 rintro _ F1 _ le1 ⟨x1, rfl, hr1, rfl⟩
 replace hs := hs.mono le1
 replace ht := ht.mono le1
 refine qh (.func (.func 328) #[] #[ptr x1 0]) rfl (qc (qd (qb (qg (tv) rfl (cX (qE qf rfl ht.slv (cX (XOp.makeSlice0 (n := (t).length) (bytes := 8) [ii (0)] qf qq typeInfo2 rfl qL rfl rfl rfl rfl (by omega) (by omega) ?_))))))))
 intro v1 hv1
 have hs1 : IsSl v1 := by obtain ⟨b0, h0⟩ := hv1; exact ⟨_, _, _, h0⟩
 show XL _ _ _ _ _ _ _ (intsH 2 v1 ([]) :: cellsH b1 [sv] 137 :: L)
 refine qh (v1) rfl (qc (qd (qd (qb (qg (tv) rfl (cX (qE qf rfl ht.slv (qg (ii (0)) rfl (qc (qH (jn (α := Nat × Value × List Int) (fun xQ => [(6, .func (.func 328) #[] #[ptr x1 0]), (7, xQ.2.1), (16, tv), (17, ii ((t.length : Int))), (18, ii (((xQ.1 : Nat) : Int)))]) (fun xQ => intsH 2 xQ.2.1 xQ.2.2 :: cellsH b1 [sv] 137 :: L) (fun xQ F' => F1 = F' ∧ (IsSl xQ.2.1) ∧ (xQ.1 ≤ t.length) ∧ (fillL s t = fillGo s (t.drop xQ.1) xQ.2.2) ∧ (xQ.2.2.length ≤ 60)) (fun xQ => t.length - xQ.1) (0, v1, []) ⟨rfl, rfl, rfl, rfl, rfl, ⟨⟩⟩ (sC (sC sR)) ⟨rfl, (hs1), (by (try dsimp only) <;> omega), (rfl), (by simp)⟩ ?_)))))))))))
 rintro ⟨k, ov, os⟩ rE _ _ ⟨rfl, hov, hk, hm, hol⟩
 show X _ _ _ _ (envs [(6, .func (.func 328) #[] #[ptr x1 0]), (7, ov), (16, tv), (17, ii ((t.length : Int))), (18, ii ((k : Int)))] rE) _ (intsH 2 ov os :: cellsH b1 [sv] 137 :: L)
 dsimp only at hov hk hm hol
 have htk := htg k
 refine qd (qb (cX (qQ rfl rfl (qc (qd ?_)))))
 refine qC (p := (k : Int) < (t.length : Int)) rfl (fun h1 => ?_) (fun h1 => ?_)
 ·refine qz (qd (qH (qd (qb (cX (qt k qf qq rfl rfl rfl ht.slv (by omega) (Nat.mul_one _) (cX (qj qP rfl (ht.rd (by omega)) (qh (ii (t.getD k 0)) rfl (qc (qd (qd (qb (qg (.func (.func 328) #[] #[ptr x1 0]) rfl (qg (ii (t.getD k 0)) rfl (cX (XOp.callV (first := []) (captured := [ptr x1 0]) (args := [ii (t.getD k 0), ptr x1 0]) call328 rfl rfl (lookup1_spec (n := t.getD k 0) hs hr1 (hsl := (by first | assumption | rfl | omega | simp)) (hg := (by first | assumption | rfl | omega | simp))) ?_)))))))))))))))))
  rintro _ _ _ _ ⟨rfl, x2, rfl, hr2, hr3, rfl⟩
  skip
  refine qh (x2) rfl (qc (qd (qb (qg (x2) rfl (cX (XOp.eqNil qf rfl rfl (qB hr2) (qc ?_)))))))
  refine jF (t := isNil x2) rfl (fun h2 => ?_) (fun h2 => ?_)
  ·refine qb (qg (ov) rfl (qg (ii (t.getD k 0)) rfl (cX (qs (s := 1) [ii (t.getD k 0)] [ii (0)] [(0, [ii (t.getD k 0)])] qf qq qL rfl (by decide) rfl (.cons rfl CellsAre.nil) rfl ?_))))
   intro v2 hv2
   refine cX (jX (u := t.getD k 0) [_] _ qf typeInfo2 rfl rfl rfl rfl rfl rfl (SlV.own [] rfl) (Rd.sl [] rfl rfl) (by (try simp only [List.length_append, List.length_nil, List.length_cons, List.length_singleton, List.length_take, List.length_drop]); omega) ?_)
   intro v3 hs2 hn1
   refine qh (v3) rfl (qc (qd (qb (qg (v3) rfl (cX (qE qf rfl (intsH.slv [_] rfl) (cX (jG rfl rfl (qc ?_)))))))))
   refine qC (p := ((((os ++ [t.getD k 0]).length : Nat) : Int) : Int) > 60) rfl (fun h3 => ?_) (fun h3 => ?_)
   ·refine qd (qb (qh (sN) rfl (qh (.bool (false)) rfl (qc (qw (qD (ql (ql (qD (ql (qr (L' := L) [sN, .bool (false)] (.tuple #[sN, .bool (false)]) (.tmp rfl (.tmp rfl .nil)) rfl le1 rF (sD (sD (sD sR))) ?_)))))))))))
    have hz : fillL s t = none := hm.trans (fillGo_long (a := os ++ [t.getD k 0]) (by omega) (by rw [lk_of_nil (of_decide_eq_true (hr3.symm.trans (by assumption)))]) (by omega))
    exact ⟨_, by rw [hz]; rfl, by rw [hz]; exact IntsF.nilV, by rw [hz]; exact Fresh.ofNil _, rfl⟩
   refine qz (qb (cX (qK (((k + 1 : Nat) : Int)) rfl rfl (by omega) (by omega) (qg (ii (((k + 1 : Nat) : Int))) rfl (qc ?_)))))
   exact ⟨(k + 1, v3, os ++ [t.getD k 0]), _, FLe.refl _, rF, ⟨rfl, rfl, rfl, rfl, rfl, ⟨⟩⟩, (sD (sC (sC sR))), ⟨rfl, (hs2), (by (try dsimp only) <;> omega), (by dsimp only; exact hm.trans (fillGo_next (by omega) (by rw [lk_of_nil (of_decide_eq_true (hr3.symm.trans (by assumption)))]) (by omega))), (by dsimp only; omega)⟩, (by omega)⟩
  refine qb ?_
  have hlb : (lkN s (t.getD k 0)).length ≤ 4000000 := lkN_bound hsb
  refine qg (ov) rfl (qg (x2) rfl (cX (yd [] _ qf typeInfo2 rfl rfl rfl rfl rfl rfl hr2 (by (try simp only [List.length_append, List.length_nil, List.length_cons, List.length_singleton, List.length_take, List.length_drop]); omega) ?_)))
  intro v4 hs3 hn2 hm1
  refine qh (v4) rfl (qc (qd (qb (qg (v4) rfl (cX (qE qf rfl (intsH.slv [] rfl) (cX (jG rfl rfl (qc ?_)))))))))
  refine qC (p := ((((os ++ (lkN s (t.getD k 0))).length : Nat) : Int) : Int) > 60) rfl (fun h4 => ?_) (fun h4 => ?_)
  ·refine qd (qb (qh (sN) rfl (qh (.bool (false)) rfl (qc (qw (qD (ql (ql (qD (ql (qr (L' := L) [sN, .bool (false)] (.tuple #[sN, .bool (false)]) (.tmp rfl (.tmp rfl .nil)) rfl le1 rF (sD (sD sR)) ?_)))))))))))
   have hz : fillL s t = none := hm.trans (fillGo_long (a := os ++ (lkN s (t.getD k 0))) (by omega) (by rw [lk_of_ne (of_decide_eq_false (hr3.symm.trans (by assumption)))]) (by omega))
   exact ⟨_, by rw [hz]; rfl, by rw [hz]; exact IntsF.nilV, by rw [hz]; exact Fresh.ofNil _, rfl⟩
  refine qz (qb (cX (qK (((k + 1 : Nat) : Int)) rfl rfl (by omega) (by omega) (qg (ii (((k + 1 : Nat) : Int))) rfl (qc ?_)))))
  exact ⟨(k + 1, v4, os ++ (lkN s (t.getD k 0))), _, FLe.refl _, rF, ⟨rfl, rfl, rfl, rfl, rfl, ⟨⟩⟩, (sC (sC sR)), ⟨rfl, (hs3), (by (try dsimp only) <;> omega), (by dsimp only; exact hm.trans (fillGo_next (by omega) (by rw [lk_of_ne (of_decide_eq_false (hr3.symm.trans (by assumption)))]) (by omega))), (by dsimp only; omega)⟩, (by omega)⟩
 refine jg (qv (qv (qM (qd (qb (qg (ov) rfl (qh (ov) rfl (qh (.bool (true)) rfl (qc (qY [] _ _ rfl (fun F3 le3 hz1 => ?_)))))))))))
 have hf1 : IntsF F3 ov os := intsH.fz (xs := os) hz1.fz
 refine qw (qr (L' := L) [ov, .bool (true)] (.tuple #[ov, .bool (true)]) (.tmp rfl (.tmp rfl .nil)) rfl (qa le1 le3) rF (sD sR) ?_)
 have hz : fillL s t = some os := hm.trans (fillGo_done (by omega))
 exact ⟨_, by rw [hz]; rfl, by rw [hz]; exact hf1, by rw [hz]; exact (hz1.base le1), rfl⟩

/- spec.l2Gives -/
theorem l2Gives_spec {F : FH} {L : List HP} {sv : Value} {s : List (List Int)} (hs : RowsF F sv s) {i : Nat} (hsl : s.length ≤ 4000000) (hi : i ≤ 4000000) (hsb : (s.getD i []).length ≤ 4000000) :
    Does prog 184 [.agg #[sv], ii ((i : Int))] F (L) (fun v F' L' => F = F' ∧ IsSl v ∧ intsH 2 v (lk s (-1 - (i : Int))) :: L = L') := by
 refine qG func184 rfl rfl rfl (qd (qb (cX (jb [sv] rfl rfl ?_))))
 intro b1
 refine qh (sN) rfl (qc (qd (qd (qb (qg (ii ((i : Int))) rfl (cX (qk (0) jc rfl qW (by decide) rfl rfl (cX (qj jz rfl (Rd.own [] rfl rfl) (cX (qE qF rfl hs.slv (cX (qQ rfl rfl (qg (.bool (decide ((i : Int) < (s.length : Int)))) rfl ?_))))))))))))))
 by_cases h1 : (i : Int) < (s.length : Int)
 ·refine qo (t := 10) rfl (vT h1) (qk (0) jc rfl qW (by decide) rfl rfl (qo (t := 10) rfl (vT h1) (qj jz rfl (Rd.own [] rfl rfl) (qo (t := 10) rfl (vT h1) (qm (ii ((i : Int))) rfl (qo (t := 10) rfl (vT h1) (qt i qF qA rfl rfl rfl hs.slv (by omega) (Nat.mul_one _) ?_)))))))
  obtain ⟨a1, ha1, hr1⟩ := hs.rd (i := i) (by omega)
  refine qo (t := 10) rfl (vT h1) (qj qU rfl (hr1 _) (qo (t := 10) rfl (vT h1) (qE qf rfl ha1.slv (qo (t := 10) rfl (vT h1) (jG rfl rfl (cX (qO (.bool (decide ((((((s.getD i [])).length : Nat) : Int) : Int) > 0))) (vT h1) rfl (qc ?_))))))))
  refine qC (p := (((((s.getD i [])).length : Nat) : Int) : Int) > 0) rfl (fun h2 => ?_) (fun h2 => ?_)
  ·refine qd (qb (cX (qk (0) jc rfl qW (by decide) rfl rfl (cX (qj jz rfl (Rd.own [] rfl rfl) (qg (ii ((i : Int))) rfl (cX (qt i qF qA rfl rfl rfl hs.slv (by omega) (Nat.mul_one _) (cX (qj qU rfl (hr1 _) (cX (qn (args := [a1]) call105 rfl (l1Copy_spec ha1 (hlt := (by first | assumption | rfl | omega | simp))) ?_))))))))))))
   rintro v1 _ _ _ ⟨rfl, hs1, rfl⟩
   refine qh (v1) rfl (qc (qw (ql (qr (L' := intsH 2 v1 ((((s.getD i [])))) :: L) [v1] (v1) (.tmp rfl .nil) rfl rF rF (sC (sD sR)) ?_))))
   refine ⟨rfl, hs1, ?_⟩
   have hxs : (lk s (-1 - (i : Int)) : List Int) = (((s.getD i []))) := lk_copy (by omega)
   exact congrArg (fun z => intsH 2 _ z :: L) hxs
  refine qz (qd (qb (qg (ii ((i : Int))) rfl (cX (je ((-1) - ((i : Int))) rfl rfl (by omega) (by omega) (cX (qs (s := 1) [ii ((-1) - ((i : Int)))] [ii (0)] [(0, [ii ((-1) - ((i : Int)))])] qf qq qL rfl (by decide) rfl (.cons rfl CellsAre.nil) rfl ?_)))))))
  intro v2 hv1
  refine qh (v2) rfl (qc (qw (qr (L' := intsH 2 v2 ([(-1) - ((i : Int))]) :: L) [v2] (v2) (.tmp rfl .nil) rfl rF rF (sC (sD sR)) ?_)))
  refine ⟨rfl, (jo hv1), ?_⟩
  have hxs : (lk s (-1 - (i : Int)) : List Int) = [(-1) - ((i : Int))] := lk_self (by first | omega | (rw [getD_out (by omega)]; simp))
  exact congrArg (fun z => intsH 2 _ z :: L) hxs
 refine qp (t := 10) rfl (vF h1) (qp (t := 10) rfl (vF h1) (qp (t := 10) rfl (vF h1) (qp (t := 10) rfl (vF h1) (qp (t := 10) rfl (vF h1) (qp (t := 10) rfl (vF h1) (qp (t := 10) rfl (vF h1) (cX (qN (.bool (false)) (vF h1) rfl (qc (jO rfl ?_))))))))))
 refine qz (qd (qb (qg (ii ((i : Int))) rfl (cX (je ((-1) - ((i : Int))) rfl rfl (by omega) (by omega) (cX (qs (s := 1) [ii ((-1) - ((i : Int)))] [ii (0)] [(0, [ii ((-1) - ((i : Int)))])] qf qq qL rfl (by decide) rfl (.cons rfl CellsAre.nil) rfl ?_)))))))
 intro v3 hv2
 refine qh (v3) rfl (qc (qw (qr (L' := intsH 2 v3 ([(-1) - ((i : Int))]) :: L) [v3] (v3) (.tmp rfl .nil) rfl rF rF (sC (sD sR)) ?_)))
 refine ⟨rfl, (jo hv2), ?_⟩
 have hxs : (lk s (-1 - (i : Int)) : List Int) = [(-1) - ((i : Int))] := lk_self (by first | omega | (rw [getD_out (by omega)]; simp))
 exact congrArg (fun z => intsH 2 _ z :: L) hxs

/- spec.l2Plain -/
theorem l2Plain_spec {F : FH} {L : List HP} {sv : Value} {s : List (List Int)} (hs : RowsF F sv s) (hsl : s.length ≤ 24) (hsb : ∀ i, (s.getD i []).length ≤ 4000000) :
    Does prog 183 [.agg #[sv]] F (L) (fun v F' L' => ∃ (a : Value), (.agg #[a] : Value) = v ∧ (RowsF F' a (plainL s)) ∧ L = L') := by
 refine qG func183 rfl rfl rfl (qd (qb (cX (jb [sv] rfl rfl ?_))))
 intro b1
 refine cX (jr [sN] jB rfl ?_)
 intro b2
 refine qc (qd (qb (cX (jv [sN] [sN] [(0, 1)] [] jc jB rfl (.cons rfl qW PlacesAre.nil) rfl CellsAre.nil (cX (jr [sN] jB rfl ?_))))))
 intro b3
 refine cX (qV [] _ [sN] jp rfl rfl rfl (qx rfl qX) rfl rfl rfl (qc (qd (qd (qb (qh (ii (0)) rfl (qc (qH (jn (α := Nat × Value × RowL × FH) (fun xQ => [(1, ptr b1 0), (2, ptr b2 0), (3, ptr b3 0), (4, ii (((xQ.1 : Nat) : Int)))]) (fun xQ => rowsH 22 xQ.2.2.2 xQ.2.1 xQ.2.2.1 :: cellsH b3 [xQ.2.1] 137 :: cellsH b2 [sN] 137 :: cellsH b1 [sv] 137 :: L) (fun xQ F' => xQ.2.2.2 = F' ∧ F ≤ xQ.2.2.2 ∧ (IsSl xQ.2.1) ∧ (xQ.2.2.1 = (plainGo 0 s).take xQ.1) ∧ (xQ.1 ≤ s.length)) (fun xQ => s.length - xQ.1) (0, sN, [], F) ⟨rfl, rfl, rfl, rfl, ⟨⟩⟩ (coH.addNil none (sC (sC (sC sR)))) ⟨rfl, FLe.refl _, (⟨_, _, _, rfl⟩), (rfl), (by (try dsimp only) <;> omega)⟩ ?_)))))))))
 rintro ⟨k, ov, os, G1⟩ rE _ _ ⟨rfl, leG, hov, hos, hk⟩
 show X _ _ _ _ (envs [(1, ptr b1 0), (2, ptr b2 0), (3, ptr b3 0), (4, ii ((k : Int)))] rE) _ (rowsH 22 G1 ov os :: cellsH b3 [ov] 137 :: cellsH b2 [sN] 137 :: cellsH b1 [sv] 137 :: L)
 replace leG : F ≤ G1 := leG
 dsimp only at hov hos hk
 have hol : os.length ≤ k := by rw [hos, List.length_take]; omega
 have hsbk := hsb k
 have hlkb : (lk s (-1 - (k : Int))).length ≤ 4000000 := by rw [lk_var]; split <;> simp; exact hsbk
 have leG1 := leG
 replace hs := hs.mono leG1
 refine X.open [] rfl (fun cs1 hc1 => ?_)
 replace hc1 : RowsC G1 cs1 os := hc1
 refine qd (qd (qb (qg (ii ((k : Int))) rfl (cX (qk (0) jc rfl qW (by decide) rfl rfl (cX (qj jz rfl (Rd.own [_, _, _] rfl rfl) (cX (qE qF rfl hs.slv (cX (qQ rfl rfl (qc ?_))))))))))))
 refine qC (p := (k : Int) < (s.length : Int)) rfl (fun h1 => ?_) (fun h1 => ?_)
 ·refine qz (qd (qH (qd (qb (cX (qu [sv] jQ jp rfl rfl (Rd.ownN [_, _, _] rfl rfl) (qg (ii ((k : Int))) rfl (cX (jD <| qn (args := [.agg #[sv], ii (k : Int)]) call184 rfl (l2Gives_spec (i := k) hs (hsl := (by first | assumption | rfl | omega | simp)) (hi := (by first | assumption | rfl | omega | simp)) (hsb := (hsb k))) ?_)))))))))
  rintro v1 _ _ _ ⟨rfl, hs1, rfl⟩
  refine ⟨_, _, rfl, fun F1 le1 hz1 => ?_⟩
  replace hc1 := hc1.mono le1
  have hf1 : IntsF F1 v1 ((lk s (-1 - (k : Int)))) := intsH.fz (xs := (lk s (-1 - (k : Int)))) hz1.fz
  refine qh (v1) rfl (qc (qd (qd (qb (qg (v1) rfl (cX (qE qf rfl hf1.slv (cX (ju rfl rfl (qg (.bool (decide ((((((lk s (-1 - (k : Int)))).length : Nat) : Int) : Int) = 1))) rfl ?_))))))))))
  by_cases h2 : (((((lk s (-1 - (k : Int)))).length : Nat) : Int) : Int) = 1
  ·refine qo (t := 20) rfl (vT h2) (qm (v1) rfl (qo (t := 20) rfl (vT h2) (qt 0 qf qq rfl rfl rfl hf1.slv (by omega) (Nat.mul_one _) (qo (t := 20) rfl (vT h2) (qj qP rfl (hf1.rd (by omega)) (qo (t := 20) rfl (vT h2) (qm (ii ((k : Int))) rfl (qo (t := 20) rfl (vT h2) (je ((-1) - ((k : Int))) rfl rfl (by omega) (by omega) (qo (t := 20) rfl (vT h2) (ju rfl rfl (cX (qO (.bool (decide ((((lk s (-1 - (k : Int)))).getD 0 0 : Int) = (-1) - ((k : Int))))) (vT h2) rfl (qc ?_))))))))))))))
   refine qC (p := (((lk s (-1 - (k : Int)))).getD 0 0 : Int) = (-1) - ((k : Int))) rfl (fun h3 => ?_) (fun h3 => ?_)
   ·refine qb (cX (qs (s := 1) [] [ii (0)] [] qf qq qL rfl (by decide) rfl CellsAre.nil rfl ?_))
    intro v2 hv1
    refine qh (v2) rfl (qc (qb (cX (qk (0) jc rfl qW (by decide) rfl rfl (cX (qj jz rfl (Rd.own [_, _] rfl rfl) (qg (v2) rfl (cX (qs (s := 1) [v2] [sN] [(0, [v2])] qF qA jI rfl (by decide) rfl (.cons (cells_one (jo hv1)) CellsAre.nil) rfl ?_)))))))))
    intro v3 hv2
    show XL _ _ _ _ _ _ _ (slH 22 1 v3 1 [v2] :: intsH 2 v2 ([] : List Int) :: slH 22 1 ov ((os).length) cs1 :: cellsH b3 [ov] 137 :: cellsH b2 [sN] 137 :: cellsH b1 [sv] 137 :: L)
    refine ja [_] _ _ rfl (fun F2 le2 hz2 => ?_)
    replace hc1 := hc1.mono le2
    replace hf1 := hf1.mono le2
    have hf2 : IntsF F2 v2 ([]) := intsH.fz (xs := []) hz2.fz
    refine cX (jT (m := 1) (bytes := 24) (cs := cs1) [_] _ [v2] qF typeInfo22 rfl rfl rfl rfl rfl rfl rfl (SlV.own [] rfl) rfl (Rd.lit [] rfl) (qx (qI (qB hf2)) qX) (by (try simp only [List.length_append, List.length_nil, List.length_cons, List.length_singleton]); omega) (by (try simp only [List.length_append, List.length_nil, List.length_cons, List.length_singleton]); omega) ?_)
    intro v4 hs2 hn1 hm1
    have hc2 := RowsC.snoc hc1 hf2
    refine cX (qk (0) jc rfl qW (by decide) rfl rfl (cX (jw [_, _] _ [v4] qW rfl rfl (qI hs2) rfl rfl rfl (qc (qb (qg (ii ((k : Int))) rfl (cX (qK (((k + 1 : Nat) : Int)) rfl rfl (by omega) (by omega) (qh (ii (((k + 1 : Nat) : Int))) rfl (qc ?_))))))))))
    exact ⟨(k + 1, v4, os ++ [[]], F2), _, (qa (qa leG1 le1) le2), rF, ⟨rfl, rfl, rfl, rfl, ⟨⟩⟩, (sD (coH.close hc2 (by first | rfl | simp) (sC (sC (sC sR))))), ⟨rfl, (qa (qa leG1 le1) le2), (hs2), (by dsimp only; rw [hos, plainGo_take (by omega), plainGo_self (one_eq (by omega) (by omega))]), (by (try dsimp only) <;> omega)⟩, (by omega)⟩
   refine qz (qb (cX (qk (0) jc rfl qW (by decide) rfl rfl (cX (qj jz rfl (Rd.own [_] rfl rfl) (qg (v1) rfl (cX (qs (s := 1) [v1] [sN] [(0, [v1])] qF qA jI rfl (by decide) rfl (.cons (cells_one (qB hf1)) CellsAre.nil) rfl ?_))))))))
   intro v5 hv3
   refine cX (jT (m := 1) (bytes := 24) (cs := cs1) [_] _ [v1] qF typeInfo22 rfl rfl rfl rfl rfl rfl rfl (SlV.own [] rfl) rfl (Rd.lit [] rfl) (qx (qI (qB hf1)) qX) (by (try simp only [List.length_append, List.length_nil, List.length_cons, List.length_singleton]); omega) (by (try simp only [List.length_append, List.length_nil, List.length_cons, List.length_singleton]); omega) ?_)
   intro v6 hs3 hn2 hm2
   have hc3 := RowsC.snoc hc1 hf1
   refine cX (qk (0) jc rfl qW (by decide) rfl rfl (cX (jw [_, _] _ [v6] qW rfl rfl (qI hs3) rfl rfl rfl (qc (qb (qg (ii ((k : Int))) rfl (cX (qK (((k + 1 : Nat) : Int)) rfl rfl (by omega) (by omega) (qh (ii (((k + 1 : Nat) : Int))) rfl (qc ?_))))))))))
   exact ⟨(k + 1, v6, os ++ [(lk s (-1 - (k : Int)))], F1), _, (qa leG1 le1), rF, ⟨rfl, rfl, rfl, rfl, ⟨⟩⟩, (sD (coH.close hc3 (by first | rfl | simp) (sC (sC (sC sR))))), ⟨rfl, (qa leG1 le1), (hs3), (by dsimp only; rw [hos, plainGo_take (by omega), plainGo_other (by intro e; have e1 := congrArg List.length e; have e2 := congrArg (fun l => l.getD 0 0) e; simp only [List.length_singleton, List.getD_cons_zero] at e1 e2; omega)]), (by (try dsimp only) <;> omega)⟩, (by omega)⟩
  refine qp (t := 20) rfl (vF h2) (qp (t := 20) rfl (vF h2) (qp (t := 20) rfl (vF h2) (qp (t := 20) rfl (vF h2) (qp (t := 20) rfl (vF h2) (qp (t := 20) rfl (vF h2) (cX (qN (.bool (false)) (vF h2) rfl (qc (jO rfl (qz (qb ?_)))))))))))
  refine cX (qk (0) jc rfl qW (by decide) rfl rfl (cX (qj jz rfl (Rd.own [_] rfl rfl) (qg (v1) rfl (cX (qs (s := 1) [v1] [sN] [(0, [v1])] qF qA jI rfl (by decide) rfl (.cons (cells_one (qB hf1)) CellsAre.nil) rfl ?_))))))
  intro v7 hv4
  refine cX (jT (m := 1) (bytes := 24) (cs := cs1) [_] _ [v1] qF typeInfo22 rfl rfl rfl rfl rfl rfl rfl (SlV.own [] rfl) rfl (Rd.lit [] rfl) (qx (qI (qB hf1)) qX) (by (try simp only [List.length_append, List.length_nil, List.length_cons, List.length_singleton]); omega) (by (try simp only [List.length_append, List.length_nil, List.length_cons, List.length_singleton]); omega) ?_)
  intro v8 hs4 hn3 hm3
  have hc4 := RowsC.snoc hc1 hf1
  refine cX (qk (0) jc rfl qW (by decide) rfl rfl (cX (jw [_, _] _ [v8] qW rfl rfl (qI hs4) rfl rfl rfl (qc (qb (qg (ii ((k : Int))) rfl (cX (qK (((k + 1 : Nat) : Int)) rfl rfl (by omega) (by omega) (qh (ii (((k + 1 : Nat) : Int))) rfl (qc ?_))))))))))
  exact ⟨(k + 1, v8, os ++ [(lk s (-1 - (k : Int)))], F1), _, (qa leG1 le1), rF, ⟨rfl, rfl, rfl, rfl, ⟨⟩⟩, (sD (coH.close hc4 (by first | rfl | simp) (sC (sC (sC sR))))), ⟨rfl, (qa leG1 le1), (hs4), (by dsimp only; rw [hos, plainGo_take (by omega), plainGo_other (by intro e; have e1 := congrArg List.length e; have e2 := congrArg (fun l => l.getD 0 0) e; simp only [List.length_singleton, List.getD_cons_zero] at e1 e2; omega)]), (by (try dsimp only) <;> omega)⟩, (by omega)⟩
 refine jg (qv (qv (qM (qd (qH (jn (α := Value × RowL × FH) (fun xQ => [(2, ptr b2 0), (3, ptr b3 0)]) (fun xQ => rowsH 22 xQ.2.2 xQ.1 xQ.2.1 :: cellsH b3 [xQ.1] 137 :: cellsH b2 [sN] 137 :: cellsH b1 [sv] 137 :: L) (fun xQ F' => xQ.2.2 = F' ∧ G1 ≤ xQ.2.2 ∧ (IsSl xQ.1) ∧ (trim xQ.2.1 = plainL s) ∧ (xQ.2.1.length ≤ 24)) (fun xQ => xQ.2.1.length) (ov, os, G1) ⟨rfl, rfl, ⟨⟩⟩ (coH.close hc1 (by first | rfl | simp) (sC (sC (sC sR)))) ⟨rfl, FLe.refl _, (hov), (by dsimp only; rw [hos, plainL, List.take_of_length_le (by rw [plainGo_length]; omega)]), (by dsimp only; rw [hos, List.length_take, plainGo_length]; omega)⟩ ?_))))))
 rintro ⟨ov2, os2, G2⟩ rE _ _ ⟨rfl, leG, hov2, hos2, hl2⟩
 show X _ _ _ _ (envs [(2, ptr b2 0), (3, ptr b3 0)] rE) _ (rowsH 22 G2 ov2 os2 :: cellsH b3 [ov2] 137 :: cellsH b2 [sN] 137 :: cellsH b1 [sv] 137 :: L)
 replace leG : G1 ≤ G2 := leG
 dsimp only at hov2 hos2 hl2
 have leG2 := leG
 refine X.open [] rfl (fun cs2 hc5 => ?_)
 replace hc5 : RowsC G2 cs2 os2 := hc5
 refine qd (qd (qb (cX (qk (0) jc rfl qW (by decide) rfl rfl (cX (qj jz rfl (Rd.own [_] rfl rfl) (cX (qE qF rfl (SlV.own [] rfl) (cX (jG rfl rfl (qg (.bool (decide (((os2.length : Int) : Int) > 0))) rfl ?_)))))))))))
 by_cases h4 : ((os2.length : Int) : Int) > 0
 ·refine qo (t := 39) rfl (vT h4) (qk (0) jc rfl qW (by decide) rfl rfl (qo (t := 39) rfl (vT h4) (qj jz rfl (Rd.own [_] rfl rfl) (qo (t := 39) rfl (vT h4) (qk (0) jc rfl qW (by decide) rfl rfl (qo (t := 39) rfl (vT h4) (qj jz rfl (Rd.own [_] rfl rfl) (qo (t := 39) rfl (vT h4) (qE qF rfl (SlV.own [] rfl) (qo (t := 39) rfl (vT h4) (je (((os2.length - 1 : Nat) : Int)) rfl rfl (by omega) (by omega) (qo (t := 39) rfl (vT h4) (qt (os2.length - 1) qF qA rfl rfl rfl (SlV.own [] rfl) (by omega) (Nat.mul_one _) ?_)))))))))))))
  obtain ⟨a1, ha1, he1⟩ := hc5.get (i := os2.length - 1) (by omega)
  refine qo (t := 39) rfl (vT h4) (qj qU rfl (Rd.sl [] rfl he1) (qo (t := 39) rfl (vT h4) (qE qf rfl ha1.slv (qo (t := 39) rfl (vT h4) (ju rfl rfl (cX (qO (.bool (decide ((((((os2.getD (os2.length - 1) [])).length : Nat) : Int) : Int) = 0))) (vT h4) rfl (qc ?_))))))))
  refine qC (p := (((((os2.getD (os2.length - 1) [])).length : Nat) : Int) : Int) = 0) rfl (fun h5 => ?_) (fun h5 => ?_)
  ·refine qz (qH (qb (cX (qk (0) jc rfl qW (by decide) rfl rfl (cX (qj jz rfl (Rd.own [_] rfl rfl) (cX (qk (0) jc rfl qW (by decide) rfl rfl (cX (qj jz rfl (Rd.own [_] rfl rfl) (cX (qE qF rfl (SlV.own [] rfl) (cX (je (((os2.length - 1 : Nat) : Int)) rfl rfl (by omega) (by omega) (cX (XOp.sliceOwn (cs := cs2) [] _ (os2.length - 1) qF qA rfl rfl ⟨_, rfl⟩ (by omega) ?_))))))))))))))))
   intro v9 hs5
   have hc6 : RowsC G2 _ _ := CO.take hc5 (k := os2.length - 1) (by omega)
   refine cX (qk (0) jc rfl qW (by decide) rfl rfl (cX (jw [_] _ [v9] qW rfl rfl (qI hs5) rfl rfl rfl (qc ?_))))
   exact ⟨(v9, (os2.take (os2.length - 1)), G2), _, leG2, rF, ⟨rfl, rfl, ⟨⟩⟩, (coH.close hc6 (by first | rfl | simp) (sC (sC (sC sR)))), ⟨rfl, leG2, (hs5), (by dsimp only; rw [trim_cut (by omega) (List.eq_nil_of_length_eq_zero (by omega))]; exact hos2), (by dsimp only; rw [List.length_take]; omega)⟩, (by dsimp only; rw [List.length_take]; omega)⟩
  refine jg (qv (qv (qM (qd (qb (cX (qu [ov2] jQ jp rfl rfl (Rd.ownN [_] rfl rfl) (cX (qV [_, _] _ [ov2] jp rfl rfl rfl (qx (qI hov2) qX) rfl rfl rfl (qc (qY [] _ _ rfl (fun F3 le3 hz3 => ?_))))))))))))
  replace hc5 := hc5.mono le3
  have hf3 : RowsF F3 ov2 os2 := CO.fz hc5 (by first | rfl | omega | (rw [List.length_set]; omega) | (simp; done)) hz3.fz
  refine qw (qr (L' := L) [.agg #[ov2]] (.agg #[ov2]) (.cell rfl (jH [ov2] jQ jp rfl (Rd.ownN [_] rfl rfl)) .nil) rfl (qa (qa leG1 leG2) le3) rF (sD (sD (sD sR))) ?_)
  have e : os2 = plainL s := by rw [← hos2]; exact (trim_last (fun h0 e => by have := congrArg List.length e; simp only [List.length_nil] at this; omega)).symm
  exact ⟨_, rfl, by rw [← e]; exact hf3, rfl⟩
 refine qp (t := 39) rfl (vF h4) (qp (t := 39) rfl (vF h4) (qp (t := 39) rfl (vF h4) (qp (t := 39) rfl (vF h4) (qp (t := 39) rfl (vF h4) (qp (t := 39) rfl (vF h4) (qp (t := 39) rfl (vF h4) (qp (t := 39) rfl (vF h4) (qp (t := 39) rfl (vF h4) (qp (t := 39) rfl (vF h4) ?_)))))))))
 refine cX (qN (.bool (false)) (vF h4) rfl (qc (jO rfl (jg (qv (qv (qM (qd (qb (cX (qu [ov2] jQ jp rfl rfl (Rd.ownN [_] rfl rfl) (cX (qV [_, _] _ [ov2] jp rfl rfl rfl (qx (qI hov2) qX) rfl rfl rfl (qc (qY [] _ _ rfl (fun F4 le4 hz4 => ?_))))))))))))))))
 replace hc5 := hc5.mono le4
 have hf4 : RowsF F4 ov2 os2 := CO.fz hc5 (by first | rfl | omega | (rw [List.length_set]; omega) | (simp; done)) hz4.fz
 refine qw (qr (L' := L) [.agg #[ov2]] (.agg #[ov2]) (.cell rfl (jH [ov2] jQ jp rfl (Rd.ownN [_] rfl rfl)) .nil) rfl (qa (qa leG1 leG2) le4) rF (sD (sD (sD sR))) ?_)
 have e : os2 = plainL s := by rw [← hos2]; exact (trim_last (fun h0 e => by have := congrArg List.length e; simp only [List.length_nil] at this; omega)).symm
 exact ⟨_, rfl, by rw [← e]; exact hf4, rfl⟩

/- spec.l4Match -/
theorem l4Match_spec {F : FH} {L : List HP} {arv : Value} {ar : List Int} (har : IntsF F arv ar) {pv : Value} {p : List Int} (hp : IntsF F pv p) {tv : Value} {t : List Int} (ht : IntsF F tv t) (ho : termOk ar t = true) (hpo : termOk ar p = true) :
    Does prog 216 [.agg #[arv], pv, tv] F (L) (fun v F' L' => ∃ (a : Value), (.tuple #[.agg #[a], .bool ((matchB ar p t).isSome)] : Value) = v ∧ (RowsF F' a (matchP ar p t)) ∧ L = L') := by
 refine qG func216 rfl rfl rfl ?_
 have hpl := termOk_len hpo
 have hpg := fun k (hk : k < p.length) => termOk_ge hpo hk
 have htl := termOk_len ho
 have hsl := sigOk_spec (termOk_sig ho)
 refine qd (qb (cX (jb [arv] rfl rfl ?_)))
 intro b1
 refine cX (jr [sN] jB rfl ?_)
 intro b2
 refine qh (.bool (false)) rfl (qc (qd (qb (cX (XOp.makeSlice (n := 24) (bytes := 24) [sN] qF qA typeInfo22 rfl jI rfl rfl rfl rfl (by omega) (by omega) ?_)))))
 intro v1 hv1
 rw [nils]
 have hc1 : RowsC F _ _ := RowsC.nils 24
 refine cX (jv [v1] [sN] [(0, 1)] [(0, [v1])] jc jB rfl (.cons rfl qW PlacesAre.nil) rfl (.cons (cells_one (jo hv1)) CellsAre.nil) (cX (jr [sN] jB rfl ?_)))
 intro b3
 refine cX (qV [] _ [v1] jp rfl rfl rfl (qx (qI (jo hv1)) qX) rfl rfl rfl (qc (qd (qb (qh (ii (0)) rfl (qc (qd (qd (qb (qh (ii (0)) rfl (qc (qH (jn (α := Nat × Nat × RowL × FH) (fun xQ => [(1, pv), (2, tv), (3, ptr b1 0), (6, ptr b2 0), (8, ptr b3 0), (9, ii (((xQ.2.1 : Nat) : Int))), (10, ii (((xQ.1 : Nat) : Int)))]) (fun xQ => cellsH b3 [v1] 137 :: rowsH 22 xQ.2.2.2 v1 xQ.2.2.1 :: cellsH b2 [sN] 137 :: cellsH b1 [arv] 36 :: L) (fun xQ F' => xQ.2.2.2 = F' ∧ F ≤ xQ.2.2.2 ∧ (xQ.2.2.1.length = 24) ∧ (xQ.1 ≤ p.length) ∧ (xQ.2.1 ≤ t.length) ∧ (matchB ar p t = mGo ar t (p.drop xQ.1) xQ.2.1 xQ.2.2.1)) (fun xQ => p.length - xQ.1) (0, 0, (List.replicate 24 [] : List (List Int)), F) ⟨rfl, rfl, rfl, rfl, rfl, rfl, rfl, ⟨⟩⟩ (sC (coH.close hc1 (by first | rfl | simp) (sC (sC sR)))) ⟨rfl, FLe.refl _, (by simp), (by (try dsimp only) <;> omega), (by (try dsimp only) <;> omega), (rfl)⟩ ?_)))))))))))))
 rintro ⟨k, i, bl, G1⟩ rE _ _ ⟨rfl, leG, hbl, hk, hi, hm⟩
 show X _ _ _ _ (envs [(1, pv), (2, tv), (3, ptr b1 0), (6, ptr b2 0), (8, ptr b3 0), (9, ii ((i : Int))), (10, ii ((k : Int)))] rE) _ (cellsH b3 [v1] 137 :: rowsH 22 G1 v1 bl :: cellsH b2 [sN] 137 :: cellsH b1 [arv] 36 :: L)
 replace leG : F ≤ G1 := leG
 dsimp only at hbl hk hi hm
 have hpk := hpg k
 have hsl2 := fun h => sub_length (p := i) ho h
 have hee := fun h => endN_spec (p := i) ho h
 have leG1 := leG
 replace har := har.mono leG1
 replace hp := hp.mono leG1
 replace ht := ht.mono leG1
 refine X.open [_] rfl (fun cs1 hc2 => ?_)
 replace hc2 : RowsC G1 cs1 bl := hc2
 refine qd (qd (qb (qg (ii ((k : Int))) rfl (qg (pv) rfl (cX (qE qf rfl hp.slv (cX (qQ rfl rfl (qc ?_)))))))))
 refine qC (p := (k : Int) < (p.length : Int)) rfl (fun h1 => ?_) (fun h1 => ?_)
 ·refine qz (qd (qH (qd (qd (qb (qg (ii ((i : Int))) rfl (qg (tv) rfl (cX (qE qf rfl ht.slv (cX (jP rfl rfl (qc ?_))))))))))))
  refine qC (p := (i : Int) ≥ (t.length : Int)) rfl (fun h2 => ?_) (fun h2 => ?_)
  ·refine qd (qb (cX (jv [sN] [sN] [(0, 1)] [] jc jB rfl (.cons rfl qW PlacesAre.nil) rfl CellsAre.nil (cX (qV [_, _] _ [sN] jp rfl rfl rfl (qx rfl qX) rfl rfl rfl (qh (.bool (false)) rfl (qc (qw (ql (qD (ql (ql (qD (ql (qr (L' := L) [.agg #[sN], .bool (false)] (.tuple #[.agg #[sN], .bool (false)]) (.cell rfl (jH [sN] jQ jp rfl (Rd.ownN [_, _] rfl rfl)) (.tmp rfl .nil)) rfl leG1 rF (sD (sD (sD (sD sR)))) ?_)))))))))))))))
   have hz : matchB ar p t = none := hm.trans (mGo_short (by omega) (by omega))
   exact ⟨_, by rw [hz]; rfl, by rw [matchP, hz]; exact SlOf.nilV, rfl⟩
  refine qz (qd (qd (qb (qg (pv) rfl (qg (ii ((k : Int))) rfl (cX (qt k qf qq rfl rfl rfl hp.slv (by omega) (Nat.mul_one _) (cX (qj qP rfl (hp.rd (by omega)) (cX (jP rfl rfl (qc ?_))))))))))))
  refine qC (p := (p.getD k 0 : Int) ≥ 0) rfl (fun h3 => ?_) (fun h3 => ?_)
  ·refine qd (qd ?_)
   refine jx [cellsH b3 [v1] 137, slH 22 1 v1 ((bl).length) cs1, cellsH b2 [sN] 137, cellsH b1 [arv] 36] L 8 [] [[], [], [0, 1], [2], [], [], [4, 5], [6]] (phiL [qe pv, qe (ii ((k : Int)) : Value), qe (.pointer (some (elemA pv (k)))), qe (ii (p.getD k 0)), qe tv, qe (ii ((i : Int)) : Value), qe (.pointer (some (elemA tv (i)))), qe (ii (t.getD i 0))]) (ownL []) mixed rfl rfl (by kernel_rfl) ?_ ?_
   ·refine pD (fun W R z9 => ?_) ?_
    ·refine qi (qm (pv) rfl ?_)
     exact ⟨rfl, rfl, rfl⟩
    refine pD (fun W R z9 => ?_) ?_
    ·refine qi (qm (ii ((k : Int))) rfl ?_)
     exact ⟨rfl, rfl, rfl⟩
    refine pD (fun W R z9 => ?_) ?_
    ·rw [zB 0 1 (z9 0 rfl) (z9 1 rfl)]
     refine qi (qt k qf qq rfl rfl rfl hp.slv (by omega) (Nat.mul_one _) ?_)
     exact ⟨rfl, rfl, rfl⟩
    refine pD (fun W R z9 => ?_) ?_
    ·rw [zA 2 (z9 2 rfl)]
     refine qi (qj qP rfl (hp.rd (by omega)) ?_)
     exact ⟨rfl, rfl, rfl⟩
    refine pD (fun W R z9 => ?_) ?_
    ·refine qi (qm (tv) rfl ?_)
     exact ⟨rfl, rfl, rfl⟩
    refine pD (fun W R z9 => ?_) ?_
    ·refine qi (qm (ii ((i : Int))) rfl ?_)
     exact ⟨rfl, rfl, rfl⟩
    refine pD (fun W R z9 => ?_) ?_
    ·rw [zB 4 5 (z9 4 rfl) (z9 5 rfl)]
     refine qi (qt i qf qq rfl rfl rfl ht.slv (by omega) (Nat.mul_one _) ?_)
     exact ⟨rfl, rfl, rfl⟩
    refine pD (fun W R z9 => ?_) ?_
    ·rw [zA 6 (z9 6 rfl)]
     refine qi (qj qP rfl (ht.rd (by omega)) ?_)
     exact ⟨rfl, rfl, rfl⟩
    exact stepsP.nil
   intro W hphi
   rw [zB 3 7 (hphi 3 (by decide)) (hphi 7 (by decide))]
   show XL _ _ _ _ _ _ _ (cellsH b3 [v1] 137 :: slH 22 1 v1 ((bl).length) cs1 :: cellsH b2 [sN] 137 :: cellsH b1 [arv] 36 :: L)
   refine cX (XOp.neq rfl rfl (qc ?_))
   refine qC (p := (p.getD k 0 : Int) ≠ t.getD i 0) rfl (fun h4 => ?_) (fun h4 => ?_)
   ·refine qd (qb (cX (jv [sN] [sN] [(0, 1)] [] jc jB rfl (.cons rfl qW PlacesAre.nil) rfl CellsAre.nil (cX (qV [_, _] _ [sN] jp rfl rfl rfl (qx rfl qX) rfl rfl rfl (qh (.bool (false)) rfl (qc (qw (ql (ql (qD (ql (ql (qD (ql (qr (L' := L) [.agg #[sN], .bool (false)] (.tuple #[.agg #[sN], .bool (false)]) (.cell rfl (jH [sN] jQ jp rfl (Rd.ownN [_, _] rfl rfl)) (.tmp rfl .nil)) rfl leG1 rF (sD (sD (sD (sD sR)))) ?_))))))))))))))))
    have hz : matchB ar p t = none := hm.trans (mGo_ne (by omega) (by omega) (by omega) (by omega))
    exact ⟨_, by rw [hz]; rfl, by rw [matchP, hz]; exact SlOf.nilV, rfl⟩
   refine qz (qd (qb (qg (ii ((i : Int))) rfl (cX (qK (((i + 1 : Nat) : Int)) rfl rfl (by omega) (by omega) (qh (ii (((i + 1 : Nat) : Int))) rfl (qc (jg (qv (qM (qb (qg (ii ((k : Int))) rfl (cX (qK (((k + 1 : Nat) : Int)) rfl rfl (by omega) (by omega) (qh (ii (((k + 1 : Nat) : Int))) rfl ?_)))))))))))))))
   refine qc ?_
   exact ⟨(k + 1, i + 1, bl, G1), _, leG1, rF, ⟨rfl, rfl, rfl, rfl, rfl, rfl, rfl, ⟨⟩⟩, (sC (coH.close hc2 (by first | rfl | simp) (sC (sC sR)))), ⟨rfl, leG1, (by (try dsimp only); (try simp only [List.length_set]) <;> omega), (by (try dsimp only) <;> omega), (by (try dsimp only) <;> omega), (hm.trans (mGo_sym (by omega) (by omega) (by omega) (by omega)))⟩, (by omega)⟩
  refine qz (qd (qb (cX (qu [arv] jf qJ rfl rfl (Rd.ownN [_, _, _] rfl rfl) (qg (tv) rfl (qg (ii ((i : Int))) rfl (cX (jD <| qn (args := [.agg #[arv], tv, ii (i : Int)]) call150 rfl (l1Sub_spec (p := i) har ht (ho := (by first | assumption | rfl | omega | simp)) (hp := (by first | assumption | rfl | omega | simp))) ?_))))))))
  rintro v2 _ _ _ ⟨rfl, hs1, rfl⟩
  refine ⟨_, _, rfl, fun F1 le1 hz1 => ?_⟩
  replace hp := hp.mono le1
  replace hc2 := hc2.mono le1
  have hf1 : IntsF F1 v2 ((sub ar t i)) := intsH.fz (xs := (sub ar t i)) hz1.fz
  refine qh (v2) rfl (qc (qd ?_))
  refine jx [cellsH b3 [v1] 137, slH 22 1 v1 ((bl).length) cs1, cellsH b2 [sN] 137, cellsH b1 [arv] 36] L 7 [] [[], [0], [], [], [2, 3], [4], [5]] (phiL [qe (ptr b3 0), qe v1, qe pv, qe (ii ((k : Int)) : Value), qe (.pointer (some (elemA pv (k)))), qe (ii (p.getD k 0)), qe (ii ((-1) - (p.getD k 0)))]) (ownL []) mixed rfl rfl (by kernel_rfl) ?_ ?_
  ·refine pD (fun W R z9 => ?_) ?_
   ·refine qi (qk (0) jc rfl qW (by decide) rfl rfl ?_)
    exact ⟨rfl, rfl, rfl⟩
   refine pD (fun W R z9 => ?_) ?_
   ·rw [zA 0 (z9 0 rfl)]
    refine qi (qj jz rfl (Rd.own [] rfl rfl) ?_)
    exact ⟨rfl, rfl, rfl⟩
   refine pD (fun W R z9 => ?_) ?_
   ·refine qi (qm (pv) rfl ?_)
    exact ⟨rfl, rfl, rfl⟩
   refine pD (fun W R z9 => ?_) ?_
   ·refine qi (qm (ii ((k : Int))) rfl ?_)
    exact ⟨rfl, rfl, rfl⟩
   refine pD (fun W R z9 => ?_) ?_
   ·rw [zB 2 3 (z9 2 rfl) (z9 3 rfl)]
    refine qi (qt k qf qq rfl rfl rfl hp.slv (by omega) (Nat.mul_one _) ?_)
    exact ⟨rfl, rfl, rfl⟩
   refine pD (fun W R z9 => ?_) ?_
   ·rw [zA 4 (z9 4 rfl)]
    refine qi (qj qP rfl (hp.rd (by omega)) ?_)
    exact ⟨rfl, rfl, rfl⟩
   refine pD (fun W R z9 => ?_) ?_
   ·rw [zA 5 (z9 5 rfl)]
    refine qi (je ((-1) - (p.getD k 0)) rfl rfl (by omega) (by omega) ?_)
    exact ⟨rfl, rfl, rfl⟩
   exact stepsP.nil
  intro W hphi
  rw [zB 1 6 (hphi 1 (by decide)) (hphi 6 (by decide))]
  show XL _ _ _ _ _ _ _ (cellsH b3 [v1] 137 :: slH 22 1 v1 ((bl).length) cs1 :: cellsH b2 [sN] 137 :: cellsH b1 [arv] 36 :: L)
  refine cX (qt (((-1) - (p.getD k 0)).toNat) qF qA rfl rfl (by omega) (SlV.own [_] rfl) (by omega) (Nat.mul_one _) ?_)
  obtain ⟨a1, ha1, he1⟩ := hc2.get (i := ((-1) - (p.getD k 0)).toNat) (by omega)
  refine cX (qj qU rfl (Rd.sl [_] rfl he1) (qh (a1) rfl (qc (qd (qd (qb (qg (a1) rfl (cX (qE qf rfl ha1.slv (cX (jG rfl rfl (qg (.bool (decide ((((((bl.getD (((-1) - (p.getD k 0)).toNat) [])).length : Nat) : Int) : Int) > 0))) rfl ?_))))))))))))
  by_cases h5 : (((((bl.getD (((-1) - (p.getD k 0)).toNat) [])).length : Nat) : Int) : Int) > 0
  ·refine qo (t := 59) rfl (vT h5) (qm (a1) rfl (qo (t := 59) rfl (vT h5) (qm (v2) rfl (qo (t := 59) rfl (vT h5) (qn (args := [a1, v2]) call32 rfl (SameTerm_spec ha1 hf1 (hbd := (by first | assumption | rfl | omega | (left; simp; done) | (right; simp; done)))) ?_)))))
   rintro _ _ _ _ ⟨rfl, rfl, rfl⟩
   refine qo (t := 59) rfl (vT h5) (jY rfl (cX (qO (.bool (decide (¬(((bl.getD (((-1) - (p.getD k 0)).toNat) [])) = ((sub ar t i)))))) (vT h5) rfl (qc ?_))))
   refine qC (p := ¬(((bl.getD (((-1) - (p.getD k 0)).toNat) [])) = ((sub ar t i)))) rfl (fun h6 => ?_) (fun h6 => ?_)
   ·refine qd (qb (cX (jv [sN] [sN] [(0, 1)] [] jc jB rfl (.cons rfl qW PlacesAre.nil) rfl CellsAre.nil (cX (qV [_, _] _ [sN] jp rfl rfl rfl (qx rfl qX) rfl rfl rfl (qh (.bool (false)) rfl (qc (qw (ql (qD (ql (ql (qD (ql (qr (L' := L) [.agg #[sN], .bool (false)] (.tuple #[.agg #[sN], .bool (false)]) (.cell rfl (jH [sN] jQ jp rfl (Rd.ownN [_, _] rfl rfl)) (.tmp rfl .nil)) rfl (qa leG1 le1) rF (sD (sD (sD (sD sR)))) ?_)))))))))))))))
    have hz : matchB ar p t = none := hm.trans (mGo_clash (by omega) (by omega) (by omega) (by intro e; have := congrArg List.length (show bl.getD (-1 - p.getD k 0).toNat [] = [] from e); simp only [List.length_nil] at this; omega) (by assumption))
    exact ⟨_, by rw [hz]; rfl, by rw [matchP, hz]; exact SlOf.nilV, rfl⟩
   refine qz (qd ?_)
   refine jx [cellsH b3 [v1] 137, slH 22 1 v1 ((bl).length) cs1, cellsH b2 [sN] 137, cellsH b1 [arv] 36] L 8 [] [[], [0], [], [], [2, 3], [4], [5]] (phiL [qe (ptr b3 0), qe v1, qe pv, qe (ii ((k : Int)) : Value), qe (.pointer (some (elemA pv (k)))), qe (ii (p.getD k 0)), qe (ii ((-1) - (p.getD k 0))), qe v2]) (ownL []) mixed rfl rfl (by kernel_rfl) ?_ ?_
   ·refine pD (fun W R z9 => ?_) ?_
    ·refine qi (qk (0) jc rfl qW (by decide) rfl rfl ?_)
     exact ⟨rfl, rfl, rfl⟩
    refine pD (fun W R z9 => ?_) ?_
    ·rw [zA 0 (z9 0 rfl)]
     refine qi (qj jz rfl (Rd.own [] rfl rfl) ?_)
     exact ⟨rfl, rfl, rfl⟩
    refine pD (fun W R z9 => ?_) ?_
    ·refine qi (qm (pv) rfl ?_)
     exact ⟨rfl, rfl, rfl⟩
    refine pD (fun W R z9 => ?_) ?_
    ·refine qi (qm (ii ((k : Int))) rfl ?_)
     exact ⟨rfl, rfl, rfl⟩
    refine pD (fun W R z9 => ?_) ?_
    ·rw [zB 2 3 (z9 2 rfl) (z9 3 rfl)]
     refine qi (qt k qf qq rfl rfl rfl hp.slv (by omega) (Nat.mul_one _) ?_)
     exact ⟨rfl, rfl, rfl⟩
    refine pD (fun W R z9 => ?_) ?_
    ·rw [zA 4 (z9 4 rfl)]
     refine qi (qj qP rfl (hp.rd (by omega)) ?_)
     exact ⟨rfl, rfl, rfl⟩
    refine pD (fun W R z9 => ?_) ?_
    ·rw [zA 5 (z9 5 rfl)]
     refine qi (je ((-1) - (p.getD k 0)) rfl rfl (by omega) (by omega) ?_)
     exact ⟨rfl, rfl, rfl⟩
    refine pD (fun W R z9 => ?_) ?_
    ·refine qi (qm (v2) rfl ?_)
     exact ⟨rfl, rfl, rfl⟩
    exact stepsP.nil
   intro W hphi
   rw [eS (l := [(1, _), (6, _), (7, _)]) ⟨(hphi 1 (by decide)), (hphi 6 (by decide)), (hphi 7 (by decide)), ⟨⟩⟩]
   show XL _ _ _ _ _ _ _ (cellsH b3 [v1] 137 :: slH 22 1 v1 ((bl).length) cs1 :: cellsH b2 [sN] 137 :: cellsH b1 [arv] 36 :: L)
   refine cX (qt (((-1) - (p.getD k 0)).toNat) qF qA rfl rfl (by omega) (SlV.own [_] rfl) (by omega) (Nat.mul_one _) (cX (XOp.storeS (i := ((-1) - (p.getD k 0)).toNat) (cs := cs1) [_] _ qA rfl rfl (qI (qB hf1)) rfl (by have h9 := CO.len hc2; (try simp only [List.length_set, List.length_replicate] at h9 ⊢) <;> omega) ?_)))
   have hc3 := hc2.set (((-1) - (p.getD k 0)).toNat) hf1
   refine qc (qb (qg (ii ((i : Int))) rfl (qg (v2) rfl (cX (qE qf rfl hf1.slv (cX (qK (((i + (((sub ar t i)).length) : Nat) : Int)) rfl rfl (by omega) (by omega) (qh (ii (((i + (((sub ar t i)).length) : Nat) : Int))) rfl (qc (qb (qg (ii ((k : Int))) rfl (cX (qK (((k + 1 : Nat) : Int)) rfl rfl (by omega) (by omega) (qh (ii (((k + 1 : Nat) : Int))) rfl ?_))))))))))))))
   refine qc ?_
   exact ⟨(k + 1, i + (((sub ar t i)).length), (bl.set (((-1) - (p.getD k 0)).toNat) ((sub ar t i))), F1), _, (qa leG1 le1), rF, ⟨rfl, rfl, rfl, rfl, rfl, rfl, rfl, ⟨⟩⟩, (sC (coH.close hc3 (by first | rfl | simp) (sC (sC sR)))), ⟨rfl, (qa leG1 le1), (by (try dsimp only); (try simp only [List.length_set]) <;> omega), (by (try dsimp only) <;> omega), (by (try dsimp only) <;> omega), (hm.trans (m4_next (by omega) (by omega) (by omega) (by first | (left; exact List.eq_nil_of_length_eq_zero (show (bl.getD (-1 - p.getD k 0).toNat []).length = 0 by omega)) | (right; first | assumption | exact Classical.not_not.1 (by assumption)))))⟩, (by omega)⟩
  refine qp (t := 59) rfl (vF h5) (qp (t := 59) rfl (vF h5) (qp (t := 59) rfl (vF h5) (qp (t := 59) rfl (vF h5) (cX (qN (.bool (false)) (vF h5) rfl (qc (jO rfl (qz (qd ?_)))))))))
  refine jx [cellsH b3 [v1] 137, slH 22 1 v1 ((bl).length) cs1, cellsH b2 [sN] 137, cellsH b1 [arv] 36] L 8 [] [[], [0], [], [], [2, 3], [4], [5]] (phiL [qe (ptr b3 0), qe v1, qe pv, qe (ii ((k : Int)) : Value), qe (.pointer (some (elemA pv (k)))), qe (ii (p.getD k 0)), qe (ii ((-1) - (p.getD k 0))), qe v2]) (ownL []) mixed rfl rfl (by kernel_rfl) ?_ ?_
  ·refine pD (fun W R z9 => ?_) ?_
   ·refine qi (qk (0) jc rfl qW (by decide) rfl rfl ?_)
    exact ⟨rfl, rfl, rfl⟩
   refine pD (fun W R z9 => ?_) ?_
   ·rw [zA 0 (z9 0 rfl)]
    refine qi (qj jz rfl (Rd.own [] rfl rfl) ?_)
    exact ⟨rfl, rfl, rfl⟩
   refine pD (fun W R z9 => ?_) ?_
   ·refine qi (qm (pv) rfl ?_)
    exact ⟨rfl, rfl, rfl⟩
   refine pD (fun W R z9 => ?_) ?_
   ·refine qi (qm (ii ((k : Int))) rfl ?_)
    exact ⟨rfl, rfl, rfl⟩
   refine pD (fun W R z9 => ?_) ?_
   ·rw [zB 2 3 (z9 2 rfl) (z9 3 rfl)]
    refine qi (qt k qf qq rfl rfl rfl hp.slv (by omega) (Nat.mul_one _) ?_)
    exact ⟨rfl, rfl, rfl⟩
   refine pD (fun W R z9 => ?_) ?_
   ·rw [zA 4 (z9 4 rfl)]
    refine qi (qj qP rfl (hp.rd (by omega)) ?_)
    exact ⟨rfl, rfl, rfl⟩
   refine pD (fun W R z9 => ?_) ?_
   ·rw [zA 5 (z9 5 rfl)]
    refine qi (je ((-1) - (p.getD k 0)) rfl rfl (by omega) (by omega) ?_)
    exact ⟨rfl, rfl, rfl⟩
   refine pD (fun W R z9 => ?_) ?_
   ·refine qi (qm (v2) rfl ?_)
    exact ⟨rfl, rfl, rfl⟩
   exact stepsP.nil
  intro W hphi
  rw [eS (l := [(1, _), (6, _), (7, _)]) ⟨(hphi 1 (by decide)), (hphi 6 (by decide)), (hphi 7 (by decide)), ⟨⟩⟩]
  show XL _ _ _ _ _ _ _ (cellsH b3 [v1] 137 :: slH 22 1 v1 ((bl).length) cs1 :: cellsH b2 [sN] 137 :: cellsH b1 [arv] 36 :: L)
  refine cX (qt (((-1) - (p.getD k 0)).toNat) qF qA rfl rfl (by omega) (SlV.own [_] rfl) (by omega) (Nat.mul_one _) (cX (XOp.storeS (i := ((-1) - (p.getD k 0)).toNat) (cs := cs1) [_] _ qA rfl rfl (qI (qB hf1)) rfl (by have h9 := CO.len hc2; (try simp only [List.length_set, List.length_replicate] at h9 ⊢) <;> omega) ?_)))
  have hc4 := hc2.set (((-1) - (p.getD k 0)).toNat) hf1
  refine qc (qb (qg (ii ((i : Int))) rfl (qg (v2) rfl (cX (qE qf rfl hf1.slv (cX (qK (((i + (((sub ar t i)).length) : Nat) : Int)) rfl rfl (by omega) (by omega) (qh (ii (((i + (((sub ar t i)).length) : Nat) : Int))) rfl (qc (qb (qg (ii ((k : Int))) rfl (cX (qK (((k + 1 : Nat) : Int)) rfl rfl (by omega) (by omega) (qh (ii (((k + 1 : Nat) : Int))) rfl ?_))))))))))))))
  refine qc ?_
  exact ⟨(k + 1, i + (((sub ar t i)).length), (bl.set (((-1) - (p.getD k 0)).toNat) ((sub ar t i))), F1), _, (qa leG1 le1), rF, ⟨rfl, rfl, rfl, rfl, rfl, rfl, rfl, ⟨⟩⟩, (sC (coH.close hc4 (by first | rfl | simp) (sC (sC sR)))), ⟨rfl, (qa leG1 le1), (by (try dsimp only); (try simp only [List.length_set]) <;> omega), (by (try dsimp only) <;> omega), (by (try dsimp only) <;> omega), (hm.trans (m4_next (by omega) (by omega) (by omega) (by first | (left; exact List.eq_nil_of_length_eq_zero (show (bl.getD (-1 - p.getD k 0).toNat []).length = 0 by omega)) | (right; first | assumption | exact Classical.not_not.1 (by assumption)))))⟩, (by omega)⟩
 refine jg (qv (qv (qM (qd (qb (cX (qu [v1] jQ jp rfl rfl (Rd.ownN [] rfl rfl) ?_)))))))
 have hmb := (matchB_len (hm.trans (mGo_done (by omega)))).2
 refine ja [_] _ _ rfl (fun F2 le2 hz2 => ?_)
 replace hc2 := hc2.mono le2
 have hf2 : RowsF F2 v1 bl := CO.fz hc2 (by first | rfl | omega | (rw [List.length_set]; omega) | (simp; done)) hz2.fz
 refine cX (qn (args := [.agg #[v1]]) call183 rfl (l2Plain_spec hf2 (hsl := (by omega)) (hsb := (fun j => by have := hmb j; omega))) ?_)
 rintro _ F3 _ le3 ⟨x1, rfl, hr1, rfl⟩
 refine cX (qV [_] _ [x1] jp rfl rfl rfl (qx (qI (RowsF.isSl hr1)) qX) rfl rfl rfl (qh (.bool (true)) rfl (qc (qw (qr (L' := L) [.agg #[x1], .bool (true)] (.tuple #[.agg #[x1], .bool (true)]) (.cell rfl (jH [x1] jQ jp rfl (Rd.ownN [_] rfl rfl)) (.tmp rfl .nil)) rfl (qa (qa leG1 le2) le3) rF (sD (sD (sD sR))) ?_)))))
 have hz : matchB ar p t = some bl := hm.trans (mGo_done (by omega))
 exact ⟨_, by rw [hz]; rfl, by rw [matchP, hz]; exact hr1, rfl⟩

/- spec.l7Right -/
theorem l7Right_spec {F : FH} {L : List HP} {arv : Value} {ar : List Int} (har : IntsF F arv ar) {rsv : Value} {rs : List (List Int × List Int)} (hrs : PairsF F rsv rs) {tv : Value} {t : List Int} (ht : IntsF F tv t) (hla : ar.length ≤ 4000000) (hlr : rs.length ≤ 4000000) (hrb : ∀ i, i < rs.length → (rs.getD i ([], [])).1.length ≤ 4000000 ∧ (rs.getD i ([], [])).2.length ≤ 4000000) (hlt : t.length ≤ 4000000) :
    Does prog 107 [.agg #[arv, rsv], tv] F (L) (fun v F' L' => (.bool (rightB ar rs t) : Value) = v ∧ F = F' ∧ L = L') := by
 refine qG func107 rfl rfl rfl (qd (qb (cX (jb [arv, rsv] rfl rfl ?_))))
 intro b1
 refine qh (.bool (false)) rfl (qc (qd (qb (cX (qu [arv, rsv] jU jK rfl rfl (Rd.ownN [] rfl rfl) (cX (qn (args := [.agg #[arv, rsv]]) call82 rfl (sSystemOk_spec har hrs (hla := (by first | assumption | rfl | omega | simp)) (hlr := (by first | assumption | rfl | omega | simp)) (hrb := (by first | assumption | rfl | omega | simp))) ?_)))))))
 rintro _ _ _ _ ⟨rfl, rfl, rfl⟩
 refine qg (.bool (sysOk ar rs)) rfl ?_
 by_cases h1 : (sysOk ar rs) = true
 ·refine qo (t := 7) rfl (vB h1) (qk (0) js rfl qJ (by decide) rfl rfl (qo (t := 7) rfl (vB h1) (qu [arv] jf qJ rfl rfl (Rd.ownN [] rfl rfl) (qo (t := 7) rfl (vB h1) (qm (tv) rfl (qo (t := 7) rfl (vB h1) (qn (args := [.agg #[arv], tv]) call202 rfl (sTermOk_spec har ht (hla := (by first | assumption | rfl | omega | simp)) (hlt := (by first | assumption | rfl | omega | simp))) ?_)))))))
  rintro _ _ _ _ ⟨rfl, rfl, rfl⟩
  refine cX (qO (.bool (termOk ar t)) (vB h1) rfl (qh (.bool (termOk ar t)) rfl (qc (qw (qr (L' := L) [.bool (termOk ar t)] (.bool (termOk ar t)) (.tmp rfl .nil) rfl rF rF (sD sR) ?_)))))
  exact ⟨(vB (by rw [rightB]; simp_all)), rfl, rfl⟩
 rw [Bool.not_eq_true] at h1
 refine qp (t := 7) rfl (vB h1) (qp (t := 7) rfl (vB h1) (qp (t := 7) rfl (vB h1) (qp (t := 7) rfl (vB h1) (cX (qN (.bool (false)) (vB h1) rfl (qh (.bool (false)) rfl (qc (qw (qr (L' := L) [.bool (false)] (.bool (false)) (.tmp rfl .nil) rfl rF rF (sD sR) ?_)))))))))
 exact ⟨(vB (by rw [rightB]; simp_all)), rfl, rfl⟩

/- spec.l8Redex -/
theorem l8Redex_spec {F : FH} {L : List HP} {arv : Value} {ar : List Int} (har : IntsF F arv ar) {rsv : Value} {rs : List (List Int × List Int)} (hrs : PairsF F rsv rs) {tv : Value} {t : List Int} (ht : IntsF F tv t) {p : Nat} (hsys : sysOk ar rs = true) (ho : termOk ar t = true) (hp : p < t.length) :
    Does prog 338 [.agg #[arv, rsv], tv, ii ((p : Int))] F (L) (fun v F' L' => (ii (ruleAtL ar rs t p) : Value) = v ∧ F = F' ∧ L = L') := by
 refine qG func338 rfl rfl rfl ?_
 have hnn := notNil_of_pos ht (by have := termOk_len ho; omega)
 have htl := termOk_len ho
 have hrl := (sysOk_iff.1 hsys).2.1
 have hsig := (sysOk_iff.1 hsys).1
 have hsl := sigOk_spec hsig
 have hso := sub_ok ho hp
 refine qd (qb (cX (jb [arv, rsv] rfl rfl ?_)))
 intro b1
 refine qh (ii (0)) rfl (qc (qd (qb (cX (qk (0) js rfl qJ (by decide) rfl rfl (cX (qu [arv] jf qJ rfl rfl (Rd.ownN [] rfl rfl) (qg (tv) rfl (qg (ii ((p : Int))) rfl (cX (jD <| qn (args := [.agg #[arv], tv, ii (p : Int)]) call150 rfl (l1Sub_spec (p := p) har ht (ho := (by first | assumption | rfl | omega | simp)) (hp := (by first | assumption | rfl | omega | simp))) ?_)))))))))))
 rintro v1 _ _ _ ⟨rfl, hs1, rfl⟩
 refine ⟨_, _, rfl, fun F1 le1 hz1 => ?_⟩
 replace har := har.mono le1
 replace hrs := hrs.mono le1
 have hf1 : IntsF F1 v1 ((sub ar t p)) := intsH.fz (xs := (sub ar t p)) hz1.fz
 refine qh (v1) rfl (qc (qd (qd (qb (qh (ii (0)) rfl (qc (qH (jn (α := Nat) (fun r => [(3, ptr b1 0), (7, v1), (8, ii ((r : Int)))]) (fun r => cellsH b1 [arv, rsv] 39 :: L) (fun r F' => F1 = F' ∧ (r ≤ rs.length) ∧ (ruleAtL ar rs t p = ruleAtGo ar rs t p (rs.length - r) r)) (fun r => rs.length - r) 0 ⟨rfl, rfl, rfl, ⟨⟩⟩ (sC sR) ⟨rfl, (by (try dsimp only) <;> omega), (rfl)⟩ ?_))))))))
 rintro r rE _ _ ⟨rfl, hr, hm⟩
 show X _ _ _ _ (envs [(3, ptr b1 0), (7, v1), (8, ii ((r : Int)))] rE) _ (cellsH b1 [arv, rsv] 39 :: L)
 refine qd (qd (qb (qg (ii ((r : Int))) rfl (cX (qk (1) js rfl sizeOf37 (by decide) rfl rfl (cX (qj isAgg37 rfl (Rd.own [] rfl rfl) (cX (qE jZ rfl hrs.slv (cX (qQ rfl rfl (qc ?_))))))))))))
 refine qC (p := (r : Int) < (rs.length : Int)) rfl (fun h1 => ?_) (fun h1 => ?_)
 ·refine qz (qd (qH (qd ?_)))
  obtain ⟨a1, a2, ha1, ha2, hr1, hr2⟩ := hrs.rd (i := r) (by omega)
  refine jM [cellsH b1 [arv, rsv] 39] L 15 [[], [], [], [], [], [], [], [], [], [], [9], [9], [], [], [9, 13]] [[], [0], [], [2], [], [3, 4], [5], [6], [], [1, 7, 8], [9], [9, 10], [9, 10], [], [9, 11, 13]] [[], [], [], [], [], [], [], [], [], [], [], [], [], [], [13]] (phiG [pe (ptr b1 0), pe (.agg #[arv]), pe (ptr b1 1), pe rsv, pe (ii ((r : Int)) : Value), pe (.pointer (some (elemA rsv (r * 2)))), pe (.pointer (some (elemA rsv (r * 2)))), pe a1, pe v1, fun FF us v => (.tuple #[.agg #[((aggAt (tupAt v 0) 0))], .bool ((matchB ar ((rs.getD r ([], [])).1) ((sub ar t p))).isSome)] : Value) = v ∧ (RowsF FF ((aggAt (tupAt v 0) 0)) (matchP ar ((rs.getD r ([], [])).1) ((sub ar t p)))), fun FF us v => v = (.tuple #[.agg #[((aggAt (tupAt (us.getD 0 undef) 0) 0))], .bool ((matchB ar ((rs.getD r ([], [])).1) ((sub ar t p))).isSome)] : Value), fun FF us v => v = (.agg #[((aggAt (tupAt (us.getD 0 undef) 0) 0))] : Value), pe (.bool ((matchB ar ((rs.getD r ([], [])).1) ((sub ar t p))).isSome)), fun FF us v => v = ptr (blk v) 0, fun FF us v => True]) (ownL [o0, o0, o0, o0, o0, o0, o0, o0, o0, o0, o0, o0, o0, fun us v => [cellsH (blk v) [sN] 137], fun us v => [cellsH (blk (us.getD 1 undef)) [((aggAt (tupAt (us.getD 0 undef) 0) 0))] 137]]) mixed rfl rfl (by kernel_rfl) (by kernel_rfl) (MonoG.get (m1 (m1 (m1 (m1 (m1 (m1 (m1 (m1 (m1 (mC (fun le h => ⟨h.1, h.2.mono le⟩) (mC (fun le h => h) (mC (fun le h => h) (m1 (mC (fun le h => h) (mC (fun le h => h) MonoG.nil)))))))))))))))) ?_ ?_
  ·refine gD (fun W Fs R lF z9 => ?_) ?_
   ·refine qi (qk (0) js rfl qJ (by decide) rfl rfl ?_)
    exact ⟨rfl, rfl⟩
   refine gD (fun W Fs R lF z9 => ?_) ?_
   ·replace har := har.mono lF
    replace hrs := hrs.mono lF
    replace hf1 := hf1.mono lF
    replace ha1 := ha1.mono lF
    replace hr1 := Rd.monoA hr1 lF
    rw [zA 0 (z9 0 rfl)]
    refine qi (qu [arv] jf qJ rfl rfl (Rd.ownN [] rfl rfl) ?_)
    exact ⟨rfl, rfl⟩
   refine gD (fun W Fs R lF z9 => ?_) ?_
   ·refine qi (qk (1) js rfl sizeOf37 (by decide) rfl rfl ?_)
    exact ⟨rfl, rfl⟩
   refine gD (fun W Fs R lF z9 => ?_) ?_
   ·replace har := har.mono lF
    replace hrs := hrs.mono lF
    replace hf1 := hf1.mono lF
    replace ha1 := ha1.mono lF
    replace hr1 := Rd.monoA hr1 lF
    rw [zA 2 (z9 2 rfl)]
    refine qi (qj isAgg37 rfl (Rd.own [] rfl rfl) ?_)
    exact ⟨rfl, rfl⟩
   refine gD (fun W Fs R lF z9 => ?_) ?_
   ·refine qi (qm (ii ((r : Int))) rfl ?_)
    exact ⟨rfl, rfl⟩
   refine gD (fun W Fs R lF z9 => ?_) ?_
   ·replace har := har.mono lF
    replace hrs := hrs.mono lF
    replace hf1 := hf1.mono lF
    replace ha1 := ha1.mono lF
    replace hr1 := Rd.monoA hr1 lF
    rw [zB 3 4 (z9 3 rfl) (z9 4 rfl)]
    refine qi (qt r jZ sizeOf76 rfl rfl rfl hrs.slv (by omega) rfl ?_)
    exact ⟨rfl, rfl⟩
   refine gD (fun W Fs R lF z9 => ?_) ?_
   ·rw [zA 5 (z9 5 rfl)]
    refine qi (XOp.fieldE (r * 2) jy rfl qA (by decide) rfl rfl ?_)
    exact ⟨rfl, rfl⟩
   refine gD (fun W Fs R lF z9 => ?_) ?_
   ·replace har := har.mono lF
    replace hf1 := hf1.mono lF
    replace ha1 := ha1.mono lF
    replace hr1 := Rd.monoA hr1 lF
    rw [zA 6 (z9 6 rfl)]
    refine qi (qj qU rfl (hr1 _) ?_)
    exact ⟨rfl, rfl⟩
   refine gD (fun W Fs R lF z9 => ?_) ?_
   ·refine qi (qm (v1) rfl ?_)
    exact ⟨rfl, rfl⟩
   refine gD (fun W Fs R lF z9 => ?_) ?_
   ·replace har := har.mono lF
    replace hf1 := hf1.mono lF
    replace ha1 := ha1.mono lF
    rw [eS (l := [(1, _), (7, _), (8, _)]) ⟨z9 1 rfl, z9 7 rfl, z9 8 rfl, ⟨⟩⟩]
    refine qi (qn (args := [.agg #[arv], a1, v1]) call216 rfl (l4Match_spec har ha1 hf1 (ho := (by first | assumption | rfl | omega | simp)) (hpo := ((ruleOk_iff.1 ((sysOk_iff.1 hsys).2.2 r (by omega))).left))) ?_)
    rintro _ F3 _ le3 ⟨x2, rfl, hr4, rfl⟩
    replace har := har.mono le3
    exact ⟨⟨rfl, hr4⟩, rfl⟩
   refine gD (fun W Fs R lF z9 => ?_) ?_
   ·obtain ⟨e9, f9_1hr⟩ := z9 9 rfl
    rw [eS (l := [(9, (.tuple #[.agg #[((aggAt (tupAt (W 9) 0) 0))], .bool ((matchB ar ((rs.getD r ([], [])).1) ((sub ar t p))).isSome)]))]) ⟨(e9).symm, ⟨⟩⟩]
    refine qi (qm (.tuple #[.agg #[((aggAt (tupAt (W 9) 0) 0))], .bool ((matchB ar ((rs.getD r ([], [])).1) ((sub ar t p))).isSome)]) rfl ?_)
    exact ⟨rfl, rfl⟩
   refine gD (fun W Fs R lF z9 => ?_) ?_
   ·obtain ⟨e9, f9_1hr⟩ := z9 9 rfl
    have e10 : W 10 = (.tuple #[.agg #[((aggAt (tupAt (W 9) 0) 0))], .bool ((matchB ar ((rs.getD r ([], [])).1) ((sub ar t p))).isSome)] : Value) := z9 10 rfl
    rw [eS (l := [(9, (.tuple #[.agg #[((aggAt (tupAt (W 9) 0) 0))], .bool ((matchB ar ((rs.getD r ([], [])).1) ((sub ar t p))).isSome)])), (10, (.tuple #[.agg #[((aggAt (tupAt (W 9) 0) 0))], .bool ((matchB ar ((rs.getD r ([], [])).1) ((sub ar t p))).isSome)]))]) ⟨(e9).symm, e10, ⟨⟩⟩]
    refine qi (jd (.agg #[((aggAt (tupAt (W 9) 0) 0))]) rfl rfl ?_)
    exact ⟨rfl, rfl⟩
   refine gD (fun W Fs R lF z9 => ?_) ?_
   ·obtain ⟨e9, f9_1hr⟩ := z9 9 rfl
    have e10 : W 10 = (.tuple #[.agg #[((aggAt (tupAt (W 9) 0) 0))], .bool ((matchB ar ((rs.getD r ([], [])).1) ((sub ar t p))).isSome)] : Value) := z9 10 rfl
    rw [eS (l := [(9, (.tuple #[.agg #[((aggAt (tupAt (W 9) 0) 0))], .bool ((matchB ar ((rs.getD r ([], [])).1) ((sub ar t p))).isSome)])), (10, (.tuple #[.agg #[((aggAt (tupAt (W 9) 0) 0))], .bool ((matchB ar ((rs.getD r ([], [])).1) ((sub ar t p))).isSome)]))]) ⟨(e9).symm, e10, ⟨⟩⟩]
    refine qi (jd (.bool ((matchB ar ((rs.getD r ([], [])).1) ((sub ar t p))).isSome)) rfl rfl ?_)
    exact ⟨rfl, rfl⟩
   refine gD (fun W Fs R lF z9 => ?_) ?_
   ·replace har := har.mono lF
    refine qi (jr [sN] jB rfl ?_)
    intro b3
    exact ⟨rfl, rfl⟩
   refine gD (fun W Fs R lF z9 => ?_) ?_
   ·obtain ⟨e9, f9_1hr⟩ := z9 9 rfl
    have e11 : W 11 = (.agg #[((aggAt (tupAt (W 9) 0) 0))] : Value) := z9 11 rfl
    have e13 : W 13 = ptr (blk (W 13)) 0 := z9 13 rfl
    rw [eS (l := [(9, (.tuple #[.agg #[((aggAt (tupAt (W 9) 0) 0))], .bool ((matchB ar ((rs.getD r ([], [])).1) ((sub ar t p))).isSome)])), (11, (.agg #[((aggAt (tupAt (W 9) 0) 0))])), (13, ptr (blk (W 13)) 0)]) ⟨(e9).symm, e11, e13, ⟨⟩⟩]
    show XG _ _ _ _ _ (cellsH (blk (W 13)) [sN] 137 :: ([cellsH b1 [arv, rsv] 39] ++ R)) _
    refine qi (qV [] _ [((aggAt (tupAt (W 9) 0) 0))] jp rfl rfl rfl (qx (qI (RowsF.isSl f9_1hr)) qX) rfl rfl rfl ?_)
    exact ⟨trivial, rfl⟩
   exact stepsG.nil
  intro W F4 le4 hphi
  obtain ⟨e9, f9_1hr⟩ := hphi 9 (by decide)
  have e10 : W 10 = (.tuple #[.agg #[((aggAt (tupAt (W 9) 0) 0))], .bool ((matchB ar ((rs.getD r ([], [])).1) ((sub ar t p))).isSome)] : Value) := hphi 10 (by decide)
  have e11 : W 11 = (.agg #[((aggAt (tupAt (W 9) 0) 0))] : Value) := hphi 11 (by decide)
  have e13 : W 13 = ptr (blk (W 13)) 0 := hphi 13 (by decide)
  generalize hu1 : ((aggAt (tupAt (W 9) 0) 0)) = u1 at e9 f9_1hr e10 e11 e13
  generalize hu2 : blk (W 13) = b4 at e9 f9_1hr e10 e11 e13
  rw [eS (l := [(9, (.tuple #[.agg #[u1], .bool ((matchB ar ((rs.getD r ([], [])).1) ((sub ar t p))).isSome)])), (12, _), (13, ptr b4 0)]) ⟨(e9).symm, (hphi 12 (by decide)), e13, ⟨⟩⟩]
  show XL _ _ _ _ _ _ _ (cellsH b4 [u1] 137 :: cellsH b1 [arv, rsv] 39 :: L)
  refine qh (.bool ((matchB ar ((rs.getD r ([], [])).1) ((sub ar t p))).isSome)) rfl (qc (qd (qb (qg (.bool ((matchB ar ((rs.getD r ([], [])).1) ((sub ar t p))).isSome)) rfl (qc ?_)))))
  refine jF (t := (matchB ar ((rs.getD r ([], [])).1) ((sub ar t p))).isSome) rfl (fun h2 => ?_) (fun h2 => ?_)
  ·refine qd (qb (qg (ii ((r : Int))) rfl (qh (ii ((r : Int))) rfl (qc (qw (qD (ql (ql (qD (ql (qr (L' := L) [ii ((r : Int))] (ii ((r : Int))) (.tmp rfl .nil) rfl rF (qa le1 le4) (sD (sD sR)) ?_)))))))))))
   exact ⟨(vI (hm.trans (ruleAt_hit (by omega) (by unfold isRedex; assumption)))), rfl, rfl⟩
  refine qz (qb (qg (ii ((r : Int))) rfl (cX (qK (((r + 1 : Nat) : Int)) rfl rfl (by omega) (by omega) (qh (ii (((r + 1 : Nat) : Int))) rfl (qc ?_))))))
  exact ⟨r + 1, _, FLe.refl _, le4, ⟨rfl, rfl, rfl, ⟨⟩⟩, (sD (sC sR)), ⟨rfl, (by (try dsimp only) <;> omega), (hm.trans (ruleAt_miss (by omega) (by unfold isRedex; assumption)))⟩, (by omega)⟩
 refine jg (qv (qv (qM (qd (qb (qh (ii (-1)) rfl (qc (qw (qr (L' := L) [ii (-1)] (ii (-1)) (.tmp rfl .nil) rfl rF le1 (sD sR) ?_)))))))))
 exact ⟨(vI (hm.trans (ruleAt_end (by omega)))), rfl, rfl⟩

/- spec.RedexesIn -/
theorem sRedexesIn_spec {F : FH} {L : List HP} {arv : Value} {ar : List Int} (har : IntsF F arv ar) {rsv : Value} {rs : List (List Int × List Int)} (hrs : PairsF F rsv rs) {tv : Value} {t : List Int} (ht : IntsF F tv t) (hla : ar.length ≤ 4000000) (hlr : rs.length ≤ 4000000) (hrb : ∀ i, i < rs.length → (rs.getD i ([], [])).1.length ≤ 4000000 ∧ (rs.getD i ([], [])).2.length ≤ 4000000) (hlt : t.length ≤ 4000000) :
    Does prog 368 [.agg #[arv, rsv], tv] F (L) (fun v F' L' => F = F' ∧ IsSl v ∧ intsH 2 v (redS ar rs t) :: L = L') := by
 refine qG func368 rfl rfl rfl (qd (qb (cX (jb [arv, rsv] rfl rfl ?_))))
 intro b1
 refine qh (sN) rfl (qc (qd (qb (cX (qs (s := 1) [] [ii (0)] [] qf qq qL rfl (by decide) rfl CellsAre.nil rfl ?_)))))
 intro v1 hv1
 refine qh (v1) rfl (qc (qd (qd (qb (qh (ii (0)) rfl (qc (qH (jn (α := Nat × Value × List Int) (fun xQ => [(1, tv), (2, ptr b1 0), (5, xQ.2.1), (6, ii (((xQ.1 : Nat) : Int)))]) (fun xQ => intsH 2 xQ.2.1 xQ.2.2 :: cellsH b1 [arv, rsv] 39 :: L) (fun xQ F' => F = F' ∧ (IsSl xQ.2.1) ∧ (xQ.1 ≤ t.length) ∧ (xQ.2.2 = if rightB ar rs t = true then redTo ar rs t xQ.1 else [])) (fun xQ => t.length - xQ.1) (0, v1, []) ⟨rfl, rfl, rfl, rfl, ⟨⟩⟩ (sC (sC sR)) ⟨rfl, ((jo hv1)), (by (try dsimp only) <;> omega), (by dsimp only; split <;> rfl)⟩ ?_))))))))
 rintro ⟨k, ov, os⟩ rE _ _ ⟨rfl, hov, hk, hos⟩
 show X _ _ _ _ (envs [(1, tv), (2, ptr b1 0), (5, ov), (6, ii ((k : Int)))] rE) _ (intsH 2 ov os :: cellsH b1 [arv, rsv] 39 :: L)
 dsimp only at hov hk hos
 have hol : os.length ≤ k := by rw [hos]; split; exact redTo_len; simp
 refine qd (qd (qb (qg (ii ((k : Int))) rfl (qg (tv) rfl (cX (qE qf rfl ht.slv (cX (qQ rfl rfl (qg (.bool (decide ((k : Int) < (t.length : Int)))) rfl ?_)))))))))
 by_cases h1 : (k : Int) < (t.length : Int)
 ·refine qo (t := 12) rfl (vT h1) (qu [arv, rsv] jU jK rfl rfl (Rd.ownN [_] rfl rfl) (qo (t := 12) rfl (vT h1) (qm (tv) rfl (qo (t := 12) rfl (vT h1) (qn (args := [.agg #[arv, rsv], tv]) call107 rfl (l7Right_spec har hrs ht (hla := (by first | assumption | rfl | omega | simp)) (hlr := (by first | assumption | rfl | omega | simp)) (hrb := (by first | assumption | rfl | omega | simp)) (hlt := (by first | assumption | rfl | omega | simp))) ?_)))))
  rintro _ _ _ _ ⟨rfl, rfl, rfl⟩
  refine cX (qO (.bool (rightB ar rs t)) (vT h1) rfl (qc ?_))
  refine jF (t := rightB ar rs t) rfl (fun h2 => ?_) (fun h2 => ?_)
  ·have hsys := (right_iff.1 h2).1
   have ho := (right_iff.1 h2).2
   refine qz (qd (qH (qd (qb (cX (qu [arv, rsv] jU jK rfl rfl (Rd.ownN [_] rfl rfl) (qg (tv) rfl (qg (ii ((k : Int))) rfl (cX (qn (args := [.agg #[arv, rsv], tv, ii (k : Int)]) call338 rfl (l8Redex_spec (p := k) har hrs ht (hsys := (by first | assumption | rfl | omega | simp)) (ho := (by first | assumption | rfl | omega | simp)) (hp := (by first | assumption | rfl | omega | simp))) ?_))))))))))
   rintro _ _ _ _ ⟨rfl, rfl, rfl⟩
   refine cX (jP rfl rfl (qc ?_))
   refine qC (p := (ruleAtL ar rs t k : Int) ≥ 0) rfl (fun h3 => ?_) (fun h3 => ?_)
   ·refine qb (qg (ov) rfl (qg (ii ((k : Int))) rfl (cX (qs (s := 1) [ii ((k : Int))] [ii (0)] [(0, [ii ((k : Int))])] qf qq qL rfl (by decide) rfl (.cons rfl CellsAre.nil) rfl ?_))))
    intro v2 hv2
    refine cX (jX (u := (k : Int)) [_] _ qf typeInfo2 rfl rfl rfl rfl rfl rfl (SlV.own [] rfl) (Rd.sl [] rfl rfl) (by (try simp only [List.length_append, List.length_nil, List.length_cons, List.length_singleton, List.length_take, List.length_drop]); omega) ?_)
    intro v3 hs1 hn1
    refine qh (v3) rfl (qc (qb (qg (ii ((k : Int))) rfl (cX (qK (((k + 1 : Nat) : Int)) rfl rfl (by omega) (by omega) (qh (ii (((k + 1 : Nat) : Int))) rfl (qc ?_)))))))
    exact ⟨(k + 1, v3, os ++ [(k : Int)]), _, FLe.refl _, rF, ⟨rfl, rfl, rfl, rfl, ⟨⟩⟩, (sD (sC (sC sR))), ⟨rfl, (hs1), (by (try dsimp only) <;> omega), ((by dsimp only; rw [hos, if_pos (by assumption), if_pos (by assumption)]; first | exact (redTo_yes (by omega)).symm | exact (redTo_no (by omega)).symm))⟩, (by omega)⟩
   refine qz (qb (qg (ii ((k : Int))) rfl (cX (qK (((k + 1 : Nat) : Int)) rfl rfl (by omega) (by omega) (qh (ii (((k + 1 : Nat) : Int))) rfl (qc ?_))))))
   exact ⟨(k + 1, ov, os), _, FLe.refl _, rF, ⟨rfl, rfl, rfl, rfl, ⟨⟩⟩, (sC (sC sR)), ⟨rfl, (hov), (by (try dsimp only) <;> omega), ((by dsimp only; rw [hos, if_pos (by assumption), if_pos (by assumption)]; first | exact (redTo_yes (by omega)).symm | exact (redTo_no (by omega)).symm))⟩, (by omega)⟩
  refine jg (qv (qv (qM (qd (qb (qg (ov) rfl (qh (ov) rfl (qc (qw (qr (L' := intsH 2 ov os :: L) [ov] (ov) (.tmp rfl .nil) rfl rF rF (sC (sD sR)) ?_))))))))))
  refine ⟨rfl, hov, ?_⟩
  have hxs : (redS ar rs t : List Int) = os := by rw [hos, redS]; split <;> first | rfl | (rw [redL, show k = t.length from by omega]) | simp_all
  exact congrArg (fun z => intsH 2 _ z :: L) hxs
 refine qp (t := 12) rfl (vF h1) (qp (t := 12) rfl (vF h1) (qp (t := 12) rfl (vF h1) (cX (qN (.bool (false)) (vF h1) rfl (qc (jO rfl (jg (qv (qv (qM (qd (qb (qg (ov) rfl (qh (ov) rfl ?_))))))))))))))
 refine qc (qw (qr (L' := intsH 2 ov os :: L) [ov] (ov) (.tmp rfl .nil) rfl rF rF (sC (sD sR)) ?_))
 refine ⟨rfl, hov, ?_⟩
 have hxs : (redS ar rs t : List Int) = os := by rw [hos, redS]; split <;> first | rfl | (rw [redL, show k = t.length from by omega]) | simp_all
 exact congrArg (fun z => intsH 2 _ z :: L) hxs

/- spec.InmostIn -/
theorem sInmostIn_spec {F : FH} {L : List HP} {arv : Value} {ar : List Int} (har : IntsF F arv ar) {rsv : Value} {rs : List (List Int × List Int)} (hrs : PairsF F rsv rs) {tv : Value} {t : List Int} (ht : IntsF F tv t) (hla : ar.length ≤ 4000000) (hlr : rs.length ≤ 4000000) (hrb : ∀ i, i < rs.length → (rs.getD i ([], [])).1.length ≤ 4000000 ∧ (rs.getD i ([], [])).2.length ≤ 4000000) (hlt : t.length ≤ 4000000) :
    Does prog 367 [.agg #[arv, rsv], tv] F (L) (fun v F' L' => F = F' ∧ IsSl v ∧ intsH 2 v (inS ar rs t) :: L = L') := by
 refine qG func367 rfl rfl rfl ?_
 have hrS := redS_len (ar := ar) (rs := rs) hlt
 refine qd (qb (cX (jb [arv, rsv] rfl rfl ?_)))
 intro b1
 refine qh (sN) rfl (qc (qd (qb (cX (qs (s := 1) [] [ii (0)] [] qf qq qL rfl (by decide) rfl CellsAre.nil rfl ?_)))))
 intro v1 hv1
 refine qh (v1) rfl (qc (qd (qb (cX (qu [arv, rsv] jU jK rfl rfl (Rd.ownN [_] rfl rfl) (qg (tv) rfl (cX (jD <| qn (args := [.agg #[arv, rsv], tv]) call368 rfl (sRedexesIn_spec har hrs ht (hla := (by first | assumption | rfl | omega | simp)) (hlr := (by first | assumption | rfl | omega | simp)) (hrb := (by first | assumption | rfl | omega | simp)) (hlt := (by first | assumption | rfl | omega | simp))) ?_))))))))
 rintro v2 _ _ _ ⟨rfl, hs1, rfl⟩
 refine ⟨_, _, rfl, fun F1 le1 hz1 => ?_⟩
 replace har := har.mono le1
 replace ht := ht.mono le1
 have hf1 : IntsF F1 v2 ((redS ar rs t)) := intsH.fz (xs := (redS ar rs t)) hz1.fz
 refine qh (v2) rfl (qc (qd (qd (qb (qh (ii (0)) rfl (qc (qH (jn (α := Nat × Value × List Int) (fun xQ => [(1, tv), (2, ptr b1 0), (5, xQ.2.1), (6, v2), (7, ii (((xQ.1 : Nat) : Int)))]) (fun xQ => intsH 2 xQ.2.1 xQ.2.2 :: cellsH b1 [arv, rsv] 39 :: L) (fun xQ F' => F1 = F' ∧ (IsSl xQ.2.1) ∧ (xQ.1 ≤ (redS ar rs t).length) ∧ (xQ.2.2 = inTo ar t (redS ar rs t) xQ.1)) (fun xQ => (redS ar rs t).length - xQ.1) (0, v1, []) ⟨rfl, rfl, rfl, rfl, rfl, ⟨⟩⟩ (sC (sC sR)) ⟨rfl, ((jo hv1)), (by (try dsimp only) <;> omega), (rfl)⟩ ?_))))))))
 rintro ⟨k, ov, os⟩ rE _ _ ⟨rfl, hov, hk, hos⟩
 show X _ _ _ _ (envs [(1, tv), (2, ptr b1 0), (5, ov), (6, v2), (7, ii ((k : Int)))] rE) _ (intsH 2 ov os :: cellsH b1 [arv, rsv] 39 :: L)
 dsimp only at hov hk hos
 have hrf := fun (h : k < (redS ar rs t).length) => redS_facts h
 have hrS := redS_len (ar := ar) (rs := rs) hlt
 have hol : os.length ≤ k := by rw [hos]; exact inTo_len
 refine qd (qd (qb (qg (ii ((k : Int))) rfl (qg (v2) rfl (cX (qE qf rfl hf1.slv (cX (qQ rfl rfl (qc ?_)))))))))
 refine qC (p := (k : Int) < ((((redS ar rs t)).length : Nat) : Int)) rfl (fun h1 => ?_) (fun h1 => ?_)
 ·obtain ⟨hsys, ho, q, hq1, hq2, hq3⟩ := hrf (by omega)
  have htl := termOk_len ho
  have hle := endN_spec ho hq2
  refine qz (qd (qH (qd ?_)))
  refine jx [intsH 2 ov os, cellsH b1 [arv, rsv] 39] L 7 [] [[], [0], [], [], [], [3, 4], [5]] (phiL [qe (ptr b1 0), qe (.agg #[arv]), qe tv, qe v2, qe (ii ((k : Int)) : Value), qe (.pointer (some (elemA v2 (k)))), qe (ii (((redS ar rs t)).getD k 0))]) (ownL []) mixed rfl rfl (by kernel_rfl) ?_ ?_
  ·refine pD (fun W R z9 => ?_) ?_
   ·refine qi (qk (0) js rfl qJ (by decide) rfl rfl ?_)
    exact ⟨rfl, rfl, rfl⟩
   refine pD (fun W R z9 => ?_) ?_
   ·rw [zA 0 (z9 0 rfl)]
    refine qi (qu [arv] jf qJ rfl rfl (Rd.ownN [_] rfl rfl) ?_)
    exact ⟨rfl, rfl, rfl⟩
   refine pD (fun W R z9 => ?_) ?_
   ·refine qi (qm (tv) rfl ?_)
    exact ⟨rfl, rfl, rfl⟩
   refine pD (fun W R z9 => ?_) ?_
   ·refine qi (qm (v2) rfl ?_)
    exact ⟨rfl, rfl, rfl⟩
   refine pD (fun W R z9 => ?_) ?_
   ·refine qi (qm (ii ((k : Int))) rfl ?_)
    exact ⟨rfl, rfl, rfl⟩
   refine pD (fun W R z9 => ?_) ?_
   ·rw [zB 3 4 (z9 3 rfl) (z9 4 rfl)]
    refine qi (qt k qf qq rfl rfl rfl hf1.slv (by omega) (Nat.mul_one _) ?_)
    exact ⟨rfl, rfl, rfl⟩
   refine pD (fun W R z9 => ?_) ?_
   ·rw [zA 5 (z9 5 rfl)]
    refine qi (qj qP rfl (hf1.rd (by omega)) ?_)
    exact ⟨rfl, rfl, rfl⟩
   exact stepsP.nil
  intro W hphi
  rw [eS (l := [(1, _), (2, _), (6, _)]) ⟨(hphi 1 (by decide)), (hphi 2 (by decide)), (hphi 6 (by decide)), ⟨⟩⟩]
  show XL _ _ _ _ _ _ _ (intsH 2 ov os :: cellsH b1 [arv, rsv] 39 :: L)
  refine cX (qn (args := [.agg #[arv], tv, ii (((((redS ar rs t)).getD k 0).toNat : Nat) : Int)]) call208 (by rw [show (((((redS ar rs t)).getD k 0).toNat : Nat) : Int) = ((redS ar rs t)).getD k 0 from by omega]; rfl) (l1End_ok (p := (((redS ar rs t)).getD k 0).toNat) har ht (ho := (by first | assumption | rfl | omega | (left; simp; done) | (right; simp; done))) (hp := (by first | assumption | rfl | omega | (left; simp; done) | (right; simp; done)))) ?_)
  rintro _ _ _ _ ⟨rfl, rfl, rfl⟩
  refine qh (ii (((endN ar t ((((redS ar rs t)).getD k 0).toNat) : Nat) : Int))) rfl (qc (qd (qb (qg (ii ((k : Int))) rfl (cX (qK (((k + 1 : Nat) : Int)) rfl rfl (by omega) (by omega) (qg (v2) rfl (cX (qE qf rfl hf1.slv (cX (ju rfl rfl (qg (.bool (decide ((((k + 1 : Nat) : Int) : Int) = ((((redS ar rs t)).length : Nat) : Int)))) rfl ?_))))))))))))
  by_cases h2 : (((k + 1 : Nat) : Int) : Int) = ((((redS ar rs t)).length : Nat) : Int)
  ·refine qp (t := 32) rfl (vT h2) (qp (t := 32) rfl (vT h2) (qp (t := 32) rfl (vT h2) (qp (t := 32) rfl (vT h2) (qp (t := 32) rfl (vT h2) (qp (t := 32) rfl (vT h2) (qp (t := 32) rfl (vT h2) (cX (qO (.bool (true)) (vT h2) rfl (qc (jA rfl ?_))))))))))
   refine qb (qg (ov) rfl (qg (v2) rfl (qg (ii ((k : Int))) rfl (cX (qt k qf qq rfl rfl rfl hf1.slv (by omega) (Nat.mul_one _) (cX (qj qP rfl (hf1.rd (by omega)) (cX (qs (s := 1) [ii (((redS ar rs t)).getD k 0)] [ii (0)] [(0, [ii (((redS ar rs t)).getD k 0)])] qf qq qL rfl (by decide) rfl (.cons rfl CellsAre.nil) rfl ?_)))))))))
   intro v3 hv2
   refine cX (jX (u := ((redS ar rs t)).getD k 0) [_] _ qf typeInfo2 rfl rfl rfl rfl rfl rfl (SlV.own [] rfl) (Rd.sl [] rfl rfl) (by (try simp only [List.length_append, List.length_nil, List.length_cons, List.length_singleton, List.length_take, List.length_drop]); omega) ?_)
   intro v4 hs2 hn1
   refine qh (v4) rfl (qc (qb (qg (ii ((k : Int))) rfl (cX (qK (((k + 1 : Nat) : Int)) rfl rfl (by omega) (by omega) (qh (ii (((k + 1 : Nat) : Int))) rfl (qc ?_)))))))
   exact ⟨(k + 1, v4, os ++ [((redS ar rs t)).getD k 0]), _, FLe.refl _, rF, ⟨rfl, rfl, rfl, rfl, rfl, ⟨⟩⟩, (sD (sC (sC sR))), ⟨rfl, (hs2), (by (try dsimp only) <;> omega), ((by dsimp only; rw [hos]; first | exact (inTo_yes (by simp only [inOk, decide_eq_true_eq]; omega)).symm | exact (inTo_no (by simp only [inOk, decide_eq_false_iff_not]; omega)).symm))⟩, (by omega)⟩
  refine qo (t := 32) rfl (vF h2) (qm (v2) rfl (qo (t := 32) rfl (vF h2) (qm (ii ((k : Int))) rfl (qo (t := 32) rfl (vF h2) (qK (((k + 1 : Nat) : Int)) rfl rfl (by omega) (by omega) (qo (t := 32) rfl (vF h2) (qt (k + 1) qf qq rfl rfl rfl hf1.slv (by omega) (Nat.mul_one _) (qo (t := 32) rfl (vF h2) (qj qP rfl (hf1.rd (by omega)) (qo (t := 32) rfl (vF h2) (qm (ii (((endN ar t ((((redS ar rs t)).getD k 0).toNat) : Nat) : Int))) rfl (qo (t := 32) rfl (vF h2) (jP rfl rfl (cX (qN (.bool (decide ((((redS ar rs t)).getD (k + 1) 0 : Int) ≥ ((endN ar t ((((redS ar rs t)).getD k 0).toNat) : Nat) : Int)))) (vF h2) rfl (qc ?_))))))))))))))))
  refine qC (p := (((redS ar rs t)).getD (k + 1) 0 : Int) ≥ ((endN ar t ((((redS ar rs t)).getD k 0).toNat) : Nat) : Int)) rfl (fun h3 => ?_) (fun h3 => ?_)
  ·refine qb (qg (ov) rfl (qg (v2) rfl (qg (ii ((k : Int))) rfl (cX (qt k qf qq rfl rfl rfl hf1.slv (by omega) (Nat.mul_one _) (cX (qj qP rfl (hf1.rd (by omega)) (cX (qs (s := 1) [ii (((redS ar rs t)).getD k 0)] [ii (0)] [(0, [ii (((redS ar rs t)).getD k 0)])] qf qq qL rfl (by decide) rfl (.cons rfl CellsAre.nil) rfl ?_)))))))))
   intro v5 hv3
   refine cX (jX (u := ((redS ar rs t)).getD k 0) [_] _ qf typeInfo2 rfl rfl rfl rfl rfl rfl (SlV.own [] rfl) (Rd.sl [] rfl rfl) (by (try simp only [List.length_append, List.length_nil, List.length_cons, List.length_singleton, List.length_take, List.length_drop]); omega) ?_)
   intro v6 hs3 hn2
   refine qh (v6) rfl (qc (qb (qg (ii ((k : Int))) rfl (cX (qK (((k + 1 : Nat) : Int)) rfl rfl (by omega) (by omega) (qh (ii (((k + 1 : Nat) : Int))) rfl (qc ?_)))))))
   exact ⟨(k + 1, v6, os ++ [((redS ar rs t)).getD k 0]), _, FLe.refl _, rF, ⟨rfl, rfl, rfl, rfl, rfl, ⟨⟩⟩, (sD (sC (sC sR))), ⟨rfl, (hs3), (by (try dsimp only) <;> omega), ((by dsimp only; rw [hos]; first | exact (inTo_yes (by simp only [inOk, decide_eq_true_eq]; omega)).symm | exact (inTo_no (by simp only [inOk, decide_eq_false_iff_not]; omega)).symm))⟩, (by omega)⟩
  refine qz (qb (qg (ii ((k : Int))) rfl (cX (qK (((k + 1 : Nat) : Int)) rfl rfl (by omega) (by omega) (qh (ii (((k + 1 : Nat) : Int))) rfl (qc ?_))))))
  exact ⟨(k + 1, ov, os), _, FLe.refl _, rF, ⟨rfl, rfl, rfl, rfl, rfl, ⟨⟩⟩, (sC (sC sR)), ⟨rfl, (hov), (by (try dsimp only) <;> omega), ((by dsimp only; rw [hos]; first | exact (inTo_yes (by simp only [inOk, decide_eq_true_eq]; omega)).symm | exact (inTo_no (by simp only [inOk, decide_eq_false_iff_not]; omega)).symm))⟩, (by omega)⟩
 refine jg (qv (qv (qM (qd (qb (qg (ov) rfl (qh (ov) rfl (qc (qw (qr (L' := intsH 2 ov os :: L) [ov] (ov) (.tmp rfl .nil) rfl rF le1 (sC (sD sR)) ?_))))))))))
 refine ⟨rfl, hov, ?_⟩
 have hxs : (inS ar rs t : List Int) = os := by rw [hos, inS_eq, show k = (redS ar rs t).length from by omega]
 exact congrArg (fun z => intsH 2 _ z :: L) hxs

/- spec.l8Places -/
theorem l8Places_spec {F : FH} {L : List HP} {arv : Value} {ar : List Int} (har : IntsF F arv ar) {rsv : Value} {rs : List (List Int × List Int)} (hrs : PairsF F rsv rs) {tv : Value} {t : List Int} (ht : IntsF F tv t) {st : Int} (hla : ar.length ≤ 4000000) (hlr : rs.length ≤ 4000000) (hrb : ∀ i, i < rs.length → (rs.getD i ([], [])).1.length ≤ 4000000 ∧ (rs.getD i ([], [])).2.length ≤ 4000000) (hlt : t.length ≤ 4000000) :
    Does prog 337 [.agg #[arv, rsv], tv, ii (st)] F (L) (fun v F' L' => ∃ (a : Value), (a : Value) = v ∧ (IntsF F' a (placesL ar rs t st)) ∧ L = L') := by
 refine qG func337 rfl rfl rfl ?_
 have hrS := redS_len (ar := ar) (rs := rs) hlt
 refine qd (qb (cX (jb [arv, rsv] rfl rfl ?_)))
 intro b1
 refine qh (sN) rfl (qc (qd (qd (qb (qg (ii (st)) rfl (qc (qH (qd (qb (cX (ju rfl rfl (qh (.bool (decide ((st : Int) = 1))) rfl (qc ?_)))))))))))))
 refine qC (p := (st : Int) = 1) rfl (fun h1 => ?_) (fun h1 => ?_)
 ·refine qd (qb (cX (qu [arv, rsv] jU jK rfl rfl (Rd.ownN [] rfl rfl) (qg (tv) rfl (cX (jD <| qn (args := [.agg #[arv, rsv], tv]) call367 rfl (sInmostIn_spec har hrs ht (hla := (by first | assumption | rfl | omega | simp)) (hlr := (by first | assumption | rfl | omega | simp)) (hrb := (by first | assumption | rfl | omega | simp)) (hlt := (by first | assumption | rfl | omega | simp))) ?_))))))
  rintro v1 _ _ _ ⟨rfl, hs1, rfl⟩
  refine ⟨_, _, rfl, fun F1 le1 hz1 => ?_⟩
  replace har := har.mono le1
  replace hrs := hrs.mono le1
  replace ht := ht.mono le1
  have hf1 : IntsF F1 v1 ((inS ar rs t)) := intsH.fz (xs := (inS ar rs t)) hz1.fz
  refine qh (v1) rfl (qc (qw (qD (ql (qr (L' := L) [v1] (v1) (.tmp rfl .nil) rfl le1 rF (sD sR) ?_)))))
  exact ⟨_, rfl, by rw [placesL, if_pos (by assumption)]; exact hf1, rfl⟩
 refine qd (qb (cX (ju rfl rfl (qh (.bool (decide ((st : Int) = 2))) rfl (qc ?_)))))
 refine qC (p := (st : Int) = 2) rfl (fun h2 => ?_) (fun h2 => ?_)
 ·refine qd (qb (cX (qu [arv, rsv] jU jK rfl rfl (Rd.ownN [] rfl rfl) (qg (tv) rfl (cX (jD <| qn (args := [.agg #[arv, rsv], tv]) call368 rfl (sRedexesIn_spec har hrs ht (hla := (by first | assumption | rfl | omega | simp)) (hlr := (by first | assumption | rfl | omega | simp)) (hrb := (by first | assumption | rfl | omega | simp)) (hlt := (by first | assumption | rfl | omega | simp))) ?_))))))
  rintro v2 _ _ _ ⟨rfl, hs2, rfl⟩
  refine ⟨_, _, rfl, fun F2 le2 hz2 => ?_⟩
  replace har := har.mono le2
  replace hrs := hrs.mono le2
  replace ht := ht.mono le2
  have hf2 : IntsF F2 v2 ((redS ar rs t)) := intsH.fz (xs := (redS ar rs t)) hz2.fz
  refine qh (v2) rfl (qc (qw (qD (ql (qr (L' := L) [v2] (v2) (.tmp rfl .nil) rfl le2 rF (sD sR) ?_)))))
  exact ⟨_, rfl, by rw [placesL, if_neg (by assumption), if_pos (by assumption)]; exact hf2, rfl⟩
 refine qz (qd (qb (cX (qu [arv, rsv] jU jK rfl rfl (Rd.ownN [] rfl rfl) (qg (tv) rfl (cX (jD <| qn (args := [.agg #[arv, rsv], tv]) call368 rfl (sRedexesIn_spec har hrs ht (hla := (by first | assumption | rfl | omega | simp)) (hlr := (by first | assumption | rfl | omega | simp)) (hrb := (by first | assumption | rfl | omega | simp)) (hlt := (by first | assumption | rfl | omega | simp))) ?_)))))))
 rintro v3 _ _ _ ⟨rfl, hs3, rfl⟩
 refine ⟨_, _, rfl, fun F3 le3 hz3 => ?_⟩
 have hf3 : IntsF F3 v3 ((redS ar rs t)) := intsH.fz (xs := (redS ar rs t)) hz3.fz
 refine qh (v3) rfl (qc (qd (qd (qb (qg (v3) rfl (cX (qE qf rfl hf3.slv (cX (jG rfl rfl (qc ?_))))))))))
 refine qC (p := (((((redS ar rs t)).length : Nat) : Int) : Int) > 0) rfl (fun h3 => ?_) (fun h3 => ?_)
 ·refine qb (qg (v3) rfl (qg (v3) rfl (cX (qE qf rfl hf3.slv (cX (je ((((((redS ar rs t)).length) - 1 : Nat) : Int)) rfl rfl (by omega) (by omega) (cX (jV ((((redS ar rs t)).length) - 1) (((redS ar rs t)).length) qf qq rfl hf3 ⟨_, rfl⟩ rfl (by omega) (by omega) ?_))))))))
  intro v4 hv1 hn1
  refine qh (v4) rfl (qc (qd (qb (qg (v4) rfl (qh (v4) rfl (qc (qw (qr (L' := L) [v4] (v4) (.tmp rfl .nil) rfl le3 rF (sD sR) ?_))))))))
  exact ⟨_, rfl, by rw [placesL, if_neg (by assumption), if_neg (by assumption)]; exact hv1, rfl⟩
 refine qz (qd (qb (qg (v3) rfl (qh (v3) rfl (qc (qw (qr (L' := L) [v3] (v3) (.tmp rfl .nil) rfl le3 rF (sD sR) ?_)))))))
 exact ⟨_, rfl, by rw [placesL, if_neg (by assumption), if_neg (by assumption)]; rw [lastL_nil (l := redS ar rs t) (by omega)]; exact hf3, rfl⟩

/- spec.l8Right -/
theorem l8Right_spec {F : FH} {L : List HP} {arv : Value} {ar : List Int} (har : IntsF F arv ar) {rsv : Value} {rs : List (List Int × List Int)} (hrs : PairsF F rsv rs) {tv : Value} {t : List Int} (ht : IntsF F tv t) {st : Int} (hla : ar.length ≤ 4000000) (hlr : rs.length ≤ 4000000) (hrb : ∀ i, i < rs.length → (rs.getD i ([], [])).1.length ≤ 4000000 ∧ (rs.getD i ([], [])).2.length ≤ 4000000) (hlt : t.length ≤ 4000000) :
    Does prog 268 [.agg #[arv, rsv], tv, ii (st)] F (L) (fun v F' L' => (.bool ((rightB ar rs t && decide (1 ≤ st ∧ st ≤ 3))) : Value) = v ∧ F = F' ∧ L = L') := by
 refine qG func268 rfl rfl rfl (qd (qb (cX (jb [arv, rsv] rfl rfl ?_))))
 intro b1
 refine qh (.bool (false)) rfl (qc (qd (qb (cX (qu [arv, rsv] jU jK rfl rfl (Rd.ownN [] rfl rfl) (qg (tv) rfl (cX (qn (args := [.agg #[arv, rsv], tv]) call107 rfl (l7Right_spec har hrs ht (hla := (by first | assumption | rfl | omega | simp)) (hlr := (by first | assumption | rfl | omega | simp)) (hrb := (by first | assumption | rfl | omega | simp)) (hlt := (by first | assumption | rfl | omega | simp))) ?_))))))))
 rintro _ _ _ _ ⟨rfl, rfl, rfl⟩
 refine qg (.bool (rightB ar rs t)) rfl ?_
 by_cases h1 : (rightB ar rs t) = true
 ·refine qo (t := 10) rfl (vB h1) (qm (ii (st)) rfl (qo (t := 10) rfl (vB h1) (qn (args := [ii (st), ii (1), ii (3)]) call109 rfl (l1In_spec (n := st) (a := 1) (b := 3)) ?_)))
  rintro _ _ _ _ ⟨rfl, rfl, rfl⟩
  refine cX (qO (.bool (decide (1 ≤ st ∧ st ≤ 3))) (vB h1) rfl (qh (.bool (decide (1 ≤ st ∧ st ≤ 3))) rfl (qc (qw (qr (L' := L) [.bool (decide (1 ≤ st ∧ st ≤ 3))] (.bool (decide (1 ≤ st ∧ st ≤ 3))) (.tmp rfl .nil) rfl rF rF (sD sR) ?_)))))
  exact ⟨(vB (by simp_all)), rfl, rfl⟩
 rw [Bool.not_eq_true] at h1
 refine qp (t := 10) rfl (vB h1) (qp (t := 10) rfl (vB h1) (cX (qN (.bool (false)) (vB h1) rfl (qh (.bool (false)) rfl (qc (qw (qr (L' := L) [.bool (false)] (.bool (false)) (.tmp rfl .nil) rfl rF rF (sD sR) ?_)))))))
 exact ⟨(vB (by simp_all)), rfl, rfl⟩
end Go.Proofs.YtjpfankibmeaaaaGreat
